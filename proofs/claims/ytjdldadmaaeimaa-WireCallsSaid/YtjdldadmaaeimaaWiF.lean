/-
  Contracts: nums, vec, pose, spots, handle.
-/
import Derived.Test.YtjdldadmaaeimaaWiE
set_option maxRecDepth 100000
set_option linter.unusedSimpArgs false
set_option linter.unusedVariables false
namespace Go.Proofs.Ytjdldadmaaeimaa
open Go.SE Go.RowKit

def isNum (r : List SV) : Prop := match r with
  | [.v (.int .i64 v), .v (.bool _)] => I64 v
  | _ => False
def nV (r : List SV) : Int := match r with | [.v (.int _ v), _] => v | _ => 0
def nF (r : List SV) : Bool := match r with | [_, .v (.bool f)] => f | _ => false
/-- The bytes of the first n of some numbers. -/
def numsL (v : Nat → Int) (f : Nat → Bool) : Nat → List Int
  | 0 => []
  | n + 1 => numsL v f n ++ numL (v n) (f n)
def anyMin (v : Nat → Int) : Nat → Bool
  | 0 => false
  | n + 1 => anyMin v n || isMin (v n)
def numB (e n' : Nat) (v : Nat → Int) (f : Nat → Bool) : Blk := { elem := e, size := 2, rw := false, lock := false, lit := false, flat := true, n := n', row := fun i => [.v (.int .i64 (v i)), .v (.bool (f i))], ext := 0 }
def roOk2 (S : Blk) : Bool := S.flat && !S.rw && !S.dead && Nat.beq S.size 2 && Nat.beq S.ext 0 && !S.whole
def isPair (r : List SV) : Prop := match r with
  | [.v (.int .i64 x), .v (.int .i64 y)] => I64 x ∧ I64 y
  | _ => False
def pX (r : List SV) : Int := match r with | [.v (.int _ x), _] => x | _ => 0
def pY (r : List SV) : Int := match r with | [_, .v (.int _ y)] => y | _ => 0
def spotsL (x y : Nat → Int) : Nat → List Int
  | 0 => []
  | n + 1 => spotsL x y n ++ (i8 (x n) ++ i8 (y n))
def spB (e n' : Nat) (x y : Nat → Int) : Blk := { elem := e, size := 2, rw := false, lock := false, lit := false, flat := true, n := n', row := fun i => [.v (.int .i64 (x i)), .v (.int .i64 (y i))], ext := 0 }
def NB0 : Nat := 1000000000
def sNums (args : List SV) (bs : List Blk) : Option Eff := match args, bs with
  | [.vp 0 0, .sl 2 2 0 n _], [B, D, S] => match wrOf [B, D] with
    | some (.used (some b) n0 g c p) => bif roOk2 S then some (apE (.used (some b) n0 g c p) NB0 (S.n = n ∧ 1 ≤ n ∧ n ≤ 100 ∧ ∀ i, i < n → isNum (S.row i)) (9 * n) (numsL (fun i => nV (S.row i)) (fun i => nF (S.row i)) n) (anyMin (fun i => nV (S.row i)) n)) else none
    | _ => none
  | _, _ => none
structure NX where
  i : Nat
  c : Nat
noncomputable def ΛNums (b : Bool) (n0 : Nat) (g : Nat → Int) (n : Nat) (v : Nat → Int) (f : Nat → Bool) : Nat → Option LoopSpec := addLoopN noΛ Try.f100 0 NX (fun x => x.i ≤ n ∧ (x.i = 0 ∨ n0 + 9 * x.i ≤ x.c)) (fun x => n - x.i) [(8, fun x => .v (.int .i64 x.i))] [(0, fun x => wB (some (b || anyMin v x.i)) false (.sl 40 1 0 (n0 + 9 * x.i) x.c))] [(40, fun x => bG (n0 + 9 * x.i) (apG n0 g (numsL v f x.i)) x.c, inVar 0 0)]
def ΓF0 : Ctrs := addCtr ΓC1 102 (hpCtr true sFlag)
theorem vcNums (b : Bool) (n0 : Nat) (g : Nat → Int) (c n e n' c' : Nat) (v : Nat → Int) (f : Nat → Bool) : (vcFn Try.prog ΓF0 (ΛNums b n0 g n v f) Try.f100 [.vp 0 0, .sl 2 2 0 n c'] (heapOf [wB (some b) false (.sl 1 1 0 n0 c), bG n0 g c, numB e n' v f]) 64 (fun y h' => FinE [wB (some b) false (.sl 1 1 0 n0 c), bG n0 g c, numB e n' v f] (apE (.used (some b) n0 g c True) 0 True (9 * n) (numsL v f n) (anyMin v n)) y h')) =
((∃ x : NX, (((((NX.i x) : Nat) ≤ n) ∧ (NX.i x = 0 ∨ n0 + 9 * NX.i x ≤ NX.c x)) ∧ (((SV.v (Value.int IntKind.i64 0)) = (SV.v (Value.int IntKind.i64 ((↑(NX.i x) : Int))))) ∧ ((((1 : Nat) = 1) ∧ (((1 : Nat) ≤ 1) ∧ (((SV.sl 1 1 0 n0 c) = (SV.sl 1 1 0 (n0 + 9 * NX.i x) (NX.c x))) ∧ ((SV.v (Value.bool b)) = (SV.v (Value.bool (b || anyMin v (NX.i x)))))))) ∧ (((n0 : Nat) = (n0 + 9 * NX.i x)) ∧ ((((NX.c x) : Nat) ≤ c) ∧ (∀ i : Nat, (((i : Nat) < (n0 + 9 * NX.i x)) → ([(SV.v (Value.int IntKind.u8 (g i)))] = [(SV.v (Value.int IntKind.u8 (apG n0 g (numsL v f (NX.i x)) i)))]))))))))) ∧ (∀ x : NX, (((((NX.i x) : Nat) ≤ n) ∧ (NX.i x = 0 ∨ n0 + 9 * NX.i x ≤ NX.c x)) → 
(sel (decide ((↑(NX.i x) : Int) < (↑n : Int))) ((((0 : Int) ≤ ((↑(NX.i x) : Int))) ∧ ((((↑(NX.i x) : Int)) : Int) < ((↑n : Int)))) ∧ ((bytesOk (n0 + 9 * NX.i x) (NX.c x) { elem := 5, size := 1, rw := true, lock := false, lit := false, flat := true, n := n0 + 9 * NX.i x, row := fun i => [SV.v (Value.int IntKind.u8 (apG n0 g (numsL v f (NX.i x)) i))], ext := NX.c x }) ∧ ((((bytesOk (n0 + 9 * NX.i x) (NX.c x) { elem := 5, size := 1, rw := true, lock := false, lit := false, flat := true, n := n0 + 9 * NX.i x, row := fun i => [SV.v (Value.int IntKind.u8 ((fun i => SE.byteOf [SV.v (Value.int IntKind.u8 (apG n0 g (numsL v f (NX.i x)) i))]) i))], ext := NX.c x }) ∧ (((n0 + 9 * NX.i x) : Nat) ≤ M0)) ∧ (I64 (v (0 + Int.toNat (↑(NX.i x) : Int))))) ∧ (∀ c_1 : Nat, ((((bytesOk (n0 + 9 * NX.i x + 8) (n0 + 9 * NX.i x + 8 + c_1) { elem := 5, size := 1, rw := true, lock := false, lit := false, flat := true, n := n0 + 9 * NX.i x + 8, row := fun i => [SV.v (Value.int IntKind.u8 (apG (n0 + 9 * NX.i x) (fun i => SE.byteOf [SV.v (Value.int IntKind.u8 ((fun i => SE.byteOf [SV.v (Value.int IntKind.u8 (apG n0 g (numsL v f (NX.i x)) i))]) i))]) (be (v (0 + Int.toNat (↑(NX.i x) : Int)) % 18446744073709551616) 8) i))], ext := n0 + 9 * NX.i x + 8 + c_1 }) ∧ (((n0 + 9 * NX.i x + 8) : Nat) ≤ M0)) ∧ True) ∧ (∀ c_2 : Nat, (∃ x' : NX, ((((((NX.i x') : Nat) ≤ n) ∧ (NX.i x' = 0 ∨ n0 + 9 * NX.i x' ≤ NX.c x')) ∧ (((SV.v (Value.int IntKind.i64 (IntKind.wrap IntKind.i64 ((↑(NX.i x) : Int) + 1)))) = (SV.v (Value.int IntKind.i64 ((↑(NX.i x') : Int))))) ∧ ((((1 : Nat) = 1) ∧ (((1 : Nat) ≤ 1) ∧ (((SV.sl 240 1 0 (n0 + 9 * NX.i x + 8 + 1) (n0 + 9 * NX.i x + 8 + 1 + c_2)) = (SV.sl 240 1 0 (n0 + 9 * NX.i x') (NX.c x'))) ∧ ((SV.v (Value.bool (b || anyMin v (NX.i x) || !v (0 + Int.toNat (↑(NX.i x) : Int)) != -9223372036854775808 || false || false))) = (SV.v (Value.bool (b || anyMin v (NX.i x')))))))) ∧ ((((n0 + 9 * NX.i x + 8 + 1) : Nat) = (n0 + 9 * NX.i x')) ∧ ((((NX.c x') : Nat) ≤ (n0 + 9 * NX.i x + 8 + 1 + c_2)) ∧ (∀ i : Nat, (((i : Nat) < (n0 + 9 * NX.i x')) → ([(SV.v (Value.int IntKind.u8 (apG (n0 + 9 * NX.i x + 8) (fun i => SE.byteOf [SV.v (Value.int IntKind.u8 (apG (n0 + 9 * NX.i x) (fun i => SE.byteOf [SV.v (Value.int IntKind.u8 ((fun i => SE.byteOf [SV.v (Value.int IntKind.u8 (apG n0 g (numsL v f (NX.i x)) i))]) i))]) (be (v (0 + Int.toNat (↑(NX.i x) : Int)) % 18446744073709551616) 8) i))]) [bif f (0 + Int.toNat (↑(NX.i x) : Int)) then 1 else 0] i)))] = [(SV.v (Value.int IntKind.u8 (apG n0 g (numsL v f (NX.i x')) i)))])))))))) ∧ (((n - NX.i x') : Nat) < (n - NX.i x)))))))))) (∃ c_1 : Nat, (True ∧ ((((1 : Nat) = 1) ∧ (((1 : Nat) ≤ 1) ∧ (((SV.sl 40 1 0 (n0 + 9 * NX.i x) (NX.c x)) = (SV.sl 40 1 0 (n0 + 9 * n) (n0 + 9 * n + c_1))) ∧ ((SV.v (Value.bool (b || anyMin v (NX.i x)))) = (SV.v (Value.bool (b || anyMin v n))))))) ∧ ((((n0 + 9 * NX.i x) : Nat) = (n0 + 9 * n)) ∧ ((((n0 + 9 * n + c_1) : Nat) ≤ (NX.c x)) ∧ (∀ i : Nat, (((i : Nat) < (n0 + 9 * n)) → ([(SV.v (Value.int IntKind.u8 (apG n0 g (numsL v f (NX.i x)) i)))] = [(SV.v (Value.int IntKind.u8 (apG n0 g (numsL v f n) i)))])))))))))))) := by kernel_rfl
def fHandle : List SV → Option (Prop × Nat × List Int × Bool)
  | [.agg [.v (.int .i64 x), .v (.int .i64 y)]] => some (I64 x ∧ I64 y, 8, c4 x ++ c4 y, notIn x 2147483647 || notIn y 2147483647)
  | _ => none
def ΓF1 : Ctrs := addCtr (addCtr (addCtr ΓF0 96 (hpCtr true sCount)) 104 (hpCtr true sVersion)) 100 (hpCtr true sNums)
theorem vcHandle (b : Bool) (n0 : Nat) (g : Nat → Int) (c : Nat) (x y : Int) : (vcFn Try.prog ΓF1 noΛ Try.f103 [.vp 0 0, .agg [.v (.int .i64 x), .v (.int .i64 y)]] (heapOf (uB (some b) n0 g c)) 64 (fun y' h' => FinE (uB (some b) n0 g c) (apE (.used (some b) n0 g c True) 0 True 8 (c4 x ++ c4 y) (notIn x 2147483647 || notIn y 2147483647)) y' h')) =
((((bytesOk n0 c { elem := 5, size := 1, rw := true, lock := false, lit := false, flat := true, n := n0, row := fun i => [SV.v (Value.int IntKind.u8 (g i))], ext := c }) ∧ ((n0 : Nat) ≤ M0)) ∧ (I64 x)) ∧ (∀ c_1 : Nat, ((((bytesOk (n0 + 4) (n0 + 4 + c_1) { elem := 5, size := 1, rw := true, lock := false, lit := false, flat := true, n := n0 + 4, row := fun i => [SV.v (Value.int IntKind.u8 (apG n0 (fun i => SE.byteOf [SV.v (Value.int IntKind.u8 (g i))]) (be (x % 4294967296) 4) i))], ext := n0 + 4 + c_1 }) ∧ (((n0 + 4) : Nat) ≤ M0)) ∧ (I64 y)) ∧ (∀ c_2 : Nat, (∃ c_3 : Nat, (True ∧ ((((1 : Nat) = 1) ∧ (((1 : Nat) ≤ 1) ∧ (((SV.sl 128 1 0 (n0 + 4 + 4) (n0 + 4 + 4 + c_2)) = (SV.sl 128 1 0 (n0 + 8) (n0 + 8 + c_3))) ∧ ((SV.v (Value.bool (b || notIn x 2147483647 || notIn y 2147483647))) = (SV.v (Value.bool (b || (notIn x 2147483647 || notIn y 2147483647)))))))) ∧ ((((n0 + 4 + 4) : Nat) = (n0 + 8)) ∧ ((((n0 + 8 + c_3) : Nat) ≤ (n0 + 4 + 4 + c_2)) ∧ (∀ i : Nat, (((i : Nat) < (n0 + 8)) → ([(SV.v (Value.int IntKind.u8 (apG (n0 + 4) (fun i => SE.byteOf [SV.v (Value.int IntKind.u8 (apG n0 (fun i => SE.byteOf [SV.v (Value.int IntKind.u8 (g i))]) (be (x % 4294967296) 4) i))]) (be (y % 4294967296) 4) i)))] = [(SV.v (Value.int IntKind.u8 (apG n0 g (c4 x ++ c4 y) i)))])))))))))))) := by kernel_rfl
theorem vcVec (b : Bool) (n0 : Nat) (g : Nat → Int) (c : Nat) (xv : Int) (xf : Bool) (yv : Int) (yf : Bool) : (vcFn Try.prog ΓF1 noΛ Try.f99 [.vp 0 0, .agg [.v (.int .i64 xv), .v (.bool xf), .v (.int .i64 yv), .v (.bool yf)]] (heapOf (uB (some b) n0 g c)) 64 (fun y' h' => FinE (uB (some b) n0 g c) (apE (.used (some b) n0 g c True) 0 True 18 (vecL xv xf yv yf) (isMin xv || isMin yv)) y' h')) =
((((bytesOk n0 c { elem := 5, size := 1, rw := true, lock := false, lit := false, flat := true, n := n0, row := fun i => [SV.v (Value.int IntKind.u8 (g i))], ext := c }) ∧ ((n0 : Nat) ≤ NB0)) ∧ (((2 : Nat) = 2) ∧ (((1 : Nat) ≤ 2) ∧ (((2 : Nat) ≤ 100) ∧ (∀ i : Nat, (((i : Nat) < 2) → (isNum [SV.v (Value.int IntKind.i64 (bop (Nat.beq (0 + i) 0) xv yv)), SV.v (Value.bool (bop (Nat.beq (0 + i) 0) xf yf))]))))))) ∧ (∀ c_1 : Nat, (∃ c_2 : Nat, (True ∧ ((((1 : Nat) = 1) ∧ (((1 : Nat) ≤ 1) ∧ (((SV.sl 120 1 0 (n0 + 18) (n0 + 18 + c_1)) = (SV.sl 120 1 0 (n0 + 18) (n0 + 18 + c_2))) ∧ ((SV.v (Value.bool (b || anyMin (fun i => nV [SV.v (Value.int IntKind.i64 (bop (Nat.beq (0 + i) 0) xv yv)), SV.v (Value.bool (bop (Nat.beq (0 + i) 0) xf yf))]) 2))) = (SV.v (Value.bool (b || (isMin xv || isMin yv)))))))) ∧ ((((n0 + 18) : Nat) = (n0 + 18)) ∧ ((((n0 + 18 + c_2) : Nat) ≤ (n0 + 18 + c_1)) ∧ (∀ i : Nat, (((i : Nat) < (n0 + 18)) → ([(SV.v (Value.int IntKind.u8 (apG n0 (fun i => SE.byteOf [SV.v (Value.int IntKind.u8 (g i))]) (numsL (fun i => nV [SV.v (Value.int IntKind.i64 (bop (Nat.beq (0 + i) 0) xv yv)), SV.v (Value.bool (bop (Nat.beq (0 + i) 0) xf yf))]) (fun i => nF [SV.v (Value.int IntKind.i64 (bop (Nat.beq (0 + i) 0) xv yv)), SV.v (Value.bool (bop (Nat.beq (0 + i) 0) xf yf))]) 2) i)))] = [(SV.v (Value.int IntKind.u8 (apG n0 g (vecL xv xf yv yf) i)))])))))))))) := by kernel_rfl
theorem ΓF0_ok : ∀ f g, ΓF0 f = some g → g.ok Try.prog f := addCtr_ok ΓC1_ok (hp_ok Try.func102 (by kernel_rfl) (by kernel_rfl) Flag_spec)
theorem numsL_len (v : Nat → Int) (f : Nat → Bool) : ∀ k, (numsL v f k).length = 9 * k
  | 0 => rfl
  | k + 1 => by
    show (numsL v f k ++ numL (v k) (f k)).length = _
    rw [List.length_append, numsL_len v f k, numL_len]; omega
theorem nums_row (v : Nat → Int) (f : Nat → Bool) (n0 : Nat) (g : Nat → Int) (k i : Nat) : apG (n0 + 9 * k + 8) (apG (n0 + 9 * k) (apG n0 g (numsL v f k)) (i8 (v k))) (flB (f k)) i = apG n0 g (numsL v f (k + 1)) i := by
  rw [apG_ap (by rw [i8_len]), apG_ap (by rw [numsL_len])]
  rfl
theorem min_ne (a : Int) : (!(a != -9223372036854775808)) = isMin a := by
  unfold isMin bne
  rw [Bool.not_not]
theorem Nums_used (b : Bool) (n0 : Nat) (g : Nat → Int) (c n e n' c' : Nat) (v : Nat → Int) (f : Nat → Bool) (hn0 : n0 ≤ 1000000000) (h1 : 1 ≤ n) (hn : n ≤ 100) (hv : ∀ i, i < n → I64 (v i)) :
    vcFn Try.prog ΓF0 (ΛNums b n0 g n v f) Try.f100 [.vp 0 0, .sl 2 2 0 n c'] (heapOf [wB (some b) false (.sl 1 1 0 n0 c), bG n0 g c, numB e n' v f]) 64 (fun y h' => FinE [wB (some b) false (.sl 1 1 0 n0 c), bG n0 g c, numB e n' v f] (apE (.used (some b) n0 g c True) 0 True (9 * n) (numsL v f n) (anyMin v n)) y h') := by
  refine Eq.mpr (vcNums b n0 g c n e n' c' v f) ⟨⟨⟨0, c⟩, ⟨Nat.zero_le _, .inl rfl⟩, rfl, ⟨rfl, Nat.le_refl _, rfl, by simp [anyMin]⟩, rfl, Nat.le_refl _, fun i hi => congrArg (fun z => [SV.v (.int .u8 z)]) (apG_old hi).symm⟩, fun x ⟨h2, h3⟩ => sel_of (fun hlt => ?_) fun hge => ?_⟩
  · have hlt := of_decide_eq_true hlt
    have hlt : x.i < n := by omega
    have hw : IntKind.i64.wrap ((x.i : Int) + 1) = ((x.i + 1 : Nat) : Int) := wrap_i64 ⟨by omega, by omega⟩
    have hvx := hv x.i hlt
    rw [show 0 + Int.toNat (x.i : Int) = x.i by omega]
    refine ⟨⟨by omega, by omega⟩, bytesOk_bG _ _ _ (by omega), ⟨⟨bytesOk_bG _ _ _ (by omega), by show n0 + 9 * x.i ≤ 1099511627776; omega⟩, hvx⟩, fun c1 => ⟨⟨⟨bytesOk_bG _ _ _ (by omega), by show n0 + 9 * x.i + 8 ≤ 1099511627776; omega⟩, trivial⟩, fun c2 => ⟨⟨x.i + 1, n0 + 9 * x.i + 8 + 1 + c2⟩, ⟨⟨by show x.i + 1 ≤ n; omega, .inr (by show n0 + 9 * (x.i + 1) ≤ n0 + 9 * x.i + 8 + 1 + c2; omega)⟩, int_mk hw, ⟨rfl, Nat.le_refl _, ?_, ?_⟩, ?_, Nat.le_refl _, fun i hi => ?_⟩, by show n - (x.i + 1) < n - x.i; omega⟩⟩⟩
    · show SV.sl _ 1 0 _ _ = SV.sl _ 1 0 (n0 + 9 * (x.i + 1)) _
      rw [show n0 + 9 * (x.i + 1) = n0 + 9 * x.i + 8 + 1 by omega]
    · show SV.v (.bool _) = SV.v (.bool (b || (anyMin v x.i || isMin (v x.i))))
      rw [min_ne, Bool.or_false, Bool.or_false, Bool.or_assoc]
    · show n0 + 9 * x.i + 8 + 1 = n0 + 9 * (x.i + 1)
      omega
    · exact congrArg (fun z => [SV.v (.int .u8 z)]) (nums_row v f n0 g x.i i)
  · have hge := of_decide_eq_false hge
    have hx : x.i = n := by omega
    rw [hx] at h3 ⊢
    have h3 : n0 + 9 * n ≤ x.c := by omega
    have he : n0 + 9 * n + (x.c - (n0 + 9 * n)) = x.c := by omega
    exact ⟨x.c - (n0 + 9 * n), trivial, ⟨rfl, Nat.le_refl _, by rw [he], rfl⟩, rfl, by omega, fun i hi => rfl⟩
theorem isNum_row {r : List SV} (h : isNum r) : r = [.v (.int .i64 (nV r)), .v (.bool (nF r))] ∧ I64 (nV r) := by
  unfold isNum at h
  split at h
  · exact ⟨rfl, h⟩
  · exact h.elim
theorem same_numB {S : Blk} {n : Nat} (h1 : roOk2 S = true) (hn : S.n = n) (h : ∀ i, i < n → isNum (S.row i)) : BlkSame S (numB S.elem n (fun i => nV (S.row i)) (fun i => nF (S.row i))) := by
  simp only [roOk2, Bool.and_eq_true, Bool.not_eq_true'] at h1
  obtain ⟨⟨⟨⟨⟨a1, a2⟩, a3⟩, a4⟩, a5⟩, a6⟩ := h1
  exact ⟨Nat.eq_of_beq_eq_true a4, a2, a1, hn, Nat.eq_of_beq_eq_true a5, a3, rfl, a6, fun i hi => (isNum_row (h i (by omega))).1⟩
theorem Nums_spec : HpSpec Try.prog 100 sNums := hp_spec hm ΓF0_ok Try.func100 (Λ := fun args bs => match args, bs with
    | [_, .sl _ _ _ n _], [B, D, S] => match wrOf [B, D] with
      | some (.used (some b) n0 g _ _) => ΛNums b n0 g n (fun i => nV (S.row i)) (fun i => nF (S.row i))
      | _ => noΛ
    | _, _ => noΛ) fun args bs e hs hp => by
  unfold sNums at hs
  split at hs <;> try (cases hs; done)
  rename_i n c' B D S
  split at hs <;> try (cases hs; done)
  rename_i b n0 g c p hw
  obtain ⟨ha, he⟩ := bif_some hs
  subst he
  obtain ⟨⟨hp, hm⟩, hn, h1, h100, hv⟩ : (p ∧ n0 ≤ NB0) ∧ S.n = n ∧ 1 ≤ n ∧ n ≤ 100 ∧ ∀ i, i < n → isNum (S.row i) := hp
  have hsame := (wrOf_used hw hp).1
  refine ⟨[wB (some b) false (.sl 1 1 0 n0 c), bG n0 g c, numB S.elem n (fun i => nV (S.row i)) (fun i => nF (S.row i))], ⟨hsame.1, hsame.2.1, same_numB ha hn hv, trivial⟩, ?_⟩
  simp only [hw]
  exact Nums_used b n0 g c n S.elem n c' _ _ hm h1 h100 fun i hi => (isNum_row (hv i hi)).2
theorem ΓF1_ok : ∀ f g, ΓF1 f = some g → g.ok Try.prog f := addCtr_ok (addCtr_ok (addCtr_ok ΓF0_ok (hp_ok Try.func96 (by kernel_rfl) (by kernel_rfl) Count_spec)) (hp_ok Try.func104 (by kernel_rfl) (by kernel_rfl) Version_spec)) (hp_ok Try.func100 (by kernel_rfl) (by kernel_rfl) Nums_spec)
theorem Handle_spec : HpSpec Try.prog 103 (sApp {} NB0 fHandle) := app_spec ΓF1_ok Try.func103 (Λ0 := fun _ _ => noΛ) (Λ1 := fun _ _ _ _ _ => noΛ)
  (fun rest q k L b kd h hq ha => by cases kd <;> cases ha)
  (fun rest q k L b kd n0 g c h hq ha hm hn => by
  unfold fHandle at h
  split at h <;> try (cases h; done)
  rename_i x y
  cases kd with
  | none => cases ha
  | some bd =>
    cases h
    have hm : n0 ≤ 1000000000 := hm
    exact Eq.mpr (vcHandle bd n0 g c x y) ⟨⟨⟨bytesOk_bG _ _ _ (by omega), by show n0 ≤ 1099511627776; omega⟩, hq.1⟩, fun c1 => ⟨⟨⟨bytesOk_bG _ _ _ (by omega), by show n0 + 4 ≤ 1099511627776; omega⟩, hq.2⟩, fun c2 => tailU (by omega) (Bool.or_assoc _ _ _) fun i hi => apG_ap (g := g) (L := c4 x) (M := c4 y) (by rw [c4_len]) i⟩⟩)
def fVec : List SV → Option (Prop × Nat × List Int × Bool)
  | [.agg [.v (.int .i64 xv), .v (.bool xf), .v (.int .i64 yv), .v (.bool yf)]] => some (I64 xv ∧ I64 yv, 18, vecL xv xf yv yf, isMin xv || isMin yv)
  | _ => none
theorem two_cases {i : Nat} (h : i < 2) : i = 0 ∨ i = 1 := by omega
theorem Vec_spec : HpSpec Try.prog 99 (sApp {} NB0 fVec) := app_spec ΓF1_ok Try.func99 (Λ0 := fun _ _ => noΛ) (Λ1 := fun _ _ _ _ _ => noΛ)
  (fun rest q k L b kd h hq ha => by cases kd <;> cases ha)
  (fun rest q k L b kd n0 g c h hq ha hm hn => by
  unfold fVec at h
  split at h <;> try (cases h; done)
  rename_i xv xf yv yf
  cases kd with
  | none => cases ha
  | some bd =>
    cases h
    exact Eq.mpr (vcVec bd n0 g c xv xf yv yf) ⟨⟨⟨bytesOk_bG _ _ _ (by omega), hm⟩, rfl, by omega, by omega, fun i hi => by
      rcases two_cases hi with rfl | rfl
      · exact hq.1
      · exact hq.2⟩, fun c1 => tailU rfl rfl fun i hi => rfl⟩)
end Go.Proofs.Ytjdldadmaaeimaa
