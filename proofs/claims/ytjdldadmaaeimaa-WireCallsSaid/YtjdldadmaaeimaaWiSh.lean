/-
  Contracts: spots (any number), shape.
-/
import Derived.Test.YtjdldadmaaeimaaWiH
set_option maxRecDepth 100000
set_option linter.unusedSimpArgs false
set_option linter.unusedVariables false
namespace Go.Proofs.Ytjdldadmaaeimaa
open Go.SE Go.RowKit

def sSpots2 (args : List SV) (bs : List Blk) : Option Eff := match args, bs with
  | [.vp 0 0, .sl 2 2 0 n _], [B, D, S] => match wrOf [B, D] with
    | some (.used (some b) n0 g c p) => bif roOk2 S then some (apE (.used (some b) n0 g c p) NB0 ((S.n = n ∧ n < 100 ∧ n0 ≤ c) ∧ ∀ i, i < n → isPair (S.row i)) (16 * n) (spotsL (fun i => pX (S.row i)) (fun i => pY (S.row i)) n) false) else none
    | _ => none
  | _, _ => none
noncomputable def ΛSpots2 (b : Bool) (n0 : Nat) (g : Nat → Int) (n : Nat) (x y : Nat → Int) : Nat → Option LoopSpec := addLoopN noΛ Try.f105 0 NX (fun z => z.i ≤ n ∧ n0 + 16 * z.i ≤ z.c) (fun z => n - z.i) [(8, fun z => .v (.int .i64 z.i))] [(0, fun z => wB (some b) false (.sl 40 1 0 (n0 + 16 * z.i) z.c))] [(40, fun z => bG (n0 + 16 * z.i) (apG n0 g (spotsL x y z.i)) z.c, inVar 0 0)]
theorem vcSpots2 (b : Bool) (n0 : Nat) (g : Nat → Int) (c n e n' c' : Nat) (x y : Nat → Int) : (vcFn Try.prog ΓF1 (ΛSpots2 b n0 g n x y) Try.f105 [.vp 0 0, .sl 2 2 0 n c'] (heapOf [wB (some b) false (.sl 1 1 0 n0 c), bG n0 g c, spB e n' x y]) 64 (fun y' h' => FinE [wB (some b) false (.sl 1 1 0 n0 c), bG n0 g c, spB e n' x y] (apE (.used (some b) n0 g c True) 0 True (16 * n) (spotsL x y n) false) y' h')) =
((∃ x_1 : NX, (((((NX.i x_1) : Nat) ≤ n) ∧ (((n0 + 16 * NX.i x_1) : Nat) ≤ (NX.c x_1))) ∧ (((SV.v (Value.int IntKind.i64 0)) = (SV.v (Value.int IntKind.i64 ((↑(NX.i x_1) : Int))))) ∧ ((((1 : Nat) = 1) ∧ (((1 : Nat) ≤ 1) ∧ (((SV.sl 1 1 0 n0 c) = (SV.sl 1 1 0 (n0 + 16 * NX.i x_1) (NX.c x_1))) ∧ ((SV.v (Value.bool b)) = (SV.v (Value.bool b)))))) ∧ (((n0 : Nat) = (n0 + 16 * NX.i x_1)) ∧ ((((NX.c x_1) : Nat) ≤ c) ∧ (∀ i : Nat, (((i : Nat) < (n0 + 16 * NX.i x_1)) → ([(SV.v (Value.int IntKind.u8 (g i)))] = [(SV.v (Value.int IntKind.u8 (apG n0 g (spotsL x y (NX.i x_1)) i)))]))))))))) ∧ (∀ x_1 : NX, (((((NX.i x_1) : Nat) ≤ n) ∧ (((n0 + 16 * NX.i x_1) : Nat) ≤ (NX.c x_1))) → 
(sel (decide ((↑(NX.i x_1) : Int) < (↑n : Int))) ((((0 : Int) ≤ ((↑(NX.i x_1) : Int))) ∧ ((((↑(NX.i x_1) : Int)) : Int) < ((↑n : Int)))) ∧ ((((bytesOk (n0 + 16 * NX.i x_1) (NX.c x_1) { elem := 5, size := 1, rw := true, lock := false, lit := false, flat := true, n := n0 + 16 * NX.i x_1, row := fun i => [SV.v (Value.int IntKind.u8 (apG n0 g (spotsL x y (NX.i x_1)) i))], ext := NX.c x_1 }) ∧ (((n0 + 16 * NX.i x_1) : Nat) ≤ M0)) ∧ (I64 (x (0 + Int.toNat (↑(NX.i x_1) : Int))))) ∧ (∀ c_1 : Nat, ((((bytesOk (n0 + 16 * NX.i x_1 + 8) (n0 + 16 * NX.i x_1 + 8 + c_1) { elem := 5, size := 1, rw := true, lock := false, lit := false, flat := true, n := n0 + 16 * NX.i x_1 + 8, row := fun i => [SV.v (Value.int IntKind.u8 (apG (n0 + 16 * NX.i x_1) (fun i => SE.byteOf [SV.v (Value.int IntKind.u8 (apG n0 g (spotsL x y (NX.i x_1)) i))]) (be (x (0 + Int.toNat (↑(NX.i x_1) : Int)) % 18446744073709551616) 8) i))], ext := n0 + 16 * NX.i x_1 + 8 + c_1 }) ∧ (((n0 + 16 * NX.i x_1 + 8) : Nat) ≤ M0)) ∧ (I64 (y (0 + Int.toNat (↑(NX.i x_1) : Int))))) ∧ (∀ c_2 : Nat, (∃ x' : NX, ((((((NX.i x') : Nat) ≤ n) ∧ (((n0 + 16 * NX.i x') : Nat) ≤ (NX.c x'))) ∧ (((SV.v (Value.int IntKind.i64 (IntKind.wrap IntKind.i64 ((↑(NX.i x_1) : Int) + 1)))) = (SV.v (Value.int IntKind.i64 ((↑(NX.i x') : Int))))) ∧ ((((1 : Nat) = 1) ∧ (((1 : Nat) ≤ 1) ∧ (((SV.sl 216 1 0 (n0 + 16 * NX.i x_1 + 8 + 8) (n0 + 16 * NX.i x_1 + 8 + 8 + c_2)) = (SV.sl 216 1 0 (n0 + 16 * NX.i x') (NX.c x'))) ∧ ((SV.v (Value.bool (b || false || false))) = (SV.v (Value.bool b)))))) ∧ ((((n0 + 16 * NX.i x_1 + 8 + 8) : Nat) = (n0 + 16 * NX.i x')) ∧ ((((NX.c x') : Nat) ≤ (n0 + 16 * NX.i x_1 + 8 + 8 + c_2)) ∧ (∀ i : Nat, (((i : Nat) < (n0 + 16 * NX.i x')) → ([(SV.v (Value.int IntKind.u8 (apG (n0 + 16 * NX.i x_1 + 8) (fun i => SE.byteOf [SV.v (Value.int IntKind.u8 (apG (n0 + 16 * NX.i x_1) (fun i => SE.byteOf [SV.v (Value.int IntKind.u8 (apG n0 g (spotsL x y (NX.i x_1)) i))]) (be (x (0 + Int.toNat (↑(NX.i x_1) : Int)) % 18446744073709551616) 8) i))]) (be (y (0 + Int.toNat (↑(NX.i x_1) : Int)) % 18446744073709551616) 8) i)))] = [(SV.v (Value.int IntKind.u8 (apG n0 g (spotsL x y (NX.i x')) i)))])))))))) ∧ (((n - NX.i x') : Nat) < (n - NX.i x_1))))))))) (∃ c_1 : Nat, (True ∧ ((((1 : Nat) = 1) ∧ (((1 : Nat) ≤ 1) ∧ (((SV.sl 40 1 0 (n0 + 16 * NX.i x_1) (NX.c x_1)) = (SV.sl 40 1 0 (n0 + 16 * n) (n0 + 16 * n + c_1))) ∧ ((SV.v (Value.bool b)) = (SV.v (Value.bool (b || false))))))) ∧ ((((n0 + 16 * NX.i x_1) : Nat) = (n0 + 16 * n)) ∧ ((((n0 + 16 * n + c_1) : Nat) ≤ (NX.c x_1)) ∧ (∀ i : Nat, (((i : Nat) < (n0 + 16 * n)) → ([(SV.v (Value.int IntKind.u8 (apG n0 g (spotsL x y (NX.i x_1)) i)))] = [(SV.v (Value.int IntKind.u8 (apG n0 g (spotsL x y n) i)))])))))))))))) := by kernel_rfl
def shL (k r w h : Int) (n : Nat) (x y : Nat → Int) : List Int := [k % 256] ++ (i8 r ++ (i8 w ++ (i8 h ++ ([(n : Int) % 256] ++ (bif Nat.ble n 8 then spotsL x y n else [])))))
def shN (n : Nat) : Nat := bif Nat.ble n 8 then 26 + 16 * n else 26
def shBad (k : Int) (n : Nat) : Bool := notIn k 255 || notIn (n : Int) 8
def NB1 : Nat := 900000000
def sShape (args : List SV) (bs : List Blk) : Option Eff := match args, bs with
  | [.vp 0 0, .agg [.v (.int .i64 k), .v (.int .i64 r), .v (.int .i64 w), .v (.int .i64 h), .sl 2 2 0 n _]], [B, D, S] => match wrOf [B, D] with
    | some (.used (some b) n0 g c p) => bif roOk2 S then some (apE (.used (some b) n0 g c p) NB1 (((I64 k ∧ I64 r ∧ I64 w ∧ I64 h) ∧ S.n = n ∧ n < 100) ∧ ∀ i, i < n → isPair (S.row i)) (shN n) (shL k r w h n (fun i => pX (S.row i)) (fun i => pY (S.row i))) (shBad k n)) else none
    | _ => none
  | _, _ => none
def ΓSh : Ctrs := addCtr (addCtr ΓF1 118 (hpCtr true sSmall)) 105 (hpCtr true sSpots2)
theorem vcShape (b : Bool) (n0 : Nat) (g : Nat → Int) (c : Nat) (k r w h : Int) (n e n' c' : Nat) (x y : Nat → Int) : (vcFn Try.prog ΓSh noΛ Try.f97 [.vp 0 0, .agg [.v (.int .i64 k), .v (.int .i64 r), .v (.int .i64 w), .v (.int .i64 h), .sl 2 2 0 n c']] (heapOf [wB (some b) false (.sl 1 1 0 n0 c), bG n0 g c, spB e n' x y]) 64 (fun y' h' => FinE [wB (some b) false (.sl 1 1 0 n0 c), bG n0 g c, spB e n' x y] (apE (.used (some b) n0 g c True) 0 True (shN n) (shL k r w h n x y) (shBad k n)) y' h')) =
((((bytesOk n0 c { elem := 5, size := 1, rw := true, lock := false, lit := false, flat := true, n := n0, row := fun i => [SV.v (Value.int IntKind.u8 (g i))], ext := c }) ∧ ((n0 : Nat) ≤ M0)) ∧ (I64 k)) ∧ (∀ c_1 : Nat, ((((bytesOk (n0 + 1) (n0 + 1 + c_1) { elem := 5, size := 1, rw := true, lock := false, lit := false, flat := true, n := n0 + 1, row := fun i => [SV.v (Value.int IntKind.u8 (apG n0 (fun i => SE.byteOf [SV.v (Value.int IntKind.u8 (g i))]) [k % 256] i))], ext := n0 + 1 + c_1 }) ∧ (((n0 + 1) : Nat) ≤ M0)) ∧ (I64 r)) ∧ (∀ c_2 : Nat, ((((bytesOk (n0 + 1 + 8) (n0 + 1 + 8 + c_2) { elem := 5, size := 1, rw := true, lock := false, lit := false, flat := true, n := n0 + 1 + 8, row := fun i => [SV.v (Value.int IntKind.u8 (apG (n0 + 1) (fun i => SE.byteOf [SV.v (Value.int IntKind.u8 (apG n0 (fun i => SE.byteOf [SV.v (Value.int IntKind.u8 (g i))]) [k % 256] i))]) (be (r % 18446744073709551616) 8) i))], ext := n0 + 1 + 8 + c_2 }) ∧ (((n0 + 1 + 8) : Nat) ≤ M0)) ∧ (I64 w)) ∧ (∀ c_3 : Nat, ((((bytesOk (n0 + 1 + 8 + 8) (n0 + 1 + 8 + 8 + c_3) { elem := 5, size := 1, rw := true, lock := false, lit := false, flat := true, n := n0 + 1 + 8 + 8, row := fun i => [SV.v (Value.int IntKind.u8 (apG (n0 + 1 + 8) (fun i => SE.byteOf [SV.v (Value.int IntKind.u8 (apG (n0 + 1) (fun i => SE.byteOf [SV.v (Value.int IntKind.u8 (apG n0 (fun i => SE.byteOf [SV.v (Value.int IntKind.u8 (g i))]) [k % 256] i))]) (be (r % 18446744073709551616) 8) i))]) (be (w % 18446744073709551616) 8) i))], ext := n0 + 1 + 8 + 8 + c_3 }) ∧ (((n0 + 1 + 8 + 8) : Nat) ≤ M0)) ∧ (I64 h)) ∧ (∀ c_4 : Nat, ((((bytesOk (n0 + 1 + 8 + 8 + 8) (n0 + 1 + 8 + 8 + 8 + c_4) { elem := 5, size := 1, rw := true, lock := false, lit := false, flat := true, n := n0 + 1 + 8 + 8 + 8, row := fun i => [SV.v (Value.int IntKind.u8 (apG (n0 + 1 + 8 + 8) (fun i => SE.byteOf [SV.v (Value.int IntKind.u8 (apG (n0 + 1 + 8) (fun i => SE.byteOf [SV.v (Value.int IntKind.u8 (apG (n0 + 1) (fun i => SE.byteOf [SV.v (Value.int IntKind.u8 (apG n0 (fun i => SE.byteOf [SV.v (Value.int IntKind.u8 (g i))]) [k % 256] i))]) (be (r % 18446744073709551616) 8) i))]) (be (w % 18446744073709551616) 8) i))]) (be (h % 18446744073709551616) 8) i))], ext := n0 + 1 + 8 + 8 + 8 + c_4 }) ∧ (((n0 + 1 + 8 + 8 + 8) : Nat) ≤ M0)) ∧ (I64 (↑n : Int))) ∧ (∀ c_5 : Nat, 
(sel (decide ((↑n : Int) ≤ 8)) ((((bytesOk (n0 + 1 + 8 + 8 + 8 + 1) (n0 + 1 + 8 + 8 + 8 + 1 + c_5) { elem := 5, size := 1, rw := true, lock := false, lit := false, flat := true, n := n0 + 1 + 8 + 8 + 8 + 1, row := fun i => [SV.v (Value.int IntKind.u8 (apG (n0 + 1 + 8 + 8 + 8) (fun i => SE.byteOf [SV.v (Value.int IntKind.u8 (apG (n0 + 1 + 8 + 8) (fun i => SE.byteOf [SV.v (Value.int IntKind.u8 (apG (n0 + 1 + 8) (fun i => SE.byteOf [SV.v (Value.int IntKind.u8 (apG (n0 + 1) (fun i => SE.byteOf [SV.v (Value.int IntKind.u8 (apG n0 (fun i => SE.byteOf [SV.v (Value.int IntKind.u8 (g i))]) [k % 256] i))]) (be (r % 18446744073709551616) 8) i))]) (be (w % 18446744073709551616) 8) i))]) (be (h % 18446744073709551616) 8) i))]) [(↑n : Int) % 256] i))], ext := n0 + 1 + 8 + 8 + 8 + 1 + c_5 }) ∧ (((n0 + 1 + 8 + 8 + 8 + 1) : Nat) ≤ NB0)) ∧ ((((n : Nat) = n) ∧ (((n : Nat) < 100) ∧ (((n0 + 1 + 8 + 8 + 8 + 1) : Nat) ≤ (n0 + 1 + 8 + 8 + 8 + 1 + c_5)))) ∧ (∀ i : Nat, (((i : Nat) < n) → (isPair [SV.v (Value.int IntKind.i64 (x (0 + i))), SV.v (Value.int IntKind.i64 (y (0 + i)))]))))) ∧ (∀ c_6 : Nat, (∃ c_7 : Nat, (True ∧ ((((1 : Nat) = 1) ∧ (((1 : Nat) ≤ 1) ∧ (((SV.sl 344 1 0 (n0 + 1 + 8 + 8 + 8 + 1 + 16 * n) (n0 + 1 + 8 + 8 + 8 + 1 + 16 * n + c_6)) = (SV.sl 344 1 0 (n0 + shN n) (n0 + shN n + c_7))) ∧ ((SV.v (Value.bool (b || notIn k 255 || false || false || false || notIn (↑n : Int) 8 || false))) = (SV.v (Value.bool (b || shBad k n))))))) ∧ ((((n0 + 1 + 8 + 8 + 8 + 1 + 16 * n) : Nat) = (n0 + shN n)) ∧ ((((n0 + shN n + c_7) : Nat) ≤ (n0 + 1 + 8 + 8 + 8 + 1 + 16 * n + c_6)) ∧ (∀ i : Nat, (((i : Nat) < (n0 + shN n)) → ([(SV.v (Value.int IntKind.u8 (apG (n0 + 1 + 8 + 8 + 8 + 1) (fun i => SE.byteOf [SV.v (Value.int IntKind.u8 (apG (n0 + 1 + 8 + 8 + 8) (fun i => SE.byteOf [SV.v (Value.int IntKind.u8 (apG (n0 + 1 + 8 + 8) (fun i => SE.byteOf [SV.v (Value.int IntKind.u8 (apG (n0 + 1 + 8) (fun i => SE.byteOf [SV.v (Value.int IntKind.u8 (apG (n0 + 1) (fun i => SE.byteOf [SV.v (Value.int IntKind.u8 (apG n0 (fun i => SE.byteOf [SV.v (Value.int IntKind.u8 (g i))]) [k % 256] i))]) (be (r % 18446744073709551616) 8) i))]) (be (w % 18446744073709551616) 8) i))]) (be (h % 18446744073709551616) 8) i))]) [(↑n : Int) % 256] i))]) (spotsL (fun i => pX [SV.v (Value.int IntKind.i64 (x (0 + i))), SV.v (Value.int IntKind.i64 (y (0 + i)))]) (fun i => pY [SV.v (Value.int IntKind.i64 (x (0 + i))), SV.v (Value.int IntKind.i64 (y (0 + i)))]) n) i)))] = [(SV.v (Value.int IntKind.u8 (apG n0 g (shL k r w h n x y) i)))])))))))))) (∃ c_6 : Nat, (True ∧ ((((1 : Nat) = 1) ∧ (((1 : Nat) ≤ 1) ∧ (((SV.sl 280 1 0 (n0 + 1 + 8 + 8 + 8 + 1) (n0 + 1 + 8 + 8 + 8 + 1 + c_5)) = (SV.sl 280 1 0 (n0 + shN n) (n0 + shN n + c_6))) ∧ ((SV.v (Value.bool (b || notIn k 255 || false || false || false || notIn (↑n : Int) 8))) = (SV.v (Value.bool (b || shBad k n))))))) ∧ ((((n0 + 1 + 8 + 8 + 8 + 1) : Nat) = (n0 + shN n)) ∧ ((((n0 + shN n + c_6) : Nat) ≤ (n0 + 1 + 8 + 8 + 8 + 1 + c_5)) ∧ (∀ i : Nat, (((i : Nat) < (n0 + shN n)) → ([(SV.v (Value.int IntKind.u8 (apG (n0 + 1 + 8 + 8 + 8) (fun i => SE.byteOf [SV.v (Value.int IntKind.u8 (apG (n0 + 1 + 8 + 8) (fun i => SE.byteOf [SV.v (Value.int IntKind.u8 (apG (n0 + 1 + 8) (fun i => SE.byteOf [SV.v (Value.int IntKind.u8 (apG (n0 + 1) (fun i => SE.byteOf [SV.v (Value.int IntKind.u8 (apG n0 (fun i => SE.byteOf [SV.v (Value.int IntKind.u8 (g i))]) [k % 256] i))]) (be (r % 18446744073709551616) 8) i))]) (be (w % 18446744073709551616) 8) i))]) (be (h % 18446744073709551616) 8) i))]) [(↑n : Int) % 256] i)))] = [(SV.v (Value.int IntKind.u8 (apG n0 g (shL k r w h n x y) i)))]))))))))))))))))))) := by kernel_rfl
theorem Spots2_used (b : Bool) (n0 : Nat) (g : Nat → Int) (c n e n' c' : Nat) (x y : Nat → Int) (hn0 : n0 ≤ 1000000000) (hm : n < 100) (hnc : n0 ≤ c) (hv : ∀ i, i < n → I64 (x i) ∧ I64 (y i)) :
    vcFn Try.prog ΓF1 (ΛSpots2 b n0 g n x y) Try.f105 [.vp 0 0, .sl 2 2 0 n c'] (heapOf [wB (some b) false (.sl 1 1 0 n0 c), bG n0 g c, spB e n' x y]) 64 (fun y' h' => FinE [wB (some b) false (.sl 1 1 0 n0 c), bG n0 g c, spB e n' x y] (apE (.used (some b) n0 g c True) 0 True (16 * n) (spotsL x y n) false) y' h') := by
  refine Eq.mpr (vcSpots2 b n0 g c n e n' c' x y) ⟨⟨⟨0, c⟩, ⟨Nat.zero_le _, hnc⟩, rfl, ⟨rfl, Nat.le_refl _, rfl, rfl⟩, rfl, Nat.le_refl _, fun i hi => congrArg (fun z => [SV.v (.int .u8 z)]) (apG_old hi).symm⟩, fun z ⟨h2, h3⟩ => sel_of (fun hlt => ?_) fun hge => ?_⟩
  · have hlt := of_decide_eq_true hlt
    have hlt : z.i < n := by omega
    have hw : IntKind.i64.wrap ((z.i : Int) + 1) = ((z.i + 1 : Nat) : Int) := wrap_i64 ⟨by omega, by omega⟩
    have hvx := hv z.i hlt
    rw [show 0 + Int.toNat (z.i : Int) = z.i by omega]
    refine ⟨⟨by omega, by omega⟩, ⟨⟨bytesOk_bG _ _ _ (by omega), by show n0 + 16 * z.i ≤ 1099511627776; omega⟩, hvx.1⟩, fun c1 => ⟨⟨⟨bytesOk_bG _ _ _ (by omega), by show n0 + 16 * z.i + 8 ≤ 1099511627776; omega⟩, hvx.2⟩, fun c2 => ⟨⟨z.i + 1, n0 + 16 * z.i + 8 + 8 + c2⟩, ⟨⟨by show z.i + 1 ≤ n; omega, (by show n0 + 16 * (z.i + 1) ≤ n0 + 16 * z.i + 8 + 8 + c2; omega)⟩, int_mk hw, ⟨rfl, Nat.le_refl _, ?_, ?_⟩, ?_, Nat.le_refl _, fun i hi => ?_⟩, by show n - (z.i + 1) < n - z.i; omega⟩⟩⟩
    · show SV.sl _ 1 0 _ _ = SV.sl _ 1 0 (n0 + 16 * (z.i + 1)) _
      rw [show n0 + 16 * (z.i + 1) = n0 + 16 * z.i + 8 + 8 by omega]
    · rw [Bool.or_false, Bool.or_false]
    · show n0 + 16 * z.i + 8 + 8 = n0 + 16 * (z.i + 1)
      omega
    · exact congrArg (fun z => [SV.v (.int .u8 z)]) (spots_row x y n0 g z.i i)
  · have hge := of_decide_eq_false hge
    have hx : z.i = n := by omega
    rw [hx] at h3 ⊢
    have h3 : n0 + 16 * n ≤ z.c := by omega
    have he : n0 + 16 * n + (z.c - (n0 + 16 * n)) = z.c := by omega
    exact ⟨z.c - (n0 + 16 * n), trivial, ⟨rfl, Nat.le_refl _, by rw [he], by rw [Bool.or_false]⟩, rfl, by omega, fun i hi => rfl⟩
theorem Spots2_spec : HpSpec Try.prog 105 sSpots2 := hp_spec hm ΓF1_ok Try.func105 (Λ := fun args bs => match args, bs with
    | [_, .sl _ _ _ n _], [B, D, S] => match wrOf [B, D] with
      | some (.used (some b) n0 g c _) => ΛSpots2 b n0 g n (fun i => pX (S.row i)) (fun i => pY (S.row i))
      | _ => noΛ
    | _, _ => noΛ) fun args bs e hs hp => by
  unfold sSpots2 at hs
  split at hs
  · rename_i n c' B D S
    split at hs
    · rename_i b n0 g c p hw
      obtain ⟨hro, he⟩ := bif_some hs
      subst he
      obtain ⟨⟨hp, hm⟩, ⟨hn, h100, hnc⟩, hv⟩ := hp
      have hsame := (wrOf_used hw hp).1
      refine ⟨[wB (some b) false (.sl 1 1 0 n0 c), bG n0 g c, spB S.elem n (fun i => pX (S.row i)) (fun i => pY (S.row i))], ⟨hsame.1, hsame.2.1, same_spB hro hn hv, trivial⟩, ?_⟩
      simp only [hw]
      exact Spots2_used b n0 g c n S.elem n c' _ _ hm h100 hnc fun i hi => (isPair_row (hv i hi)).2
    · cases hs
  · cases hs
theorem ΓSh_ok : ∀ f g, ΓSh f = some g → g.ok Try.prog f := addCtr_ok (addCtr_ok ΓF1_ok (hp_ok Try.func118 (by kernel_rfl) (by kernel_rfl) Small_spec)) (hp_ok Try.func105 (by kernel_rfl) (by kernel_rfl) Spots2_spec)
theorem shL_row {n0 : Nat} {g : Nat → Int} {k r w h z : Int} (M : List Int) (i : Nat) : apG (n0 + 1 + 8 + 8 + 8 + 1) (apG (n0 + 1 + 8 + 8 + 8) (apG (n0 + 1 + 8 + 8) (apG (n0 + 1 + 8) (apG (n0 + 1) (apG n0 g [k]) (i8 r)) (i8 w)) (i8 h)) [z]) M i = apG n0 g ([k] ++ (i8 r ++ (i8 w ++ (i8 h ++ ([z] ++ M))))) i := by
  rw [apG_ap (n := n0 + 1 + 8 + 8 + 8) (m := n0 + 1 + 8 + 8 + 8 + 1) (L := [z]) rfl, apG_ap (n := n0 + 1 + 8 + 8) (by rw [i8_len]), apG_ap (n := n0 + 1 + 8) (by rw [i8_len]), apG_ap (n := n0 + 1) (by rw [i8_len]), apG_ap (n := n0) (m := n0 + 1) (L := [k]) rfl]
theorem shL_row0 {n0 : Nat} {g : Nat → Int} {k r w h z : Int} (i : Nat) : apG (n0 + 1 + 8 + 8 + 8) (apG (n0 + 1 + 8 + 8) (apG (n0 + 1 + 8) (apG (n0 + 1) (apG n0 g [k]) (i8 r)) (i8 w)) (i8 h)) [z] i = apG n0 g ([k] ++ (i8 r ++ (i8 w ++ (i8 h ++ ([z] ++ []))))) i := by
  rw [List.append_nil, apG_ap (n := n0 + 1 + 8 + 8) (by rw [i8_len]), apG_ap (n := n0 + 1 + 8) (by rw [i8_len]), apG_ap (n := n0 + 1) (by rw [i8_len]), apG_ap (n := n0) (m := n0 + 1) (L := [k]) rfl]
theorem Shape_spec : HpSpec Try.prog 97 sShape := hp_spec hm ΓSh_ok Try.func97 (Λ := fun _ _ => noΛ) fun args bs e hs hp => by
  unfold sShape at hs
  split at hs
  · rename_i k r w h n c' B D S
    split at hs
    · rename_i b n0 g c p hw
      obtain ⟨hro, he⟩ := bif_some hs
      subst he
      obtain ⟨⟨hp, hm⟩, ⟨⟨hk, hr, hww, hh⟩, hn, h100⟩, hv⟩ := hp
      have hm : n0 ≤ 900000000 := hm
      have hsame := (wrOf_used hw hp).1
      refine ⟨[wB (some b) false (.sl 1 1 0 n0 c), bG n0 g c, spB S.elem n (fun i => pX (S.row i)) (fun i => pY (S.row i))], ⟨hsame.1, hsame.2.1, same_spB hro hn hv, trivial⟩, ?_⟩
      have hvp := fun i hi => isPair_row (hv i hi)
      refine Eq.mpr (vcShape b n0 g c k r w h n S.elem n c' _ _) ⟨⟨⟨bytesOk_bG _ _ _ (by omega), by show n0 ≤ 1099511627776; omega⟩, hk⟩, fun c1 => ⟨⟨⟨bytesOk_bG _ _ _ (by omega), by show n0 + 1 ≤ 1099511627776; omega⟩, hr⟩, fun c2 => ⟨⟨⟨bytesOk_bG _ _ _ (by omega), by show n0 + 1 + 8 ≤ 1099511627776; omega⟩, hww⟩, fun c3 => ⟨⟨⟨bytesOk_bG _ _ _ (by omega), by show n0 + 1 + 8 + 8 ≤ 1099511627776; omega⟩, hh⟩, fun c4 => ⟨⟨⟨bytesOk_bG _ _ _ (by omega), by show n0 + 1 + 8 + 8 + 8 ≤ 1099511627776; omega⟩, ⟨by omega, by omega⟩⟩, fun c5 => sel_of (fun hle => ?_) fun hgt => ?_⟩⟩⟩⟩⟩
      · have hle := of_decide_eq_true hle
        have hb : Nat.ble n 8 = true := Nat.ble_eq_true_of_le (by omega)
        refine ⟨⟨⟨bytesOk_bG _ _ _ (by omega), by show n0 + 1 + 8 + 8 + 8 + 1 ≤ 1000000000; omega⟩, ⟨rfl, h100, by omega⟩, fun i hi => by
          rw [Nat.zero_add]
          exact (hvp i hi).2⟩, fun c6 => tailU (by unfold shN; rw [hb, cond_true]; omega) ?_ fun i hi => ?_⟩
        · simp only [Bool.or_false, shBad, Bool.or_assoc]
        · unfold shL
          rw [hb, cond_true]
          have := shL_row (n0 := n0) (g := g) (k := k % 256) (r := r) (w := w) (h := h) (z := (n : Int) % 256) (spotsL (fun i => pX (S.row i)) (fun i => pY (S.row i)) n) i
          refine Eq.trans ?_ this
          show apG _ _ (spotsL (fun i => pX (S.row (0 + i))) (fun i => pY (S.row (0 + i))) n) i = _
          simp only [Nat.zero_add]
          rfl
      · have hgt := of_decide_eq_false hgt
        have hb : Nat.ble n 8 = false := by
          cases hc : Nat.ble n 8 with
          | false => rfl
          | true => have := Nat.le_of_ble_eq_true hc; omega
        refine tailU (by unfold shN; rw [hb, cond_false]) ?_ fun i hi => ?_
        · simp only [Bool.or_false, shBad, Bool.or_assoc]
        · unfold shL
          rw [hb, cond_false]
          exact shL_row0 i
    · cases hs
  · cases hs
end Go.Proofs.Ytjdldadmaaeimaa
