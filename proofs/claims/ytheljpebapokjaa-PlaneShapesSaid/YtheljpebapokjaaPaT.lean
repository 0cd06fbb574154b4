/-
  PlaneMakes: what the law reckons.
-/
import Derived.Test.YtheljpebapokjaaPmN
set_option maxRecDepth 100000
set_option linter.unusedSimpArgs false
set_option linter.unusedVariables false
namespace Go.Proofs.Ytheljpebapokjaa
open Go.SE Go.RowKit

structure MKC where
  k : Nat
  c : Nat
def decG (k : Nat) (g : Nat → Int × Int) : Nat → Int × Int := fun i => if i < k then ((g i).1, IntKind.i64.wrap ((g i).2 - 1)) else g i
def sMakesL : List SV → List Ro → Option (Option Prop × SV)
  | [.v (.int .i64 r), .v (.int .i64 w), .v (.int .i64 h), .sl 0 2 0 n _], [⟨2, n', row⟩] => some (some (okAll isPI (rowsOf n' row) ∧ n' = n ∧ I64 r ∧ I64 w ∧ I64 h), .v (.bool true))
  | _, _ => none
noncomputable def ΛMakes (n : Nat) (g : Nat → Int × Int) : Nat → Option LoopSpec := addLoopN noΛ Try.f7 0 MKC (fun x => x.k ≤ n ∧ n ≤ x.c) (fun x => n - x.k) [(14, fun x => .v (.int .i64 x.k)), (9, fun x => .sl 40 2 0 n x.c)] [] [(40, fun x => spB n x.c (decG x.k g), inSlot 9)]
theorem vcMakesL (n n' c : Nat) (g : Nat → Int × Int) (r w h : Int) (R : SV → Prop) : (vcFn Try.prog ΓG (ΛMakes n g) Try.f7 [.v (.int .i64 r), .v (.int .i64 w), .v (.int .i64 h), .sl 0 2 0 n c] (roHeap [⟨2, n', rowsP g⟩]) 64 (fun y _ => R y)) =

(sel (decide ((↑n : Int) > 30)) (R (SV.v (Value.bool true))) ((((((0 + n) * 16) : Nat) ≤ 140737488355328) ∧ (((0 : Nat) ≤ 0) ∧ (∀ y : Nat, (((y : Nat) < n) → True)))) ∧ (∀ c_1 : Nat, ((I64 r) ∧ ((I64 r) ∧ 
(sel (chkS (discS r) 0 zP != chkS (discS r) 0 zP) (R (SV.v (Value.bool false))) (((rowsPre 0 0 fun y => [SV.v (Value.int IntKind.i64 (Prod.fst (zP (0 + y)))), SV.v (Value.int IntKind.i64 (Prod.snd (zP (0 + y))))]) ∧ (rowsPre 0 0 fun y => [SV.v (Value.int IntKind.i64 (Prod.fst (zP (0 + y)))), SV.v (Value.int IntKind.i64 (Prod.snd (zP (0 + y))))])) ∧ 
(sel (!sameS (keepS (chkS (discS r) 0 zP == 0) (discS r)) 0 (fun i => gi [SV.v (Value.int IntKind.i64 (Prod.fst (zP (0 + i)))), SV.v (Value.int IntKind.i64 (Prod.snd (zP (0 + i))))]) (keepS (chkS (discS r) 0 zP == 0) (discS r)) 0 fun i => gi [SV.v (Value.int IntKind.i64 (Prod.fst (zP (0 + i)))), SV.v (Value.int IntKind.i64 (Prod.snd (zP (0 + i))))]) (R (SV.v (Value.bool false))) (((I64 w) ∧ (I64 h)) ∧ (((I64 w) ∧ (I64 h)) ∧ 
(sel (chkS (boxS w h) 0 zP != chkS (boxS w h) 0 zP) (R (SV.v (Value.bool false))) (((rowsPre 0 0 fun y => [SV.v (Value.int IntKind.i64 (Prod.fst (zP (0 + y)))), SV.v (Value.int IntKind.i64 (Prod.snd (zP (0 + y))))]) ∧ (rowsPre 0 0 fun y => [SV.v (Value.int IntKind.i64 (Prod.fst (zP (0 + y)))), SV.v (Value.int IntKind.i64 (Prod.snd (zP (0 + y))))])) ∧ 
(sel (!sameS (keepS (chkS (boxS w h) 0 zP == 0) (boxS w h)) 0 (fun i => gi [SV.v (Value.int IntKind.i64 (Prod.fst (zP (0 + i)))), SV.v (Value.int IntKind.i64 (Prod.snd (zP (0 + i))))]) (keepS (chkS (boxS w h) 0 zP == 0) (boxS w h)) 0 fun i => gi [SV.v (Value.int IntKind.i64 (Prod.fst (zP (0 + i)))), SV.v (Value.int IntKind.i64 (Prod.snd (zP (0 + i))))]) (R (SV.v (Value.bool false))) ((spPre (0 + n) (winBlk { elem := bif true then 48 else 0, size := 2, rw := true, lock := false, lit := false, flat := true && true, n := 0 + n, row := fun y => [SV.v (Value.int IntKind.i64 (Prod.fst (g (0 + (y - 0))))), SV.v (Value.int IntKind.i64 (Prod.snd (g (0 + (y - 0)))))], ext := 0 + n + c_1 } 2 0 (0 + n))) ∧ (∀ c_2 : Nat, ((spPre n (winBlk (Ro.blk { s := 2, n := n', row := fun i => [SV.v (Value.int IntKind.i64 (Prod.fst (g i))), SV.v (Value.int IntKind.i64 (Prod.snd (g i)))] }) 2 0 n)) ∧ (∀ c_3 : Nat, 
(sel (chkS polyS (0 + n) (rowG (winBlk { elem := bif true then 48 else 0, size := 2, rw := true, lock := false, lit := false, flat := true && true, n := 0 + n, row := fun y => [SV.v (Value.int IntKind.i64 (Prod.fst (g (0 + (y - 0))))), SV.v (Value.int IntKind.i64 (Prod.snd (g (0 + (y - 0)))))], ext := 0 + n + c_1 } 2 0 (0 + n))) != chkS polyS n (rowG (winBlk (Ro.blk { s := 2, n := n', row := fun i => [SV.v (Value.int IntKind.i64 (Prod.fst (g i))), SV.v (Value.int IntKind.i64 (Prod.snd (g i)))] }) 2 0 n))) (R (SV.v (Value.bool false))) (((rowsPre (0 + n) (0 + n) fun y => [SV.v (Value.int IntKind.i64 (Prod.fst (g (0 + (0 + y - 0))))), SV.v (Value.int IntKind.i64 (Prod.snd (g (0 + (0 + y - 0)))))]) ∧ (rowsPre n n fun y => [SV.v (Value.int IntKind.i64 (Prod.fst (g (0 + y)))), SV.v (Value.int IntKind.i64 (Prod.snd (g (0 + y))))])) ∧ 
(sel (!sameP (0 + n) (fun i => gi [SV.v (Value.int IntKind.i64 (Prod.fst (g (0 + (0 + i - 0))))), SV.v (Value.int IntKind.i64 (Prod.snd (g (0 + (0 + i - 0)))))]) n fun i => gi [SV.v (Value.int IntKind.i64 (Prod.fst (g (0 + i)))), SV.v (Value.int IntKind.i64 (Prod.snd (g (0 + i))))]) (R (SV.v (Value.bool false))) ((∃ x : MKC, (((((MKC.k x) : Nat) ≤ n) ∧ ((n : Nat) ≤ (MKC.c x))) ∧ ((((SV.v (Value.int IntKind.i64 0)) = (SV.v (Value.int IntKind.i64 ((↑(MKC.k x) : Int))))) ∧ ((SV.sl 128 2 0 (0 + n) (0 + n + c_1)) = (SV.sl 128 2 0 n (MKC.c x)))) ∧ ((((0 + n) : Nat) = n) ∧ ((((MKC.c x) : Nat) ≤ (0 + n + c_1)) ∧ (∀ i : Nat, (((i : Nat) < n) → ([(SV.v (Value.int IntKind.i64 (Prod.fst (g (0 + (i - 0)))))), (SV.v (Value.int IntKind.i64 (Prod.snd (g (0 + (i - 0))))))] = [(SV.v (Value.int IntKind.i64 (Prod.fst (decG (MKC.k x) g i)))), (SV.v (Value.int IntKind.i64 (Prod.snd (decG (MKC.k x) g i))))])))))))) ∧ (∀ x : MKC, (((((MKC.k x) : Nat) ≤ n) ∧ ((n : Nat) ≤ (MKC.c x))) → 
(sel (decide ((↑(MKC.k x) : Int) < (↑n : Int))) ((((0 : Int) ≤ ((↑(MKC.k x) : Int))) ∧ ((((↑(MKC.k x) : Int)) : Int) < ((↑n : Int)))) ∧ ((((0 : Int) ≤ ((↑(MKC.k x) : Int))) ∧ ((((↑(MKC.k x) : Int)) : Int) < ((↑n : Int)))) ∧ (∃ x' : MKC, ((((((MKC.k x') : Nat) ≤ n) ∧ ((n : Nat) ≤ (MKC.c x'))) ∧ ((((SV.v (Value.int IntKind.i64 (IntKind.wrap IntKind.i64 ((↑(MKC.k x) : Int) + 1)))) = (SV.v (Value.int IntKind.i64 ((↑(MKC.k x') : Int))))) ∧ ((SV.sl 40 2 0 n (MKC.c x)) = (SV.sl 40 2 0 n (MKC.c x')))) ∧ (((n : Nat) = n) ∧ ((((MKC.c x') : Nat) ≤ (MKC.c x)) ∧ (∀ i : Nat, (((i : Nat) < n) → ([(SV.v (Value.int IntKind.i64 (bop (Nat.beq i (0 + Int.toNat (↑(MKC.k x) : Int))) (Prod.fst (decG (MKC.k x) g (0 + Int.toNat (↑(MKC.k x) : Int)))) (Prod.fst (decG (MKC.k x) g i))))), (SV.v (Value.int IntKind.i64 (bop (Nat.beq i (0 + Int.toNat (↑(MKC.k x) : Int))) (IntKind.wrap IntKind.i64 (Prod.snd (decG (MKC.k x) g (0 + Int.toNat (↑(MKC.k x) : Int))) - 1)) (Prod.snd (decG (MKC.k x) g i)))))] = [(SV.v (Value.int IntKind.i64 (Prod.fst (decG (MKC.k x') g i)))), (SV.v (Value.int IntKind.i64 (Prod.snd (decG (MKC.k x') g i))))]))))))) ∧ (((n - MKC.k x') : Nat) < (n - MKC.k x)))))) (((rowsPre (polyN (chkS polyS (0 + n) (rowG (winBlk { elem := bif true then 48 else 0, size := 2, rw := true, lock := false, lit := false, flat := true && true, n := 0 + n, row := fun y => [SV.v (Value.int IntKind.i64 (Prod.fst (g (0 + (y - 0))))), SV.v (Value.int IntKind.i64 (Prod.snd (g (0 + (y - 0)))))], ext := 0 + n + c_1 } 2 0 (0 + n))) == 0) (0 + n)) (polyN (chkS polyS (0 + n) (rowG (winBlk { elem := bif true then 48 else 0, size := 2, rw := true, lock := false, lit := false, flat := true && true, n := 0 + n, row := fun y => [SV.v (Value.int IntKind.i64 (Prod.fst (g (0 + (y - 0))))), SV.v (Value.int IntKind.i64 (Prod.snd (g (0 + (y - 0)))))], ext := 0 + n + c_1 } 2 0 (0 + n))) == 0) (0 + n)) fun y => [SV.v (Value.int IntKind.i64 (Prod.fst (rowG (winBlk { elem := bif true then 48 else 0, size := 2, rw := true, lock := false, lit := false, flat := true && true, n := 0 + n, row := fun y => [SV.v (Value.int IntKind.i64 (Prod.fst (g (0 + (y - 0))))), SV.v (Value.int IntKind.i64 (Prod.snd (g (0 + (y - 0)))))], ext := 0 + n + c_1 } 2 0 (0 + n)) (0 + y)))), SV.v (Value.int IntKind.i64 (Prod.snd (rowG (winBlk { elem := bif true then 48 else 0, size := 2, rw := true, lock := false, lit := false, flat := true && true, n := 0 + n, row := fun y => [SV.v (Value.int IntKind.i64 (Prod.fst (g (0 + (y - 0))))), SV.v (Value.int IntKind.i64 (Prod.snd (g (0 + (y - 0)))))], ext := 0 + n + c_1 } 2 0 (0 + n)) (0 + y))))]) ∧ (rowsPre (polyN (chkS polyS n (rowG (winBlk (Ro.blk { s := 2, n := n', row := fun i => [SV.v (Value.int IntKind.i64 (Prod.fst (g i))), SV.v (Value.int IntKind.i64 (Prod.snd (g i)))] }) 2 0 n)) == 0) n) (polyN (chkS polyS n (rowG (winBlk (Ro.blk { s := 2, n := n', row := fun i => [SV.v (Value.int IntKind.i64 (Prod.fst (g i))), SV.v (Value.int IntKind.i64 (Prod.snd (g i)))] }) 2 0 n)) == 0) n) fun y => [SV.v (Value.int IntKind.i64 (Prod.fst (rowG (winBlk (Ro.blk { s := 2, n := n', row := fun i => [SV.v (Value.int IntKind.i64 (Prod.fst (g i))), SV.v (Value.int IntKind.i64 (Prod.snd (g i)))] }) 2 0 n) (0 + y)))), SV.v (Value.int IntKind.i64 (Prod.snd (rowG (winBlk (Ro.blk { s := 2, n := n', row := fun i => [SV.v (Value.int IntKind.i64 (Prod.fst (g i))), SV.v (Value.int IntKind.i64 (Prod.snd (g i)))] }) 2 0 n) (0 + y))))])) ∧ 
(sel (sameS (keepS (chkS polyS (0 + n) (rowG (winBlk { elem := bif true then 48 else 0, size := 2, rw := true, lock := false, lit := false, flat := true && true, n := 0 + n, row := fun y => [SV.v (Value.int IntKind.i64 (Prod.fst (g (0 + (y - 0))))), SV.v (Value.int IntKind.i64 (Prod.snd (g (0 + (y - 0)))))], ext := 0 + n + c_1 } 2 0 (0 + n))) == 0) polyS) (polyN (chkS polyS (0 + n) (rowG (winBlk { elem := bif true then 48 else 0, size := 2, rw := true, lock := false, lit := false, flat := true && true, n := 0 + n, row := fun y => [SV.v (Value.int IntKind.i64 (Prod.fst (g (0 + (y - 0))))), SV.v (Value.int IntKind.i64 (Prod.snd (g (0 + (y - 0)))))], ext := 0 + n + c_1 } 2 0 (0 + n))) == 0) (0 + n)) (fun i => gi [SV.v (Value.int IntKind.i64 (Prod.fst (rowG (winBlk { elem := bif true then 48 else 0, size := 2, rw := true, lock := false, lit := false, flat := true && true, n := 0 + n, row := fun y => [SV.v (Value.int IntKind.i64 (Prod.fst (g (0 + (y - 0))))), SV.v (Value.int IntKind.i64 (Prod.snd (g (0 + (y - 0)))))], ext := 0 + n + c_1 } 2 0 (0 + n)) (0 + i)))), SV.v (Value.int IntKind.i64 (Prod.snd (rowG (winBlk { elem := bif true then 48 else 0, size := 2, rw := true, lock := false, lit := false, flat := true && true, n := 0 + n, row := fun y => [SV.v (Value.int IntKind.i64 (Prod.fst (g (0 + (y - 0))))), SV.v (Value.int IntKind.i64 (Prod.snd (g (0 + (y - 0)))))], ext := 0 + n + c_1 } 2 0 (0 + n)) (0 + i))))]) (keepS (chkS polyS n (rowG (winBlk (Ro.blk { s := 2, n := n', row := fun i => [SV.v (Value.int IntKind.i64 (Prod.fst (g i))), SV.v (Value.int IntKind.i64 (Prod.snd (g i)))] }) 2 0 n)) == 0) polyS) (polyN (chkS polyS n (rowG (winBlk (Ro.blk { s := 2, n := n', row := fun i => [SV.v (Value.int IntKind.i64 (Prod.fst (g i))), SV.v (Value.int IntKind.i64 (Prod.snd (g i)))] }) 2 0 n)) == 0) n) fun i => gi [SV.v (Value.int IntKind.i64 (Prod.fst (rowG (winBlk (Ro.blk { s := 2, n := n', row := fun i => [SV.v (Value.int IntKind.i64 (Prod.fst (g i))), SV.v (Value.int IntKind.i64 (Prod.snd (g i)))] }) 2 0 n) (0 + i)))), SV.v (Value.int IntKind.i64 (Prod.snd (rowG (winBlk (Ro.blk { s := 2, n := n', row := fun i => [SV.v (Value.int IntKind.i64 (Prod.fst (g i))), SV.v (Value.int IntKind.i64 (Prod.snd (g i)))] }) 2 0 n) (0 + i))))]) (R (SV.v (Value.bool true))) (R (SV.v (Value.bool false))))))))))))))))))))))))))))) := by kernel_rfl
theorem selYY {b : Bool} {x y : Prop} (h : b = true) (hx : x) : sel b x y := by subst h; exact hx
theorem selNN {b : Bool} {x y : Prop} (h : b = false) (hy : y) : sel b x y := by subst h; exact hy
theorem eqP_self (p : Int × Int) : eqP p p = true := by unfold eqP; rw [beq_self_eq_true, beq_self_eq_true]; rfl
theorem sameP_self (n : Nat) (g : Nat → Int × Int) : sameP n g n g = true := by
  unfold sameP
  rw [Nat.beq_refl, Bool.true_and]
  exact List.all_eq_true.2 fun i _ => eqP_self _
theorem sameS_self (s : ShB) (n : Nat) (g : Nat → Int × Int) : sameS s n g s n g = true := by
  unfold sameS eqSh
  rw [sameP_self, beq_self_eq_true, beq_self_eq_true, beq_self_eq_true, beq_self_eq_true]; rfl
theorem win_gE (e x m k : Nat) (l1 l2 l3 l4 : Bool) (g : Nat → Int × Int) : rowG (winBlk { elem := e, size := 2, rw := l1, lock := l2, lit := l3, flat := l4, n := m, row := fun y => [.v (.int .i64 (g y).1), .v (.int .i64 (g y).2)], ext := x } 2 0 k) = g := funext fun i => by
  show gi [SV.v (.int .i64 (g (0 + i)).1), SV.v (.int .i64 (g (0 + i)).2)] = g i
  rw [Nat.zero_add]; rfl
theorem rp0 (f : Nat → List SV) : rowsPre 0 0 f := ⟨trivial, rfl, by decide⟩
theorem rpN {n : Nat} {g : Nat → Int × Int} (b : Bool) (hn : n < 1099511627776) (hg : ∀ i, i < n → I64 (g i).1 ∧ I64 (g i).2) : rowsPre (polyN b n) (polyN b n) (rowsP g) := by
  cases b
  · exact rp0 _
  · exact ⟨okAll_rows.2 hg, rfl, hn⟩
theorem decG_zero (g : Nat → Int × Int) : decG 0 g = g := funext fun i => by unfold decG; rw [if_neg (Nat.not_lt_zero _)]
theorem dec_row {k : Nat} (g : Nat → Int × Int) (i : Nat) : [SV.v (.int .i64 (bop (Nat.beq i k) (decG k g k).1 (decG k g i).1)), SV.v (.int .i64 (bop (Nat.beq i k) (IntKind.i64.wrap ((decG k g k).2 - 1)) (decG k g i).2))] = [SV.v (.int .i64 (decG (k + 1) g i).1), SV.v (.int .i64 (decG (k + 1) g i).2)] := by
  unfold decG
  by_cases h : i = k
  · subst h
    rw [Nat.beq_refl, if_neg (Nat.lt_irrefl _), if_pos (Nat.lt_succ_self i)]; rfl
  · rw [Go.SE.beq_false h]
    by_cases h' : i < k
    · rw [if_pos h', if_pos (show i < k + 1 by omega)]; rfl
    · rw [if_neg h', if_neg (show ¬ i < k + 1 by omega)]; rfl
theorem makesL_vc {n c : Nat} {g : Nat → Int × Int} {r w h : Int} (hr : I64 r) (hw : I64 w) (hh : I64 h) (hg : ∀ i, i < n → I64 (g i).1 ∧ I64 (g i).2) : vcFn Try.prog ΓG (ΛMakes n g) Try.f7 [.v (.int .i64 r), .v (.int .i64 w), .v (.int .i64 h), .sl 0 2 0 n c] (roHeap [⟨2, n, rowsP g⟩]) 64 (fun y _ => y = .v (.bool true)) := by
  refine Eq.mpr (vcMakesL n n c g r w h _) ?_
  refine sel_of (fun _ => rfl) fun hle => ?_
  have hle := of_decide_eq_false hle
  have hn : n < 1099511627776 := by omega
  have hrp : rowsPre n n (rowsP g) := ⟨okAll_rows.2 hg, rfl, hn⟩
  simp only [Nat.zero_add, Nat.sub_zero, win_g, win_gE, gi_pt, bne_self_eq_false, sameS_self, sameP_self, Bool.not_true, Int.toNat_natCast]
  refine ⟨⟨by omega, by trivial, by intros; trivial⟩, fun c1 => ⟨hr, hr, selNN rfl ⟨⟨rp0 _, rp0 _⟩, selNN rfl ⟨⟨hw, hh⟩, ⟨hw, hh⟩, selNN rfl ⟨⟨rp0 _, rp0 _⟩, selNN rfl ⟨win_pre hn hg fun _ => rfl, fun c2 => ⟨win_pre hn hg fun _ => rfl, fun c3 => selNN rfl ⟨⟨hrp, hrp⟩, selNN rfl ⟨⟨⟨0, n + c1⟩, ⟨Nat.zero_le _, Nat.le_add_right _ _⟩, ⟨by trivial, by trivial⟩, by trivial, Nat.le_refl _, fun i _ => ?_⟩, fun x hx => sel_of (fun hlt => ?_) fun hge => ?_⟩⟩⟩⟩⟩⟩⟩⟩⟩
  · show _ = [SV.v (.int .i64 (decG 0 g i).1), SV.v (.int .i64 (decG 0 g i).2)]
    rw [decG_zero]
  · obtain ⟨hx1, hx2⟩ := hx
    have hlt := of_decide_eq_true hlt
    exact ⟨⟨by omega, hlt⟩, ⟨by omega, hlt⟩, ⟨x.k + 1, x.c⟩, ⟨⟨by show x.k + 1 ≤ n; omega, hx2⟩, ⟨int_mk (by rw [wrap_i64 ⟨by omega, by omega⟩]; rfl), by trivial⟩, by trivial, Nat.le_refl _, fun i _ => dec_row g i⟩, by show n - (x.k + 1) < n - x.k; omega⟩
  · exact ⟨⟨rpN _ hn hg, rpN _ hn hg⟩, selYY rfl (by trivial)⟩
theorem MakesL_spec : RoSpec Try.prog 7 sMakesL := ro_spec hm ΓG_ok Try.func7 (Λ := fun args bs => match args, bs with | [_, _, _, .sl 0 2 0 n _], [⟨2, _, row⟩] => ΛMakes n (fun i => gi (row i)) | _, _ => noΛ) fun args bs p x h hp => by
  unfold sMakesL at h
  split at h <;> try (cases h; done)
  rename_i r w hh n c n' row
  cases h
  obtain ⟨h0, rfl, hr, hw, hhh⟩ := hp _ rfl
  have h0 := okAll_rows.1 h0
  refine ⟨rfl, [⟨2, n', rowsP fun i => gi (row i)⟩], ⟨⟨rfl, rfl, fun i hi => (isPI_row (h0 i hi)).1⟩, trivial⟩, ?_⟩
  exact makesL_vc hr hw hhh fun i hi => (isPI_row (h0 i hi)).2
end Go.Proofs.Ytheljpebapokjaa
