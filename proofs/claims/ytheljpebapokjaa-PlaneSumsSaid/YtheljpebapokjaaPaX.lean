/-
  PlaneSums: what the law reckons.
-/
import Derived.Test.YtheljpebapokjaaPmN
set_option maxRecDepth 100000
set_option linter.unusedSimpArgs false
set_option linter.unusedVariables false
namespace Go.Proofs.Ytheljpebapokjaa
open Go.SE Go.RowKit

structure KC where
  k : Nat
  c : Nat
/-- Vector k of those that are made of pairs. -/
def pairV (g : Nat → Int) (k : Nat) : VB := kitV (g (2 * k)) (g (2 * k + 1)) 1000000
def vB (n c : Nat) (g : Nat → VB) : Blk := { elem := 25, size := 4, rw := true, lock := false, lit := false, flat := true, n, row := fun i => vR (g i), ext := c }
def sSumsL : List SV → List Ro → Option (Option Prop × SV)
  | [.sl 0 1 0 n _], [⟨1, n', row⟩] => some (some (okAll isI (rowsOf n' row) ∧ n' = n), .v (.bool true))
  | _, _ => none
noncomputable def ΛSums (n : Nat) (g : Nat → Int) : Nat → Option LoopSpec :=
  addLoopN (addLoopN noΛ Try.f10 0 KC (fun x => 2 * x.k ≤ n ∧ x.k ≤ x.c) (fun x => n - 2 * x.k) [(5, fun x => .v (.int .i64 (2 * x.k : Nat))), (3, fun x => .sl 40 4 0 x.k x.c)] [] [(40, fun x => vB x.k x.c (pairV g), inSlot 3)])
    Try.f10 2 KC (fun x => x.k ≤ n / 2 ∧ x.k ≤ x.c) (fun x => n / 2 - x.k) [(6, fun x => .v (.int .i64 (((n / 2 : Nat) : Int) - 1 - x.k))), (4, fun x => .sl 41 4 0 x.k x.c)] [] [(41, fun x => vB x.k x.c fun i => pairV g (n / 2 - 1 - i), inSlot 4)]
theorem vcSumsL (n n' c : Nat) (g : Nat → Int) (R : SV → Prop) : (vcFn Try.prog ΓG (ΛSums n g) Try.f10 [.sl 0 1 0 n c] (roHeap [⟨1, n', rowsI g⟩]) 64 (fun y _ => R y)) =

(sel (decide ((↑n : Int) > 40)) (R (SV.v (Value.bool true))) ((∃ x : KC, (((((2 * KC.k x) : Nat) ≤ n) ∧ (((KC.k x) : Nat) ≤ (KC.c x))) ∧ ((((SV.v (Value.int IntKind.i64 0)) = (SV.v (Value.int IntKind.i64 ((↑(2 * KC.k x) : Int))))) ∧ (((SV.v (Value.slice none 0 0)) = (SV.v (Value.slice none 0 0))) ∧ (((0 : Nat) = 0) ∧ ((((KC.k x) : Nat) = 0) ∧ (((KC.c x) : Nat) = 0))))) ∧ (((((KC.k x) : Nat) = 0) ∧ ((((KC.c x) : Nat) = 0) ∧ True)) ∧ True)))) ∧ (∀ x : KC, (((((2 * KC.k x) : Nat) ≤ n) ∧ (((KC.k x) : Nat) ≤ (KC.c x))) → 
(sel (decide (IntKind.wrap IntKind.i64 ((↑(2 * KC.k x) : Int) + 1) < (↑n : Int))) ((((0 : Int) ≤ ((↑(2 * KC.k x) : Int))) ∧ ((((↑(2 * KC.k x) : Int)) : Int) < ((↑n : Int)))) ∧ ((((0 : Int) ≤ (IntKind.wrap IntKind.i64 ((↑(2 * KC.k x) : Int) + 1))) ∧ (((IntKind.wrap IntKind.i64 ((↑(2 * KC.k x) : Int) + 1)) : Int) < ((↑n : Int)))) ∧ ((((0 : Int) < 1000000) ∧ ((1000000 : Int) < 1073741824)) ∧ ((((((KC.k x + 1) * 32) : Nat) ≤ 140737488355328) ∧ ((((0 + KC.c x) : Nat) ≤ (KC.c x)) ∧ (∀ y : Nat, (((y : Nat) < 1) → True)))) ∧ (∀ c_1 : Nat, (∃ x' : KC, ((((((2 * KC.k x') : Nat) ≤ n) ∧ (((KC.k x') : Nat) ≤ (KC.c x'))) ∧ ((((SV.v (Value.int IntKind.i64 (IntKind.wrap IntKind.i64 ((↑(2 * KC.k x) : Int) + 2)))) = (SV.v (Value.int IntKind.i64 ((↑(2 * KC.k x') : Int))))) ∧ ((SV.sl 272 4 0 (KC.k x + 1) (KC.k x + 1 + c_1)) = (SV.sl 272 4 0 (KC.k x') (KC.c x')))) ∧ ((((KC.k x + 1) : Nat) = (KC.k x')) ∧ ((((KC.c x') : Nat) ≤ (KC.k x + 1 + c_1)) ∧ (∀ i : Nat, (((i : Nat) < (KC.k x')) → ([(SV.v (Value.int IntKind.i64 (bop (Nat.blt i (KC.k x)) (NB.v (VB.x (pairV g (0 + i)))) (NB.v (VB.x (kitV (g (0 + Int.toNat (↑(2 * KC.k x) : Int))) (g (0 + Int.toNat (IntKind.wrap IntKind.i64 ((↑(2 * KC.k x) : Int) + 1)))) 1000000)))))), (SV.v (Value.bool (bop (Nat.blt i (KC.k x)) (NB.f (VB.x (pairV g (0 + i)))) (NB.f (VB.x (kitV (g (0 + Int.toNat (↑(2 * KC.k x) : Int))) (g (0 + Int.toNat (IntKind.wrap IntKind.i64 ((↑(2 * KC.k x) : Int) + 1)))) 1000000)))))), (SV.v (Value.int IntKind.i64 (bop (Nat.blt i (KC.k x)) (NB.v (VB.y (pairV g (0 + i)))) (NB.v (VB.y (kitV (g (0 + Int.toNat (↑(2 * KC.k x) : Int))) (g (0 + Int.toNat (IntKind.wrap IntKind.i64 ((↑(2 * KC.k x) : Int) + 1)))) 1000000)))))), (SV.v (Value.bool (bop (Nat.blt i (KC.k x)) (NB.f (VB.y (pairV g (0 + i)))) (NB.f (VB.y (kitV (g (0 + Int.toNat (↑(2 * KC.k x) : Int))) (g (0 + Int.toNat (IntKind.wrap IntKind.i64 ((↑(2 * KC.k x) : Int) + 1)))) 1000000))))))] = [(SV.v (Value.int IntKind.i64 (NB.v (VB.x (pairV g i))))), (SV.v (Value.bool false)), (SV.v (Value.int IntKind.i64 (NB.v (VB.y (pairV g i))))), (SV.v (Value.bool false))]))))))) ∧ (((n - 2 * KC.k x') : Nat) < (n - 2 * KC.k x))))))))) ((∃ x_1 : KC, (((((KC.k x_1) : Nat) ≤ (n / 2)) ∧ (((KC.k x_1) : Nat) ≤ (KC.c x_1))) ∧ ((((SV.v (Value.int IntKind.i64 (IntKind.wrap IntKind.i64 ((↑(KC.k x) : Int) - 1)))) = (SV.v (Value.int IntKind.i64 ((↑(n / 2) : Int) - 1 - (↑(KC.k x_1) : Int))))) ∧ (((SV.v (Value.slice none 0 0)) = (SV.v (Value.slice none 0 0))) ∧ (((0 : Nat) = 0) ∧ ((((KC.k x_1) : Nat) = 0) ∧ (((KC.c x_1) : Nat) = 0))))) ∧ (((((KC.k x_1) : Nat) = 0) ∧ ((((KC.c x_1) : Nat) = 0) ∧ True)) ∧ True)))) ∧ (∀ x_1 : KC, (((((KC.k x_1) : Nat) ≤ (n / 2)) ∧ (((KC.k x_1) : Nat) ≤ (KC.c x_1))) → 
(sel (decide ((↑(n / 2) : Int) - 1 - (↑(KC.k x_1) : Int) ≥ 0)) ((((0 : Int) ≤ ((↑(n / 2) : Int) - 1 - (↑(KC.k x_1) : Int))) ∧ ((((↑(n / 2) : Int) - 1 - (↑(KC.k x_1) : Int)) : Int) < ((↑(KC.k x) : Int)))) ∧ ((((((KC.k x_1 + 1) * 32) : Nat) ≤ 140737488355328) ∧ ((((0 + KC.c x_1) : Nat) ≤ (KC.c x_1)) ∧ (∀ y : Nat, (((y : Nat) < 1) → True)))) ∧ (∀ c_1 : Nat, ((((0 : Int) ≤ ((↑(n / 2) : Int) - 1 - (↑(KC.k x_1) : Int))) ∧ ((((↑(n / 2) : Int) - 1 - (↑(KC.k x_1) : Int)) : Int) < ((↑(KC.k x) : Int)))) ∧ ((((I64 (NB.v (VB.x (pairV g (0 + Int.toNat ((↑(n / 2) : Int) - 1 - (↑(KC.k x_1) : Int))))))) ∧ (I64 (NB.v (VB.y (pairV g (0 + Int.toNat ((↑(n / 2) : Int) - 1 - (↑(KC.k x_1) : Int)))))))) ∧ ((I64 (NB.v (VB.x (pairV g (0 + Int.toNat ((↑(n / 2) : Int) - 1 - (↑(KC.k x_1) : Int))))))) ∧ (I64 (NB.v (VB.y (pairV g (0 + Int.toNat ((↑(n / 2) : Int) - 1 - (↑(KC.k x_1) : Int))))))))) ∧ 
(sel (NB.v (crsV (pairV g (0 + Int.toNat ((↑(n / 2) : Int) - 1 - (↑(KC.k x_1) : Int)))) (pairV g (0 + Int.toNat ((↑(n / 2) : Int) - 1 - (↑(KC.k x_1) : Int))))) != 0) (R (SV.v (Value.bool false))) (((I64 (NB.v (VB.x (pairV g (0 + Int.toNat ((↑(n / 2) : Int) - 1 - (↑(KC.k x_1) : Int))))))) ∧ (I64 (NB.v (VB.y (pairV g (0 + Int.toNat ((↑(n / 2) : Int) - 1 - (↑(KC.k x_1) : Int)))))))) ∧ ((((I64 (NB.v (VB.x (pairV g (0 + Int.toNat ((↑(n / 2) : Int) - 1 - (↑(KC.k x_1) : Int))))))) ∧ (I64 (NB.v (VB.y (pairV g (0 + Int.toNat ((↑(n / 2) : Int) - 1 - (↑(KC.k x_1) : Int)))))))) ∧ ((I64 (NB.v (VB.x (perpV (pairV g (0 + Int.toNat ((↑(n / 2) : Int) - 1 - (↑(KC.k x_1) : Int)))))))) ∧ (I64 (NB.v (VB.y (perpV (pairV g (0 + Int.toNat ((↑(n / 2) : Int) - 1 - (↑(KC.k x_1) : Int)))))))))) ∧ 
(sel (NB.v (dotV (pairV g (0 + Int.toNat ((↑(n / 2) : Int) - 1 - (↑(KC.k x_1) : Int)))) (perpV (pairV g (0 + Int.toNat ((↑(n / 2) : Int) - 1 - (↑(KC.k x_1) : Int)))))) != 0) (R (SV.v (Value.bool false))) ((((0 : Int) ≤ 0) ∧ ((0 : Int) < ((↑(KC.k x) : Int)))) ∧ ((((I64 (NB.v (VB.x (pairV g 0)))) ∧ (I64 (NB.v (VB.y (pairV g 0))))) ∧ ((I64 (NB.v (VB.x (pairV g (0 + Int.toNat ((↑(n / 2) : Int) - 1 - (↑(KC.k x_1) : Int))))))) ∧ (I64 (NB.v (VB.y (pairV g (0 + Int.toNat ((↑(n / 2) : Int) - 1 - (↑(KC.k x_1) : Int))))))))) ∧ ((((isVI [SV.v (Value.int IntKind.i64 (NB.v (VB.x (pairV g 0)))), SV.v (Value.bool false), SV.v (Value.int IntKind.i64 (NB.v (VB.y (pairV g 0)))), SV.v (Value.bool false)]) ∧ ((isVI [SV.v (Value.int IntKind.i64 (IntKind.wrap IntKind.i64 (0 - NB.v (VB.x (pairV g (0 + Int.toNat ((↑(n / 2) : Int) - 1 - (↑(KC.k x_1) : Int)))))))), SV.v (Value.bool false), SV.v (Value.int IntKind.i64 (IntKind.wrap IntKind.i64 (0 - NB.v (VB.y (pairV g (0 + Int.toNat ((↑(n / 2) : Int) - 1 - (↑(KC.k x_1) : Int)))))))), SV.v (Value.bool false)]) ∧ True)) ∧ (((2 : Nat) = 2) ∧ ((2 : Nat) < 1099511627776))) ∧ 
(sel (!(NB.v (VB.x (subV (pairV g 0) (pairV g (0 + Int.toNat ((↑(n / 2) : Int) - 1 - (↑(KC.k x_1) : Int)))))) == NB.v (VB.x (addL 2 fun i => rV [SV.v (Value.int IntKind.i64 (bop (Nat.beq (0 + i) 0) (NB.v (VB.x (pairV g 0))) (IntKind.wrap IntKind.i64 (0 - NB.v (VB.x (pairV g (0 + Int.toNat ((↑(n / 2) : Int) - 1 - (↑(KC.k x_1) : Int))))))))), SV.v (Value.bool (bop (Nat.beq (0 + i) 0) (NB.f (VB.x (pairV g 0))) false)), SV.v (Value.int IntKind.i64 (bop (Nat.beq (0 + i) 0) (NB.v (VB.y (pairV g 0))) (IntKind.wrap IntKind.i64 (0 - NB.v (VB.y (pairV g (0 + Int.toNat ((↑(n / 2) : Int) - 1 - (↑(KC.k x_1) : Int))))))))), SV.v (Value.bool (bop (Nat.beq (0 + i) 0) (NB.f (VB.y (pairV g 0))) false))])) && NB.f (VB.x (subV (pairV g 0) (pairV g (0 + Int.toNat ((↑(n / 2) : Int) - 1 - (↑(KC.k x_1) : Int)))))) == NB.f (VB.x (addL 2 fun i => rV [SV.v (Value.int IntKind.i64 (bop (Nat.beq (0 + i) 0) (NB.v (VB.x (pairV g 0))) (IntKind.wrap IntKind.i64 (0 - NB.v (VB.x (pairV g (0 + Int.toNat ((↑(n / 2) : Int) - 1 - (↑(KC.k x_1) : Int))))))))), SV.v (Value.bool (bop (Nat.beq (0 + i) 0) (NB.f (VB.x (pairV g 0))) false)), SV.v (Value.int IntKind.i64 (bop (Nat.beq (0 + i) 0) (NB.v (VB.y (pairV g 0))) (IntKind.wrap IntKind.i64 (0 - NB.v (VB.y (pairV g (0 + Int.toNat ((↑(n / 2) : Int) - 1 - (↑(KC.k x_1) : Int))))))))), SV.v (Value.bool (bop (Nat.beq (0 + i) 0) (NB.f (VB.y (pairV g 0))) false))])) && (NB.v (VB.y (subV (pairV g 0) (pairV g (0 + Int.toNat ((↑(n / 2) : Int) - 1 - (↑(KC.k x_1) : Int)))))) == NB.v (VB.y (addL 2 fun i => rV [SV.v (Value.int IntKind.i64 (bop (Nat.beq (0 + i) 0) (NB.v (VB.x (pairV g 0))) (IntKind.wrap IntKind.i64 (0 - NB.v (VB.x (pairV g (0 + Int.toNat ((↑(n / 2) : Int) - 1 - (↑(KC.k x_1) : Int))))))))), SV.v (Value.bool (bop (Nat.beq (0 + i) 0) (NB.f (VB.x (pairV g 0))) false)), SV.v (Value.int IntKind.i64 (bop (Nat.beq (0 + i) 0) (NB.v (VB.y (pairV g 0))) (IntKind.wrap IntKind.i64 (0 - NB.v (VB.y (pairV g (0 + Int.toNat ((↑(n / 2) : Int) - 1 - (↑(KC.k x_1) : Int))))))))), SV.v (Value.bool (bop (Nat.beq (0 + i) 0) (NB.f (VB.y (pairV g 0))) false))])) && NB.f (VB.y (subV (pairV g 0) (pairV g (0 + Int.toNat ((↑(n / 2) : Int) - 1 - (↑(KC.k x_1) : Int)))))) == NB.f (VB.y (addL 2 fun i => rV [SV.v (Value.int IntKind.i64 (bop (Nat.beq (0 + i) 0) (NB.v (VB.x (pairV g 0))) (IntKind.wrap IntKind.i64 (0 - NB.v (VB.x (pairV g (0 + Int.toNat ((↑(n / 2) : Int) - 1 - (↑(KC.k x_1) : Int))))))))), SV.v (Value.bool (bop (Nat.beq (0 + i) 0) (NB.f (VB.x (pairV g 0))) false)), SV.v (Value.int IntKind.i64 (bop (Nat.beq (0 + i) 0) (NB.v (VB.y (pairV g 0))) (IntKind.wrap IntKind.i64 (0 - NB.v (VB.y (pairV g (0 + Int.toNat ((↑(n / 2) : Int) - 1 - (↑(KC.k x_1) : Int))))))))), SV.v (Value.bool (bop (Nat.beq (0 + i) 0) (NB.f (VB.y (pairV g 0))) false))]))))) (R (SV.v (Value.bool false))) (∃ x' : KC, ((((((KC.k x') : Nat) ≤ (n / 2)) ∧ (((KC.k x') : Nat) ≤ (KC.c x'))) ∧ ((((SV.v (Value.int IntKind.i64 (IntKind.wrap IntKind.i64 ((↑(n / 2) : Int) - 1 - (↑(KC.k x_1) : Int) - 1)))) = (SV.v (Value.int IntKind.i64 ((↑(n / 2) : Int) - 1 - (↑(KC.k x') : Int))))) ∧ ((SV.sl 408 4 0 (KC.k x_1 + 1) (KC.k x_1 + 1 + c_1)) = (SV.sl 408 4 0 (KC.k x') (KC.c x')))) ∧ ((((KC.k x_1 + 1) : Nat) = (KC.k x')) ∧ ((((KC.c x') : Nat) ≤ (KC.k x_1 + 1 + c_1)) ∧ (∀ i : Nat, (((i : Nat) < (KC.k x')) → ([(SV.v (Value.int IntKind.i64 (bop (Nat.blt i (KC.k x_1)) (NB.v (VB.x (pairV g (n / 2 - 1 - (0 + i))))) (NB.v (VB.x (pairV g (0 + Int.toNat ((↑(n / 2) : Int) - 1 - (↑(KC.k x_1) : Int))))))))), (SV.v (Value.bool (bop (Nat.blt i (KC.k x_1)) (NB.f (VB.x (pairV g (n / 2 - 1 - (0 + i))))) (NB.f (VB.x (pairV g (0 + Int.toNat ((↑(n / 2) : Int) - 1 - (↑(KC.k x_1) : Int))))))))), (SV.v (Value.int IntKind.i64 (bop (Nat.blt i (KC.k x_1)) (NB.v (VB.y (pairV g (n / 2 - 1 - (0 + i))))) (NB.v (VB.y (pairV g (0 + Int.toNat ((↑(n / 2) : Int) - 1 - (↑(KC.k x_1) : Int))))))))), (SV.v (Value.bool (bop (Nat.blt i (KC.k x_1)) (NB.f (VB.y (pairV g (n / 2 - 1 - (0 + i))))) (NB.f (VB.y (pairV g (0 + Int.toNat ((↑(n / 2) : Int) - 1 - (↑(KC.k x_1) : Int)))))))))] = [(SV.v (Value.int IntKind.i64 (NB.v (VB.x (pairV g (n / 2 - 1 - i)))))), (SV.v (Value.bool false)), (SV.v (Value.int IntKind.i64 (NB.v (VB.y (pairV g (n / 2 - 1 - i)))))), (SV.v (Value.bool false))]))))))) ∧ (((n / 2 - KC.k x') : Nat) < (n / 2 - KC.k x_1))))))))))))))))) (((okAll isVI (rowsOf (KC.k x) fun y => [SV.v (Value.int IntKind.i64 (NB.v (VB.x (pairV g (0 + y))))), SV.v (Value.bool false), SV.v (Value.int IntKind.i64 (NB.v (VB.y (pairV g (0 + y))))), SV.v (Value.bool false)])) ∧ ((((KC.k x) : Nat) = (KC.k x)) ∧ (((KC.k x) : Nat) < 1099511627776))) ∧ (((okAll isVI (rowsOf (KC.k x_1) fun y => [SV.v (Value.int IntKind.i64 (NB.v (VB.x ((fun i => pairV g (n / 2 - 1 - i)) (0 + y))))), SV.v (Value.bool false), SV.v (Value.int IntKind.i64 (NB.v (VB.y ((fun i => pairV g (n / 2 - 1 - i)) (0 + y))))), SV.v (Value.bool false)])) ∧ ((((KC.k x_1) : Nat) = (KC.k x_1)) ∧ (((KC.k x_1) : Nat) < 1099511627776))) ∧ 
(sel (NB.v (VB.x (addL (KC.k x) fun i => rV [SV.v (Value.int IntKind.i64 (NB.v (VB.x (pairV g (0 + i))))), SV.v (Value.bool false), SV.v (Value.int IntKind.i64 (NB.v (VB.y (pairV g (0 + i))))), SV.v (Value.bool false)])) == NB.v (VB.x (addL (KC.k x_1) fun i => rV [SV.v (Value.int IntKind.i64 (NB.v (VB.x ((fun i => pairV g (n / 2 - 1 - i)) (0 + i))))), SV.v (Value.bool false), SV.v (Value.int IntKind.i64 (NB.v (VB.y ((fun i => pairV g (n / 2 - 1 - i)) (0 + i))))), SV.v (Value.bool false)])) && NB.f (VB.x (addL (KC.k x) fun i => rV [SV.v (Value.int IntKind.i64 (NB.v (VB.x (pairV g (0 + i))))), SV.v (Value.bool false), SV.v (Value.int IntKind.i64 (NB.v (VB.y (pairV g (0 + i))))), SV.v (Value.bool false)])) == NB.f (VB.x (addL (KC.k x_1) fun i => rV [SV.v (Value.int IntKind.i64 (NB.v (VB.x ((fun i => pairV g (n / 2 - 1 - i)) (0 + i))))), SV.v (Value.bool false), SV.v (Value.int IntKind.i64 (NB.v (VB.y ((fun i => pairV g (n / 2 - 1 - i)) (0 + i))))), SV.v (Value.bool false)])) && (NB.v (VB.y (addL (KC.k x) fun i => rV [SV.v (Value.int IntKind.i64 (NB.v (VB.x (pairV g (0 + i))))), SV.v (Value.bool false), SV.v (Value.int IntKind.i64 (NB.v (VB.y (pairV g (0 + i))))), SV.v (Value.bool false)])) == NB.v (VB.y (addL (KC.k x_1) fun i => rV [SV.v (Value.int IntKind.i64 (NB.v (VB.x ((fun i => pairV g (n / 2 - 1 - i)) (0 + i))))), SV.v (Value.bool false), SV.v (Value.int IntKind.i64 (NB.v (VB.y ((fun i => pairV g (n / 2 - 1 - i)) (0 + i))))), SV.v (Value.bool false)])) && NB.f (VB.y (addL (KC.k x) fun i => rV [SV.v (Value.int IntKind.i64 (NB.v (VB.x (pairV g (0 + i))))), SV.v (Value.bool false), SV.v (Value.int IntKind.i64 (NB.v (VB.y (pairV g (0 + i))))), SV.v (Value.bool false)])) == NB.f (VB.y (addL (KC.k x_1) fun i => rV [SV.v (Value.int IntKind.i64 (NB.v (VB.x ((fun i => pairV g (n / 2 - 1 - i)) (0 + i))))), SV.v (Value.bool false), SV.v (Value.int IntKind.i64 (NB.v (VB.y ((fun i => pairV g (n / 2 - 1 - i)) (0 + i))))), SV.v (Value.bool false)])))) (R (SV.v (Value.bool true))) (R (SV.v (Value.bool false))))))))))))))) := by kernel_rfl
theorem selX {b : Bool} {x y : Prop} (h : b = true) (hx : x) : sel b x y := by subst h; exact hx
theorem selY {b : Bool} {x y : Prop} (h : b = false) (hy : y) : sel b x y := by subst h; exact hy
theorem pair_in (g : Nat → Int) (k : Nat) : (-4294967296000000 < (pairV g k).x.v ∧ (pairV g k).x.v < 4294967296000000) ∧ -4294967296000000 < (pairV g k).y.v ∧ (pairV g k).y.v < 4294967296000000 := by
  have key : ∀ a : Int, -4294967296000000 < (kitK a 1000000).v ∧ (kitK a 1000000).v < 4294967296000000 := fun a => by
    show -4294967296000000 < Int.tmod a 4294967296000000 ∧ Int.tmod a 4294967296000000 < 4294967296000000
    have h := Int.natAbs_tmod a 4294967296000000
    have h1 : a.natAbs % (4294967296000000 : Int).natAbs < (4294967296000000 : Int).natAbs := Nat.mod_lt _ (by decide)
    omega
  exact ⟨key _, key _⟩
theorem pair_sd (g : Nat → Int) (k : Nat) : Sd (pairV g k).x.v ∧ Sd (pairV g k).y.v := by
  obtain ⟨⟨_, _⟩, _, _⟩ := pair_in g k
  exact ⟨⟨by omega, by omega⟩, by omega, by omega⟩
theorem pair_i (g : Nat → Int) (k : Nat) : I64 (pairV g k).x.v ∧ I64 (pairV g k).y.v := ⟨(pair_sd g k).1.i64, (pair_sd g k).2.i64⟩
theorem crs_self {v : VB} (hx : Sd v.x.v) (hy : Sd v.y.v) : (crsV v v).v = 0 := by
  show fitE (dotE (sndV v.x.v) (sndV v.y.v) (sndV (-sndV v.y.v)) (sndV v.x.v)) = 0
  rw [hx.self, hy.self, (neg_sd hy).self]
  unfold dotE
  rw [show v.x.v * v.y.v + -v.y.v * v.x.v = 0 by rw [Int.neg_mul, Int.mul_comm v.y.v]; omega]; rfl
theorem dot_perp {v : VB} (hx : Sd v.x.v) (hy : Sd v.y.v) : (dotV v (perpV v)).v = 0 := by
  show fitE (dotE (sndV v.x.v) (sndV (-sndV v.y.v)) (sndV v.y.v) (sndV (fitE (sndV v.x.v + 0)))) = 0
  rw [hx.self, hy.self, (neg_sd hy).self, Int.add_zero, fitE_self hx, hx.self]
  unfold dotE
  rw [show v.x.v * -v.y.v + v.y.v * v.x.v = 0 by rw [Int.mul_neg, Int.mul_comm v.y.v]; omega]; rfl
theorem add2_sub (u v : VB) (hu : Sd u.x.v ∧ Sd u.y.v) (hv : Sd v.x.v ∧ Sd v.y.v) (fu : u.x.f = false ∧ u.y.f = false) (fv : v.x.f = false ∧ v.y.f = false) : (addL 2 fun i => rV [SV.v (.int .i64 (bop (Nat.beq (0 + i) 0) u.x.v (IntKind.i64.wrap (0 - v.x.v)))), SV.v (.bool (bop (Nat.beq (0 + i) 0) u.x.f false)), SV.v (.int .i64 (bop (Nat.beq (0 + i) 0) u.y.v (IntKind.i64.wrap (0 - v.y.v)))), SV.v (.bool (bop (Nat.beq (0 + i) 0) u.y.f false))]) = subV u v := by
  show (⟨⟨fitE (sndV u.x.v + (sndV (IntKind.i64.wrap (0 - v.x.v)) + 0)), fitG (sndV u.x.v + (sndV (IntKind.i64.wrap (0 - v.x.v)) + 0)) (sndF u.x.v u.x.f || (sndF (IntKind.i64.wrap (0 - v.x.v)) false || false))⟩,
    ⟨fitE (sndV u.y.v + (sndV (IntKind.i64.wrap (0 - v.y.v)) + 0)), fitG (sndV u.y.v + (sndV (IntKind.i64.wrap (0 - v.y.v)) + 0)) (sndF u.y.v u.y.f || (sndF (IntKind.i64.wrap (0 - v.y.v)) false || false))⟩⟩ : VB)
    = ⟨⟨fitE (sndV u.x.v - sndV v.x.v), fitG (sndV u.x.v - sndV v.x.v) (sndF u.x.v u.x.f || sndF v.x.v v.x.f)⟩, ⟨fitE (sndV u.y.v - sndV v.y.v), fitG (sndV u.y.v - sndV v.y.v) (sndF u.y.v u.y.f || sndF v.y.v v.y.f)⟩⟩
  have w : ∀ {a : Int}, Sd a → IntKind.i64.wrap (0 - a) = -a := fun {a} h => by obtain ⟨_, _⟩ := h; rw [wrap_i64 ⟨by omega, by omega⟩]; omega
  rw [w hv.1, w hv.2, hu.1.self, hu.2.self, (neg_sd hv.1).self, (neg_sd hv.2).self, hv.1.self, hv.2.self, hu.1.flag, hu.2.flag, (neg_sd hv.1).flag, (neg_sd hv.2).flag, hv.1.flag, hv.2.flag, fu.1, fu.2, fv.1, fv.2, show u.x.v + (-v.x.v + 0) = u.x.v - v.x.v by omega, show u.y.v + (-v.y.v + 0) = u.y.v - v.y.v by omega]
  rfl
theorem sumG_rev : ∀ l : List (List SV), sumG l.reverse = sumG l
  | [] => rfl
  | r :: t => by rw [List.reverse_cons, sumG_append, sumG_rev t]; simp [sumG]; omega
theorem anyG_rev : ∀ l : List (List SV), anyG l.reverse = anyG l
  | [] => rfl
  | r :: t => by rw [List.reverse_cons, anyG_append, anyG_rev t]; simp [anyG, Bool.or_comm]
theorem rows_rev (m : Nat) (f : Nat → List SV) : (rowsOf m fun i => f (m - 1 - i)) = (rowsOf m f).reverse := by
  apply List.ext_getElem?
  intro i
  have hl : (rowsOf m f).length = m := by simp [rowsOf]
  by_cases h : i < m
  · rw [List.getElem?_reverse (by omega), rowsOf_get, rowsOf_get, if_pos h, hl, if_pos (by omega)]
  · rw [rowsOf_get, if_neg h, List.getElem?_eq_none (by simp [hl]; omega)]
theorem sumL_rev (m : Nat) (f : Nat → List SV) : sumL (rowsOf m fun i => f (m - 1 - i)) = sumL (rowsOf m f) := by
  rw [rows_rev]
  unfold sumL
  rw [sumG_rev, anyG_rev]
theorem addL_rev (m : Nat) (V : Nat → VB) : (addL m fun i => V (m - 1 - i)) = addL m V := by
  unfold addL
  rw [sumL_rev m fun i => nR (V i).x, sumL_rev m fun i => nR (V i).y]
theorem vrow (V : Nat → VB) (hf : ∀ i, (V i).x.f = false ∧ (V i).y.f = false) {k i : Nat} (h : i < k + 1) : [SV.v (.int .i64 (bop (Nat.blt i k) (V i).x.v (V k).x.v)), SV.v (.bool (bop (Nat.blt i k) (V i).x.f (V k).x.f)), SV.v (.int .i64 (bop (Nat.blt i k) (V i).y.v (V k).y.v)), SV.v (.bool (bop (Nat.blt i k) (V i).y.f (V k).y.f))] = [SV.v (.int .i64 (V i).x.v), SV.v (.bool false), SV.v (.int .i64 (V i).y.v), SV.v (.bool false)] := by
  by_cases h' : i < k
  · rw [show Nat.blt i k = true from Nat.ble_eq_true_of_le h']
    show [SV.v (.int .i64 (V i).x.v), SV.v (.bool (V i).x.f), SV.v (.int .i64 (V i).y.v), SV.v (.bool (V i).y.f)] = _
    rw [(hf i).1, (hf i).2]
  · obtain rfl : i = k := by omega
    rw [show Nat.blt i i = false from by cases hb : Nat.blt i i with | false => rfl | true => exact absurd (Nat.le_of_ble_eq_true hb) h']
    show [SV.v (.int .i64 (V i).x.v), SV.v (.bool (V i).x.f), SV.v (.int .i64 (V i).y.v), SV.v (.bool (V i).y.f)] = _
    rw [(hf i).1, (hf i).2]
theorem pair_fun (g : Nat → Int) (p : Nat → Nat) : (fun i => rV [SV.v (.int .i64 (pairV g (p (0 + i))).x.v), SV.v (.bool false), SV.v (.int .i64 (pairV g (p (0 + i))).y.v), SV.v (.bool false)]) = fun i => pairV g (p i) := funext fun i => by rw [Nat.zero_add]; rfl
theorem sumsL_vc {n c : Nat} {g : Nat → Int} : vcFn Try.prog ΓG (ΛSums n g) Try.f10 [.sl 0 1 0 n c] (roHeap [⟨1, n, rowsI g⟩]) 64 (fun y _ => y = .v (.bool true)) := by
  refine Eq.mpr (vcSumsL n n c g _) ?_
  refine sel_of (fun _ => rfl) fun hle => ?_
  have hle := of_decide_eq_false hle
  refine ⟨⟨⟨0, 0⟩, ⟨Nat.zero_le _, Nat.le_refl _⟩, ⟨rfl, rfl, rfl, rfl, rfl⟩, ⟨rfl, rfl, trivial⟩, trivial⟩, fun ⟨k, cc⟩ ⟨x1, x2⟩ => ?_⟩
  have x1 : 2 * k ≤ n := x1
  have x2 : k ≤ cc := x2
  simp only
  have w1 : IntKind.i64.wrap (((2 * k : Nat) : Int) + 1) = ((2 * k + 1 : Nat) : Int) := by rw [wrap_i64 ⟨by omega, by omega⟩]; omega
  rw [w1]
  refine sel_of (fun e => ?_) fun e => ?_
  · have e := of_decide_eq_true e
    refine ⟨⟨by omega, by omega⟩, ⟨by omega, by omega⟩, ⟨by decide, by decide⟩, ⟨by omega, by omega, fun _ _ => trivial⟩, fun c1 => ⟨⟨k + 1, k + 1 + c1⟩, ⟨⟨by show 2 * (k + 1) ≤ n; omega, Nat.le_add_right _ _⟩, ⟨int_mk ?_, rfl⟩, rfl, Nat.le_refl _, fun i hi => ?_⟩, by show n - 2 * (k + 1) < n - 2 * k; omega⟩⟩
    · show IntKind.i64.wrap (((2 * k : Nat) : Int) + 2) = ((2 * (k + 1) : Nat) : Int)
      rw [wrap_i64 ⟨by omega, by omega⟩]; omega
    · simp only [Nat.zero_add, Int.toNat_natCast]
      exact vrow (pairV g) (fun i => ⟨rfl, rfl⟩) hi
  · have e := of_decide_eq_false e
    obtain rfl : k = n / 2 := by omega
    refine ⟨⟨⟨0, 0⟩, ⟨Nat.zero_le _, Nat.le_refl _⟩, ⟨int_mk (by rw [wrap_i64 ⟨by omega, by omega⟩]; show _ = ((n / 2 : Nat) : Int) - 1 - ((0 : Nat) : Int); omega), by trivial, by trivial, by trivial, by trivial⟩, ⟨by trivial, by trivial, by trivial⟩, by trivial⟩, fun ⟨j, d⟩ ⟨y1, y2⟩ => ?_⟩
    have y1 : j ≤ n / 2 := y1
    have y2 : j ≤ d := y2
    simp only
    refine sel_of (fun e' => ?_) fun e' => ?_
    · have e' := of_decide_eq_true e'
      have hI : 0 + Int.toNat (((n / 2 : Nat) : Int) - 1 - (j : Int)) = n / 2 - 1 - j := by omega
      simp only [hI]
      have s0 := pair_sd g 0
      have sj := pair_sd g (n / 2 - 1 - j)
      have i0 := pair_i g 0
      have ij := pair_i g (n / 2 - 1 - j)
      have hA := add2_sub (pairV g 0) (pairV g (n / 2 - 1 - j)) s0 sj ⟨rfl, rfl⟩ ⟨rfl, rfl⟩
      refine ⟨⟨by omega, by omega⟩, ⟨by omega, by omega, fun _ _ => trivial⟩, fun c1 => ⟨⟨by omega, by omega⟩, ⟨ij, ij⟩, selY (by rw [crs_self sj.1 sj.2]; rfl) ⟨ij, ⟨ij, perp_ix ij.2, perp_iy _⟩, selY (by rw [dot_perp sj.1 sj.2]; rfl) ⟨⟨by omega, by omega⟩, ⟨i0, ij⟩, ⟨⟨i0, ⟨?_, ?_⟩, trivial⟩, by trivial, by decide⟩, selY (by rw [hA]; simp only [beq_self_eq_true, Bool.and_self, Bool.not_true]) ⟨⟨j + 1, j + 1 + c1⟩, ⟨⟨by show j + 1 ≤ n / 2; omega, Nat.le_add_right _ _⟩, ⟨int_mk ?_, rfl⟩, rfl, Nat.le_refl _, fun i hi => ?_⟩, by show n / 2 - (j + 1) < n / 2 - j; omega⟩⟩⟩⟩⟩
      · obtain ⟨_, _⟩ := sj.1; rw [wrap_i64 ⟨by omega, by omega⟩]; exact ⟨by omega, by omega⟩
      · obtain ⟨_, _⟩ := sj.2; rw [wrap_i64 ⟨by omega, by omega⟩]; exact ⟨by omega, by omega⟩
      · show IntKind.i64.wrap (((n / 2 : Nat) : Int) - 1 - (j : Int) - 1) = ((n / 2 : Nat) : Int) - 1 - ((j + 1 : Nat) : Int)
        rw [wrap_i64 ⟨by omega, by omega⟩]; omega
      · simp only [Nat.zero_add]
        exact vrow (fun i => pairV g (n / 2 - 1 - i)) (fun i => ⟨rfl, rfl⟩) hi
    · have e' := of_decide_eq_false e'
      obtain rfl : j = n / 2 := by omega
      have p1 := pair_fun g fun i => i
      have p2 := pair_fun g fun i => n / 2 - 1 - i
      rw [p1, p2, addL_rev (n / 2) (pairV g)]
      exact ⟨⟨okAll_rows.2 fun i _ => pair_i g _, by trivial, by omega⟩, ⟨okAll_rows.2 fun i _ => pair_i g _, by trivial, by omega⟩, selX (by simp only [beq_self_eq_true, Bool.and_self]) (by trivial)⟩
theorem SumsL_spec : RoSpec Try.prog 10 sSumsL := ro_spec hm ΓG_ok Try.func10 (Λ := fun args bs => match args, bs with | [.sl 0 1 0 n _], [⟨1, _, row⟩] => ΛSums n (fun i => rowI (row i)) | _, _ => noΛ) fun args bs p x h hp => by
  unfold sSumsL at h
  split at h <;> try (cases h; done)
  rename_i n c n' row
  cases h
  obtain ⟨h0, rfl⟩ := hp _ rfl
  have h0 := okAll_rows.1 h0
  exact ⟨rfl, [⟨1, n', rowsI fun i => rowI (row i)⟩], ⟨⟨rfl, rfl, fun i hi => isI_row (h0 i hi)⟩, trivial⟩, sumsL_vc⟩
end Go.Proofs.Ytheljpebapokjaa
