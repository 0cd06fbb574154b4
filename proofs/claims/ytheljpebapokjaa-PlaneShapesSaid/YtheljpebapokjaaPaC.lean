/-
  Contracts: sums of vectors, flagged vectors.
-/
import Derived.Test.YtheljpebapokjaaPaB
import Derived.Test.YtheljpebapokjaaFyQ
set_option maxRecDepth 100000
set_option linter.unusedSimpArgs false
namespace Go.Proofs.Ytheljpebapokjaa
open Go.SE Go.RowKit

def rX (r : List SV) : NB := match r with | [.v (.int _ a), .v (.bool f), _, _] => ⟨a, f⟩ | _ => ⟨0, false⟩
def rY (r : List SV) : NB := match r with | [_, _, .v (.int _ a), .v (.bool f)] => ⟨a, f⟩ | _ => ⟨0, false⟩
def rV (r : List SV) : VB := ⟨rX r, rY r⟩
def isVI : List SV → Prop
  | [.v (.int .i64 a), .v (.bool _), .v (.int .i64 b), .v (.bool _)] => I64 a ∧ I64 b
  | _ => False
def nR (a : NB) : List SV := [.v (.int .i64 a.v), .v (.bool a.f)]
def vR (a : VB) : List SV := [.v (.int .i64 a.x.v), .v (.bool a.x.f), .v (.int .i64 a.y.v), .v (.bool a.y.f)]
def sumL (l : List (List SV)) : NB := ⟨fitE (sumG l), fitG (sumG l) (anyG l)⟩
def addL (n : Nat) (g : Nat → VB) : VB := ⟨sumL (rowsOf n fun i => nR (g i).x), sumL (rowsOf n fun i => nR (g i).y)⟩
def badV (a : VB) : Bool := sndF a.x.v a.x.f || sndF a.y.v a.y.f
def anyV (n : Nat) (g : Nat → VB) : Bool := match n with
  | 0 => false
  | k + 1 => anyV k g || badV (g k)
def sAddL : List SV → List Ro → Option (Option Prop × SV)
  | [.sl 0 4 0 n _], [⟨4, n', row⟩] => some (some (okAll isVI (rowsOf n' row) ∧ n' = n ∧ n < 1099511627776), vS (addL n fun i => rV (row i)))
  | _, _ => none
def sFaultL : List SV → List Ro → Option (Option Prop × SV)
  | [.sl 0 4 0 n _], [⟨4, n', row⟩] => some (some (okAll isVI (rowsOf n' row) ∧ n' = n ∧ n < 1099511627776), .v (.bool (anyV n fun i => rV (row i))))
  | _, _ => none
def sFault1 : List SV → Option (Option Prop × SV)
  | [.agg [.v (.int .i64 a), .v (.bool f), .v (.int .i64 b), .v (.bool g)]] => some (some (I64 a ∧ I64 b), .v (.bool (badV ⟨⟨a, f⟩, ⟨b, g⟩⟩)))
  | _ => none
def sFlag1 : List SV → Option (Option Prop × SV)
  | [.agg [.v (.int .i64 a), .v (.bool f)]] => some (some (I64 a), .v (.bool (sndF a f)))
  | _ => none
/-- The first flagged one, from k on of n; -1. -/
def idxV (g : Nat → VB) : Nat → Nat → Int
  | 0, _ => -1
  | m + 1, k => bif badV (g k) then (k : Int) else idxV g m (k + 1)
def sIdx : List SV → List Ro → Option (Option Prop × SV)
  | [.sl 0 4 0 n _, .fn f []], [⟨4, n', row⟩] => bif Nat.beq f 109 then some (some (okAll isVI (rowsOf n' row) ∧ n' = n ∧ n < 1099511627776), .v (.int .i64 (idxV (fun i => rV (row i)) n 0))) else none
  | _, _ => none
def sContains : List SV → List Ro → Option (Option Prop × SV)
  | [.sl 0 4 0 n _, .fn f []], [⟨4, n', row⟩] => bif Nat.beq f 109 then some (some (okAll isVI (rowsOf n' row) ∧ n' = n ∧ n < 1099511627776), .v (.bool (anyV n fun i => rV (row i)))) else none
  | _, _ => none
def rowsV (g : Nat → VB) : Nat → List SV := fun i => vR (g i)
def blkN (n : Nat) (c : Nat) (g : Nat → NB) : Blk := { elem := 23, size := 2, rw := true, lock := false, lit := false, flat := true, n, row := fun i => nR (g i), ext := c }
noncomputable def ΛAdd (n : Nat) (g : Nat → VB) : Nat → Option LoopSpec := addPr (addLoop noΛ Try.f49 0 Nat (fun k => k ≤ n) (fun k => n - k) [(15, fun k => .v (.int .i64 k))] [(88, fun k => blkN n n fun i => if i < k then (g i).x else ⟨0, false⟩), (112, fun k => blkN n n fun i => if i < k then (g i).y else ⟨0, false⟩)]) 5 [(9, fun _ => 88), (11, fun _ => 112)]
structure KCD where
  k : Nat
  c : Nat
  d : Nat
noncomputable def ΛRAdd (n : Nat) (g : Nat → VB) : Nat → Option LoopSpec := addPrs (addLoopN noΛ Try.f54 0 KCD (fun x => x.k ≤ n ∧ x.k ≤ x.c ∧ x.k ≤ x.d) (fun x => n - x.k) [(5, fun x => .v (.int .i64 x.k)), (3, fun x => .sl 40 2 0 x.k x.c), (4, fun x => .sl 41 2 0 x.k x.d)] [] [(40, fun x => blkN x.k x.c fun i => (g i).x, inSlot 3), (41, fun x => blkN x.k x.d fun i => (g i).y, inSlot 4)]) 5 [(7, fun nx => [40, nx + 48]), (15, fun nx => [41, nx + 112])]
noncomputable def ΛIdx (n : Nat) (g : Nat → VB) : Nat → Option LoopSpec := addLoop noΛ Try.f149 0 Nat (fun k => k ≤ n ∧ idxV g (n - k) k = idxV g n 0) (fun k => n - k) [(8, fun k => .v (.int .i64 k))] []
noncomputable def ΛRFault (n : Nat) (g : Nat → VB) : Nat → Option LoopSpec := addLoop noΛ Try.f56 0 Nat (fun k => k ≤ n ∧ anyV k g = false) (fun k => n - k) [(3, fun k => .v (.int .i64 k))] []
theorem vcFault1 (a : VB) (R : SV → Prop) : (vcPure Try.prog ΓV2 noΛ Try.f109 [vS a] R) =
((I64 (NB.v (VB.x a))) ∧ 
(sel (NB.f (negN (VB.x a))) (R (SV.v (Value.bool true))) ((I64 (NB.v (VB.y a))) ∧ (R (SV.v (Value.bool (NB.f (negN (VB.y a))))))))) := by kernel_rfl
theorem vcFlag1 (a : NB) (R : SV → Prop) : (vcPure Try.prog ΓV2 noΛ Try.f110 [nS a] R) =
((((isNI [SV.v (Value.int IntKind.i64 (NB.v a)), SV.v (Value.bool (NB.f a))]) ∧ True) ∧ (((1 : Nat) = 1) ∧ ((1 : Nat) < 1099511627776))) ∧ (R (SV.v (Value.bool (fitG (sumG [[SV.v (Value.int IntKind.i64 (NB.v a)), SV.v (Value.bool (NB.f a))]]) (anyG [[SV.v (Value.int IntKind.i64 (NB.v a)), SV.v (Value.bool (NB.f a))]])))))) := by kernel_rfl
def ΓV3 : Ctrs := addCtr (addCtr ΓV2 109 (pureCtr sFault1)) 110 (pureCtr sFlag1)
theorem vcAdd2 (n n' c : Nat) (g : Nat → VB) (R : SV → Prop) : (vcFn Try.prog ΓV3 (ΛAdd n g) Try.f49 [.sl 0 4 0 n c] (roHeap [⟨4, n', rowsV g⟩]) 64 (fun y _ => R y)) =
((((0 : Int) ≤ ((↑n : Int))) ∧ (((((↑n : Int)) : Int) ≤ ((↑n : Int))) ∧ (((16 * (↑n : Int)) : Int) ≤ 140737488355328))) ∧ ((((0 : Int) ≤ ((↑n : Int))) ∧ (((((↑n : Int)) : Int) ≤ ((↑n : Int))) ∧ (((16 * (↑n : Int)) : Int) ≤ 140737488355328))) ∧ ((∃ x : Nat, ((Nat.le x n) ∧ (((SV.v (Value.int IntKind.i64 0)) = (SV.v (Value.int IntKind.i64 ((↑x : Int))))) ∧ (((((Int.toNat (↑n : Int)) : Nat) = n) ∧ (((n : Nat) ≤ (Int.toNat (↑n : Int))) ∧ (∀ i : Nat, (((i : Nat) < n) → ([(SV.v (Value.int IntKind.i64 0)), (SV.v (Value.bool false))] = [(SV.v (Value.int IntKind.i64 (NB.v (if i < x then VB.x (g i) else { v := 0, f := false })))), (SV.v (Value.bool (NB.f (if i < x then VB.x (g i) else { v := 0, f := false }))))]))))) ∧ ((((Int.toNat (↑n : Int)) : Nat) = n) ∧ (((n : Nat) ≤ (Int.toNat (↑n : Int))) ∧ (∀ i : Nat, (((i : Nat) < n) → ([(SV.v (Value.int IntKind.i64 0)), (SV.v (Value.bool false))] = [(SV.v (Value.int IntKind.i64 (NB.v (if i < x then VB.y (g i) else { v := 0, f := false })))), (SV.v (Value.bool (NB.f (if i < x then VB.y (g i) else { v := 0, f := false }))))]))))))))) ∧ (∀ x : Nat, ((Nat.le x n) → 
(sel (decide ((↑x : Int) < (↑n : Int))) ((((0 : Int) ≤ ((↑x : Int))) ∧ ((((↑x : Int)) : Int) < ((↑n : Int)))) ∧ ((((0 : Int) ≤ ((↑x : Int))) ∧ ((((↑x : Int)) : Int) < ((↑(Int.toNat (↑n : Int)) : Int)))) ∧ ((((0 : Int) ≤ ((↑x : Int))) ∧ ((((↑x : Int)) : Int) < ((↑(Int.toNat (↑n : Int)) : Int)))) ∧ (∃ x' : Nat, (((Nat.le x' n) ∧ (((SV.v (Value.int IntKind.i64 (IntKind.wrap IntKind.i64 ((↑x : Int) + 1)))) = (SV.v (Value.int IntKind.i64 ((↑x' : Int))))) ∧ ((((n : Nat) = n) ∧ (((n : Nat) ≤ n) ∧ (∀ i : Nat, (((i : Nat) < n) → ([(SV.v (Value.int IntKind.i64 (bop (Nat.beq i (0 + Int.toNat (↑x : Int))) (NB.v (VB.x (g (0 + Int.toNat (↑x : Int))))) (NB.v (if i < x then VB.x (g i) else { v := 0, f := false }))))), (SV.v (Value.bool (bop (Nat.beq i (0 + Int.toNat (↑x : Int))) (NB.f (VB.x (g (0 + Int.toNat (↑x : Int))))) (NB.f (if i < x then VB.x (g i) else { v := 0, f := false })))))] = [(SV.v (Value.int IntKind.i64 (NB.v (if i < x' then VB.x (g i) else { v := 0, f := false })))), (SV.v (Value.bool (NB.f (if i < x' then VB.x (g i) else { v := 0, f := false }))))]))))) ∧ (((n : Nat) = n) ∧ (((n : Nat) ≤ n) ∧ (∀ i : Nat, (((i : Nat) < n) → ([(SV.v (Value.int IntKind.i64 (bop (Nat.beq i (0 + Int.toNat (↑x : Int))) (NB.v (VB.y (g (0 + Int.toNat (↑x : Int))))) (NB.v (if i < x then VB.y (g i) else { v := 0, f := false }))))), (SV.v (Value.bool (bop (Nat.beq i (0 + Int.toNat (↑x : Int))) (NB.f (VB.y (g (0 + Int.toNat (↑x : Int))))) (NB.f (if i < x then VB.y (g i) else { v := 0, f := false })))))] = [(SV.v (Value.int IntKind.i64 (NB.v (if i < x' then VB.y (g i) else { v := 0, f := false })))), (SV.v (Value.bool (NB.f (if i < x' then VB.y (g i) else { v := 0, f := false }))))])))))))) ∧ (((n - x') : Nat) < (n - x))))))) (((okAll isNI (rowsOf (Int.toNat (↑n : Int)) fun y => [SV.v (Value.int IntKind.i64 (NB.v ((fun i => if i < x then VB.x (g i) else { v := 0, f := false }) (0 + y)))), SV.v (Value.bool (NB.f ((fun i => if i < x then VB.x (g i) else { v := 0, f := false }) (0 + y))))])) ∧ ((((Int.toNat (↑n : Int)) : Nat) = (Int.toNat (↑n : Int))) ∧ (((Int.toNat (↑n : Int)) : Nat) < 1099511627776))) ∧ (((okAll isNI (rowsOf (Int.toNat (↑n : Int)) fun y => [SV.v (Value.int IntKind.i64 (NB.v ((fun i => if i < x then VB.y (g i) else { v := 0, f := false }) (0 + y)))), SV.v (Value.bool (NB.f ((fun i => if i < x then VB.y (g i) else { v := 0, f := false }) (0 + y))))])) ∧ ((((Int.toNat (↑n : Int)) : Nat) = (Int.toNat (↑n : Int))) ∧ (((Int.toNat (↑n : Int)) : Nat) < 1099511627776))) ∧ (R (SV.agg [(SV.v (Value.int IntKind.i64 (fitE (sumG (rowsOf (Int.toNat (↑n : Int)) fun y => [SV.v (Value.int IntKind.i64 (NB.v ((fun i => if i < x then VB.x (g i) else { v := 0, f := false }) (0 + y)))), SV.v (Value.bool (NB.f ((fun i => if i < x then VB.x (g i) else { v := 0, f := false }) (0 + y))))]))))), (SV.v (Value.bool (fitG (sumG (rowsOf (Int.toNat (↑n : Int)) fun y => [SV.v (Value.int IntKind.i64 (NB.v ((fun i => if i < x then VB.x (g i) else { v := 0, f := false }) (0 + y)))), SV.v (Value.bool (NB.f ((fun i => if i < x then VB.x (g i) else { v := 0, f := false }) (0 + y))))])) (anyG (rowsOf (Int.toNat (↑n : Int)) fun y => [SV.v (Value.int IntKind.i64 (NB.v ((fun i => if i < x then VB.x (g i) else { v := 0, f := false }) (0 + y)))), SV.v (Value.bool (NB.f ((fun i => if i < x then VB.x (g i) else { v := 0, f := false }) (0 + y))))]))))), (SV.v (Value.int IntKind.i64 (fitE (sumG (rowsOf (Int.toNat (↑n : Int)) fun y => [SV.v (Value.int IntKind.i64 (NB.v ((fun i => if i < x then VB.y (g i) else { v := 0, f := false }) (0 + y)))), SV.v (Value.bool (NB.f ((fun i => if i < x then VB.y (g i) else { v := 0, f := false }) (0 + y))))]))))), (SV.v (Value.bool (fitG (sumG (rowsOf (Int.toNat (↑n : Int)) fun y => [SV.v (Value.int IntKind.i64 (NB.v ((fun i => if i < x then VB.y (g i) else { v := 0, f := false }) (0 + y)))), SV.v (Value.bool (NB.f ((fun i => if i < x then VB.y (g i) else { v := 0, f := false }) (0 + y))))])) (anyG (rowsOf (Int.toNat (↑n : Int)) fun y => [SV.v (Value.int IntKind.i64 (NB.v ((fun i => if i < x then VB.y (g i) else { v := 0, f := false }) (0 + y)))), SV.v (Value.bool (NB.f ((fun i => if i < x then VB.y (g i) else { v := 0, f := false }) (0 + y))))])))))])))))))))) := by kernel_rfl
theorem vcRAdd2 (n n' c : Nat) (g : Nat → VB) (R : SV → Prop) : (vcFn Try.prog ΓV3 (ΛRAdd n g) Try.f54 [.sl 0 4 0 n c] (roHeap [⟨4, n', rowsV g⟩]) 64 (fun y _ => R y)) =
((∃ x : KCD, (((((KCD.k x) : Nat) ≤ n) ∧ ((((KCD.k x) : Nat) ≤ (KCD.c x)) ∧ (((KCD.k x) : Nat) ≤ (KCD.d x)))) ∧ ((((SV.v (Value.int IntKind.i64 0)) = (SV.v (Value.int IntKind.i64 ((↑(KCD.k x) : Int))))) ∧ ((((SV.v (Value.slice none 0 0)) = (SV.v (Value.slice none 0 0))) ∧ (((0 : Nat) = 0) ∧ ((((KCD.k x) : Nat) = 0) ∧ (((KCD.c x) : Nat) = 0)))) ∧ (((SV.v (Value.slice none 0 0)) = (SV.v (Value.slice none 0 0))) ∧ (((0 : Nat) = 0) ∧ ((((KCD.k x) : Nat) = 0) ∧ (((KCD.d x) : Nat) = 0)))))) ∧ (((((KCD.k x) : Nat) = 0) ∧ ((((KCD.c x) : Nat) = 0) ∧ True)) ∧ (((((KCD.k x) : Nat) = 0) ∧ ((((KCD.d x) : Nat) = 0) ∧ True)) ∧ True))))) ∧ (∀ x : KCD, (((((KCD.k x) : Nat) ≤ n) ∧ ((((KCD.k x) : Nat) ≤ (KCD.c x)) ∧ (((KCD.k x) : Nat) ≤ (KCD.d x)))) → 
(sel (decide ((↑(KCD.k x) : Int) < (↑n : Int))) ((((0 : Int) ≤ ((↑(KCD.k x) : Int))) ∧ ((((↑(KCD.k x) : Int)) : Int) < ((↑n : Int)))) ∧ ((((((KCD.k x + 1) * 16) : Nat) ≤ 140737488355328) ∧ ((((0 + KCD.c x) : Nat) ≤ (KCD.c x)) ∧ (∀ y : Nat, (((y : Nat) < 1) → True)))) ∧ (∀ c_1 : Nat, ((((0 : Int) ≤ ((↑(KCD.k x) : Int))) ∧ ((((↑(KCD.k x) : Int)) : Int) < ((↑n : Int)))) ∧ ((((((KCD.k x + 1) * 16) : Nat) ≤ 140737488355328) ∧ ((((0 + KCD.d x) : Nat) ≤ (KCD.d x)) ∧ (∀ y : Nat, (((y : Nat) < 1) → True)))) ∧ (∀ c_2 : Nat, (∃ x' : KCD, ((((((KCD.k x') : Nat) ≤ n) ∧ ((((KCD.k x') : Nat) ≤ (KCD.c x')) ∧ (((KCD.k x') : Nat) ≤ (KCD.d x')))) ∧ ((((SV.v (Value.int IntKind.i64 (IntKind.wrap IntKind.i64 ((↑(KCD.k x) : Int) + 1)))) = (SV.v (Value.int IntKind.i64 ((↑(KCD.k x') : Int))))) ∧ (((SV.sl 184 2 0 (KCD.k x + 1) (KCD.k x + 1 + c_1)) = (SV.sl 184 2 0 (KCD.k x') (KCD.c x'))) ∧ ((SV.sl 248 2 0 (KCD.k x + 1) (KCD.k x + 1 + c_2)) = (SV.sl 248 2 0 (KCD.k x') (KCD.d x'))))) ∧ (((((KCD.k x + 1) : Nat) = (KCD.k x')) ∧ ((((KCD.c x') : Nat) ≤ (KCD.k x + 1 + c_1)) ∧ (∀ i : Nat, (((i : Nat) < (KCD.k x')) → ([(SV.v (Value.int IntKind.i64 (bop (Nat.blt i (KCD.k x)) (NB.v (VB.x (g (0 + i)))) (NB.v (VB.x (g (0 + Int.toNat (↑(KCD.k x) : Int)))))))), (SV.v (Value.bool (bop (Nat.blt i (KCD.k x)) (NB.f (VB.x (g (0 + i)))) (NB.f (VB.x (g (0 + Int.toNat (↑(KCD.k x) : Int))))))))] = [(SV.v (Value.int IntKind.i64 (NB.v (VB.x (g i))))), (SV.v (Value.bool (NB.f (VB.x (g i)))))]))))) ∧ ((((KCD.k x + 1) : Nat) = (KCD.k x')) ∧ ((((KCD.d x') : Nat) ≤ (KCD.k x + 1 + c_2)) ∧ (∀ i : Nat, (((i : Nat) < (KCD.k x')) → ([(SV.v (Value.int IntKind.i64 (bop (Nat.blt i (KCD.k x)) (NB.v (VB.y (g (0 + i)))) (NB.v (VB.y (g (0 + Int.toNat (↑(KCD.k x) : Int)))))))), (SV.v (Value.bool (bop (Nat.blt i (KCD.k x)) (NB.f (VB.y (g (0 + i)))) (NB.f (VB.y (g (0 + Int.toNat (↑(KCD.k x) : Int))))))))] = [(SV.v (Value.int IntKind.i64 (NB.v (VB.y (g i))))), (SV.v (Value.bool (NB.f (VB.y (g i)))))])))))))) ∧ (((n - KCD.k x') : Nat) < (n - KCD.k x)))))))))) (((okAll isNI (rowsOf (KCD.k x) fun y => [SV.v (Value.int IntKind.i64 (NB.v ((fun i => VB.x (g i)) (0 + y)))), SV.v (Value.bool (NB.f ((fun i => VB.x (g i)) (0 + y))))])) ∧ ((((KCD.k x) : Nat) = (KCD.k x)) ∧ (((KCD.k x) : Nat) < 1099511627776))) ∧ (((okAll isNI (rowsOf (KCD.k x) fun y => [SV.v (Value.int IntKind.i64 (NB.v ((fun i => VB.y (g i)) (0 + y)))), SV.v (Value.bool (NB.f ((fun i => VB.y (g i)) (0 + y))))])) ∧ ((((KCD.k x) : Nat) = (KCD.k x)) ∧ (((KCD.k x) : Nat) < 1099511627776))) ∧ (R (SV.agg [(SV.v (Value.int IntKind.i64 (fitE (sumG (rowsOf (KCD.k x) fun y => [SV.v (Value.int IntKind.i64 (NB.v ((fun i => VB.x (g i)) (0 + y)))), SV.v (Value.bool (NB.f ((fun i => VB.x (g i)) (0 + y))))]))))), (SV.v (Value.bool (fitG (sumG (rowsOf (KCD.k x) fun y => [SV.v (Value.int IntKind.i64 (NB.v ((fun i => VB.x (g i)) (0 + y)))), SV.v (Value.bool (NB.f ((fun i => VB.x (g i)) (0 + y))))])) (anyG (rowsOf (KCD.k x) fun y => [SV.v (Value.int IntKind.i64 (NB.v ((fun i => VB.x (g i)) (0 + y)))), SV.v (Value.bool (NB.f ((fun i => VB.x (g i)) (0 + y))))]))))), (SV.v (Value.int IntKind.i64 (fitE (sumG (rowsOf (KCD.k x) fun y => [SV.v (Value.int IntKind.i64 (NB.v ((fun i => VB.y (g i)) (0 + y)))), SV.v (Value.bool (NB.f ((fun i => VB.y (g i)) (0 + y))))]))))), (SV.v (Value.bool (fitG (sumG (rowsOf (KCD.k x) fun y => [SV.v (Value.int IntKind.i64 (NB.v ((fun i => VB.y (g i)) (0 + y)))), SV.v (Value.bool (NB.f ((fun i => VB.y (g i)) (0 + y))))])) (anyG (rowsOf (KCD.k x) fun y => [SV.v (Value.int IntKind.i64 (NB.v ((fun i => VB.y (g i)) (0 + y)))), SV.v (Value.bool (NB.f ((fun i => VB.y (g i)) (0 + y))))])))))])))))))) := by kernel_rfl
theorem vcIdx (n n' c : Nat) (g : Nat → VB) (R : SV → Prop) : (vcFn Try.prog ΓV3 (ΛIdx n g) Try.f149 [.sl 0 4 0 n c, .fn 109 []] (roHeap [⟨4, n', rowsV g⟩]) 64 (fun y _ => R y)) =
((∃ x : Nat, ((((x : Nat) ≤ n) ∧ (((idxV g (n - x) x) : Int) = (idxV g n 0))) ∧ (((SV.v (Value.int IntKind.i64 0)) = (SV.v (Value.int IntKind.i64 ((↑x : Int))))) ∧ True))) ∧ (∀ x : Nat, ((((x : Nat) ≤ n) ∧ (((idxV g (n - x) x) : Int) = (idxV g n 0))) → 
(sel (decide ((↑x : Int) < (↑n : Int))) ((((0 : Int) ≤ ((↑x : Int))) ∧ ((((↑x : Int)) : Int) < ((↑n : Int)))) ∧ (((I64 (NB.v (VB.x (g (0 + Int.toNat (↑x : Int)))))) ∧ (I64 (NB.v (VB.y (g (0 + Int.toNat (↑x : Int))))))) ∧ 
(sel (badV (g (0 + Int.toNat (↑x : Int)))) (R (SV.v (Value.int IntKind.i64 ((↑x : Int))))) (∃ x' : Nat, (((((x' : Nat) ≤ n) ∧ (((idxV g (n - x') x') : Int) = (idxV g n 0))) ∧ (((SV.v (Value.int IntKind.i64 (IntKind.wrap IntKind.i64 ((↑x : Int) + 1)))) = (SV.v (Value.int IntKind.i64 ((↑x' : Int))))) ∧ True)) ∧ (((n - x') : Nat) < (n - x))))))) (R (SV.v (Value.int IntKind.i64 (-1)))))))) := by kernel_rfl
theorem vcRFault (n n' c : Nat) (g : Nat → VB) (R : SV → Prop) : (vcFn Try.prog ΓV3 (ΛRFault n g) Try.f56 [.sl 0 4 0 n c] (roHeap [⟨4, n', rowsV g⟩]) 64 (fun y _ => R y)) =
((∃ x : Nat, ((((x : Nat) ≤ n) ∧ (anyV x g = false)) ∧ (((SV.v (Value.int IntKind.i64 0)) = (SV.v (Value.int IntKind.i64 ((↑x : Int))))) ∧ True))) ∧ (∀ x : Nat, ((((x : Nat) ≤ n) ∧ (anyV x g = false)) → 
(sel (decide ((↑x : Int) < (↑n : Int))) ((((0 : Int) ≤ ((↑x : Int))) ∧ ((((↑x : Int)) : Int) < ((↑n : Int)))) ∧ ((I64 (NB.v (VB.x (g (0 + Int.toNat (↑x : Int)))))) ∧ 
(sel (sndF (NB.v (VB.x (g (0 + Int.toNat (↑x : Int))))) (NB.f (VB.x (g (0 + Int.toNat (↑x : Int)))))) (R (SV.v (Value.bool true))) ((((0 : Int) ≤ ((↑x : Int))) ∧ ((((↑x : Int)) : Int) < ((↑n : Int)))) ∧ ((I64 (NB.v (VB.y (g (0 + Int.toNat (↑x : Int)))))) ∧ 
(sel (sndF (NB.v (VB.y (g (0 + Int.toNat (↑x : Int))))) (NB.f (VB.y (g (0 + Int.toNat (↑x : Int)))))) (R (SV.v (Value.bool true))) (∃ x' : Nat, (((((x' : Nat) ≤ n) ∧ (anyV x' g = false)) ∧ (((SV.v (Value.int IntKind.i64 (IntKind.wrap IntKind.i64 ((↑x : Int) + 1)))) = (SV.v (Value.int IntKind.i64 ((↑x' : Int))))) ∧ True)) ∧ (((n - x') : Nat) < (n - x)))))))))) (R (SV.v (Value.bool false))))))) := by kernel_rfl
def ΓV4 : Ctrs := addCtr ΓV3 149 (roCtr sIdx)
theorem vcContains (n n' c : Nat) (g : Nat → VB) (R : SV → Prop) : (vcFn Try.prog ΓV4 noΛ Try.f108 [.sl 0 4 0 n c, .fn 109 []] (roHeap [⟨4, n', rowsV g⟩]) 64 (fun y _ => R y)) =
(((okAll isVI (rowsOf n fun y => [SV.v (Value.int IntKind.i64 (NB.v (VB.x (g (0 + y))))), SV.v (Value.bool (NB.f (VB.x (g (0 + y))))), SV.v (Value.int IntKind.i64 (NB.v (VB.y (g (0 + y))))), SV.v (Value.bool (NB.f (VB.y (g (0 + y)))))])) ∧ (((n : Nat) = n) ∧ ((n : Nat) < 1099511627776))) ∧ (R (SV.v (Value.bool (decide (idxV (fun i => rV [SV.v (Value.int IntKind.i64 (NB.v (VB.x (g (0 + i))))), SV.v (Value.bool (NB.f (VB.x (g (0 + i))))), SV.v (Value.int IntKind.i64 (NB.v (VB.y (g (0 + i))))), SV.v (Value.bool (NB.f (VB.y (g (0 + i)))))]) n 0 ≥ 0)))))) := by kernel_rfl
def ΓV5 : Ctrs := addCtr ΓV4 108 (roCtr sContains)
theorem vcFault (n n' c : Nat) (g : Nat → VB) (R : SV → Prop) : (vcFn Try.prog ΓV5 noΛ Try.f55 [.sl 0 4 0 n c] (roHeap [⟨4, n', rowsV g⟩]) 64 (fun y _ => R y)) =
(((okAll isVI (rowsOf n fun y => [SV.v (Value.int IntKind.i64 (NB.v (VB.x (g (0 + y))))), SV.v (Value.bool (NB.f (VB.x (g (0 + y))))), SV.v (Value.int IntKind.i64 (NB.v (VB.y (g (0 + y))))), SV.v (Value.bool (NB.f (VB.y (g (0 + y)))))])) ∧ (((n : Nat) = n) ∧ ((n : Nat) < 1099511627776))) ∧ (R (SV.v (Value.bool (anyV n fun i => rV [SV.v (Value.int IntKind.i64 (NB.v (VB.x (g (0 + i))))), SV.v (Value.bool (NB.f (VB.x (g (0 + i))))), SV.v (Value.int IntKind.i64 (NB.v (VB.y (g (0 + i))))), SV.v (Value.bool (NB.f (VB.y (g (0 + i)))))]))))) := by kernel_rfl
theorem isV_row {r : List SV} (h : isVI r) : r = vR (rV r) ∧ I64 (rV r).x.v ∧ I64 (rV r).y.v := by
  unfold isVI at h
  split at h
  · exact ⟨rfl, h.1, h.2⟩
  · exact h.elim
theorem okAll_V {n : Nat} {g : Nat → VB} (h : ∀ i, i < n → I64 (g i).x.v ∧ I64 (g i).y.v) : okAll isVI (rowsOf n fun i => vR (g i)) := okAll_rows.2 fun i hi => h i hi
theorem okAll_NI {n : Nat} {g : Nat → NB} (h : ∀ i, i < n → I64 (g i).v) : okAll isNI (rowsOf n fun i => nR (g i)) := okAll_rows.2 fun i hi => h i hi
theorem vRow_eq {n : Nat} {row : Nat → List SV} (h : ∀ i, i < n → isVI (row i)) : ∀ i, i < n → row i = vR (rV (row i)) := fun i hi => (isV_row (h i hi)).1
theorem Fault1_spec : PureSpec Try.prog 109 sFault1 := vc_spec hm ΓV2_ok Try.func109 (Λ := fun _ => noΛ) fun args p x h hp => by
  unfold sFault1 at h
  split at h <;> try (cases h; done)
  rename_i a f b g
  cases h
  obtain ⟨h0, k0⟩ := hp _ rfl
  refine ⟨rfl, rfl, ?_⟩
  refine Eq.mpr (vcFault1 ⟨⟨a, f⟩, ⟨b, g⟩⟩ _) ?_
  refine ⟨h0, sel_of (fun e => bool_mk ?_) fun e => ⟨k0, bool_mk ?_⟩⟩
  · show true = (sndF a f || sndF b g)
    rw [show sndF a f = true from e]; rfl
  · show sndF b g = (sndF a f || sndF b g)
    rw [show sndF a f = false from e]; rfl
theorem Flag1_spec : PureSpec Try.prog 110 sFlag1 := vc_spec hm ΓV2_ok Try.func110 (Λ := fun _ => noΛ) fun args p x h hp => by
  unfold sFlag1 at h
  split at h <;> try (cases h; done)
  rename_i a f
  cases h
  have h0 : I64 a := hp _ rfl
  refine ⟨rfl, rfl, ?_⟩
  refine Eq.mpr (vcFlag1 ⟨a, f⟩ _) ?_
  refine ⟨⟨⟨h0, trivial⟩, by decide⟩, bool_mk ?_⟩
  show fitG (sndV a + 0) (sndF a f || false) = _
  rw [Int.add_zero, fitG_self (sndV_sd h0), Bool.or_false]
theorem ΓV3_ok : ∀ f g, ΓV3 f = some g → g.ok Try.prog f := addCtr_ok (addCtr_ok ΓV2_ok (pure_ok Try.func109 (by kernel_rfl) (by kernel_rfl) Fault1_spec)) (pure_ok Try.func110 (by kernel_rfl) (by kernel_rfl) Flag1_spec)
theorem setRow (g : Nat → NB) (x i : Nat) : [SV.v (.int .i64 (bop (Nat.beq i (0 + Int.toNat (x : Int))) (g (0 + Int.toNat (x : Int))).v (if i < x then g i else ⟨0, false⟩ : NB).v)), SV.v (.bool (bop (Nat.beq i (0 + Int.toNat (x : Int))) (g (0 + Int.toNat (x : Int))).f (if i < x then g i else ⟨0, false⟩ : NB).f))] = nR (if i < x + 1 then g i else ⟨0, false⟩) := by
  rw [Int.toNat_natCast, Nat.zero_add]
  by_cases h : i = x
  · subst h
    rw [Nat.beq_refl, if_pos (Nat.lt_succ_self i)]; rfl
  · rw [Go.SE.beq_false h]
    by_cases h' : i < x
    · rw [if_pos h', if_pos (by omega)]; rfl
    · rw [if_neg h', if_neg (by omega)]; rfl
theorem succ_i64 {x n : Nat} (h : x < n) (h1 : n < 1099511627776) : IntKind.i64.wrap ((x : Int) + 1) = ((x + 1 : Nat) : Int) := by rw [wrap_i64 ⟨by omega, by omega⟩]; omega
theorem Add2_spec : RoSpec Try.prog 49 sAddL := ro_spec hm ΓV3_ok Try.func49 (Λ := fun args bs => match args, bs with | [.sl 0 4 0 n _], [⟨4, _, row⟩] => ΛAdd n (fun i => rV (row i)) | _, _ => noΛ) fun args bs p x h hp => by
  unfold sAddL at h
  split at h <;> try (cases h; done)
  rename_i n c n' row
  cases h
  obtain ⟨h0, rfl, hn⟩ := hp _ rfl
  have h0 := okAll_rows.1 h0
  refine ⟨rfl, [⟨4, n', rowsV fun i => rV (row i)⟩], ⟨⟨rfl, rfl, fun i hi => vRow_eq h0 i hi⟩, trivial⟩, ?_⟩
  have hg : ∀ i, i < n' → I64 ((fun i => rV (row i)) i).x.v ∧ I64 ((fun i => rV (row i)) i).y.v := fun i hi => (isV_row (h0 i hi)).2
  show vcFn _ _ (ΛAdd n' fun i => rV (row i)) _ _ (roHeap [⟨4, n', rowsV fun i => rV (row i)⟩]) _ (fun y _ => y = vS (addL n' fun i => rV (row i)))
  generalize (fun i => rV (row i)) = g at *
  refine Eq.mpr (vcAdd2 n' n' c g _) ?_
  rw [Int.toNat_natCast]
  refine ⟨⟨by omega, by omega, by omega⟩, ⟨by omega, by omega, by omega⟩, ⟨0, Nat.zero_le _, rfl, ⟨rfl, Nat.le_refl _, fun i _ => by rw [if_neg (Nat.not_lt_zero i)]⟩, rfl, Nat.le_refl _, fun i _ => by rw [if_neg (Nat.not_lt_zero i)]⟩, fun x hx => sel_of (fun e => ?_) fun e => ?_⟩
  · have e := of_decide_eq_true e
    have hx : x < n' := by omega
    refine ⟨⟨by omega, by omega⟩, ⟨by omega, by omega⟩, ⟨by omega, by omega⟩, x + 1, ⟨hx, int_mk (succ_i64 hx hn), ⟨rfl, Nat.le_refl _, fun i _ => setRow (fun i => (g i).x) x i⟩, rfl, Nat.le_refl _, fun i _ => setRow (fun i => (g i).y) x i⟩, by omega⟩
  · have e := of_decide_eq_false e
    have hx : x ≤ n' := hx
    obtain rfl : x = n' := by omega
    have ex : ∀ (c : VB → NB), (rowsOf x fun y => [SV.v (.int .i64 ((fun i => if i < x then c (g i) else (⟨0, false⟩ : NB)) (0 + y)).v), SV.v (.bool ((fun i => if i < x then c (g i) else (⟨0, false⟩ : NB)) (0 + y)).f)]) = rowsOf x fun i => nR (c (g i)) := fun c => rowsOf_congr fun i hi => by
      simp only [Nat.zero_add, if_pos hi]; rfl
    have e1 := ex fun a => a.x
    have e2 := ex fun a => a.y
    simp only at e1 e2
    rw [e1, e2]
    exact ⟨⟨okAll_NI fun i hi => (hg i hi).1, rfl, hn⟩, ⟨okAll_NI fun i hi => (hg i hi).2, rfl, hn⟩, rfl⟩
theorem appRow (g : Nat → NB) (k i : Nat) (h : i < k + 1) : [SV.v (.int .i64 (bop (Nat.blt i k) (g (0 + i)).v (g (0 + Int.toNat (k : Int))).v)), SV.v (.bool (bop (Nat.blt i k) (g (0 + i)).f (g (0 + Int.toNat (k : Int))).f))] = nR (g i) := by
  rw [Int.toNat_natCast, Nat.zero_add, Nat.zero_add]
  by_cases h' : i < k
  · rw [show Nat.blt i k = true from Nat.ble_eq_true_of_le h']; rfl
  · obtain rfl : i = k := by omega
    rw [show Nat.blt i i = false from by cases hb : Nat.blt i i with | false => rfl | true => exact absurd (Nat.le_of_ble_eq_true hb) h']; rfl
theorem nR_0 (n : Nat) (g : Nat → NB) : (rowsOf n fun y => [SV.v (.int .i64 ((fun i => g i) (0 + y)).v), SV.v (.bool ((fun i => g i) (0 + y)).f)]) = rowsOf n fun i => nR (g i) := rowsOf_congr fun i _ => by rw [Nat.zero_add]; rfl
theorem RAdd2_spec : RoSpec Try.prog 54 sAddL := ro_spec hm ΓV3_ok Try.func54 (Λ := fun args bs => match args, bs with | [.sl 0 4 0 n _], [⟨4, _, row⟩] => ΛRAdd n (fun i => rV (row i)) | _, _ => noΛ) fun args bs p x h hp => by
  unfold sAddL at h
  split at h <;> try (cases h; done)
  rename_i n c n' row
  cases h
  obtain ⟨h0, rfl, hn⟩ := hp _ rfl
  have h0 := okAll_rows.1 h0
  refine ⟨rfl, [⟨4, n', rowsV fun i => rV (row i)⟩], ⟨⟨rfl, rfl, fun i hi => vRow_eq h0 i hi⟩, trivial⟩, ?_⟩
  have hg : ∀ i, i < n' → I64 ((fun i => rV (row i)) i).x.v ∧ I64 ((fun i => rV (row i)) i).y.v := fun i hi => (isV_row (h0 i hi)).2
  show vcFn _ _ (ΛRAdd n' fun i => rV (row i)) _ _ (roHeap [⟨4, n', rowsV fun i => rV (row i)⟩]) _ (fun y _ => y = vS (addL n' fun i => rV (row i)))
  generalize (fun i => rV (row i)) = g at *
  refine Eq.mpr (vcRAdd2 n' n' c g _) ?_
  refine ⟨⟨⟨0, 0, 0⟩, ⟨Nat.zero_le _, Nat.le_refl _, Nat.le_refl _⟩, ⟨rfl, ⟨rfl, rfl, rfl, rfl⟩, rfl, rfl, rfl, rfl⟩, ⟨rfl, rfl, trivial⟩, ⟨rfl, rfl, trivial⟩, trivial⟩, fun ⟨k, cc, d⟩ ⟨x1, x2, x3⟩ => ?_⟩
  have x1 : k ≤ n' := x1
  have x2 : k ≤ cc := x2
  have x3 : k ≤ d := x3
  simp only
  refine sel_of (fun e => ?_) fun e => ?_
  · have e := of_decide_eq_true e
    have hx : k < n' := by omega
    exact ⟨⟨by omega, by omega⟩, ⟨by omega, by omega, fun _ _ => trivial⟩, fun c1 => ⟨⟨by omega, by omega⟩, ⟨by omega, by omega, fun _ _ => trivial⟩, fun c2 => ⟨⟨k + 1, k + 1 + c1, k + 1 + c2⟩, ⟨⟨hx, Nat.le_add_right _ _, Nat.le_add_right _ _⟩, ⟨int_mk (succ_i64 hx hn), rfl, rfl⟩, ⟨rfl, Nat.le_refl _, fun i hi => appRow (fun i => (g i).x) k i hi⟩, rfl, Nat.le_refl _, fun i hi => appRow (fun i => (g i).y) k i hi⟩, by show n' - (k + 1) < n' - k; omega⟩⟩⟩
  · have e := of_decide_eq_false e
    obtain rfl : k = n' := by omega
    have e1 := nR_0 k fun i => (g i).x
    have e2 := nR_0 k fun i => (g i).y
    simp only at e1 e2
    rw [e1, e2]
    exact ⟨⟨okAll_NI fun i hi => (hg i hi).1, trivial, hn⟩, ⟨okAll_NI fun i hi => (hg i hi).2, trivial, hn⟩, rfl⟩
theorem blt_rows (c : Nat → NB) (k i : Nat) : mrgL (Nat.blt i k) (nR (c i)) (nR (c k)) = nR (if i < k then c i else c k) := by
  by_cases h : i < k
  · rw [show Nat.blt i k = true from Nat.ble_eq_true_of_le h, if_pos h]; rfl
  · rw [show Nat.blt i k = false from by cases hb : Nat.blt i k with | false => rfl | true => exact absurd (Nat.le_of_ble_eq_true hb) h, if_neg h]; rfl
theorem Idx_spec : RoSpec Try.prog 149 sIdx := ro_spec hm ΓV3_ok Try.func149 (Λ := fun args bs => match args, bs with | [.sl 0 4 0 n _, _], [⟨4, _, row⟩] => ΛIdx n (fun i => rV (row i)) | _, _ => noΛ) fun args bs p x h hp => by
  unfold sIdx at h
  split at h <;> try (cases h; done)
  rename_i n c f n' row
  cases hf : Nat.beq f 109 with
  | false => rw [hf] at h; cases h
  | true =>
    rw [hf] at h
    obtain rfl := Nat.eq_of_beq_eq_true hf
    cases h
    obtain ⟨h0, rfl, hn⟩ := hp _ rfl
    have h0 := okAll_rows.1 h0
    refine ⟨rfl, [⟨4, n', rowsV fun i => rV (row i)⟩], ⟨⟨rfl, rfl, fun i hi => vRow_eq h0 i hi⟩, trivial⟩, ?_⟩
    have hg : ∀ i, i < n' → I64 ((fun i => rV (row i)) i).x.v ∧ I64 ((fun i => rV (row i)) i).y.v := fun i hi => (isV_row (h0 i hi)).2
    show vcFn _ _ (ΛIdx n' fun i => rV (row i)) _ _ (roHeap [⟨4, n', rowsV fun i => rV (row i)⟩]) _ (fun y _ => y = .v (.int .i64 (idxV (fun i => rV (row i)) n' 0)))
    generalize (fun i => rV (row i)) = g at *
    refine Eq.mpr (vcIdx n' n' c g _) ?_
    refine ⟨⟨0, ⟨Nat.zero_le _, rfl⟩, rfl, trivial⟩, fun x ⟨hx, hi⟩ => sel_of (fun e => ?_) fun e => ?_⟩
    · have e := of_decide_eq_true e
      have hx : x < n' := by omega
      rw [show n' - x = (n' - (x + 1)) + 1 by omega] at hi
      rw [Int.toNat_natCast, Nat.zero_add]
      refine ⟨⟨by omega, by omega⟩, hg x hx, sel_of (fun b => ?_) fun b => ?_⟩
      · have hi : (bif badV (g x) then (x : Int) else idxV g (n' - (x + 1)) (x + 1)) = _ := hi
        rw [b] at hi; exact int_mk hi
      · have hi : (bif badV (g x) then (x : Int) else idxV g (n' - (x + 1)) (x + 1)) = _ := hi
        rw [b] at hi
        exact ⟨x + 1, ⟨⟨hx, hi⟩, int_mk (succ_i64 hx hn), trivial⟩, by omega⟩
    · have e := of_decide_eq_false e
      obtain rfl : x = n' := by omega
      rw [Nat.sub_self] at hi
      exact int_mk hi
theorem anyV_iff (g : Nat → VB) : ∀ n, anyV n g = true ↔ ∃ j, j < n ∧ badV (g j) = true
  | 0 => by simp [anyV]
  | n + 1 => by
    simp only [anyV, Bool.or_eq_true, anyV_iff g n]
    constructor
    · rintro (⟨j, h1, h2⟩ | h)
      · exact ⟨j, by omega, h2⟩
      · exact ⟨n, by omega, h⟩
    · rintro ⟨j, h1, h2⟩
      by_cases h : j < n
      · exact .inl ⟨j, h, h2⟩
      · obtain rfl : j = n := by omega
        exact .inr h2
theorem idxV_iff (g : Nat → VB) : ∀ m k, idxV g m k ≥ 0 ↔ ∃ j, k ≤ j ∧ j < k + m ∧ badV (g j) = true
  | 0, k => by
    show (-1 : Int) ≥ 0 ↔ _
    constructor
    · intro h; omega
    · rintro ⟨j, h1, h2, _⟩; omega
  | m + 1, k => by
    show (bif badV (g k) then (k : Int) else idxV g m (k + 1)) ≥ 0 ↔ _
    cases hb : badV (g k) with
    | true => exact ⟨fun _ => ⟨k, Nat.le_refl _, by omega, hb⟩, fun _ => by show (k : Int) ≥ 0; omega⟩
    | false =>
      rw [cond_false, idxV_iff g m (k + 1)]
      constructor
      · rintro ⟨j, h1, h2, h3⟩; exact ⟨j, by omega, by omega, h3⟩
      · rintro ⟨j, h1, h2, h3⟩
        have : j ≠ k := fun e => by rw [e, hb] at h3; cases h3
        exact ⟨j, by omega, by omega, h3⟩
theorem idx_any (n : Nat) (g : Nat → VB) : decide (idxV g n 0 ≥ 0) = anyV n g := by
  cases h : anyV n g with
  | true =>
    obtain ⟨j, h1, h2⟩ := (anyV_iff g n).1 h
    exact decide_eq_true ((idxV_iff g n 0).2 ⟨j, Nat.zero_le _, by omega, h2⟩)
  | false =>
    refine decide_eq_false fun hx => ?_
    obtain ⟨j, _, h1, h2⟩ := (idxV_iff g n 0).1 hx
    rw [(anyV_iff g n).2 ⟨j, by omega, h2⟩] at h; cases h
theorem ΓV4_ok : ∀ f g, ΓV4 f = some g → g.ok Try.prog f := addCtr_ok ΓV3_ok (ro_ok Try.func149 (by kernel_rfl) (by kernel_rfl) Idx_spec)
theorem vR_0 (n : Nat) (g : Nat → VB) : (rowsOf n fun y => [SV.v (.int .i64 (g (0 + y)).x.v), SV.v (.bool (g (0 + y)).x.f), SV.v (.int .i64 (g (0 + y)).y.v), SV.v (.bool (g (0 + y)).y.f)]) = rowsOf n fun i => vR (g i) := rowsOf_congr fun i _ => by rw [Nat.zero_add]; rfl
theorem rV_0 (g : Nat → VB) : (fun i => rV [SV.v (.int .i64 (g (0 + i)).x.v), SV.v (.bool (g (0 + i)).x.f), SV.v (.int .i64 (g (0 + i)).y.v), SV.v (.bool (g (0 + i)).y.f)]) = g := funext fun i => by rw [Nat.zero_add]; rfl
theorem Contains_spec : RoSpec Try.prog 108 sContains := ro_spec hm ΓV4_ok Try.func108 (Λ := fun _ _ => noΛ) fun args bs p x h hp => by
  unfold sContains at h
  split at h <;> try (cases h; done)
  rename_i n c f n' row
  cases hf : Nat.beq f 109 with
  | false => rw [hf] at h; cases h
  | true =>
    rw [hf] at h
    obtain rfl := Nat.eq_of_beq_eq_true hf
    cases h
    obtain ⟨h0, rfl, hn⟩ := hp _ rfl
    have h0 := okAll_rows.1 h0
    refine ⟨rfl, [⟨4, n', rowsV fun i => rV (row i)⟩], ⟨⟨rfl, rfl, fun i hi => vRow_eq h0 i hi⟩, trivial⟩, ?_⟩
    have hg : ∀ i, i < n' → I64 ((fun i => rV (row i)) i).x.v ∧ I64 ((fun i => rV (row i)) i).y.v := fun i hi => (isV_row (h0 i hi)).2
    show vcFn _ _ noΛ _ _ (roHeap [⟨4, n', rowsV fun i => rV (row i)⟩]) _ (fun y _ => y = .v (.bool (anyV n' fun i => rV (row i))))
    generalize (fun i => rV (row i)) = g at *
    refine Eq.mpr (vcContains n' n' c g _) ?_
    rw [vR_0, rV_0, idx_any]
    exact ⟨⟨okAll_V hg, rfl, hn⟩, rfl⟩
theorem ΓV5_ok : ∀ f g, ΓV5 f = some g → g.ok Try.prog f := addCtr_ok ΓV4_ok (ro_ok Try.func108 (by kernel_rfl) (by kernel_rfl) Contains_spec)
theorem Fault_spec : RoSpec Try.prog 55 sFaultL := ro_spec hm ΓV5_ok Try.func55 (Λ := fun _ _ => noΛ) fun args bs p x h hp => by
  unfold sFaultL at h
  split at h <;> try (cases h; done)
  rename_i n c n' row
  cases h
  obtain ⟨h0, rfl, hn⟩ := hp _ rfl
  have h0 := okAll_rows.1 h0
  refine ⟨rfl, [⟨4, n', rowsV fun i => rV (row i)⟩], ⟨⟨rfl, rfl, fun i hi => vRow_eq h0 i hi⟩, trivial⟩, ?_⟩
  have hg : ∀ i, i < n' → I64 ((fun i => rV (row i)) i).x.v ∧ I64 ((fun i => rV (row i)) i).y.v := fun i hi => (isV_row (h0 i hi)).2
  show vcFn _ _ noΛ _ _ (roHeap [⟨4, n', rowsV fun i => rV (row i)⟩]) _ (fun y _ => y = .v (.bool (anyV n' fun i => rV (row i))))
  generalize (fun i => rV (row i)) = g at *
  refine Eq.mpr (vcFault n' n' c g _) ?_
  rw [vR_0, rV_0]
  exact ⟨⟨okAll_V hg, rfl, hn⟩, rfl⟩
theorem RFault_spec : RoSpec Try.prog 56 sFaultL := ro_spec hm ΓV3_ok Try.func56 (Λ := fun args bs => match args, bs with | [.sl 0 4 0 n _], [⟨4, _, row⟩] => ΛRFault n (fun i => rV (row i)) | _, _ => noΛ) fun args bs p x h hp => by
  unfold sFaultL at h
  split at h <;> try (cases h; done)
  rename_i n c n' row
  cases h
  obtain ⟨h0, rfl, hn⟩ := hp _ rfl
  have h0 := okAll_rows.1 h0
  refine ⟨rfl, [⟨4, n', rowsV fun i => rV (row i)⟩], ⟨⟨rfl, rfl, fun i hi => vRow_eq h0 i hi⟩, trivial⟩, ?_⟩
  have hg : ∀ i, i < n' → I64 ((fun i => rV (row i)) i).x.v ∧ I64 ((fun i => rV (row i)) i).y.v := fun i hi => (isV_row (h0 i hi)).2
  show vcFn _ _ (ΛRFault n' fun i => rV (row i)) _ _ (roHeap [⟨4, n', rowsV fun i => rV (row i)⟩]) _ (fun y _ => y = .v (.bool (anyV n' fun i => rV (row i))))
  generalize (fun i => rV (row i)) = g at *
  refine Eq.mpr (vcRFault n' n' c g _) ?_
  refine ⟨⟨0, ⟨Nat.zero_le _, rfl⟩, rfl, trivial⟩, fun x ⟨hx, hi⟩ => sel_of (fun e => ?_) fun e => ?_⟩
  · have e := of_decide_eq_true e
    have hx : x < n' := by omega
    rw [Int.toNat_natCast, Nat.zero_add]
    refine ⟨⟨by omega, by omega⟩, (hg x hx).1, sel_of (fun b => bool_mk ?_) fun b => ⟨⟨by omega, by omega⟩, (hg x hx).2, sel_of (fun b' => bool_mk ?_) fun b' => ⟨x + 1, ⟨⟨hx, ?_⟩, int_mk (succ_i64 hx hn), trivial⟩, by omega⟩⟩⟩
    · exact ((anyV_iff g n').2 ⟨x, hx, by unfold badV; rw [b]; rfl⟩).symm
    · exact ((anyV_iff g n').2 ⟨x, hx, by unfold badV; rw [b']; simp⟩).symm
    · show (anyV x g || badV (g x)) = false
      unfold badV
      rw [hi, b, b']; rfl
  · have e := of_decide_eq_false e
    obtain rfl : x = n' := by omega
    exact bool_mk hi.symm
end Go.Proofs.Ytheljpebapokjaa
