/-
  Contracts: the writers of bytes.
-/
import Derived.Test.YtjdldadmaaeimaaWiA
set_option maxRecDepth 100000
set_option linter.unusedSimpArgs false
set_option linter.unusedVariables false
namespace Go.Proofs.Ytjdldadmaaeimaa
open Go.SE Go.RowKit

/-! ### a block of bytes -/
def bG (n : Nat) (g : Nat → Int) (c : Nat) : Blk := { elem := 5, size := 1, rw := true, lock := false, lit := false, flat := true, n := n, row := fun i => [.v (.int .u8 (g i))], ext := c }
def bOk (b : Blk) : Bool := Nat.beq b.elem 5 && Nat.beq b.size 1 && b.rw && !b.dead && b.flat && !b.whole
def nilS : SV := .v (.slice none 0 0)
/-- A buffer's variable (k: none) or a writer's (k: is it bad?); a: its slice. -/
def wB (k : Option Bool) (fl : Bool) (a : SV) : Blk := match k with
  | none => { elem := 106, size := 1, rw := true, lock := false, lit := true, flat := fl, n := 1, row := fun _ => [a], ext := 1, whole := true }
  | some b => { elem := 127, size := 2, rw := true, lock := false, lit := true, flat := fl, n := 1, row := fun _ => [a, .v (.bool b)], ext := 1, whole := true }
def wOk (k : Option Bool) (fl : Bool) (b : Blk) : Bool := match k with
  | none => Nat.beq b.elem 106 && Nat.beq b.size 1 && b.rw && !b.dead && Nat.beq b.n 1 && Nat.beq b.ext 1 && b.whole && (b.flat == fl)
  | some _ => Nat.beq b.elem 127 && Nat.beq b.size 2 && b.rw && !b.dead && Nat.beq b.n 1 && Nat.beq b.ext 1 && b.whole && (b.flat == fl)
/-- A writer that has written nothing, or one whose bytes lie in block 1. -/
inductive WrS where
  | fresh (k : Option Bool)
  | used (k : Option Bool) (n : Nat) (g : Nat → Int) (c : Nat) (p : Prop)
def bytesOk (n c : Nat) (D : Blk) : Prop := D.n = n ∧ D.ext = c ∧ n < 70368744177664 ∧ ∀ i, i < n → isByte (D.row i)
def wrOf : List Blk → Option WrS
  | [B] => match B.row 0 with
    | [.v (.slice none 0 0)] => bif wOk none true B then some (.fresh none) else none
    | [.v (.slice none 0 0), .v (.bool b)] => bif wOk (some b) true B then some (.fresh (some b)) else none
    | _ => none
  | [B, D] => match B.row 0 with
    | [.sl 1 1 0 n c] => bif wOk none false B && bOk D then some (.used none n (fun i => SE.byteOf (D.row i)) c (bytesOk n c D)) else none
    | [.sl 1 1 0 n c, .v (.bool b)] => bif wOk (some b) false B && bOk D then some (.used (some b) n (fun i => SE.byteOf (D.row i)) c (bytesOk n c D)) else none
    | _ => none
  | _ => none
def orK (k : Option Bool) (b : Bool) : Option Bool := match k with
  | none => none
  | some x => some (x || b)
/-- n bytes g, and behind them L. -/
def apG (n : Nat) (g : Nat → Int) (L : List Int) : Nat → Int := fun i => bop (Nat.blt i n) (g i) (L.getD (i - n) 0)
/-- The k bytes L are written; b: they stand for a value that is not allowed. -/
def apE (w : WrS) (m : Nat) (q : Prop) (k : Nat) (L : List Int) (b : Bool) : Eff := match w with
  | .fresh kd => .nd q Nat 0 (fun _ => .tup []) fun c' => [(0, wB (orK kd b) false (.sl 1000 1 0 k (k + c'))), (1000, bG k (fun i => L.getD i 0) (k + c'))]
  | .used kd n g c p => .nd ((p ∧ n ≤ m) ∧ q) Nat 0 (fun _ => .tup []) fun c' => [(0, wB (orK kd b) false (.sl 1000 1 0 (n + k) (n + k + c'))), (1, killed (bG n g c)), (1000, bG (n + k) (apG n g L) (n + k + c'))]
/-- Byte j of k, the highest one first. -/
def byteAt (n : Int) (k j : Nat) : Int := n / 2 ^ (8 * (k - 1 - j)) % 256
def beT (n : Int) (k i : Nat) : List Int := (List.range i).map (byteAt n k)
def be (n : Int) (k : Nat) : List Int := beT n k k
/-- 4 or 8 bytes. -/
def kOk (k : Int) : Prop := k = 4 ∨ k = 8
def sPut (args : List SV) (bs : List Blk) : Option Eff := match args with
  | [.vp 0 0, .v (.int .u64 n), .v (.int .i64 k)] => match wrOf bs with
    | some w => some (apE w 1099511627776 (U64 n ∧ kOk k) k.toNat (be n k.toNat) false)
    | none => none
  | _ => none
structure PX where
  i : Nat
  c : Nat
noncomputable def ΛPut (kd : Option Bool) (n0 : Nat) (g : Nat → Int) (n : Int) (k : Nat) : Nat → Option LoopSpec := addLoopN noΛ Try.f94 0 PX (fun x => x.i ≤ k ∧ (x.i = 0 ∨ n0 + x.i ≤ x.c)) (fun x => k - x.i) [(8, fun x => .v (.int .i64 x.i))] [(0, fun x => wB kd false (.sl 40 1 0 (n0 + x.i) x.c))] [(40, fun x => bG (n0 + x.i) (apG n0 g (beT n k x.i)) x.c, inVar 0 0)]
theorem vcPut0 (n : Int) (k : Nat) : (vcFn Try.prog noCtrs (ΛPut none 0 (fun _ => 0) n k) Try.f94 [.vp 0 0, .v (.int .u64 n), .v (.int .i64 (k : Int))] (heapOf [wB none true nilS]) 64 (fun y h' => FinE [wB none true nilS] (apE (.fresh none) 0 True k (be n k) false) y h')) =
((∃ x : PX, (((((PX.i x) : Nat) ≤ k) ∧ (PX.i x = 0 ∨ 0 + PX.i x ≤ PX.c x)) ∧ (((SV.v (Value.int IntKind.i64 0)) = (SV.v (Value.int IntKind.i64 ((↑(PX.i x) : Int))))) ∧ ((((1 : Nat) = 1) ∧ (((1 : Nat) ≤ 1) ∧ (((SV.v (Value.slice none 0 0)) = (SV.v (Value.slice none 0 0))) ∧ (((0 : Nat) = 0) ∧ ((((0 + PX.i x) : Nat) = 0) ∧ (((PX.c x) : Nat) = 0)))))) ∧ (((((0 + PX.i x) : Nat) = 0) ∧ ((((PX.c x) : Nat) = 0) ∧ True)) ∧ True))))) ∧ (∀ x : PX, (((((PX.i x) : Nat) ≤ k) ∧ (PX.i x = 0 ∨ 0 + PX.i x ≤ PX.c x)) → 
(sel (decide ((↑(PX.i x) : Int) < (↑k : Int))) (((0 : Int) ≤ (IntKind.wrap IntKind.u64 (IntKind.wrap IntKind.i64 (8 * IntKind.wrap IntKind.i64 (IntKind.wrap IntKind.i64 ((↑k : Int) - 1) - (↑(PX.i x) : Int)))))) ∧ ((((((0 + PX.i x + 1) * 1) : Nat) ≤ 140737488355328) ∧ ((((0 + PX.c x) : Nat) ≤ (PX.c x)) ∧ (∀ y : Nat, (((y : Nat) < 1) → True)))) ∧ (∀ c : Nat, (∃ x' : PX, ((((((PX.i x') : Nat) ≤ k) ∧ (PX.i x' = 0 ∨ 0 + PX.i x' ≤ PX.c x')) ∧ (((SV.v (Value.int IntKind.i64 (IntKind.wrap IntKind.i64 ((↑(PX.i x) : Int) + 1)))) = (SV.v (Value.int IntKind.i64 ((↑(PX.i x') : Int))))) ∧ ((((1 : Nat) = 1) ∧ (((1 : Nat) ≤ 1) ∧ ((SV.sl 224 1 0 (0 + PX.i x + 1) (0 + PX.i x + 1 + c)) = (SV.sl 224 1 0 (0 + PX.i x') (PX.c x'))))) ∧ ((((0 + PX.i x + 1) : Nat) = (0 + PX.i x')) ∧ ((((PX.c x') : Nat) ≤ (0 + PX.i x + 1 + c)) ∧ (∀ i : Nat, (((i : Nat) < (0 + PX.i x')) → ([(SV.v (Value.int IntKind.u8 (bop (Nat.blt i (0 + PX.i x)) (apG 0 (fun x => 0) (beT n k (PX.i x)) (0 + i)) (IntKind.wrap IntKind.u8 (n / 2 ^ min (Int.toNat (IntKind.wrap IntKind.u64 (IntKind.wrap IntKind.i64 (8 * IntKind.wrap IntKind.i64 (IntKind.wrap IntKind.i64 ((↑k : Int) - 1) - (↑(PX.i x) : Int)))))) 64)))))] = [(SV.v (Value.int IntKind.u8 (apG 0 (fun x => 0) (beT n k (PX.i x')) i)))])))))))) ∧ (((k - PX.i x') : Nat) < (k - PX.i x))))))) (∃ c : Nat, (True ∧ ((((1 : Nat) = 1) ∧ (((1 : Nat) ≤ 1) ∧ ((SV.sl 40 1 0 (0 + PX.i x) (PX.c x)) = (SV.sl 40 1 0 k (k + c))))) ∧ ((((0 + PX.i x) : Nat) = k) ∧ ((((k + c) : Nat) ≤ (PX.c x)) ∧ (∀ i : Nat, (((i : Nat) < k) → ([(SV.v (Value.int IntKind.u8 (apG 0 (fun x => 0) (beT n k (PX.i x)) i)))] = [(SV.v (Value.int IntKind.u8 (List.getD (be n k) i 0)))])))))))))))) := by kernel_rfl
theorem vcPut2 (n0 : Nat) (g : Nat → Int) (c : Nat) (n : Int) (k : Nat) : (vcFn Try.prog noCtrs (ΛPut none n0 g n k) Try.f94 [.vp 0 0, .v (.int .u64 n), .v (.int .i64 (k : Int))] (heapOf [wB none false (.sl 1 1 0 n0 c), bG n0 g c]) 64 (fun y h' => FinE [wB none false (.sl 1 1 0 n0 c), bG n0 g c] (apE (.used none n0 g c True) 0 True k (be n k) false) y h')) =
((∃ x : PX, (((((PX.i x) : Nat) ≤ k) ∧ (PX.i x = 0 ∨ n0 + PX.i x ≤ PX.c x)) ∧ (((SV.v (Value.int IntKind.i64 0)) = (SV.v (Value.int IntKind.i64 ((↑(PX.i x) : Int))))) ∧ ((((1 : Nat) = 1) ∧ (((1 : Nat) ≤ 1) ∧ ((SV.sl 1 1 0 n0 c) = (SV.sl 1 1 0 (n0 + PX.i x) (PX.c x))))) ∧ (((n0 : Nat) = (n0 + PX.i x)) ∧ ((((PX.c x) : Nat) ≤ c) ∧ (∀ i : Nat, (((i : Nat) < (n0 + PX.i x)) → ([(SV.v (Value.int IntKind.u8 (g i)))] = [(SV.v (Value.int IntKind.u8 (apG n0 g (beT n k (PX.i x)) i)))]))))))))) ∧ (∀ x : PX, (((((PX.i x) : Nat) ≤ k) ∧ (PX.i x = 0 ∨ n0 + PX.i x ≤ PX.c x)) → 
(sel (decide ((↑(PX.i x) : Int) < (↑k : Int))) (((0 : Int) ≤ (IntKind.wrap IntKind.u64 (IntKind.wrap IntKind.i64 (8 * IntKind.wrap IntKind.i64 (IntKind.wrap IntKind.i64 ((↑k : Int) - 1) - (↑(PX.i x) : Int)))))) ∧ ((((((n0 + PX.i x + 1) * 1) : Nat) ≤ 140737488355328) ∧ ((((0 + PX.c x) : Nat) ≤ (PX.c x)) ∧ (∀ y : Nat, (((y : Nat) < 1) → True)))) ∧ (∀ c_1 : Nat, (∃ x' : PX, ((((((PX.i x') : Nat) ≤ k) ∧ (PX.i x' = 0 ∨ n0 + PX.i x' ≤ PX.c x')) ∧ (((SV.v (Value.int IntKind.i64 (IntKind.wrap IntKind.i64 ((↑(PX.i x) : Int) + 1)))) = (SV.v (Value.int IntKind.i64 ((↑(PX.i x') : Int))))) ∧ ((((1 : Nat) = 1) ∧ (((1 : Nat) ≤ 1) ∧ ((SV.sl 224 1 0 (n0 + PX.i x + 1) (n0 + PX.i x + 1 + c_1)) = (SV.sl 224 1 0 (n0 + PX.i x') (PX.c x'))))) ∧ ((((n0 + PX.i x + 1) : Nat) = (n0 + PX.i x')) ∧ ((((PX.c x') : Nat) ≤ (n0 + PX.i x + 1 + c_1)) ∧ (∀ i : Nat, (((i : Nat) < (n0 + PX.i x')) → ([(SV.v (Value.int IntKind.u8 (bop (Nat.blt i (n0 + PX.i x)) (apG n0 g (beT n k (PX.i x)) (0 + i)) (IntKind.wrap IntKind.u8 (n / 2 ^ min (Int.toNat (IntKind.wrap IntKind.u64 (IntKind.wrap IntKind.i64 (8 * IntKind.wrap IntKind.i64 (IntKind.wrap IntKind.i64 ((↑k : Int) - 1) - (↑(PX.i x) : Int)))))) 64)))))] = [(SV.v (Value.int IntKind.u8 (apG n0 g (beT n k (PX.i x')) i)))])))))))) ∧ (((k - PX.i x') : Nat) < (k - PX.i x))))))) (∃ c_1 : Nat, (True ∧ ((((1 : Nat) = 1) ∧ (((1 : Nat) ≤ 1) ∧ ((SV.sl 40 1 0 (n0 + PX.i x) (PX.c x)) = (SV.sl 40 1 0 (n0 + k) (n0 + k + c_1))))) ∧ ((((n0 + PX.i x) : Nat) = (n0 + k)) ∧ ((((n0 + k + c_1) : Nat) ≤ (PX.c x)) ∧ (∀ i : Nat, (((i : Nat) < (n0 + k)) → ([(SV.v (Value.int IntKind.u8 (apG n0 g (beT n k (PX.i x)) i)))] = [(SV.v (Value.int IntKind.u8 (apG n0 g (be n k) i)))])))))))))))) := by kernel_rfl
theorem vcPut3 (b : Bool) (n : Int) (k : Nat) : (vcFn Try.prog noCtrs (ΛPut (some b) 0 (fun _ => 0) n k) Try.f94 [.vp 0 0, .v (.int .u64 n), .v (.int .i64 (k : Int))] (heapOf [wB (some b) true nilS]) 64 (fun y h' => FinE [wB (some b) true nilS] (apE (.fresh (some b)) 0 True k (be n k) false) y h')) =
((∃ x : PX, (((((PX.i x) : Nat) ≤ k) ∧ (PX.i x = 0 ∨ 0 + PX.i x ≤ PX.c x)) ∧ (((SV.v (Value.int IntKind.i64 0)) = (SV.v (Value.int IntKind.i64 ((↑(PX.i x) : Int))))) ∧ ((((1 : Nat) = 1) ∧ (((1 : Nat) ≤ 1) ∧ ((((SV.v (Value.slice none 0 0)) = (SV.v (Value.slice none 0 0))) ∧ (((0 : Nat) = 0) ∧ ((((0 + PX.i x) : Nat) = 0) ∧ (((PX.c x) : Nat) = 0)))) ∧ ((SV.v (Value.bool b)) = (SV.v (Value.bool b)))))) ∧ (((((0 + PX.i x) : Nat) = 0) ∧ ((((PX.c x) : Nat) = 0) ∧ True)) ∧ True))))) ∧ (∀ x : PX, (((((PX.i x) : Nat) ≤ k) ∧ (PX.i x = 0 ∨ 0 + PX.i x ≤ PX.c x)) → 
(sel (decide ((↑(PX.i x) : Int) < (↑k : Int))) (((0 : Int) ≤ (IntKind.wrap IntKind.u64 (IntKind.wrap IntKind.i64 (8 * IntKind.wrap IntKind.i64 (IntKind.wrap IntKind.i64 ((↑k : Int) - 1) - (↑(PX.i x) : Int)))))) ∧ ((((((0 + PX.i x + 1) * 1) : Nat) ≤ 140737488355328) ∧ ((((0 + PX.c x) : Nat) ≤ (PX.c x)) ∧ (∀ y : Nat, (((y : Nat) < 1) → True)))) ∧ (∀ c : Nat, (∃ x' : PX, ((((((PX.i x') : Nat) ≤ k) ∧ (PX.i x' = 0 ∨ 0 + PX.i x' ≤ PX.c x')) ∧ (((SV.v (Value.int IntKind.i64 (IntKind.wrap IntKind.i64 ((↑(PX.i x) : Int) + 1)))) = (SV.v (Value.int IntKind.i64 ((↑(PX.i x') : Int))))) ∧ ((((1 : Nat) = 1) ∧ (((1 : Nat) ≤ 1) ∧ (((SV.sl 224 1 0 (0 + PX.i x + 1) (0 + PX.i x + 1 + c)) = (SV.sl 224 1 0 (0 + PX.i x') (PX.c x'))) ∧ ((SV.v (Value.bool b)) = (SV.v (Value.bool b)))))) ∧ ((((0 + PX.i x + 1) : Nat) = (0 + PX.i x')) ∧ ((((PX.c x') : Nat) ≤ (0 + PX.i x + 1 + c)) ∧ (∀ i : Nat, (((i : Nat) < (0 + PX.i x')) → ([(SV.v (Value.int IntKind.u8 (bop (Nat.blt i (0 + PX.i x)) (apG 0 (fun x => 0) (beT n k (PX.i x)) (0 + i)) (IntKind.wrap IntKind.u8 (n / 2 ^ min (Int.toNat (IntKind.wrap IntKind.u64 (IntKind.wrap IntKind.i64 (8 * IntKind.wrap IntKind.i64 (IntKind.wrap IntKind.i64 ((↑k : Int) - 1) - (↑(PX.i x) : Int)))))) 64)))))] = [(SV.v (Value.int IntKind.u8 (apG 0 (fun x => 0) (beT n k (PX.i x')) i)))])))))))) ∧ (((k - PX.i x') : Nat) < (k - PX.i x))))))) (∃ c : Nat, (True ∧ ((((1 : Nat) = 1) ∧ (((1 : Nat) ≤ 1) ∧ (((SV.sl 40 1 0 (0 + PX.i x) (PX.c x)) = (SV.sl 40 1 0 k (k + c))) ∧ ((SV.v (Value.bool b)) = (SV.v (Value.bool (b || false))))))) ∧ ((((0 + PX.i x) : Nat) = k) ∧ ((((k + c) : Nat) ≤ (PX.c x)) ∧ (∀ i : Nat, (((i : Nat) < k) → ([(SV.v (Value.int IntKind.u8 (apG 0 (fun x => 0) (beT n k (PX.i x)) i)))] = [(SV.v (Value.int IntKind.u8 (List.getD (be n k) i 0)))])))))))))))) := by kernel_rfl
theorem vcPut1 (b : Bool) (n0 : Nat) (g : Nat → Int) (c : Nat) (n : Int) (k : Nat) : (vcFn Try.prog noCtrs (ΛPut (some b) n0 g n k) Try.f94 [.vp 0 0, .v (.int .u64 n), .v (.int .i64 (k : Int))] (heapOf [wB (some b) false (.sl 1 1 0 n0 c), bG n0 g c]) 64 (fun y h' => FinE [wB (some b) false (.sl 1 1 0 n0 c), bG n0 g c] (apE (.used (some b) n0 g c True) 0 True k (be n k) false) y h')) =
((∃ x : PX, (((((PX.i x) : Nat) ≤ k) ∧ (PX.i x = 0 ∨ n0 + PX.i x ≤ PX.c x)) ∧ (((SV.v (Value.int IntKind.i64 0)) = (SV.v (Value.int IntKind.i64 ((↑(PX.i x) : Int))))) ∧ ((((1 : Nat) = 1) ∧ (((1 : Nat) ≤ 1) ∧ (((SV.sl 1 1 0 n0 c) = (SV.sl 1 1 0 (n0 + PX.i x) (PX.c x))) ∧ ((SV.v (Value.bool b)) = (SV.v (Value.bool b)))))) ∧ (((n0 : Nat) = (n0 + PX.i x)) ∧ ((((PX.c x) : Nat) ≤ c) ∧ (∀ i : Nat, (((i : Nat) < (n0 + PX.i x)) → ([(SV.v (Value.int IntKind.u8 (g i)))] = [(SV.v (Value.int IntKind.u8 (apG n0 g (beT n k (PX.i x)) i)))]))))))))) ∧ (∀ x : PX, (((((PX.i x) : Nat) ≤ k) ∧ (PX.i x = 0 ∨ n0 + PX.i x ≤ PX.c x)) → 
(sel (decide ((↑(PX.i x) : Int) < (↑k : Int))) (((0 : Int) ≤ (IntKind.wrap IntKind.u64 (IntKind.wrap IntKind.i64 (8 * IntKind.wrap IntKind.i64 (IntKind.wrap IntKind.i64 ((↑k : Int) - 1) - (↑(PX.i x) : Int)))))) ∧ ((((((n0 + PX.i x + 1) * 1) : Nat) ≤ 140737488355328) ∧ ((((0 + PX.c x) : Nat) ≤ (PX.c x)) ∧ (∀ y : Nat, (((y : Nat) < 1) → True)))) ∧ (∀ c_1 : Nat, (∃ x' : PX, ((((((PX.i x') : Nat) ≤ k) ∧ (PX.i x' = 0 ∨ n0 + PX.i x' ≤ PX.c x')) ∧ (((SV.v (Value.int IntKind.i64 (IntKind.wrap IntKind.i64 ((↑(PX.i x) : Int) + 1)))) = (SV.v (Value.int IntKind.i64 ((↑(PX.i x') : Int))))) ∧ ((((1 : Nat) = 1) ∧ (((1 : Nat) ≤ 1) ∧ (((SV.sl 224 1 0 (n0 + PX.i x + 1) (n0 + PX.i x + 1 + c_1)) = (SV.sl 224 1 0 (n0 + PX.i x') (PX.c x'))) ∧ ((SV.v (Value.bool b)) = (SV.v (Value.bool b)))))) ∧ ((((n0 + PX.i x + 1) : Nat) = (n0 + PX.i x')) ∧ ((((PX.c x') : Nat) ≤ (n0 + PX.i x + 1 + c_1)) ∧ (∀ i : Nat, (((i : Nat) < (n0 + PX.i x')) → ([(SV.v (Value.int IntKind.u8 (bop (Nat.blt i (n0 + PX.i x)) (apG n0 g (beT n k (PX.i x)) (0 + i)) (IntKind.wrap IntKind.u8 (n / 2 ^ min (Int.toNat (IntKind.wrap IntKind.u64 (IntKind.wrap IntKind.i64 (8 * IntKind.wrap IntKind.i64 (IntKind.wrap IntKind.i64 ((↑k : Int) - 1) - (↑(PX.i x) : Int)))))) 64)))))] = [(SV.v (Value.int IntKind.u8 (apG n0 g (beT n k (PX.i x')) i)))])))))))) ∧ (((k - PX.i x') : Nat) < (k - PX.i x))))))) (∃ c_1 : Nat, (True ∧ ((((1 : Nat) = 1) ∧ (((1 : Nat) ≤ 1) ∧ (((SV.sl 40 1 0 (n0 + PX.i x) (PX.c x)) = (SV.sl 40 1 0 (n0 + k) (n0 + k + c_1))) ∧ ((SV.v (Value.bool b)) = (SV.v (Value.bool (b || false))))))) ∧ ((((n0 + PX.i x) : Nat) = (n0 + k)) ∧ ((((n0 + k + c_1) : Nat) ≤ (PX.c x)) ∧ (∀ i : Nat, (((i : Nat) < (n0 + k)) → ([(SV.v (Value.int IntKind.u8 (apG n0 g (beT n k (PX.i x)) i)))] = [(SV.v (Value.int IntKind.u8 (apG n0 g (be n k) i)))])))))))))))) := by kernel_rfl
theorem isByte_row {r : List SV} (h : isByte r) : r = [.v (.int .u8 (SE.byteOf r))] := by
  unfold isByte at h
  split at h
  · rfl
  · exact h.elim
theorem same_bG {n c : Nat} {D : Blk} (h1 : bOk D = true) (h2 : bytesOk n c D) : BlkSame D (bG n (fun i => SE.byteOf (D.row i)) c) := by
  simp only [bOk, Bool.and_eq_true, Bool.not_eq_true'] at h1
  obtain ⟨⟨⟨⟨⟨a1, a2⟩, a3⟩, a4⟩, a5⟩, a6⟩ := h1
  obtain ⟨b1, b2, _, b4⟩ := h2
  exact ⟨Nat.eq_of_beq_eq_true a2, a3, a5, b1, b2, a4, Nat.eq_of_beq_eq_true a1, a6, fun i hi => isByte_row (b4 i (by omega))⟩
def wRow (k : Option Bool) (a : SV) : List SV := match k with
  | none => [a]
  | some b => [a, .v (.bool b)]
theorem same_wB {k : Option Bool} {fl : Bool} {a : SV} {B : Blk} (h1 : wOk k fl B = true) (h2 : B.row 0 = wRow k a) : BlkSame B (wB k fl a) := by
  cases k with
  | none =>
    simp only [wOk, Bool.and_eq_true, Bool.not_eq_true', beq_iff_eq] at h1
    obtain ⟨⟨⟨⟨⟨⟨⟨a1, a2⟩, a3⟩, a4⟩, a5⟩, a6⟩, a7⟩, a8⟩ := h1
    have hn := Nat.eq_of_beq_eq_true a5
    exact ⟨Nat.eq_of_beq_eq_true a2, a3, a8, hn, Nat.eq_of_beq_eq_true a6, a4, Nat.eq_of_beq_eq_true a1, a7, fun i hi => by
      have : i = 0 := by omega
      subst this
      exact h2⟩
  | some b =>
    simp only [wOk, Bool.and_eq_true, Bool.not_eq_true', beq_iff_eq] at h1
    obtain ⟨⟨⟨⟨⟨⟨⟨a1, a2⟩, a3⟩, a4⟩, a5⟩, a6⟩, a7⟩, a8⟩ := h1
    have hn := Nat.eq_of_beq_eq_true a5
    exact ⟨Nat.eq_of_beq_eq_true a2, a3, a8, hn, Nat.eq_of_beq_eq_true a6, a4, Nat.eq_of_beq_eq_true a1, a7, fun i hi => by
      have : i = 0 := by omega
      subst this
      exact h2⟩
theorem bif_some {b : Bool} {α : Type _} {x y : α} (h : (bif b then some x else none) = some y) : b = true ∧ x = y := by
  cases b with
  | true => cases h; exact ⟨rfl, rfl⟩
  | false => cases h
theorem wrOf_fresh {bs : List Blk} {k : Option Bool} (h : wrOf bs = some (.fresh k)) : blksSame bs [wB k true nilS] := by
  unfold wrOf at h
  split at h
  · rename_i B
    split at h <;> try (cases h; done)
    · rename_i hB
      obtain ⟨h1, h2⟩ := bif_some h
      cases h2
      exact ⟨same_wB h1 hB, trivial⟩
    · rename_i b hB
      obtain ⟨h1, h2⟩ := bif_some h
      cases h2
      exact ⟨same_wB h1 hB, trivial⟩
  · split at h <;> try (cases h; done)
    all_goals
      obtain ⟨_, h2⟩ := bif_some h
      cases h2
  · cases h
theorem wrOf_used {bs : List Blk} {k : Option Bool} {n : Nat} {g : Nat → Int} {c : Nat} {p : Prop} (h : wrOf bs = some (.used k n g c p)) (hp : p) : blksSame bs [wB k false (.sl 1 1 0 n c), bG n g c] ∧ n < 70368744177664 := by
  unfold wrOf at h
  split at h
  · split at h <;> try (cases h; done)
    all_goals
      obtain ⟨_, h2⟩ := bif_some h
      cases h2
  · rename_i B D
    split at h <;> try (cases h; done)
    · rename_i n c' hB
      obtain ⟨h1, h2⟩ := bif_some h
      cases h2
      rw [Bool.and_eq_true] at h1
      exact ⟨⟨same_wB h1.1 hB, same_bG h1.2 hp, trivial⟩, hp.2.2.1⟩
    · rename_i n c' b hB
      obtain ⟨h1, h2⟩ := bif_some h
      cases h2
      rw [Bool.and_eq_true] at h1
      exact ⟨⟨same_wB h1.1 hB, same_bG h1.2 hp, trivial⟩, hp.2.2.1⟩
  · cases h
theorem beT_succ (n : Int) (k i : Nat) : beT n k (i + 1) = beT n k i ++ [byteAt n k i] := by
  simp [beT, List.range_succ]
theorem beT_len (n : Int) (k i : Nat) : (beT n k i).length = i := by simp [beT]
theorem be_len (n : Int) (k : Nat) : (be n k).length = k := beT_len n k k
theorem blt_true {i m : Nat} (h : i < m) : Nat.blt i m = true := Nat.ble_eq_true_of_le h
theorem blt_false {i m : Nat} (h : ¬ i < m) : Nat.blt i m = false := by
  cases hb : Nat.blt i m with
  | false => rfl
  | true => exact absurd (Nat.le_of_ble_eq_true hb) h
theorem apG_old {n : Nat} {g : Nat → Int} {L : List Int} {i : Nat} (h : i < n) : apG n g L i = g i := by
  unfold apG; rw [blt_true h]; rfl
theorem apG_new {n : Nat} {g : Nat → Int} {L : List Int} {i : Nat} (h : ¬ i < n) : apG n g L i = L.getD (i - n) 0 := by
  unfold apG; rw [blt_false h]; rfl
/-- Written twice is written together. -/
theorem apG_ap {n m : Nat} {g : Nat → Int} {L M : List Int} (hm : m = n + L.length) (i : Nat) : apG m (apG n g L) M i = apG n g (L ++ M) i := by
  subst hm
  by_cases h : i < n
  · rw [apG_old (by omega), apG_old h, apG_old h]
  · rw [apG_new h]
    by_cases h2 : i < n + L.length
    · rw [apG_old h2, apG_new h]
      simp [List.getD, List.getElem?_append_left (show i - n < L.length by omega)]
    · rw [apG_new h2]
      simp [List.getD, List.getElem?_append_right (show L.length ≤ i - n by omega), Nat.sub_sub]
/-- What is shifted out in a round. -/
theorem put_byte {n : Int} {k i : Nat} (hk : k ≤ 8) (hi : i < k) : 0 ≤ IntKind.u64.wrap (IntKind.i64.wrap (8 * IntKind.i64.wrap (IntKind.i64.wrap ((k : Int) - 1) - (i : Int)))) ∧ IntKind.u8.wrap (n / 2 ^ min (Int.toNat (IntKind.u64.wrap (IntKind.i64.wrap (8 * IntKind.i64.wrap (IntKind.i64.wrap ((k : Int) - 1) - (i : Int)))))) 64) = byteAt n k i := by
  have e1 : IntKind.i64.wrap ((k : Int) - 1) = (k : Int) - 1 := wrap_i64 ⟨by omega, by omega⟩
  have e2 : IntKind.i64.wrap ((k : Int) - 1 - i) = (k : Int) - 1 - i := wrap_i64 ⟨by omega, by omega⟩
  have e3 : IntKind.i64.wrap (8 * ((k : Int) - 1 - i)) = 8 * ((k : Int) - 1 - i) := wrap_i64 ⟨by omega, by omega⟩
  rw [e1, e2, e3, wrap_u64, wrap_u8]
  refine ⟨by omega, ?_⟩
  unfold byteAt
  rw [show min (Int.toNat (8 * ((k : Int) - 1 - i) % 18446744073709551616)) 64 = 8 * (k - 1 - i) by omega]
theorem put_next (n0 : Nat) (g : Nat → Int) (n : Int) (k x i : Nat) (b : Int) (hi : i < n0 + (x + 1)) (hb : b = byteAt n k x) : bop (Nat.blt i (n0 + x)) (apG n0 g (beT n k x) (0 + i)) b = apG n0 g (beT n k (x + 1)) i := by
  rw [beT_succ, ← apG_ap (m := n0 + x) (by rw [beT_len]), hb, Nat.zero_add]
  by_cases h : i < n0 + x
  · rw [blt_true h, apG_old (n := n0 + x) h]; rfl
  · rw [blt_false h, apG_new h, show i - (n0 + x) = 0 by omega]; rfl
theorem Put_used (kd : Option Bool) (n0 : Nat) (g : Nat → Int) (c : Nat) (n : Int) (k : Nat) (hl : n0 ≤ 1099511627776) (hk : k ≤ 8) (h1 : 1 ≤ k) :
    vcFn Try.prog noCtrs (ΛPut kd n0 g n k) Try.f94 [.vp 0 0, .v (.int .u64 n), .v (.int .i64 (k : Int))] (heapOf [wB kd false (.sl 1 1 0 n0 c), bG n0 g c]) 64 (fun y h' => FinE [wB kd false (.sl 1 1 0 n0 c), bG n0 g c] (apE (.used kd n0 g c True) 0 True k (be n k) false) y h') := by
  cases kd with
  | none =>
    refine Eq.mpr (vcPut2 n0 g c n k) ⟨⟨⟨0, c⟩, ⟨Nat.zero_le _, .inl rfl⟩, rfl, ⟨rfl, Nat.le_refl _, rfl⟩, rfl, Nat.le_refl _, fun i hi => congrArg (fun z => [SV.v (.int .u8 z)]) (apG_old hi).symm⟩, fun x ⟨h2, h3⟩ => sel_of (fun hlt => ?_) fun hge => ?_⟩
    · have hlt := of_decide_eq_true hlt
      have hb := put_byte (n := n) hk (show x.i < k by omega)
      have hw : IntKind.i64.wrap ((x.i : Int) + 1) = ((x.i + 1 : Nat) : Int) := wrap_i64 ⟨by omega, by omega⟩
      refine ⟨hb.1, ⟨by omega, by omega, fun _ _ => trivial⟩, fun c' => ⟨⟨x.i + 1, n0 + x.i + 1 + c'⟩, ⟨⟨by show x.i + 1 ≤ k; omega, .inr (by show n0 + (x.i + 1) ≤ n0 + x.i + 1 + c'; omega)⟩, int_mk hw, ⟨rfl, Nat.le_refl _, rfl⟩, rfl, Nat.le_refl _, fun i hi => ?_⟩, by show k - (x.i + 1) < k - x.i; omega⟩⟩
      exact congrArg (fun z => [SV.v (.int .u8 z)]) (put_next n0 g n k x.i i _ hi hb.2)
    · have hge := of_decide_eq_false hge
      have hx : x.i = k := by omega
      rw [hx] at h3 ⊢
      have h3 : n0 + k ≤ x.c := by omega
      have he : n0 + k + (x.c - (n0 + k)) = x.c := by omega
      refine ⟨x.c - (n0 + k), trivial, ⟨rfl, Nat.le_refl _, by rw [he]⟩, rfl, by omega, fun i hi => rfl⟩
  | some b =>
    refine Eq.mpr (vcPut1 b n0 g c n k) ⟨⟨⟨0, c⟩, ⟨Nat.zero_le _, .inl rfl⟩, rfl, ⟨rfl, Nat.le_refl _, rfl, rfl⟩, rfl, Nat.le_refl _, fun i hi => congrArg (fun z => [SV.v (.int .u8 z)]) (apG_old hi).symm⟩, fun x ⟨h2, h3⟩ => sel_of (fun hlt => ?_) fun hge => ?_⟩
    · have hlt := of_decide_eq_true hlt
      have hb := put_byte (n := n) hk (show x.i < k by omega)
      have hw : IntKind.i64.wrap ((x.i : Int) + 1) = ((x.i + 1 : Nat) : Int) := wrap_i64 ⟨by omega, by omega⟩
      refine ⟨hb.1, ⟨by omega, by omega, fun _ _ => trivial⟩, fun c' => ⟨⟨x.i + 1, n0 + x.i + 1 + c'⟩, ⟨⟨by show x.i + 1 ≤ k; omega, .inr (by show n0 + (x.i + 1) ≤ n0 + x.i + 1 + c'; omega)⟩, int_mk hw, ⟨rfl, Nat.le_refl _, rfl, rfl⟩, rfl, Nat.le_refl _, fun i hi => ?_⟩, by show k - (x.i + 1) < k - x.i; omega⟩⟩
      exact congrArg (fun z => [SV.v (.int .u8 z)]) (put_next n0 g n k x.i i _ hi hb.2)
    · have hge := of_decide_eq_false hge
      have hx : x.i = k := by omega
      rw [hx] at h3 ⊢
      have h3 : n0 + k ≤ x.c := by omega
      have he : n0 + k + (x.c - (n0 + k)) = x.c := by omega
      refine ⟨x.c - (n0 + k), trivial, ⟨rfl, Nat.le_refl _, by rw [he], by rw [Bool.or_false]⟩, rfl, by omega, fun i hi => rfl⟩
theorem Put_fresh (kd : Option Bool) (n : Int) (k : Nat) (hk : k ≤ 8) (h1 : 1 ≤ k) :
    vcFn Try.prog noCtrs (ΛPut kd 0 (fun _ => 0) n k) Try.f94 [.vp 0 0, .v (.int .u64 n), .v (.int .i64 (k : Int))] (heapOf [wB kd true nilS]) 64 (fun y h' => FinE [wB kd true nilS] (apE (.fresh kd) 0 True k (be n k) false) y h') := by
  cases kd with
  | none =>
    refine Eq.mpr (vcPut0 n k) ⟨⟨⟨0, 0⟩, ⟨Nat.zero_le _, .inl rfl⟩, rfl, ⟨rfl, Nat.le_refl _, rfl, rfl, rfl, rfl⟩, ⟨rfl, rfl, trivial⟩, trivial⟩, fun x ⟨h2, h3⟩ => sel_of (fun hlt => ?_) fun hge => ?_⟩
    · have hlt := of_decide_eq_true hlt
      have hb := put_byte (n := n) hk (show x.i < k by omega)
      have hw : IntKind.i64.wrap ((x.i : Int) + 1) = ((x.i + 1 : Nat) : Int) := wrap_i64 ⟨by omega, by omega⟩
      refine ⟨hb.1, ⟨by omega, by omega, fun _ _ => trivial⟩, fun c' => ⟨⟨x.i + 1, 0 + x.i + 1 + c'⟩, ⟨⟨by show x.i + 1 ≤ k; omega, .inr (by show 0 + (x.i + 1) ≤ 0 + x.i + 1 + c'; omega)⟩, int_mk hw, ⟨rfl, Nat.le_refl _, rfl⟩, rfl, Nat.le_refl _, fun i hi => ?_⟩, by show k - (x.i + 1) < k - x.i; omega⟩⟩
      exact congrArg (fun z => [SV.v (.int .u8 z)]) (put_next 0 (fun _ => 0) n k x.i i _ hi hb.2)
    · have hge := of_decide_eq_false hge
      have hx : x.i = k := by omega
      rw [hx] at h3 ⊢
      have h3 : 0 + k ≤ x.c := by omega
      have he : k + (x.c - k) = x.c := by omega
      refine ⟨x.c - k, trivial, ⟨rfl, Nat.le_refl _, by rw [he, Nat.zero_add]⟩, Nat.zero_add k, by omega, fun i hi => ?_⟩
      exact congrArg (fun z => [SV.v (.int .u8 z)]) (apG_new (n := 0) (Nat.not_lt_zero i))
  | some b =>
    refine Eq.mpr (vcPut3 b n k) ⟨⟨⟨0, 0⟩, ⟨Nat.zero_le _, .inl rfl⟩, rfl, ⟨rfl, Nat.le_refl _, ⟨rfl, rfl, rfl, rfl⟩, rfl⟩, ⟨rfl, rfl, trivial⟩, trivial⟩, fun x ⟨h2, h3⟩ => sel_of (fun hlt => ?_) fun hge => ?_⟩
    · have hlt := of_decide_eq_true hlt
      have hb := put_byte (n := n) hk (show x.i < k by omega)
      have hw : IntKind.i64.wrap ((x.i : Int) + 1) = ((x.i + 1 : Nat) : Int) := wrap_i64 ⟨by omega, by omega⟩
      refine ⟨hb.1, ⟨by omega, by omega, fun _ _ => trivial⟩, fun c' => ⟨⟨x.i + 1, 0 + x.i + 1 + c'⟩, ⟨⟨by show x.i + 1 ≤ k; omega, .inr (by show 0 + (x.i + 1) ≤ 0 + x.i + 1 + c'; omega)⟩, int_mk hw, ⟨rfl, Nat.le_refl _, rfl, rfl⟩, rfl, Nat.le_refl _, fun i hi => ?_⟩, by show k - (x.i + 1) < k - x.i; omega⟩⟩
      exact congrArg (fun z => [SV.v (.int .u8 z)]) (put_next 0 (fun _ => 0) n k x.i i _ hi hb.2)
    · have hge := of_decide_eq_false hge
      have hx : x.i = k := by omega
      rw [hx] at h3 ⊢
      have h3 : 0 + k ≤ x.c := by omega
      have he : k + (x.c - k) = x.c := by omega
      refine ⟨x.c - k, trivial, ⟨rfl, Nat.le_refl _, by rw [he, Nat.zero_add], by rw [Bool.or_false]⟩, Nat.zero_add k, by omega, fun i hi => ?_⟩
      exact congrArg (fun z => [SV.v (.int .u8 z)]) (apG_new (n := 0) (Nat.not_lt_zero i))
theorem Put_spec : HpSpec Try.prog 94 sPut := hp_spec hm noCtrs_ok Try.func94 (Λ := fun args bs => match args, wrOf bs with | [_, .v (.int _ n), .v (.int _ k)], some (.fresh kd) => ΛPut kd 0 (fun _ => 0) n k.toNat | [_, .v (.int _ n), .v (.int _ k)], some (.used kd n0 g _ _) => ΛPut kd n0 g n k.toNat | _, _ => noΛ) fun args bs e hs hp => by
  unfold sPut at hs
  split at hs <;> try (cases hs; done)
  rename_i n k
  split at hs <;> try (cases hs; done)
  rename_i w hw
  cases hs
  cases w with
  | fresh kd =>
    obtain ⟨hn, hk⟩ : U64 n ∧ (k = 4 ∨ k = 8) := hp
    refine ⟨_, wrOf_fresh hw, ?_⟩
    rw [hw]
    obtain ⟨m, rfl⟩ : ∃ m : Nat, k = (m : Int) := ⟨k.toNat, by omega⟩
    exact Put_fresh kd n m (by omega) (by omega)
  | used kd n0 g c p =>
    obtain ⟨⟨hp, hl⟩, hn, hk⟩ : (p ∧ n0 ≤ 1099511627776) ∧ U64 n ∧ (k = 4 ∨ k = 8) := hp
    refine ⟨_, (wrOf_used hw hp).1, ?_⟩
    rw [hw]
    obtain ⟨m, rfl⟩ : ∃ m : Nat, k = (m : Int) := ⟨k.toNat, by omega⟩
    exact Put_used kd n0 g c n m hl (by omega) (by omega)
end Go.Proofs.Ytjdldadmaaeimaa
