/-
  Contract: numbers read, the reference.
-/
import Derived.Test.YtnnmfonapfhcaaaFyT
set_option maxRecDepth 100000
set_option linter.unusedSimpArgs false
set_option linter.unusedVariables false
namespace Go.Proofs.Ytnnmfonapfhcaaa
open Go.SE Go.RowKit

structure KC where
  k : Nat
  c : Nat
def digN1 (L c : Nat) (f : Nat → Nat) : Blk := { elem := 0, size := 1, rw := true, lock := false, lit := false, flat := true, n := L, row := fun i => [.v (.int .i64 (f i : Int))], ext := c }
noncomputable def vH (W : List Int) (k : Nat) : Int := hid ((valF (dgt W) k : Nat) : Int)
theorem vH_eq (W : List Int) (k : Nat) : vH W k = ((valF (dgt W) k : Nat) : Int) := hid_eq _
structure lowV (W : List Int) (k : Nat) : Prop where
  le : k ≤ W.length
  lt : valF (dgt W) k < 42949672970
structure cutV (W : List Int) (k : Nat) : Prop where
  le : k ≤ W.length
  eq : valF (dgt W) k < 2147483648 → k = W.length
noncomputable def ΛRParse (ng : Bool) (i0 : Nat) (W : List Int) (i1 : Nat) (D : List Int) : Nat → Option LoopSpec :=
  addCut (addCut (addCut (addLoopN (addLoop noΛ Try.f61 0 Nat (lowV W) (fun k => W.length - k) [(5, fun k => .v (.int .i64 ((i0 + k : Nat) : Int))), (7, fun k => .v (.int .u64 (vH W k)))] [])
    Try.f61 2 KC (fun x => x.k ≤ D.length ∧ x.k ≤ x.c) (fun x => D.length - x.k) [(5, fun x => .v (.int .i64 ((i1 + x.k : Nat) : Int))), (8, fun x => .sl 40 1 0 x.k x.c)] [] [(40, fun x => digN1 x.k x.c (dgt D), inSlot 8)])
    Try.f61 4 9 Unit (fun _ => True) [(6, fun _ => .v (.bool ng))] [])
    Try.f61 5 2 Unit (fun _ => True) [(5, fun _ => .v (.int .i64 i0))] [])
    Try.f61 8 32 Nat (cutV W) [(5, fun k => .v (.int .i64 ((i0 + k : Nat) : Int))), (7, fun k => .v (.int .u64 (vH W k)))] []
noncomputable def ΓRP : Ctrs := addCtr (addCtr ΓU 63 (pureCtr sTextH)) 101 (roCtr sFrac)
theorem vcRParse (s : ByteArray) (ng : Bool) (i0 i1 : Nat) (W D : List Int) (R : SV → Prop) : (vcPure Try.prog ΓRP (ΛRParse ng i0 W i1 D) Try.f61 [.v (.string s)] R) =

(sel (decide ((↑(ByteArray.size s) : Int) > 50)) (R (SV.tup [(SV.agg [(SV.v (Value.int IntKind.i64 0)), (SV.v (Value.bool false))]), (SV.v (Value.int IntKind.i64 4))])) (
(sel (decide ((↑(ByteArray.size s) : Int) > 0)) ((((0 : Int) ≤ 0) ∧ ((0 : Int) < ((↑(ByteArray.size s) : Int)))) ∧ (∃ x : Unit, (True ∧ (((SV.v (Value.bool ((↑(UInt8.toNat (List.getD (Array.toList (ByteArray.data s)) 0 0)) : Int) == 45))) = (SV.v (Value.bool ng))) ∧ True)))) (∃ x : Unit, (True ∧ (((SV.v (Value.bool false)) = (SV.v (Value.bool ng))) ∧ True)))) ∧ (∀ x : Unit, (True → (
(sel ng (∃ x_1 : Unit, (True ∧ (((SV.v (Value.int IntKind.i64 1)) = (SV.v (Value.int IntKind.i64 ((↑i0 : Int))))) ∧ True))) (∃ x_1 : Unit, (True ∧ (((SV.v (Value.int IntKind.i64 0)) = (SV.v (Value.int IntKind.i64 ((↑i0 : Int))))) ∧ True)))) ∧ (∀ x_1 : Unit, (True → (((∃ x_2 : Nat, ((lowV W x_2) ∧ ((((SV.v (Value.int IntKind.i64 ((↑i0 : Int)))) = (SV.v (Value.int IntKind.i64 ((↑(i0 + x_2) : Int))))) ∧ ((SV.v (Value.int IntKind.u64 0)) = (SV.v (Value.int IntKind.u64 (vH W x_2))))) ∧ True))) ∧ (∀ x_2 : Nat, ((lowV W x_2) → 
(sel (decide ((↑(i0 + x_2) : Int) < (↑(ByteArray.size s) : Int))) ((((0 : Int) ≤ ((↑(i0 + x_2) : Int))) ∧ ((((↑(i0 + x_2) : Int)) : Int) < ((↑(ByteArray.size s) : Int)))) ∧ 
(sel (decide ((↑(UInt8.toNat (List.getD (Array.toList (ByteArray.data s)) (Int.toNat (↑(i0 + x_2) : Int)) 0)) : Int) ≥ 48)) ((((0 : Int) ≤ ((↑(i0 + x_2) : Int))) ∧ ((((↑(i0 + x_2) : Int)) : Int) < ((↑(ByteArray.size s) : Int)))) ∧ 
(sel (decide ((↑(UInt8.toNat (List.getD (Array.toList (ByteArray.data s)) (Int.toNat (↑(i0 + x_2) : Int)) 0)) : Int) ≤ 57)) 
(sel (decide (vH W x_2 < 4294967296)) ((((0 : Int) ≤ ((↑(i0 + x_2) : Int))) ∧ ((((↑(i0 + x_2) : Int)) : Int) < ((↑(ByteArray.size s) : Int)))) ∧ (∃ x' : Nat, (((lowV W x') ∧ ((((SV.v (Value.int IntKind.i64 (IntKind.wrap IntKind.i64 ((↑(i0 + x_2) : Int) + 1)))) = (SV.v (Value.int IntKind.i64 ((↑(i0 + x') : Int))))) ∧ ((SV.v (Value.int IntKind.u64 (IntKind.wrap IntKind.u64 (IntKind.wrap IntKind.u64 (10 * vH W x_2) + IntKind.wrap IntKind.u64 (IntKind.wrap IntKind.u8 ((↑(UInt8.toNat (List.getD (Array.toList (ByteArray.data s)) (Int.toNat (↑(i0 + x_2) : Int)) 0)) : Int) - 48)))))) = (SV.v (Value.int IntKind.u64 (vH W x'))))) ∧ True)) ∧ (((List.length W - x') : Nat) < (List.length W - x_2))))) (∃ x_3 : Nat, ((cutV W x_3) ∧ ((((SV.v (Value.int IntKind.i64 ((↑(i0 + x_2) : Int)))) = (SV.v (Value.int IntKind.i64 ((↑(i0 + x_3) : Int))))) ∧ ((SV.v (Value.int IntKind.u64 (vH W x_2))) = (SV.v (Value.int IntKind.u64 (vH W x_3))))) ∧ True)))) (∃ x_3 : Nat, ((cutV W x_3) ∧ ((((SV.v (Value.int IntKind.i64 ((↑(i0 + x_2) : Int)))) = (SV.v (Value.int IntKind.i64 ((↑(i0 + x_3) : Int))))) ∧ ((SV.v (Value.int IntKind.u64 (vH W x_2))) = (SV.v (Value.int IntKind.u64 (vH W x_3))))) ∧ True))))) (∃ x_3 : Nat, ((cutV W x_3) ∧ ((((SV.v (Value.int IntKind.i64 ((↑(i0 + x_2) : Int)))) = (SV.v (Value.int IntKind.i64 ((↑(i0 + x_3) : Int))))) ∧ ((SV.v (Value.int IntKind.u64 (vH W x_2))) = (SV.v (Value.int IntKind.u64 (vH W x_3))))) ∧ True))))) (∃ x_3 : Nat, ((cutV W x_3) ∧ ((((SV.v (Value.int IntKind.i64 ((↑(i0 + x_2) : Int)))) = (SV.v (Value.int IntKind.i64 ((↑(i0 + x_3) : Int))))) ∧ ((SV.v (Value.int IntKind.u64 (vH W x_2))) = (SV.v (Value.int IntKind.u64 (vH W x_3))))) ∧ True))))))) ∧ (∀ x_2 : Nat, ((cutV W x_2) → 
(sel (decide (vH W x_2 ≥ 2147483648)) (R (SV.tup [(SV.agg [(SV.v (Value.int IntKind.i64 0)), (SV.v (Value.bool false))]), (SV.v (Value.int IntKind.i64 4))])) 
(sel (decide ((↑(i0 + x_2) : Int) < (↑(ByteArray.size s) : Int))) ((((0 : Int) ≤ ((↑(i0 + x_2) : Int))) ∧ ((((↑(i0 + x_2) : Int)) : Int) < ((↑(ByteArray.size s) : Int)))) ∧ 
(sel ((↑(UInt8.toNat (List.getD (Array.toList (ByteArray.data s)) (Int.toNat (↑(i0 + x_2) : Int)) 0)) : Int) == 46) ((∃ x_3 : KC, (((((KC.k x_3) : Nat) ≤ (List.length D)) ∧ (((KC.k x_3) : Nat) ≤ (KC.c x_3))) ∧ ((((SV.v (Value.int IntKind.i64 (IntKind.wrap IntKind.i64 ((↑(i0 + x_2) : Int) + 1)))) = (SV.v (Value.int IntKind.i64 ((↑(i1 + KC.k x_3) : Int))))) ∧ (((SV.v (Value.slice none 0 0)) = (SV.v (Value.slice none 0 0))) ∧ (((0 : Nat) = 0) ∧ ((((KC.k x_3) : Nat) = 0) ∧ (((KC.c x_3) : Nat) = 0))))) ∧ (((((KC.k x_3) : Nat) = 0) ∧ ((((KC.c x_3) : Nat) = 0) ∧ True)) ∧ True)))) ∧ (∀ x_3 : KC, (((((KC.k x_3) : Nat) ≤ (List.length D)) ∧ (((KC.k x_3) : Nat) ≤ (KC.c x_3))) → 
(sel (decide ((↑(i1 + KC.k x_3) : Int) < (↑(ByteArray.size s) : Int))) ((((0 : Int) ≤ ((↑(i1 + KC.k x_3) : Int))) ∧ ((((↑(i1 + KC.k x_3) : Int)) : Int) < ((↑(ByteArray.size s) : Int)))) ∧ 
(sel (decide ((↑(UInt8.toNat (List.getD (Array.toList (ByteArray.data s)) (Int.toNat (↑(i1 + KC.k x_3) : Int)) 0)) : Int) ≥ 48)) ((((0 : Int) ≤ ((↑(i1 + KC.k x_3) : Int))) ∧ ((((↑(i1 + KC.k x_3) : Int)) : Int) < ((↑(ByteArray.size s) : Int)))) ∧ 
(sel (decide ((↑(UInt8.toNat (List.getD (Array.toList (ByteArray.data s)) (Int.toNat (↑(i1 + KC.k x_3) : Int)) 0)) : Int) ≤ 57)) ((((0 : Int) ≤ ((↑(i1 + KC.k x_3) : Int))) ∧ ((((↑(i1 + KC.k x_3) : Int)) : Int) < ((↑(ByteArray.size s) : Int)))) ∧ ((((((KC.k x_3 + 1) * 8) : Nat) ≤ 140737488355328) ∧ ((((0 + KC.c x_3) : Nat) ≤ (KC.c x_3)) ∧ (∀ y : Nat, (((y : Nat) < 1) → True)))) ∧ (∀ c : Nat, (∃ x' : KC, ((((((KC.k x') : Nat) ≤ (List.length D)) ∧ (((KC.k x') : Nat) ≤ (KC.c x'))) ∧ ((((SV.v (Value.int IntKind.i64 (IntKind.wrap IntKind.i64 ((↑(i1 + KC.k x_3) : Int) + 1)))) = (SV.v (Value.int IntKind.i64 ((↑(i1 + KC.k x') : Int))))) ∧ ((SV.sl 848 1 0 (KC.k x_3 + 1) (KC.k x_3 + 1 + c)) = (SV.sl 848 1 0 (KC.k x') (KC.c x')))) ∧ ((((KC.k x_3 + 1) : Nat) = (KC.k x')) ∧ ((((KC.c x') : Nat) ≤ (KC.k x_3 + 1 + c)) ∧ (∀ i : Nat, (((i : Nat) < (KC.k x')) → ([(SV.v (Value.int IntKind.i64 (bop (Nat.blt i (KC.k x_3)) (↑(dgt D (0 + i)) : Int) (IntKind.wrap IntKind.i64 (IntKind.wrap IntKind.u8 ((↑(UInt8.toNat (List.getD (Array.toList (ByteArray.data s)) (Int.toNat (↑(i1 + KC.k x_3) : Int)) 0)) : Int) - 48))))))] = [(SV.v (Value.int IntKind.i64 ((↑(dgt D i) : Int))))]))))))) ∧ (((List.length D - KC.k x') : Nat) < (List.length D - KC.k x_3))))))) (((okAll isD10 (rowsOf (KC.k x_3) fun y => [SV.v (Value.int IntKind.i64 (↑(dgt D (0 + y)) : Int))])) ∧ ((((KC.k x_3) : Nat) = (KC.k x_3)) ∧ (((KC.k x_3) : Nat) < 1099511627776))) ∧ 
(sel ng ((I64 (IntKind.wrap IntKind.i64 (0 - IntKind.wrap IntKind.i64 (bits BinOp.or IntKind.u64 (IntKind.wrap IntKind.u64 (vH W x_2 * 4294967296)) (hid (↑(outs (fun i => Int.toNat (rowI [SV.v (Value.int IntKind.i64 (↑(dgt D (0 + i)) : Int))])) (KC.k x_3) 32) : Int)))))) ∧ 
(sel (!textS (IntKind.wrap IntKind.i64 (0 - IntKind.wrap IntKind.i64 (bits BinOp.or IntKind.u64 (IntKind.wrap IntKind.u64 (vH W x_2 * 4294967296)) (hid (↑(outs (fun i => Int.toNat (rowI [SV.v (Value.int IntKind.i64 (↑(dgt D (0 + i)) : Int))])) (KC.k x_3) 32) : Int))))) (decide ((↑(i1 + KC.k x_3) : Int) < (↑(ByteArray.size s) : Int))) == s) (R (SV.tup [(SV.agg [(SV.v (Value.int IntKind.i64 0)), (SV.v (Value.bool false))]), (SV.v (Value.int IntKind.i64 4))])) (R (SV.tup [(SV.agg [(SV.v (Value.int IntKind.i64 (IntKind.wrap IntKind.i64 (0 - IntKind.wrap IntKind.i64 (bits BinOp.or IntKind.u64 (IntKind.wrap IntKind.u64 (vH W x_2 * 4294967296)) (hid (↑(outs (fun i => Int.toNat (rowI [SV.v (Value.int IntKind.i64 (↑(dgt D (0 + i)) : Int))])) (KC.k x_3) 32) : Int))))))), (SV.v (Value.bool (decide ((↑(i1 + KC.k x_3) : Int) < (↑(ByteArray.size s) : Int)))))]), (SV.v (Value.int IntKind.i64 0))])))) ((I64 (IntKind.wrap IntKind.i64 (bits BinOp.or IntKind.u64 (IntKind.wrap IntKind.u64 (vH W x_2 * 4294967296)) (hid (↑(outs (fun i => Int.toNat (rowI [SV.v (Value.int IntKind.i64 (↑(dgt D (0 + i)) : Int))])) (KC.k x_3) 32) : Int))))) ∧ 
(sel (!textS (IntKind.wrap IntKind.i64 (bits BinOp.or IntKind.u64 (IntKind.wrap IntKind.u64 (vH W x_2 * 4294967296)) (hid (↑(outs (fun i => Int.toNat (rowI [SV.v (Value.int IntKind.i64 (↑(dgt D (0 + i)) : Int))])) (KC.k x_3) 32) : Int)))) (decide ((↑(i1 + KC.k x_3) : Int) < (↑(ByteArray.size s) : Int))) == s) (R (SV.tup [(SV.agg [(SV.v (Value.int IntKind.i64 0)), (SV.v (Value.bool false))]), (SV.v (Value.int IntKind.i64 4))])) (R (SV.tup [(SV.agg [(SV.v (Value.int IntKind.i64 (IntKind.wrap IntKind.i64 (bits BinOp.or IntKind.u64 (IntKind.wrap IntKind.u64 (vH W x_2 * 4294967296)) (hid (↑(outs (fun i => Int.toNat (rowI [SV.v (Value.int IntKind.i64 (↑(dgt D (0 + i)) : Int))])) (KC.k x_3) 32) : Int)))))), (SV.v (Value.bool (decide ((↑(i1 + KC.k x_3) : Int) < (↑(ByteArray.size s) : Int)))))]), (SV.v (Value.int IntKind.i64 0))])))))))) (((okAll isD10 (rowsOf (KC.k x_3) fun y => [SV.v (Value.int IntKind.i64 (↑(dgt D (0 + y)) : Int))])) ∧ ((((KC.k x_3) : Nat) = (KC.k x_3)) ∧ (((KC.k x_3) : Nat) < 1099511627776))) ∧ 
(sel ng ((I64 (IntKind.wrap IntKind.i64 (0 - IntKind.wrap IntKind.i64 (bits BinOp.or IntKind.u64 (IntKind.wrap IntKind.u64 (vH W x_2 * 4294967296)) (hid (↑(outs (fun i => Int.toNat (rowI [SV.v (Value.int IntKind.i64 (↑(dgt D (0 + i)) : Int))])) (KC.k x_3) 32) : Int)))))) ∧ 
(sel (!textS (IntKind.wrap IntKind.i64 (0 - IntKind.wrap IntKind.i64 (bits BinOp.or IntKind.u64 (IntKind.wrap IntKind.u64 (vH W x_2 * 4294967296)) (hid (↑(outs (fun i => Int.toNat (rowI [SV.v (Value.int IntKind.i64 (↑(dgt D (0 + i)) : Int))])) (KC.k x_3) 32) : Int))))) (decide ((↑(i1 + KC.k x_3) : Int) < (↑(ByteArray.size s) : Int))) == s) (R (SV.tup [(SV.agg [(SV.v (Value.int IntKind.i64 0)), (SV.v (Value.bool false))]), (SV.v (Value.int IntKind.i64 4))])) (R (SV.tup [(SV.agg [(SV.v (Value.int IntKind.i64 (IntKind.wrap IntKind.i64 (0 - IntKind.wrap IntKind.i64 (bits BinOp.or IntKind.u64 (IntKind.wrap IntKind.u64 (vH W x_2 * 4294967296)) (hid (↑(outs (fun i => Int.toNat (rowI [SV.v (Value.int IntKind.i64 (↑(dgt D (0 + i)) : Int))])) (KC.k x_3) 32) : Int))))))), (SV.v (Value.bool (decide ((↑(i1 + KC.k x_3) : Int) < (↑(ByteArray.size s) : Int)))))]), (SV.v (Value.int IntKind.i64 0))])))) ((I64 (IntKind.wrap IntKind.i64 (bits BinOp.or IntKind.u64 (IntKind.wrap IntKind.u64 (vH W x_2 * 4294967296)) (hid (↑(outs (fun i => Int.toNat (rowI [SV.v (Value.int IntKind.i64 (↑(dgt D (0 + i)) : Int))])) (KC.k x_3) 32) : Int))))) ∧ 
(sel (!textS (IntKind.wrap IntKind.i64 (bits BinOp.or IntKind.u64 (IntKind.wrap IntKind.u64 (vH W x_2 * 4294967296)) (hid (↑(outs (fun i => Int.toNat (rowI [SV.v (Value.int IntKind.i64 (↑(dgt D (0 + i)) : Int))])) (KC.k x_3) 32) : Int)))) (decide ((↑(i1 + KC.k x_3) : Int) < (↑(ByteArray.size s) : Int))) == s) (R (SV.tup [(SV.agg [(SV.v (Value.int IntKind.i64 0)), (SV.v (Value.bool false))]), (SV.v (Value.int IntKind.i64 4))])) (R (SV.tup [(SV.agg [(SV.v (Value.int IntKind.i64 (IntKind.wrap IntKind.i64 (bits BinOp.or IntKind.u64 (IntKind.wrap IntKind.u64 (vH W x_2 * 4294967296)) (hid (↑(outs (fun i => Int.toNat (rowI [SV.v (Value.int IntKind.i64 (↑(dgt D (0 + i)) : Int))])) (KC.k x_3) 32) : Int)))))), (SV.v (Value.bool (decide ((↑(i1 + KC.k x_3) : Int) < (↑(ByteArray.size s) : Int)))))]), (SV.v (Value.int IntKind.i64 0))])))))))) (((okAll isD10 (rowsOf (KC.k x_3) fun y => [SV.v (Value.int IntKind.i64 (↑(dgt D (0 + y)) : Int))])) ∧ ((((KC.k x_3) : Nat) = (KC.k x_3)) ∧ (((KC.k x_3) : Nat) < 1099511627776))) ∧ 
(sel ng ((I64 (IntKind.wrap IntKind.i64 (0 - IntKind.wrap IntKind.i64 (bits BinOp.or IntKind.u64 (IntKind.wrap IntKind.u64 (vH W x_2 * 4294967296)) (hid (↑(outs (fun i => Int.toNat (rowI [SV.v (Value.int IntKind.i64 (↑(dgt D (0 + i)) : Int))])) (KC.k x_3) 32) : Int)))))) ∧ 
(sel (!textS (IntKind.wrap IntKind.i64 (0 - IntKind.wrap IntKind.i64 (bits BinOp.or IntKind.u64 (IntKind.wrap IntKind.u64 (vH W x_2 * 4294967296)) (hid (↑(outs (fun i => Int.toNat (rowI [SV.v (Value.int IntKind.i64 (↑(dgt D (0 + i)) : Int))])) (KC.k x_3) 32) : Int))))) (decide ((↑(i1 + KC.k x_3) : Int) < (↑(ByteArray.size s) : Int))) == s) (R (SV.tup [(SV.agg [(SV.v (Value.int IntKind.i64 0)), (SV.v (Value.bool false))]), (SV.v (Value.int IntKind.i64 4))])) (R (SV.tup [(SV.agg [(SV.v (Value.int IntKind.i64 (IntKind.wrap IntKind.i64 (0 - IntKind.wrap IntKind.i64 (bits BinOp.or IntKind.u64 (IntKind.wrap IntKind.u64 (vH W x_2 * 4294967296)) (hid (↑(outs (fun i => Int.toNat (rowI [SV.v (Value.int IntKind.i64 (↑(dgt D (0 + i)) : Int))])) (KC.k x_3) 32) : Int))))))), (SV.v (Value.bool (decide ((↑(i1 + KC.k x_3) : Int) < (↑(ByteArray.size s) : Int)))))]), (SV.v (Value.int IntKind.i64 0))])))) ((I64 (IntKind.wrap IntKind.i64 (bits BinOp.or IntKind.u64 (IntKind.wrap IntKind.u64 (vH W x_2 * 4294967296)) (hid (↑(outs (fun i => Int.toNat (rowI [SV.v (Value.int IntKind.i64 (↑(dgt D (0 + i)) : Int))])) (KC.k x_3) 32) : Int))))) ∧ 
(sel (!textS (IntKind.wrap IntKind.i64 (bits BinOp.or IntKind.u64 (IntKind.wrap IntKind.u64 (vH W x_2 * 4294967296)) (hid (↑(outs (fun i => Int.toNat (rowI [SV.v (Value.int IntKind.i64 (↑(dgt D (0 + i)) : Int))])) (KC.k x_3) 32) : Int)))) (decide ((↑(i1 + KC.k x_3) : Int) < (↑(ByteArray.size s) : Int))) == s) (R (SV.tup [(SV.agg [(SV.v (Value.int IntKind.i64 0)), (SV.v (Value.bool false))]), (SV.v (Value.int IntKind.i64 4))])) (R (SV.tup [(SV.agg [(SV.v (Value.int IntKind.i64 (IntKind.wrap IntKind.i64 (bits BinOp.or IntKind.u64 (IntKind.wrap IntKind.u64 (vH W x_2 * 4294967296)) (hid (↑(outs (fun i => Int.toNat (rowI [SV.v (Value.int IntKind.i64 (↑(dgt D (0 + i)) : Int))])) (KC.k x_3) 32) : Int)))))), (SV.v (Value.bool (decide ((↑(i1 + KC.k x_3) : Int) < (↑(ByteArray.size s) : Int)))))]), (SV.v (Value.int IntKind.i64 0))])))))))))) 
(sel ng ((I64 (IntKind.wrap IntKind.i64 (0 - IntKind.wrap IntKind.i64 (bits BinOp.or IntKind.u64 (IntKind.wrap IntKind.u64 (vH W x_2 * 4294967296)) 0)))) ∧ 
(sel (!textS (IntKind.wrap IntKind.i64 (0 - IntKind.wrap IntKind.i64 (bits BinOp.or IntKind.u64 (IntKind.wrap IntKind.u64 (vH W x_2 * 4294967296)) 0))) (decide ((↑(i0 + x_2) : Int) < (↑(ByteArray.size s) : Int))) == s) (R (SV.tup [(SV.agg [(SV.v (Value.int IntKind.i64 0)), (SV.v (Value.bool false))]), (SV.v (Value.int IntKind.i64 4))])) (R (SV.tup [(SV.agg [(SV.v (Value.int IntKind.i64 (IntKind.wrap IntKind.i64 (0 - IntKind.wrap IntKind.i64 (bits BinOp.or IntKind.u64 (IntKind.wrap IntKind.u64 (vH W x_2 * 4294967296)) 0))))), (SV.v (Value.bool (decide ((↑(i0 + x_2) : Int) < (↑(ByteArray.size s) : Int)))))]), (SV.v (Value.int IntKind.i64 0))])))) ((I64 (IntKind.wrap IntKind.i64 (bits BinOp.or IntKind.u64 (IntKind.wrap IntKind.u64 (vH W x_2 * 4294967296)) 0))) ∧ 
(sel (!textS (IntKind.wrap IntKind.i64 (bits BinOp.or IntKind.u64 (IntKind.wrap IntKind.u64 (vH W x_2 * 4294967296)) 0)) (decide ((↑(i0 + x_2) : Int) < (↑(ByteArray.size s) : Int))) == s) (R (SV.tup [(SV.agg [(SV.v (Value.int IntKind.i64 0)), (SV.v (Value.bool false))]), (SV.v (Value.int IntKind.i64 4))])) (R (SV.tup [(SV.agg [(SV.v (Value.int IntKind.i64 (IntKind.wrap IntKind.i64 (bits BinOp.or IntKind.u64 (IntKind.wrap IntKind.u64 (vH W x_2 * 4294967296)) 0)))), (SV.v (Value.bool (decide ((↑(i0 + x_2) : Int) < (↑(ByteArray.size s) : Int)))))]), (SV.v (Value.int IntKind.i64 0))]))))))) 
(sel ng ((I64 (IntKind.wrap IntKind.i64 (0 - IntKind.wrap IntKind.i64 (bits BinOp.or IntKind.u64 (IntKind.wrap IntKind.u64 (vH W x_2 * 4294967296)) 0)))) ∧ 
(sel (!textS (IntKind.wrap IntKind.i64 (0 - IntKind.wrap IntKind.i64 (bits BinOp.or IntKind.u64 (IntKind.wrap IntKind.u64 (vH W x_2 * 4294967296)) 0))) (decide ((↑(i0 + x_2) : Int) < (↑(ByteArray.size s) : Int))) == s) (R (SV.tup [(SV.agg [(SV.v (Value.int IntKind.i64 0)), (SV.v (Value.bool false))]), (SV.v (Value.int IntKind.i64 4))])) (R (SV.tup [(SV.agg [(SV.v (Value.int IntKind.i64 (IntKind.wrap IntKind.i64 (0 - IntKind.wrap IntKind.i64 (bits BinOp.or IntKind.u64 (IntKind.wrap IntKind.u64 (vH W x_2 * 4294967296)) 0))))), (SV.v (Value.bool (decide ((↑(i0 + x_2) : Int) < (↑(ByteArray.size s) : Int)))))]), (SV.v (Value.int IntKind.i64 0))])))) ((I64 (IntKind.wrap IntKind.i64 (bits BinOp.or IntKind.u64 (IntKind.wrap IntKind.u64 (vH W x_2 * 4294967296)) 0))) ∧ 
(sel (!textS (IntKind.wrap IntKind.i64 (bits BinOp.or IntKind.u64 (IntKind.wrap IntKind.u64 (vH W x_2 * 4294967296)) 0)) (decide ((↑(i0 + x_2) : Int) < (↑(ByteArray.size s) : Int))) == s) (R (SV.tup [(SV.agg [(SV.v (Value.int IntKind.i64 0)), (SV.v (Value.bool false))]), (SV.v (Value.int IntKind.i64 4))])) (R (SV.tup [(SV.agg [(SV.v (Value.int IntKind.i64 (IntKind.wrap IntKind.i64 (bits BinOp.or IntKind.u64 (IntKind.wrap IntKind.u64 (vH W x_2 * 4294967296)) 0)))), (SV.v (Value.bool (decide ((↑(i0 + x_2) : Int) < (↑(ByteArray.size s) : Int)))))]), (SV.v (Value.int IntKind.i64 0))]))))))))))))))))) := by kernel_rfl
theorem ΓRP_ok : ∀ f g, ΓRP f = some g → g.ok Try.prog f := addCtr_ok (addCtr_ok ΓU_ok (pure_ok Try.func63 (by kernel_rfl) (by kernel_rfl) RText_spec)) (ro_ok Try.func101 (by kernel_rfl) (by kernel_rfl) Frac_spec)
theorem drop_get (l : List Int) (i k : Nat) : (l.drop i).getD k 0 = l.getD (i + k) 0 := by simp only [List.getD, List.getElem?_drop]
theorem take_get {l : List Int} {n k : Nat} (h : k < n) : (l.take n).getD k 0 = l.getD k 0 := by simp only [List.getD, List.getElem?_take_of_lt h]
def negO (s : List Int) : Nat := bif negT s then 1 else 0
theorem tail_drop (s : List Int) : tailT s = s.drop (negO s) := by
  unfold tailT negO
  cases negT s <;> rfl
theorem negO_le (s : List Int) : negO s ≤ s.length := by
  unfold negO negT
  cases s with
  | nil => exact Nat.le_refl _
  | cons x t =>
    have : ∀ b : Bool, (bif b then 1 else 0) ≤ (x :: t).length := by intro b; cases b <;> simp
    exact this _
theorem tail_len (s : List Int) : (tailT s).length = s.length - negO s := by rw [tail_drop, List.length_drop]
theorem whole_len (s : List Int) : (wholeT s).length = digN (tailT s) := by
  unfold wholeT
  rw [List.length_take]
  have := digN_le (tailT s)
  omega
theorem after_drop (s : List Int) : afterT s = s.drop (negO s + (wholeT s).length) := by
  unfold afterT
  rw [whole_len, tail_drop, List.drop_drop]
theorem dot_at (s : List Int) : dotT (afterT s) = true ↔ (negO s + (wholeT s).length < s.length ∧ s.getD (negO s + (wholeT s).length) 0 = 46) := by
  rw [after_drop]
  generalize negO s + (wholeT s).length = i
  unfold dotT
  cases hd : s.drop i with
  | nil =>
    have : s.length ≤ i := List.drop_eq_nil_iff.1 hd
    constructor
    · intro h; cases h
    · rintro ⟨h, _⟩; omega
  | cons x t =>
    have hl : i < s.length := by
      rcases Nat.lt_or_ge i s.length with h | h
      · exact h
      · rw [List.drop_eq_nil_iff.2 h] at hd; cases hd
    have hx : s.getD i 0 = x := by
      have := drop_get s i 0
      rw [hd] at this
      exact this.symm
    rw [hx]
    constructor
    · intro h; exact ⟨hl, by simpa using h⟩
    · rintro ⟨_, h⟩; simpa using h
theorem part_len {s : List Int} (h : dotT (afterT s) = true) : (partT s).length = digN ((afterT s).drop 1) := by
  unfold partT
  rw [h, cond_true, List.length_take]
  have := digN_le ((afterT s).drop 1)
  omega
theorem last_len {s : List Int} (h : dotT (afterT s) = true) : (lastT s).length = s.length - (negO s + (wholeT s).length + 1 + (partT s).length) := by
  unfold lastT
  rw [part_len h, h, cond_true, List.length_drop, List.length_drop, after_drop, List.length_drop]
  omega
theorem last_len0 {s : List Int} (h : dotT (afterT s) = false) : (lastT s).length = s.length - (negO s + (wholeT s).length) := by
  unfold lastT
  rw [h, cond_false, after_drop, List.length_drop]
theorem not_empty (l : List Int) {n m : Nat} (h : l.length = n - m) : (!l.isEmpty) = decide ((m : Int) < (n : Int)) := by
  cases l with
  | nil => rw [decide_eq_false (by simp at h; omega)]; rfl
  | cons x t => rw [decide_eq_true (by simp at h; omega)]; rfl
theorem valF_mono (g : Nat → Nat) (k : Nat) : ∀ m, valF g k ≤ valF g (k + m)
  | 0 => Nat.le_refl _
  | m + 1 => by
    have := valF_mono g k m
    show _ ≤ 10 * valF g (k + m) + g (k + m)
    omega
theorem or_pos {a b : Nat} (ha : a < 2147483648) (hb : b < 4294967296) : IntKind.i64.wrap (bits .or .u64 (IntKind.u64.wrap ((a : Int) * 4294967296)) (b : Int)) = ((a * 4294967296 + b : Nat) : Int) := by
  rw [wrap_u64, Int.emod_eq_of_lt (by omega) (by omega), or_join (by omega) (by omega) (by omega) (by omega), wrap_i64 ⟨by omega, by omega⟩]; omega
theorem rparse_leaf {s : ByteArray} {F : Bool} {n : Nat} (hn : n < 9223372036854775808) (hF : F = candF (byt s)) (hc : sizeT' (byt s) = n) :
    sel (negT (byt s)) (I64 (IntKind.i64.wrap (0 - (n : Int))) ∧ sel (!(textS (IntKind.i64.wrap (0 - (n : Int))) F == s)) (noneS = parS s) (SV.tup [numS (IntKind.i64.wrap (0 - (n : Int))) F, .v (.int .i64 0)] = parS s))
      (I64 (n : Int) ∧ sel (!(textS (n : Int) F == s)) (noneS = parS s) (SV.tup [numS (n : Int) F, .v (.int .i64 0)] = parS s)) := by
  refine sel_of (fun h => ?_) fun h => ?_
  · rw [wrap_i64 ⟨by omega, by omega⟩]
    refine parse_leaf (by omega) (by omega) ?_ hF
    unfold candV
    rw [h, cond_true, hc]; omega
  · refine parse_leaf (by omega) (by omega) ?_ hF
    unfold candV
    rw [h, cond_false, hc]
theorem outs_rows (D : List Int) (k : Nat) : outs (fun i => Int.toNat (rowI [SV.v (.int .i64 (dgt D (0 + i) : Nat))])) k 32 = outs (dgt D) k 32 := by
  congr 1
  funext i
  rw [Nat.zero_add]
  show Int.toNat ((dgt D i : Nat) : Int) = _
  omega
theorem bits32_nil : bits32N [] = 0 := by rfl
theorem valF_0 (g : Nat → Nat) : valF g 0 < 42949672970 := by unfold valF; omega
theorem valF_00 (g : Nat → Nat) : (0 : Int) = ((valF g 0 : Nat) : Int) := by unfold valF; rfl
theorem selT' {b : Bool} {x y : Prop} (h : b = true) (hx : x) : sel b x y := by subst h; exact hx
theorem selF' {b : Bool} {x y : Prop} (h : b = false) (hy : y) : sel b x y := by subst h; exact hy
theorem RParse_spec : PureSpec Try.prog 61 sParse := vc_spec hm ΓRP_ok Try.func61 (Λ := fun args => match args with | [.v (.string s)] => ΛRParse (negT (byt s)) (negO (byt s)) (wholeT (byt s)) (negO (byt s) + (wholeT (byt s)).length + 1) (partT (byt s)) | _ => noΛ) fun args p x h hp => by
  unfold sParse at h
  split at h <;> try (cases h; done)
  rename_i s
  cases h
  have h0 : s.size < 1099511627776 := hp _ rfl
  refine ⟨rfl, rfl, ?_⟩
  refine Eq.mpr (vcRParse s (negT (byt s)) (negO (byt s)) (negO (byt s) + (wholeT (byt s)).length + 1) (wholeT (byt s)) (partT (byt s)) _) ?_
  have hsl := byt_len s
  have hno := negO_le (byt s)
  have hwl := whole_len (byt s)
  have htl := tail_len (byt s)
  have hwd := whole_dig (byt s)
  have hwg : ∀ k, k < (wholeT (byt s)).length → (wholeT (byt s)).getD k 0 = (byt s).getD (negO (byt s) + k) 0 := fun k hk => by
    unfold wholeT
    rw [take_get (by rw [← hwl]; exact hk), tail_drop, drop_get]
  have htg : ∀ k, (tailT (byt s)).getD k 0 = (byt s).getD (negO (byt s) + k) 0 := fun k => by rw [tail_drop, drop_get]
  simp only [byt_get, Int.toNat_natCast, hid_eq, outs_rows]
  refine sel_of (fun g => none_of fun v f ht => ?_) fun g1 => ⟨sel_of (fun g => ⟨⟨by omega, by have := of_decide_eq_true g; omega⟩, (), trivial, bool_mk ?_, trivial⟩) fun g => ⟨(), trivial, bool_mk ?_, trivial⟩, fun _ _ => ⟨sel_of (fun g => ⟨(), trivial, int_mk ?_, trivial⟩) fun g => ⟨(), trivial, int_mk ?_, trivial⟩, fun _ _ => ⟨⟨⟨0, ⟨Nat.zero_le _, valF_0 _⟩, ⟨int_mk (by rw [Nat.add_zero]), int_mk (by rw [vH_eq]; exact valF_00 _)⟩, trivial⟩, fun k hinv => sel_dig (fun g => ?_) (fun g1 g2 g3 => ?_) fun g => ?_⟩, fun k hinv2 => ?_⟩⟩⟩
  · have := of_decide_eq_true g
    have := (text_bounds ht).1
    omega
  · have g := of_decide_eq_true g
    unfold negT
    cases hb : byt s with
    | nil => rw [hb] at hsl; simp at hsl; omega
    | cons y t => rfl
  · have g := of_decide_eq_false g
    unfold negT
    cases hb : byt s with
    | nil => rfl
    | cons y t => rw [hb] at hsl; simp at hsl; omega
  · unfold negO; rw [g]; rfl
  · unfold negO; rw [g]; rfl
  · have hk := hinv.le
    have g := of_decide_eq_true g
    exact ⟨⟨by omega, by omega⟩, by omega, by omega⟩
  · have hk := hinv.le
    have hv := hinv.lt
    have g1 := of_decide_eq_true g1
    have hvh := vH_eq (wholeT (byt s)) k
    refine sel_of (fun g4 => ?_) fun g4 => ?_
    rotate_left
    · have g4 := of_decide_eq_false g4
      exact ⟨k, ⟨hk, fun hlt => by omega⟩, ⟨rfl, rfl⟩, trivial⟩
    have g4 := of_decide_eq_true g4
    have hlt : k + 1 ≤ (wholeT (byt s)).length := by
      rw [hwl]
      refine (digN_get (tailT (byt s)) k (by omega)).1 (by omega) ?_
      rw [htg]
      unfold isDig
      rw [show decide (48 ≤ (byt s).getD (negO (byt s) + k) 0) = true from g2, g3]; rfl
    have hd := dig_eq (hwd ((wholeT (byt s)).getD k 0) (getD_mem (by omega)))
    have e1 : valF (dgt (wholeT (byt s))) (k + 1) = 10 * valF (dgt (wholeT (byt s))) k + ((wholeT (byt s)).getD k 0 - 48).toNat := rfl
    have e2 := hwg k (by omega)
    refine ⟨⟨by omega, by omega⟩, k + 1, ⟨⟨hlt, by rw [e1]; omega⟩, ⟨int_mk (by rw [wrap_i64 ⟨by omega, by omega⟩]; omega), int_mk ?_⟩, trivial⟩, by omega⟩
    rw [hvh, vH_eq, e1, e2]
    rw [e2] at hd
    generalize (byt s).getD (negO (byt s) + k) 0 = y at *
    generalize valF (dgt (wholeT (byt s))) k = v at *
    rw [wrap_u8, wrap_u64, wrap_u64, wrap_u64]
    omega
  · have hk := hinv.le
    refine ⟨k, ⟨hk, fun _ => ?_⟩, ⟨rfl, rfl⟩, trivial⟩
    rw [hwl]
    refine (digN_get (tailT (byt s)) k (by omega)).2 fun hl => ?_
    rw [htg]
    cases hd : isDig ((byt s).getD (negO (byt s) + k) 0) with
    | false => rfl
    | true =>
      unfold isDig at hd
      rw [Bool.and_eq_true] at hd
      exact (g (decide_eq_true (by omega)) hd.1 hd.2).elim
  · -- behind the whole part
    have hk := hinv2.le
    have hkv := hinv2.eq
    have hvh := vH_eq (wholeT (byt s)) k
    refine sel_of (fun g => none_of fun v f ht => ?_) fun g4 => ?_
    · have g := of_decide_eq_true g
      have hb := (text_bounds ht).2.2.2
      have hm := valF_mono (dgt (wholeT (byt s))) k ((wholeT (byt s)).length - k)
      rw [show k + ((wholeT (byt s)).length - k) = (wholeT (byt s)).length by omega] at hm
      have : valN (wholeT (byt s)) = valF (dgt (wholeT (byt s))) (wholeT (byt s)).length := rfl
      omega
    · have g4 := of_decide_eq_false g4
      have hn : valF (dgt (wholeT (byt s))) k < 2147483648 := by omega
      obtain rfl := hkv hn
      have hval : valF (dgt (wholeT (byt s))) (wholeT (byt s)).length = valN (wholeT (byt s)) := rfl
      rw [hval] at hn hvh
      rw [hvh]
      have tail0 : dotT (afterT (byt s)) = false → sizeT' (byt s) = valN (wholeT (byt s)) * 4294967296 + 0 ∧ decide (((negO (byt s) + (wholeT (byt s)).length : Nat) : Int) < (s.size : Int)) = candF (byt s) := fun hdot => by
        constructor
        · unfold sizeT' partT; rw [hdot, cond_false, bits32_nil]
        · unfold candF
          rw [not_empty _ (last_len0 hdot), hsl]
      have e00 := or_pos (b := 0) hn (by decide)
      have e00 : IntKind.i64.wrap (bits .or .u64 (IntKind.u64.wrap ((valN (wholeT (byt s)) : Int) * 4294967296)) 0) = ((valN (wholeT (byt s)) * 4294967296 + 0 : Nat) : Int) := e00
      rw [e00]
      refine sel_of (fun hlt => ⟨by have := of_decide_eq_true hlt; exact ⟨by omega, by omega⟩, sel_of (fun hd => ?_) fun hd => ?_⟩) fun hge => ?_
      · have hlt := of_decide_eq_true hlt
        have hd : (byt s).getD (negO (byt s) + (wholeT (byt s)).length) 0 = 46 := by simpa using hd
        have hdot := (dot_at (byt s)).2 ⟨by omega, hd⟩
        have hpl := part_len hdot
        have hpd := part_dig (byt s)
        have hag : ∀ k, ((afterT (byt s)).drop 1).getD k 0 = (byt s).getD (negO (byt s) + (wholeT (byt s)).length + 1 + k) 0 := fun k => by rw [drop_get, after_drop, drop_get]; congr 1; omega
        have hal : ((afterT (byt s)).drop 1).length = (byt s).length - (negO (byt s) + (wholeT (byt s)).length + 1) := by rw [List.length_drop, after_drop, List.length_drop]; omega
        have hpg : ∀ k, k < (partT (byt s)).length → (partT (byt s)).getD k 0 = (byt s).getD (negO (byt s) + (wholeT (byt s)).length + 1 + k) 0 := fun k hk => by
          rw [← hag]
          unfold partT
          rw [hdot, cond_true, take_get (by rw [← hpl]; exact hk)]
        have hsz : sizeT' (byt s) = valN (wholeT (byt s)) * 4294967296 + outs (dgt (partT (byt s))) (partT (byt s)).length 32 := rfl
        have hF : decide (((negO (byt s) + (wholeT (byt s)).length + 1 + (partT (byt s)).length : Nat) : Int) < (s.size : Int)) = candF (byt s) := by
          unfold candF
          rw [not_empty _ (last_len hdot), hsl]
        have hb := bits32_lt hpd
        have hb : outs (dgt (partT (byt s))) (partT (byt s)).length 32 < 4294967296 := hb
        refine ⟨⟨⟨0, 0⟩, ⟨Nat.zero_le _, Nat.le_refl _⟩, ⟨int_mk (by rw [wrap_i64 ⟨by omega, by omega⟩]; simp only; omega), by trivial, by trivial, by trivial, by trivial⟩, ⟨by trivial, by trivial, trivial⟩, trivial⟩, fun ⟨k, c⟩ ⟨hk, hc⟩ => ?_⟩
        simp only at hk hc ⊢
        have hdl := digN_le ((afterT (byt s)).drop 1)
        refine sel_dig (fun g => ?_) (fun g1 g2 g3 => ?_) fun g => ?_
        · have g := of_decide_eq_true g
          exact ⟨⟨by omega, by omega⟩, by omega, by omega⟩
        · have g1 := of_decide_eq_true g1
          have hlt' : k + 1 ≤ (partT (byt s)).length := by
            rw [hpl]
            refine (digN_get ((afterT (byt s)).drop 1) k (by omega)).1 (by omega) ?_
            rw [hag]
            unfold isDig
            rw [show decide (48 ≤ (byt s).getD (negO (byt s) + (wholeT (byt s)).length + 1 + k) 0) = true from g2, g3]; rfl
          have hd' := dig_eq (hpd ((partT (byt s)).getD k 0) (getD_mem (by omega)))
          have e2 := hpg k (by omega)
          refine ⟨⟨by omega, by omega⟩, ⟨by omega, by omega, fun _ _ => trivial⟩, fun c2 => ⟨⟨k + 1, k + 1 + c2⟩, ⟨⟨hlt', by simp only; omega⟩, ⟨int_mk (by rw [wrap_i64 ⟨by omega, by omega⟩]; simp only; omega), rfl⟩, rfl, Nat.le_refl _, fun i hi => ?_⟩, by simp only; omega⟩⟩
          by_cases hik : i < k
          · rw [show Nat.blt i k = true from Nat.ble_eq_true_of_le hik, Nat.zero_add]; rfl
          · obtain rfl : i = k := by simp only at hi; omega
            rw [show Nat.blt i i = false by cases hb : Nat.blt i i with | false => rfl | true => exact absurd (Nat.le_of_ble_eq_true hb) hik]
            have e3 : dgt (partT (byt s)) i = ((partT (byt s)).getD i 0 - 48).toNat := rfl
            rw [e3, e2]
            rw [e2] at hd'
            generalize (byt s).getD (negO (byt s) + (wholeT (byt s)).length + 1 + i) 0 = y at *
            have : IntKind.i64.wrap (IntKind.u8.wrap (y - 48)) = ((y - 48).toNat : Int) := by rw [wrap_u8, wrap_i64 ⟨by omega, by omega⟩]; omega
            rw [this]; rfl
        · have e : k = (partT (byt s)).length := by
            rw [hpl]
            refine (digN_get ((afterT (byt s)).drop 1) k (by omega)).2 fun hl => ?_
            rw [hag]
            cases hd : isDig ((byt s).getD (negO (byt s) + (wholeT (byt s)).length + 1 + k) 0) with
            | false => rfl
            | true =>
              unfold isDig at hd
              rw [Bool.and_eq_true] at hd
              exact (g (decide_eq_true (by omega)) hd.1 hd.2).elim
          subst e
          rw [or_pos hn hb, hF]
          refine ⟨⟨okAll_rows.2 fun i hi => ?_, by trivial, by omega⟩, rparse_leaf (by omega) rfl hsz⟩
          have := dgt_le (hpd _ (getD_mem hi))
          rw [Nat.zero_add]
          exact ⟨by omega, by omega⟩
      · have hlt := of_decide_eq_true hlt
        have hdot : dotT (afterT (byt s)) = false := by
          cases h : dotT (afterT (byt s)) with
          | false => rfl
          | true =>
            rw [((dot_at (byt s)).1 h).2] at hd
            exact absurd hd (by decide)
        rw [(tail0 hdot).2]
        exact rparse_leaf (by omega) rfl (tail0 hdot).1
      · have hge := of_decide_eq_false hge
        have hdot : dotT (afterT (byt s)) = false := by
          cases h : dotT (afterT (byt s)) with
          | false => rfl
          | true => have := ((dot_at (byt s)).1 h).1; omega
        rw [(tail0 hdot).2]
        exact rparse_leaf (by omega) rfl (tail0 hdot).1
end Go.Proofs.Ytnnmfonapfhcaaa
