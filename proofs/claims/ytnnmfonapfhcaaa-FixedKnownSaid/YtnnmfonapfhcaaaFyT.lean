/-
  Contracts: the reference's digits, texts, fractions, numbers read.
-/
import Derived.Test.YtnnmfonapfhcaaaFyS2
set_option maxRecDepth 100000
set_option linter.unusedSimpArgs false
set_option linter.unusedVariables false
namespace Go.Proofs.Ytnnmfonapfhcaaa
open Go.SE Go.RowKit

noncomputable def strH (l : List Int) : ByteArray := hid (strOfNums l)
noncomputable def sDigits (k : Nat) : List SV → Option (Option Prop × SV)
  | [.v (.int .u64 n)] => some (some (k ≤ 20 ∧ k ≠ 0 ∧ U64 n ∧ n < ((10 ^ k : Nat) : Int)), .v (.string (strH (decB n.toNat))))
  | _ => none
noncomputable def ΓDg (k : Nat) : Ctrs := addCtr noCtrs 106 (pureCtr (sDigits k))
theorem vcDigits (k : Nat) (n : Int) (R : SV → Prop) : (vcPure Try.prog (ΓDg k) noΛ Try.f106 [.v (.int .u64 n)] R) =
((∀ y : Nat, (((y : Nat) < 1) → True)) ∧ 
(sel (decide (n ≥ 10)) ((((k : Nat) ≤ 20) ∧ (((k : Nat) ≠ 0) ∧ ((U64 (IntKind.wrap IntKind.u64 (Int.tdiv n 10))) ∧ (((IntKind.wrap IntKind.u64 (Int.tdiv n 10)) : Int) < ((↑(10 ^ k) : Int)))))) ∧ (((((↑(ByteArray.size (strH (decB (Int.toNat (IntKind.wrap IntKind.u64 (Int.tdiv n 10))))) + ByteArray.size (strOf 1 fun y => [SV.v (Value.int IntKind.u8 (IntKind.wrap IntKind.u8 (IntKind.wrap IntKind.u64 (48 + Int.tmod n 10))))])) : Int)) : Int) ≤ 9223372036854775807) ∧ (R (SV.v (Value.string (strH (decB (Int.toNat (IntKind.wrap IntKind.u64 (Int.tdiv n 10)))) ++ strOf 1 fun y => [SV.v (Value.int IntKind.u8 (IntKind.wrap IntKind.u8 (IntKind.wrap IntKind.u64 (48 + Int.tmod n 10))))])))))) (R (SV.v (Value.string (strOf 1 fun y => [SV.v (Value.int IntKind.u8 (IntKind.wrap IntKind.u8 (IntKind.wrap IntKind.u64 (48 + Int.tmod n 10))))])))))) := by kernel_rfl
structure TR where
  k : Nat
  r : Nat
  l : List Int
def invR (T : List Int) (x : TR) : Prop := x.k ≤ 32 ∧ x.r < 4294967296 ∧ x.r % 2 ^ x.k = 0 ∧ x.l.length ≤ 40 + x.k ∧ x.l ++ fracB (32 - x.k) x.r = T
noncomputable def ΛRText (T : List Int) : Nat → Option LoopSpec := addLoop noΛ Try.f63 0 TR (invR T) (fun x => 32 - x.k) [(7, fun x => .v (.int .u64 x.r)), (6, fun x => .v (.string (strH x.l)))] []
noncomputable def ΓT3 : Ctrs := addCtr ΓU 106 (pureCtr (sDigits 20))
theorem vcRText (v : Int) (f : Bool) (T : List Int) (R : SV → Prop) : (vcPure Try.prog ΓT3 (ΛRText T) Try.f63 [numS v f] R) =
((I64 (sndV v)) ∧ ((((20 : Nat) ≤ 20) ∧ (((20 : Nat) ≠ 0) ∧ ((U64 (iabs (sndV v) / 4294967296)) ∧ (((iabs (sndV v) / 4294967296) : Int) < 100000000000000000000)))) ∧ 
(sel (decide (sndV v < 0)) (((((↑(1 + ByteArray.size (strH (decB (Int.toNat (iabs (sndV v) / 4294967296))))) : Int)) : Int) ≤ 9223372036854775807) ∧ 
(sel (bits BinOp.and IntKind.u64 (iabs (sndV v)) 4294967295 != 0) (((((↑(ByteArray.size ({ data := #[45] } ++ strH (decB (Int.toNat (iabs (sndV v) / 4294967296)))) + 1) : Int)) : Int) ≤ 9223372036854775807) ∧ ((∃ x : TR, (((((TR.k x) : Nat) ≤ 32) ∧ ((((TR.r x) : Nat) < 4294967296) ∧ ((((TR.r x % 2 ^ TR.k x) : Nat) = 0) ∧ ((((List.length (TR.l x)) : Nat) ≤ (40 + TR.k x)) ∧ (TR.l x ++ fracB (32 - TR.k x) (TR.r x) = T))))) ∧ ((((SV.v (Value.int IntKind.u64 (bits BinOp.and IntKind.u64 (iabs (sndV v)) 4294967295))) = (SV.v (Value.int IntKind.u64 ((↑(TR.r x) : Int))))) ∧ ((SV.v (Value.string ({ data := #[45] } ++ strH (decB (Int.toNat (iabs (sndV v) / 4294967296))) ++ { data := #[46] }))) = (SV.v (Value.string (strH (TR.l x)))))) ∧ True))) ∧ (∀ x : TR, (((((TR.k x) : Nat) ≤ 32) ∧ ((((TR.r x) : Nat) < 4294967296) ∧ ((((TR.r x % 2 ^ TR.k x) : Nat) = 0) ∧ ((((List.length (TR.l x)) : Nat) ≤ (40 + TR.k x)) ∧ (TR.l x ++ fracB (32 - TR.k x) (TR.r x) = T))))) → 
(sel ((↑(TR.r x) : Int) != 0) ((∀ y : Nat, (((y : Nat) < 1) → True)) ∧ (((((↑(ByteArray.size (strH (TR.l x)) + ByteArray.size (strOf 1 fun y => [SV.v (Value.int IntKind.u8 (IntKind.wrap IntKind.u8 (IntKind.wrap IntKind.u64 (48 + IntKind.wrap IntKind.u64 ((↑(TR.r x) : Int) * 10) / 4294967296))))])) : Int)) : Int) ≤ 9223372036854775807) ∧ (∃ x' : TR, ((((((TR.k x') : Nat) ≤ 32) ∧ ((((TR.r x') : Nat) < 4294967296) ∧ ((((TR.r x' % 2 ^ TR.k x') : Nat) = 0) ∧ ((((List.length (TR.l x')) : Nat) ≤ (40 + TR.k x')) ∧ (TR.l x' ++ fracB (32 - TR.k x') (TR.r x') = T))))) ∧ ((((SV.v (Value.int IntKind.u64 (bits BinOp.and IntKind.u64 (IntKind.wrap IntKind.u64 ((↑(TR.r x) : Int) * 10)) 4294967295))) = (SV.v (Value.int IntKind.u64 ((↑(TR.r x') : Int))))) ∧ ((SV.v (Value.string (strH (TR.l x) ++ strOf 1 fun y => [SV.v (Value.int IntKind.u8 (IntKind.wrap IntKind.u8 (IntKind.wrap IntKind.u64 (48 + IntKind.wrap IntKind.u64 ((↑(TR.r x) : Int) * 10) / 4294967296))))]))) = (SV.v (Value.string (strH (TR.l x')))))) ∧ True)) ∧ (((32 - TR.k x') : Nat) < (32 - TR.k x)))))) 
(sel (sndF v f) (((((↑(ByteArray.size (strH (TR.l x)) + 1) : Int)) : Int) ≤ 9223372036854775807) ∧ (R (SV.v (Value.string (strH (TR.l x) ++ { data := #[33] }))))) (R (SV.v (Value.string (strH (TR.l x))))))))))) ((∃ x : TR, (((((TR.k x) : Nat) ≤ 32) ∧ ((((TR.r x) : Nat) < 4294967296) ∧ ((((TR.r x % 2 ^ TR.k x) : Nat) = 0) ∧ ((((List.length (TR.l x)) : Nat) ≤ (40 + TR.k x)) ∧ (TR.l x ++ fracB (32 - TR.k x) (TR.r x) = T))))) ∧ ((((SV.v (Value.int IntKind.u64 (bits BinOp.and IntKind.u64 (iabs (sndV v)) 4294967295))) = (SV.v (Value.int IntKind.u64 ((↑(TR.r x) : Int))))) ∧ ((SV.v (Value.string ({ data := #[45] } ++ strH (decB (Int.toNat (iabs (sndV v) / 4294967296)))))) = (SV.v (Value.string (strH (TR.l x)))))) ∧ True))) ∧ (∀ x : TR, (((((TR.k x) : Nat) ≤ 32) ∧ ((((TR.r x) : Nat) < 4294967296) ∧ ((((TR.r x % 2 ^ TR.k x) : Nat) = 0) ∧ ((((List.length (TR.l x)) : Nat) ≤ (40 + TR.k x)) ∧ (TR.l x ++ fracB (32 - TR.k x) (TR.r x) = T))))) → 
(sel ((↑(TR.r x) : Int) != 0) ((∀ y : Nat, (((y : Nat) < 1) → True)) ∧ (((((↑(ByteArray.size (strH (TR.l x)) + ByteArray.size (strOf 1 fun y => [SV.v (Value.int IntKind.u8 (IntKind.wrap IntKind.u8 (IntKind.wrap IntKind.u64 (48 + IntKind.wrap IntKind.u64 ((↑(TR.r x) : Int) * 10) / 4294967296))))])) : Int)) : Int) ≤ 9223372036854775807) ∧ (∃ x' : TR, ((((((TR.k x') : Nat) ≤ 32) ∧ ((((TR.r x') : Nat) < 4294967296) ∧ ((((TR.r x' % 2 ^ TR.k x') : Nat) = 0) ∧ ((((List.length (TR.l x')) : Nat) ≤ (40 + TR.k x')) ∧ (TR.l x' ++ fracB (32 - TR.k x') (TR.r x') = T))))) ∧ ((((SV.v (Value.int IntKind.u64 (bits BinOp.and IntKind.u64 (IntKind.wrap IntKind.u64 ((↑(TR.r x) : Int) * 10)) 4294967295))) = (SV.v (Value.int IntKind.u64 ((↑(TR.r x') : Int))))) ∧ ((SV.v (Value.string (strH (TR.l x) ++ strOf 1 fun y => [SV.v (Value.int IntKind.u8 (IntKind.wrap IntKind.u8 (IntKind.wrap IntKind.u64 (48 + IntKind.wrap IntKind.u64 ((↑(TR.r x) : Int) * 10) / 4294967296))))]))) = (SV.v (Value.string (strH (TR.l x')))))) ∧ True)) ∧ (((32 - TR.k x') : Nat) < (32 - TR.k x)))))) 
(sel (sndF v f) (((((↑(ByteArray.size (strH (TR.l x)) + 1) : Int)) : Int) ≤ 9223372036854775807) ∧ (R (SV.v (Value.string (strH (TR.l x) ++ { data := #[33] }))))) (R (SV.v (Value.string (strH (TR.l x)))))))))))) 
(sel (bits BinOp.and IntKind.u64 (iabs (sndV v)) 4294967295 != 0) (((((↑(ByteArray.size (strH (decB (Int.toNat (iabs (sndV v) / 4294967296)))) + 1) : Int)) : Int) ≤ 9223372036854775807) ∧ ((∃ x : TR, (((((TR.k x) : Nat) ≤ 32) ∧ ((((TR.r x) : Nat) < 4294967296) ∧ ((((TR.r x % 2 ^ TR.k x) : Nat) = 0) ∧ ((((List.length (TR.l x)) : Nat) ≤ (40 + TR.k x)) ∧ (TR.l x ++ fracB (32 - TR.k x) (TR.r x) = T))))) ∧ ((((SV.v (Value.int IntKind.u64 (bits BinOp.and IntKind.u64 (iabs (sndV v)) 4294967295))) = (SV.v (Value.int IntKind.u64 ((↑(TR.r x) : Int))))) ∧ ((SV.v (Value.string (strH (decB (Int.toNat (iabs (sndV v) / 4294967296))) ++ { data := #[46] }))) = (SV.v (Value.string (strH (TR.l x)))))) ∧ True))) ∧ (∀ x : TR, (((((TR.k x) : Nat) ≤ 32) ∧ ((((TR.r x) : Nat) < 4294967296) ∧ ((((TR.r x % 2 ^ TR.k x) : Nat) = 0) ∧ ((((List.length (TR.l x)) : Nat) ≤ (40 + TR.k x)) ∧ (TR.l x ++ fracB (32 - TR.k x) (TR.r x) = T))))) → 
(sel ((↑(TR.r x) : Int) != 0) ((∀ y : Nat, (((y : Nat) < 1) → True)) ∧ (((((↑(ByteArray.size (strH (TR.l x)) + ByteArray.size (strOf 1 fun y => [SV.v (Value.int IntKind.u8 (IntKind.wrap IntKind.u8 (IntKind.wrap IntKind.u64 (48 + IntKind.wrap IntKind.u64 ((↑(TR.r x) : Int) * 10) / 4294967296))))])) : Int)) : Int) ≤ 9223372036854775807) ∧ (∃ x' : TR, ((((((TR.k x') : Nat) ≤ 32) ∧ ((((TR.r x') : Nat) < 4294967296) ∧ ((((TR.r x' % 2 ^ TR.k x') : Nat) = 0) ∧ ((((List.length (TR.l x')) : Nat) ≤ (40 + TR.k x')) ∧ (TR.l x' ++ fracB (32 - TR.k x') (TR.r x') = T))))) ∧ ((((SV.v (Value.int IntKind.u64 (bits BinOp.and IntKind.u64 (IntKind.wrap IntKind.u64 ((↑(TR.r x) : Int) * 10)) 4294967295))) = (SV.v (Value.int IntKind.u64 ((↑(TR.r x') : Int))))) ∧ ((SV.v (Value.string (strH (TR.l x) ++ strOf 1 fun y => [SV.v (Value.int IntKind.u8 (IntKind.wrap IntKind.u8 (IntKind.wrap IntKind.u64 (48 + IntKind.wrap IntKind.u64 ((↑(TR.r x) : Int) * 10) / 4294967296))))]))) = (SV.v (Value.string (strH (TR.l x')))))) ∧ True)) ∧ (((32 - TR.k x') : Nat) < (32 - TR.k x)))))) 
(sel (sndF v f) (((((↑(ByteArray.size (strH (TR.l x)) + 1) : Int)) : Int) ≤ 9223372036854775807) ∧ (R (SV.v (Value.string (strH (TR.l x) ++ { data := #[33] }))))) (R (SV.v (Value.string (strH (TR.l x))))))))))) ((∃ x : TR, (((((TR.k x) : Nat) ≤ 32) ∧ ((((TR.r x) : Nat) < 4294967296) ∧ ((((TR.r x % 2 ^ TR.k x) : Nat) = 0) ∧ ((((List.length (TR.l x)) : Nat) ≤ (40 + TR.k x)) ∧ (TR.l x ++ fracB (32 - TR.k x) (TR.r x) = T))))) ∧ ((((SV.v (Value.int IntKind.u64 (bits BinOp.and IntKind.u64 (iabs (sndV v)) 4294967295))) = (SV.v (Value.int IntKind.u64 ((↑(TR.r x) : Int))))) ∧ ((SV.v (Value.string (strH (decB (Int.toNat (iabs (sndV v) / 4294967296)))))) = (SV.v (Value.string (strH (TR.l x)))))) ∧ True))) ∧ (∀ x : TR, (((((TR.k x) : Nat) ≤ 32) ∧ ((((TR.r x) : Nat) < 4294967296) ∧ ((((TR.r x % 2 ^ TR.k x) : Nat) = 0) ∧ ((((List.length (TR.l x)) : Nat) ≤ (40 + TR.k x)) ∧ (TR.l x ++ fracB (32 - TR.k x) (TR.r x) = T))))) → 
(sel ((↑(TR.r x) : Int) != 0) ((∀ y : Nat, (((y : Nat) < 1) → True)) ∧ (((((↑(ByteArray.size (strH (TR.l x)) + ByteArray.size (strOf 1 fun y => [SV.v (Value.int IntKind.u8 (IntKind.wrap IntKind.u8 (IntKind.wrap IntKind.u64 (48 + IntKind.wrap IntKind.u64 ((↑(TR.r x) : Int) * 10) / 4294967296))))])) : Int)) : Int) ≤ 9223372036854775807) ∧ (∃ x' : TR, ((((((TR.k x') : Nat) ≤ 32) ∧ ((((TR.r x') : Nat) < 4294967296) ∧ ((((TR.r x' % 2 ^ TR.k x') : Nat) = 0) ∧ ((((List.length (TR.l x')) : Nat) ≤ (40 + TR.k x')) ∧ (TR.l x' ++ fracB (32 - TR.k x') (TR.r x') = T))))) ∧ ((((SV.v (Value.int IntKind.u64 (bits BinOp.and IntKind.u64 (IntKind.wrap IntKind.u64 ((↑(TR.r x) : Int) * 10)) 4294967295))) = (SV.v (Value.int IntKind.u64 ((↑(TR.r x') : Int))))) ∧ ((SV.v (Value.string (strH (TR.l x) ++ strOf 1 fun y => [SV.v (Value.int IntKind.u8 (IntKind.wrap IntKind.u8 (IntKind.wrap IntKind.u64 (48 + IntKind.wrap IntKind.u64 ((↑(TR.r x) : Int) * 10) / 4294967296))))]))) = (SV.v (Value.string (strH (TR.l x')))))) ∧ True)) ∧ (((32 - TR.k x') : Nat) < (32 - TR.k x)))))) 
(sel (sndF v f) (((((↑(ByteArray.size (strH (TR.l x)) + 1) : Int)) : Int) ≤ 9223372036854775807) ∧ (R (SV.v (Value.string (strH (TR.l x) ++ { data := #[33] }))))) (R (SV.v (Value.string (strH (TR.l x)))))))))))))) := by kernel_rfl
def isD10 : List SV → Prop
  | [.v (.int .i64 a)] => 0 ≤ a ∧ a ≤ 9
  | _ => False
def digI (L : Nat) (f : Nat → Nat) : Blk := { elem := 0, size := 1, rw := true, lock := false, lit := false, flat := true, n := L, row := fun i => [.v (.int .i64 (f i : Int))] }
noncomputable def ΛFrac (L : Nat) (g : Nat → Nat) : Nat → Option LoopSpec :=
  addLoopR (addLoop noΛ Try.f101 0 Nat (fun t => t ≤ 32) (fun t => 32 - t) [(4, fun t => .v (.int .i64 t)), (3, fun t => .v (.int .u64 (outs g L t)))] [(88, fun t => digI L (dgs g L t))])
    Try.f101 2 (Nat × Nat) (fun x => x.1 < 32 ∧ x.2 ≤ L) (fun s x => intS (s.tmps.getD 4 .unk) = (x.1 : Int)) (fun x => L - x.2) [(5, fun x => .v (.int .i64 (cry (dgs g L x.1) L x.2))), (6, fun x => .v (.int .i64 ((L : Int) - 1 - x.2)))] [(88, fun x => digI L (dblTo (dgs g L x.1) L x.2))]
noncomputable def sFrac : List SV → List Ro → Option (Option Prop × SV)
  | [.sl 0 1 0 n _], [⟨1, n', row⟩] => some (some (okAll isD10 (rowsOf n' row) ∧ n' = n ∧ n < 1099511627776), .v (.int .u64 (hid (outs (fun i => (rowI (row i)).toNat) n 32 : Nat))))
  | [.v (.slice none 0 0)], [] => some (none, .v (.int .u64 0))
  | _, _ => none
def rowsD (g : Nat → Nat) : Nat → List SV := fun i => [.v (.int .i64 (g i : Int))]
theorem vcFrac (n n' c : Nat) (g : Nat → Nat) (R : SV → Prop) : (vcFn Try.prog noCtrs (ΛFrac n g) Try.f101 [.sl 0 1 0 n c] (roHeap [⟨1, n', rowsD g⟩]) 64 (fun y _ => R y)) =
((((n * 8) : Nat) ≤ 140737488355328) ∧ (∀ c_1 : Nat, ((∃ x : Nat, ((Nat.le x 32) ∧ ((((SV.v (Value.int IntKind.i64 0)) = (SV.v (Value.int IntKind.i64 ((↑x : Int))))) ∧ ((SV.v (Value.int IntKind.u64 0)) = (SV.v (Value.int IntKind.u64 ((↑(outs g n x) : Int)))))) ∧ (((n : Nat) = n) ∧ (((n : Nat) ≤ (n + c_1)) ∧ (∀ i : Nat, (((i : Nat) < n) → ([(SV.v (Value.int IntKind.i64 ((↑(g (0 + i)) : Int))))] = [(SV.v (Value.int IntKind.i64 ((↑(dgs g n x i) : Int))))])))))))) ∧ (∀ x : Nat, ((Nat.le x 32) → 
(sel (decide ((↑x : Int) < 32)) ((∃ x_1 : (Nat × Nat), ((((((Prod.fst x_1) : Nat) < 32) ∧ (((Prod.snd x_1) : Nat) ≤ n)) ∧ (((intS (SV.v (Value.int IntKind.i64 (↑x : Int)))) : Int) = ((↑(Prod.fst x_1) : Int)))) ∧ ((((SV.v (Value.int IntKind.i64 0)) = (SV.v (Value.int IntKind.i64 ((↑(cry (dgs g n (Prod.fst x_1)) n (Prod.snd x_1)) : Int))))) ∧ ((SV.v (Value.int IntKind.i64 (IntKind.wrap IntKind.i64 ((↑n : Int) - 1)))) = (SV.v (Value.int IntKind.i64 ((↑n : Int) - 1 - (↑(Prod.snd x_1) : Int)))))) ∧ (((n : Nat) = n) ∧ (((n : Nat) ≤ n) ∧ (∀ i : Nat, (((i : Nat) < n) → ([(SV.v (Value.int IntKind.i64 ((↑(dgs g n x i) : Int))))] = [(SV.v (Value.int IntKind.i64 ((↑(dblTo (dgs g n (Prod.fst x_1)) n (Prod.snd x_1) i) : Int))))])))))))) ∧ (∀ x_1 : (Nat × Nat), ((((((Prod.fst x_1) : Nat) < 32) ∧ (((Prod.snd x_1) : Nat) ≤ n)) ∧ (((intS (SV.v (Value.int IntKind.i64 (↑x : Int)))) : Int) = ((↑(Prod.fst x_1) : Int)))) → 
(sel (decide ((↑n : Int) - 1 - (↑(Prod.snd x_1) : Int) ≥ 0)) ((((0 : Int) ≤ ((↑n : Int) - 1 - (↑(Prod.snd x_1) : Int))) ∧ ((((↑n : Int) - 1 - (↑(Prod.snd x_1) : Int)) : Int) < ((↑n : Int)))) ∧ ((((0 : Int) ≤ ((↑n : Int) - 1 - (↑(Prod.snd x_1) : Int))) ∧ ((((↑n : Int) - 1 - (↑(Prod.snd x_1) : Int)) : Int) < ((↑n : Int)))) ∧ (∃ x' : (Nat × Nat), (((((((Prod.fst x') : Nat) < 32) ∧ (((Prod.snd x') : Nat) ≤ n)) ∧ (((intS (SV.v (Value.int IntKind.i64 (↑x : Int)))) : Int) = ((↑(Prod.fst x') : Int)))) ∧ ((((SV.v (Value.int IntKind.i64 (IntKind.wrap IntKind.i64 (Int.tdiv (IntKind.wrap IntKind.i64 (IntKind.wrap IntKind.i64 (2 * (↑(dblTo (dgs g n (Prod.fst x_1)) n (Prod.snd x_1) (0 + Int.toNat ((↑n : Int) - 1 - (↑(Prod.snd x_1) : Int)))) : Int)) + (↑(cry (dgs g n (Prod.fst x_1)) n (Prod.snd x_1)) : Int))) 10)))) = (SV.v (Value.int IntKind.i64 ((↑(cry (dgs g n (Prod.fst x')) n (Prod.snd x')) : Int))))) ∧ ((SV.v (Value.int IntKind.i64 (IntKind.wrap IntKind.i64 ((↑n : Int) - 1 - (↑(Prod.snd x_1) : Int) - 1)))) = (SV.v (Value.int IntKind.i64 ((↑n : Int) - 1 - (↑(Prod.snd x') : Int)))))) ∧ (((n : Nat) = n) ∧ (((n : Nat) ≤ n) ∧ (∀ i : Nat, (((i : Nat) < n) → ([(SV.v (Value.int IntKind.i64 (bop (Nat.beq i (0 + Int.toNat ((↑n : Int) - 1 - (↑(Prod.snd x_1) : Int)))) (Int.tmod (IntKind.wrap IntKind.i64 (IntKind.wrap IntKind.i64 (2 * (↑(dblTo (dgs g n (Prod.fst x_1)) n (Prod.snd x_1) (0 + Int.toNat ((↑n : Int) - 1 - (↑(Prod.snd x_1) : Int)))) : Int)) + (↑(cry (dgs g n (Prod.fst x_1)) n (Prod.snd x_1)) : Int))) 10) (↑(dblTo (dgs g n (Prod.fst x_1)) n (Prod.snd x_1) i) : Int))))] = [(SV.v (Value.int IntKind.i64 ((↑(dblTo (dgs g n (Prod.fst x')) n (Prod.snd x') i) : Int))))]))))))) ∧ (((n - Prod.snd x') : Nat) < (n - Prod.snd x_1)))))) (∃ x' : Nat, (((Nat.le x' 32) ∧ ((((SV.v (Value.int IntKind.i64 (IntKind.wrap IntKind.i64 ((↑x : Int) + 1)))) = (SV.v (Value.int IntKind.i64 ((↑x' : Int))))) ∧ ((SV.v (Value.int IntKind.u64 (bits BinOp.or IntKind.u64 (IntKind.wrap IntKind.u64 ((↑(outs g n x) : Int) * 2)) (IntKind.wrap IntKind.u64 (↑(cry (dgs g n (Prod.fst x_1)) n (Prod.snd x_1)) : Int))))) = (SV.v (Value.int IntKind.u64 ((↑(outs g n x') : Int)))))) ∧ (((n : Nat) = n) ∧ (((n : Nat) ≤ n) ∧ (∀ i : Nat, (((i : Nat) < n) → ([(SV.v (Value.int IntKind.i64 ((↑(dblTo (dgs g n (Prod.fst x_1)) n (Prod.snd x_1) i) : Int))))] = [(SV.v (Value.int IntKind.i64 ((↑(dgs g n x' i) : Int))))]))))))) ∧ (((32 - x') : Nat) < (32 - x)))))))) (R (SV.v (Value.int IntKind.u64 ((↑(outs g n x) : Int))))))))))) := by kernel_rfl
theorem vcFrac0 (g : Nat → Nat) (R : SV → Prop) : (vcFn Try.prog noCtrs (ΛFrac 0 g) Try.f101 [.v (.slice none 0 0)] (roHeap []) 64 (fun y _ => R y)) =
(((0 : Nat) ≤ 140737488355328) ∧ (∀ c : Nat, ((∃ x : Nat, ((Nat.le x 32) ∧ ((((SV.v (Value.int IntKind.i64 0)) = (SV.v (Value.int IntKind.i64 ((↑x : Int))))) ∧ ((SV.v (Value.int IntKind.u64 0)) = (SV.v (Value.int IntKind.u64 ((↑(outs g 0 x) : Int)))))) ∧ (((0 : Nat) = 0) ∧ (((0 : Nat) ≤ (0 + c)) ∧ (∀ i : Nat, (((i : Nat) < 0) → ([] = [(SV.v (Value.int IntKind.i64 ((↑(dgs g 0 x i) : Int))))])))))))) ∧ (∀ x : Nat, ((Nat.le x 32) → 
(sel (decide ((↑x : Int) < 32)) ((∃ x_1 : (Nat × Nat), ((((((Prod.fst x_1) : Nat) < 32) ∧ (((Prod.snd x_1) : Nat) ≤ 0)) ∧ (((intS (SV.v (Value.int IntKind.i64 (↑x : Int)))) : Int) = ((↑(Prod.fst x_1) : Int)))) ∧ ((((SV.v (Value.int IntKind.i64 0)) = (SV.v (Value.int IntKind.i64 ((↑(cry (dgs g 0 (Prod.fst x_1)) 0 (Prod.snd x_1)) : Int))))) ∧ ((SV.v (Value.int IntKind.i64 (-1))) = (SV.v (Value.int IntKind.i64 (-1 - (↑(Prod.snd x_1) : Int)))))) ∧ (((0 : Nat) = 0) ∧ (((0 : Nat) ≤ 0) ∧ (∀ i : Nat, (((i : Nat) < 0) → ([(SV.v (Value.int IntKind.i64 ((↑(dgs g 0 x i) : Int))))] = [(SV.v (Value.int IntKind.i64 ((↑(dblTo (dgs g 0 (Prod.fst x_1)) 0 (Prod.snd x_1) i) : Int))))])))))))) ∧ (∀ x_1 : (Nat × Nat), ((((((Prod.fst x_1) : Nat) < 32) ∧ (((Prod.snd x_1) : Nat) ≤ 0)) ∧ (((intS (SV.v (Value.int IntKind.i64 (↑x : Int)))) : Int) = ((↑(Prod.fst x_1) : Int)))) → 
(sel (decide (-1 - (↑(Prod.snd x_1) : Int) ≥ 0)) ((((0 : Int) ≤ (-1 - (↑(Prod.snd x_1) : Int))) ∧ (((-1 - (↑(Prod.snd x_1) : Int)) : Int) < 0)) ∧ ((((0 : Int) ≤ (-1 - (↑(Prod.snd x_1) : Int))) ∧ (((-1 - (↑(Prod.snd x_1) : Int)) : Int) < 0)) ∧ (∃ x' : (Nat × Nat), (((((((Prod.fst x') : Nat) < 32) ∧ (((Prod.snd x') : Nat) ≤ 0)) ∧ (((intS (SV.v (Value.int IntKind.i64 (↑x : Int)))) : Int) = ((↑(Prod.fst x') : Int)))) ∧ ((((SV.v (Value.int IntKind.i64 (IntKind.wrap IntKind.i64 (Int.tdiv (IntKind.wrap IntKind.i64 (IntKind.wrap IntKind.i64 (2 * (↑(dblTo (dgs g 0 (Prod.fst x_1)) 0 (Prod.snd x_1) (0 + Int.toNat (-1 - (↑(Prod.snd x_1) : Int)))) : Int)) + (↑(cry (dgs g 0 (Prod.fst x_1)) 0 (Prod.snd x_1)) : Int))) 10)))) = (SV.v (Value.int IntKind.i64 ((↑(cry (dgs g 0 (Prod.fst x')) 0 (Prod.snd x')) : Int))))) ∧ ((SV.v (Value.int IntKind.i64 (IntKind.wrap IntKind.i64 (-1 - (↑(Prod.snd x_1) : Int) - 1)))) = (SV.v (Value.int IntKind.i64 (-1 - (↑(Prod.snd x') : Int)))))) ∧ (((0 : Nat) = 0) ∧ (((0 : Nat) ≤ 0) ∧ (∀ i : Nat, (((i : Nat) < 0) → ([(SV.v (Value.int IntKind.i64 (bop (Nat.beq i (0 + Int.toNat (-1 - (↑(Prod.snd x_1) : Int)))) (Int.tmod (IntKind.wrap IntKind.i64 (IntKind.wrap IntKind.i64 (2 * (↑(dblTo (dgs g 0 (Prod.fst x_1)) 0 (Prod.snd x_1) (0 + Int.toNat (-1 - (↑(Prod.snd x_1) : Int)))) : Int)) + (↑(cry (dgs g 0 (Prod.fst x_1)) 0 (Prod.snd x_1)) : Int))) 10) (↑(dblTo (dgs g 0 (Prod.fst x_1)) 0 (Prod.snd x_1) i) : Int))))] = [(SV.v (Value.int IntKind.i64 ((↑(dblTo (dgs g 0 (Prod.fst x')) 0 (Prod.snd x') i) : Int))))]))))))) ∧ (((0 - Prod.snd x') : Nat) < (0 - Prod.snd x_1)))))) (∃ x' : Nat, (((Nat.le x' 32) ∧ ((((SV.v (Value.int IntKind.i64 (IntKind.wrap IntKind.i64 ((↑x : Int) + 1)))) = (SV.v (Value.int IntKind.i64 ((↑x' : Int))))) ∧ ((SV.v (Value.int IntKind.u64 (bits BinOp.or IntKind.u64 (IntKind.wrap IntKind.u64 ((↑(outs g 0 x) : Int) * 2)) (IntKind.wrap IntKind.u64 (↑(cry (dgs g 0 (Prod.fst x_1)) 0 (Prod.snd x_1)) : Int))))) = (SV.v (Value.int IntKind.u64 ((↑(outs g 0 x') : Int)))))) ∧ (((0 : Nat) = 0) ∧ (((0 : Nat) ≤ 0) ∧ (∀ i : Nat, (((i : Nat) < 0) → ([(SV.v (Value.int IntKind.i64 ((↑(dblTo (dgs g 0 (Prod.fst x_1)) 0 (Prod.snd x_1) i) : Int))))] = [(SV.v (Value.int IntKind.i64 ((↑(dgs g 0 x' i) : Int))))]))))))) ∧ (((32 - x') : Nat) < (32 - x)))))))) (R (SV.v (Value.int IntKind.u64 ((↑(outs g 0 x) : Int))))))))))) := by kernel_rfl
theorem strOf_one (x : Int) : (strOf 1 fun _ => [SV.v (.int .u8 x)]) = strOfNums [x] := by rw [strOf_eq]; rfl
theorem strH_eq (l : List Int) : strH l = strOfNums l := hid_eq _
theorem strH_app (l r : List Int) : strH l ++ strOfNums r = strH (l ++ r) := by rw [strH_eq, strH_eq, str_append]
theorem size_str (l : List Int) : (strOfNums l).size = l.length := by simp [strOfNums, ByteArray.size]
theorem size_H (l : List Int) : (strH l).size = l.length := by rw [strH_eq, size_str]
theorem decF_fuel : ∀ (f g n : Nat), 0 < f → 0 < g → n < 10 ^ f → n < 10 ^ g → decF f n = decF g n
  | 0, _, _, h, _, _, _ => absurd h (Nat.lt_irrefl 0)
  | _, 0, _, _, h, _, _ => absurd h (Nat.lt_irrefl 0)
  | f + 1, g + 1, n, _, _, h1, h2 => by
    unfold decF
    by_cases hn : n < 10
    · rw [if_pos hn, if_pos hn]
    · rw [if_neg hn, if_neg hn]
      have pos : ∀ f, n < 10 ^ (f + 1) → 0 < f := fun f h => by
        rcases Nat.eq_zero_or_pos f with h0 | h0
        · subst h0; exact absurd h hn
        · exact h0
      rw [Nat.pow_succ] at h1 h2
      rw [decF_fuel f g (n / 10) (pos f (by rw [Nat.pow_succ]; exact h1)) (pos g (by rw [Nat.pow_succ]; exact h2)) (by omega) (by omega)]
theorem decB_ge {n : Nat} (h : 10 ≤ n) (h' : n < 10 ^ 20) : decB n = decB (n / 10) ++ [48 + ((n % 10 : Nat) : Int)] := by
  have e : decB n = decF 19 (n / 10) ++ [48 + ((n % 10 : Nat) : Int)] := by
    unfold decB
    show (if n < 10 then _ else _) = _
    rw [if_neg (by omega)]
  rw [e, decF_fuel 19 20 (n / 10) (by decide) (by decide) (by omega) (by omega)]; rfl
theorem decB_lt {n : Nat} (h : n < 10) : decB n = [48 + (n : Int)] := by
  unfold decB
  show (if n < 10 then _ else _) = _
  rw [if_pos h]
theorem Digits_spec : ∀ k : Nat, PureSpec Try.prog 106 (sDigits k)
  | 0 => vc_spec hm noCtrs_ok Try.func106 (Λ := fun _ => noΛ) fun args p x h hp => by
    unfold sDigits at h
    split at h <;> try (cases h; done)
    cases h
    exact absurd rfl (hp _ rfl).2.1
  | k + 1 => vc_spec hm (Γ := ΓDg k) (addCtr_ok noCtrs_ok (pure_ok Try.func106 (by kernel_rfl) (by kernel_rfl) (Digits_spec k))) Try.func106 (Λ := fun _ => noΛ) fun args p x h hp => by
    unfold sDigits at h
    split at h <;> try (cases h; done)
    rename_i n0
    cases h
    obtain ⟨hk, _, ⟨h0, hb⟩, h1⟩ := hp _ rfl
    refine ⟨rfl, rfl, ?_⟩
    refine Eq.mpr (vcDigits k n0 _) ?_
    obtain ⟨n, rfl⟩ := Int.eq_ofNat_of_zero_le h0
    have h1 : n < 10 ^ (k + 1) := by exact_mod_cast h1
    have h2 : n < 10 ^ 20 := Nat.lt_of_lt_of_le h1 (Nat.pow_le_pow_right (by decide) hk)
    have w1 : IntKind.u8.wrap (IntKind.u64.wrap (48 + Int.tmod (n : Int) 10)) = 48 + ((n % 10 : Nat) : Int) := by rw [tmod10, wrap_u64, wrap_u8]; omega
    have w2 : n < 18446744073709551616 → IntKind.u64.wrap (Int.tdiv (n : Int) 10) = ((n / 10 : Nat) : Int) := fun h => by rw [tdiv10, wrap_u64]; omega
    rw [w1, strOf_one]
    refine ⟨fun _ _ => trivial, sel_of (fun g => ?_) fun g => ?_⟩
    · have g := of_decide_eq_true g
      have hk0 : k ≠ 0 := fun e => by subst e; omega
      have hd : n / 10 < 10 ^ k := by rw [Nat.pow_succ] at h1; omega
      rw [w2 (by omega), Int.toNat_natCast, size_H, size_str, strH_app, ← decB_ge (by omega) h2]
      have hl := (decF_len 20 (n / 10) 20 (by omega) (by decide) (by decide)).2
      have hl : (decB (n / 10)).length ≤ 20 := hl
      refine ⟨⟨by omega, hk0, ⟨by omega, by omega⟩, by exact_mod_cast hd⟩, ?_, ?_⟩
      · simp; omega
      · rw [Int.toNat_natCast]
    · have g := of_decide_eq_false g
      rw [Int.toNat_natCast, decB_lt (by omega), strH_eq]
      have : n % 10 = n := Nat.mod_eq_of_lt (by omega)
      rw [this]
theorem ΓT3_ok : ∀ f g, ΓT3 f = some g → g.ok Try.prog f := addCtr_ok ΓU_ok (pure_ok Try.func106 (by kernel_rfl) (by kernel_rfl) (Digits_spec 20))
theorem tr_hdiv {k r : Nat} (h1 : k < 32) (h2 : r % 2 ^ k = 0) : r * 10 % 4294967296 % 2 ^ (k + 1) = 0 := by
  have d1 : 2 ^ k ∣ r := Nat.dvd_of_mod_eq_zero h2
  have d2 : 2 ^ (k + 1) ∣ r * 10 := by
    rw [Nat.pow_succ]
    exact Nat.mul_dvd_mul d1 (by decide)
  have d3 : 2 ^ (k + 1) ∣ 4294967296 := by
    have := Nat.pow_dvd_pow 2 (show k + 1 ≤ 32 by omega)
    simpa using this
  exact Nat.mod_eq_zero_of_dvd ((Nat.dvd_mod_iff d3).2 d2)
theorem tr_step {r : Nat} (h2 : r < 4294967296) : bits .and .u64 (IntKind.u64.wrap ((r : Int) * 10)) 4294967295 = ((r * 10 % 4294967296 : Nat) : Int) ∧ IntKind.u8.wrap (IntKind.u64.wrap (48 + IntKind.u64.wrap ((r : Int) * 10) / 4294967296)) = 48 + ((r * 10 / 4294967296 : Nat) : Int) := by
  have e : IntKind.u64.wrap ((r : Int) * 10) = (r : Int) * 10 := by rw [wrap_u64]; omega
  have e3 : (r : Int) * 10 / 4294967296 = ((r * 10 / 4294967296 : Nat) : Int) := by omega
  have e4 : r * 10 / 4294967296 ≤ 9 := by omega
  rw [e, and_mask32 ⟨by omega, by omega⟩, wrap_u64, wrap_u8, e3]
  generalize r * 10 / 4294967296 = q at e4
  constructor <;> omega
theorem chr_str (x : UInt8) : (⟨#[x]⟩ : ByteArray) = strOfNums [(x.toNat : Int)] := by
  rw [← str_byt ⟨#[x]⟩]; rfl
theorem RText_spec : PureSpec Try.prog 63 sTextH := vc_spec hm ΓT3_ok Try.func63 (Λ := fun args => match args with | [.agg [.v (.int .i64 v), _]] => ΛRText (headB (sndV v) ++ pointB (sndV v)) | _ => noΛ) fun args p x h hp => by
  unfold sTextH at h
  split at h <;> try (cases h; done)
  rename_i v f
  cases h
  have hv : I64 v := hp _ rfl
  refine ⟨rfl, rfl, ?_⟩
  refine Eq.mpr (vcRText v f _ _) ?_
  have c45 := chr_str 45
  have c46 := chr_str 46
  have c33 := chr_str 33
  rw [show ((45 : UInt8).toNat : Int) = 45 from rfl] at c45
  rw [show ((46 : UInt8).toNat : Int) = 46 from rfl] at c46
  rw [show ((33 : UInt8).toNat : Int) = 33 from rfl] at c33
  have hs := sndV_in hv
  have hi := sndV_i64 hv
  have hu := iabs_u64 hi
  have hu2 := iabs_le hi
  have hm := and_mask32 hu
  generalize hrest : restB (sndV v) = r0
  have hr0 : (r0 : Int) = iabs (sndV v) % 4294967296 := by rw [← hrest]; unfold restB; obtain ⟨_, _⟩ := hu; omega
  have hp0 : pointB (sndV v) = if r0 = 0 then [] else 46 :: fracB 32 r0 := by unfold pointB; rw [hrest]
  have hl := (decF_len 20 (Int.toNat (iabs (sndV v) / 4294967296)) 20 (by obtain ⟨_, _⟩ := hu; omega) (by decide) (by decide)).2
  have hl : (decB (Int.toNat (iabs (sndV v) / 4294967296))).length ≤ 20 := hl
  have ht : textS v f = strH (headB (sndV v) ++ pointB (sndV v) ++ flagB (sndF v f)) := rfl
  have hh : headB (sndV v) = sgnB (sndV v) ++ decB (Int.toNat (iabs (sndV v) / 4294967296)) := rfl
  rw [hm, ← hr0, c45, c46, c33, ht, hh, hp0]
  generalize decB (Int.toNat (iabs (sndV v) / 4294967296)) = D at *
  have hcat : ∀ l, strOfNums [45] ++ strH l = strH ([45] ++ l) := fun l => by rw [strH_eq, strH_eq, str_append]
  simp only [hcat, strH_app, size_H, size_str, strOf_one]
  have hlt : r0 < 4294967296 := by omega
  have hloop : ∀ (T : List Int) (x : TR), invR T x → x.k ≤ 32 := fun T x h => h.1
  refine ⟨hi, ⟨by decide, by decide, ⟨by obtain ⟨_, _⟩ := hu; omega, by obtain ⟨_, _⟩ := hu; omega⟩, by obtain ⟨_, _⟩ := hu; omega⟩, sel_of (fun hs1 => ⟨by simp; omega, sel_of (fun hr => ⟨by simp; omega, ?i1, ?l1⟩) fun hr => ⟨?i2, ?l2⟩⟩) fun hs1 => sel_of (fun hr => ⟨by simp; omega, ?i3, ?l3⟩) fun hr => ⟨?i4, ?l4⟩⟩
  case i1 =>
    have hr : r0 ≠ 0 := fun h => by rw [h] at hr; exact absurd hr (by decide)
    rw [show sgnB (sndV v) = [45] from if_pos (of_decide_eq_true hs1)]
    exact ⟨⟨0, r0, [45] ++ D ++ [46]⟩, ⟨by simp, hlt, by simp [Nat.mod_one], by simp; omega, by rw [if_neg hr]; simp⟩, ⟨rfl, rfl⟩, trivial⟩
  case i2 =>
    have hr : r0 = 0 := by have := eq_of_beq (show ((r0 : Int) == 0) = true by simpa using hr); omega
    subst hr
    rw [show sgnB (sndV v) = [45] from if_pos (of_decide_eq_true hs1)]
    exact ⟨⟨0, 0, [45] ++ D⟩, ⟨by simp, hlt, by simp, by simp; omega, by simp [fracB]⟩, ⟨rfl, rfl⟩, trivial⟩
  case i3 =>
    have hr : r0 ≠ 0 := fun h => by rw [h] at hr; exact absurd hr (by decide)
    rw [show sgnB (sndV v) = [] from if_neg (of_decide_eq_false hs1)]
    exact ⟨⟨0, r0, D ++ [46]⟩, ⟨by simp, hlt, by simp [Nat.mod_one], by simp; omega, by rw [if_neg hr]; simp⟩, ⟨rfl, rfl⟩, trivial⟩
  case i4 =>
    have hr : r0 = 0 := by have := eq_of_beq (show ((r0 : Int) == 0) = true by simpa using hr); omega
    subst hr
    rw [show sgnB (sndV v) = [] from if_neg (of_decide_eq_false hs1)]
    exact ⟨⟨0, 0, D⟩, ⟨by simp, hlt, by simp, by simp; omega, by simp [fracB]⟩, ⟨rfl, rfl⟩, trivial⟩
  case l1 | l2 | l3 | l4 =>
    intro x hx
    obtain ⟨x1, x2, x3, x4, x6⟩ := hx
    refine sel_of (fun hxr => ⟨fun _ _ => trivial, by simp; omega, ?_⟩) fun hxr => ?_
    · have hxr : x.r ≠ 0 := fun h => by rw [h] at hxr; exact absurd hxr (by decide)
      have hk : x.k < 32 := by
        rcases Nat.lt_or_ge x.k 32 with h | h
        · exact h
        · exfalso
          have : x.k = 32 := by omega
          rw [this] at x3
          apply hxr
          omega
      obtain ⟨e1, e2⟩ := tr_step x2
      rw [e1, e2]
      refine ⟨⟨x.k + 1, x.r * 10 % 4294967296, x.l ++ [48 + ((x.r * 10 / 4294967296 : Nat) : Int)]⟩, ⟨⟨hk, Nat.mod_lt _ (by decide), tr_hdiv hk x3, by simp; omega, ?_⟩, ⟨rfl, rfl⟩, trivial⟩, by simp only; omega⟩
      rw [← x6, show 32 - x.k = (32 - (x.k + 1)) + 1 by omega]
      simp [fracB, hxr]
    · have hxr : x.r = 0 := by have := eq_of_beq (show ((x.r : Int) == 0) = true by simpa using hxr); omega
      rw [hxr, fracB_zero, List.append_nil] at x6
      refine sel_of (fun hf => ⟨by simp; omega, ?_⟩) fun hf => ?_
      · rw [x6]; unfold flagB; rw [hf]; rfl
      · rw [x6]; unfold flagB; rw [hf]; simp
theorem isD10_row {r : List SV} (h : isD10 r) : r = [.v (.int .i64 ((rowI r).toNat : Int))] ∧ (rowI r).toNat ≤ 9 := by
  unfold isD10 at h
  split at h
  · rename_i a
    obtain ⟨h0, h1⟩ := h
    have : rowI [SV.v (.int .i64 a)] = a := rfl
    rw [this]
    exact ⟨by rw [Int.toNat_of_nonneg h0], by omega⟩
  · exact h.elim
theorem frac_vc {L c : Nat} {g : Nat → Nat} (h0 : L < 1099511627776) (hg : ∀ i, i < L → g i ≤ 9) : vcFn Try.prog noCtrs (ΛFrac L g) Try.f101 [.sl 0 1 0 L c] (roHeap [⟨1, L, rowsD g⟩]) 64 (fun y _ => y = .v (.int .u64 (outs g L 32 : Nat))) := by
  refine Eq.mpr (vcFrac L L c g _) ?_
  simp only [Nat.zero_add]
  have h9 : ∀ t i, i < L → dgs g L t i ≤ 9 := dgs_le hg
  have hbig : ∀ x, x ≤ 31 → outs g L x < 4611686018427387904 := fun x hx => by
    have h1 := outs_lt (g := g) (L := L) hg x
    have h2 : 2 ^ x ≤ 2 ^ 31 := Nat.pow_le_pow_right (by decide) hx
    have h3 : (2 : Nat) ^ 31 = 2147483648 := by decide
    omega
  refine ⟨by omega, fun c => ⟨⟨0, Nat.zero_le _, ⟨rfl, rfl⟩, trivial, by omega, fun i hi => rfl⟩, fun x hx => sel_of (fun hlt => ?_) fun hge => ?_⟩⟩
  · have hlt := of_decide_eq_true hlt
    refine ⟨⟨(x, 0), ⟨⟨by omega, Nat.zero_le _⟩, rfl⟩, ⟨rfl, int_mk (by rw [wrap_i64 ⟨by omega, by omega⟩]; simp)⟩, trivial, Nat.le_refl _, fun i hi => ?_⟩, ?_⟩
    · unfold dblTo; rw [if_neg (by simp; omega)]
    · rintro ⟨t, m⟩ ⟨⟨ht, hm⟩, hat⟩
      have hat : (x : Int) = (t : Int) := hat
      obtain rfl : x = t := by omega
      simp only at ht hm ⊢
      have hc := cry_le (h9 x) m hm
      refine sel_of (fun hlt' => ?_) fun hge' => ?_
      · have hlt' := of_decide_eq_true hlt'
        have hm' : m < L := by omega
        have e1 : Int.toNat ((L : Int) - 1 - (m : Int)) = L - 1 - m := by omega
        have e2 : dblTo (dgs g L x) L m (L - 1 - m) = dgs g L x (L - 1 - m) := by unfold dblTo; rw [if_neg (by omega)]
        rw [e1, e2]
        have h9' := h9 x (L - 1 - m) (by omega)
        generalize hd' : dgs g L x (L - 1 - m) = d at *
        generalize hc' : cry (dgs g L x) L m = cc at *
        have e3 : IntKind.i64.wrap (IntKind.i64.wrap (2 * (d : Int)) + (cc : Int)) = ((2 * d + cc : Nat) : Int) := by rw [wrap_i64 (n := 2 * (d : Int)) ⟨by omega, by omega⟩, wrap_i64 ⟨by omega, by omega⟩]; omega
        have e4 : IntKind.i64.wrap (Int.tdiv ((2 * d + cc : Nat) : Int) 10) = (((2 * d + cc) / 10 : Nat) : Int) := by rw [tdiv10, wrap_i64 ⟨by omega, by omega⟩]
        rw [e3, e4, tmod10]
        have e6 : cry (dgs g L x) L (m + 1) = (2 * d + cc) / 10 := by rw [← hd', ← hc']; rfl
        have e7 : dbl (dgs g L x) L (L - 1 - m) = (2 * d + cc) % 10 := by unfold dbl; rw [show L - 1 - (L - 1 - m) = m by omega, hd', hc']
        refine ⟨⟨by omega, by omega⟩, ⟨by omega, by omega⟩, (x, m + 1), ⟨⟨⟨by omega, by omega⟩, rfl⟩, ⟨int_mk (by rw [e6]), int_mk (by rw [wrap_i64 ⟨by omega, by omega⟩]; simp; omega)⟩, trivial, Nat.le_refl _, fun i hi => ?_⟩, by simp only; omega⟩
        have b1 : ∀ (a b : Int), bop true a b = a := fun _ _ => rfl
        have b2 : ∀ (a b : Int), bop false a b = b := fun _ _ => rfl
        by_cases he : i = L - 1 - m
        · subst he
          rw [Nat.beq_refl, b1]
          unfold dblTo
          rw [if_pos (by simp only; omega), e7]
        · rw [Go.SE.beq_false he, b2]
          unfold dblTo
          by_cases hi' : L - m ≤ i
          · rw [if_pos hi', if_pos (by simp only; omega)]
          · rw [if_neg hi', if_neg (by simp only; omega)]
      · have hge' := of_decide_eq_false hge'
        obtain rfl : m = L := by omega
        refine ⟨x + 1, ⟨by show x + 1 ≤ 32; omega, ⟨int_mk (by rw [wrap_i64 ⟨by omega, by omega⟩]; rfl), int_mk ?_⟩, trivial, Nat.le_refl _, fun i hi => ?_⟩, by omega⟩
        · rw [or_one (hbig x (by omega)) hc]; rfl
        · unfold dblTo
          rw [if_pos (by omega)]; rfl
  · have hge := of_decide_eq_false hge
    have hx : x ≤ 32 := hx
    obtain rfl : x = 32 := by omega
    rfl
theorem outs_nil (g : Nat → Nat) : ∀ t, outs g 0 t = 0
  | 0 => rfl
  | t + 1 => by show 2 * outs g 0 t + 0 = 0; rw [outs_nil g t]
theorem frac0_vc {g : Nat → Nat} : vcFn Try.prog noCtrs (ΛFrac 0 g) Try.f101 [.v (.slice none 0 0)] (roHeap []) 64 (fun y _ => y = .v (.int .u64 0)) := by
  refine Eq.mpr (vcFrac0 g _) ?_
  simp only [outs_nil]
  refine ⟨by omega, fun c => ⟨⟨0, Nat.zero_le _, ⟨rfl, rfl⟩, trivial, by omega, fun i hi => absurd hi (Nat.not_lt_zero _)⟩, fun x hx => sel_of (fun hlt => ?_) fun hge => rfl⟩⟩
  have hlt := of_decide_eq_true hlt
  refine ⟨⟨(x, 0), ⟨⟨by omega, Nat.zero_le _⟩, rfl⟩, ⟨rfl, rfl⟩, trivial, Nat.le_refl _, fun i hi => absurd hi (Nat.not_lt_zero _)⟩, ?_⟩
  rintro ⟨t, m⟩ ⟨⟨ht, hm⟩, hat⟩
  have hat : (x : Int) = (t : Int) := hat
  obtain rfl : x = t := by omega
  simp only at ht hm ⊢
  obtain rfl : m = 0 := by omega
  refine sel_of (fun hlt' => ?_) fun hge' => ?_
  · have := of_decide_eq_true hlt'
    omega
  · exact ⟨x + 1, ⟨by show x + 1 ≤ 32; omega, ⟨int_mk (by rw [wrap_i64 ⟨by omega, by omega⟩]; rfl), int_mk (or_one (a := 0) (b := 0) (by decide) (by decide))⟩, trivial, Nat.le_refl _, fun i hi => absurd hi (Nat.not_lt_zero _)⟩, by omega⟩
theorem Frac_spec : RoSpec Try.prog 101 sFrac := ro_spec hm noCtrs_ok Try.func101 (Λ := fun args bs => match args, bs with | [.sl 0 1 0 n _], [⟨1, _, row⟩] => ΛFrac n (fun i => (rowI (row i)).toNat) | _, _ => ΛFrac 0 (fun _ => 0)) fun args bs p x h hp => by
  unfold sFrac at h
  split at h <;> try (cases h; done)
  · rename_i n c n' row
    cases h
    obtain ⟨h0, rfl, hn⟩ := hp _ rfl
    have h0 := okAll_rows.1 h0
    refine ⟨rfl, [⟨1, n', rowsD fun i => (rowI (row i)).toNat⟩], ⟨⟨rfl, rfl, fun i hi => (isD10_row (h0 i hi)).1⟩, trivial⟩, ?_⟩
    rw [hid_eq]
    exact frac_vc hn fun i hi => (isD10_row (h0 i hi)).2
  · cases h
    exact ⟨rfl, [], trivial, frac0_vc⟩
end Go.Proofs.Ytnnmfonapfhcaaa
