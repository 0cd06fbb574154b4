/-
  Contracts: extremes and sums of lists.
-/
import Derived.Test.YtheljpebapokjaaFxY
set_option maxRecDepth 100000
namespace Go.Proofs.Ytheljpebapokjaa
open Go.SE Go.RowKit

/-- A block of numbers that is only read; a block of integers. -/
def nrB (e n : Nat) (v : Nat → Int) (f : Nat → Bool) : Blk := { elem := e, size := 2, rw := false, lock := false, lit := false, flat := true, n, row := rowsN v f, ext := 0 }
def nrOk (S : Blk) : Bool := S.flat && !S.rw && !S.dead && Nat.beq S.size 2 && Nat.beq S.ext 0 && !S.whole
def iB (n : Nat) (g : Nat → Int) : Blk := { elem := 2, size := 1, rw := true, lock := false, lit := false, flat := true, n, row := fun i => [.v (.int .i64 (g i))] }
def sValues (args : List SV) (bs : List Blk) : Option Eff := match args, bs with
  | [.sl 0 2 0 n _], [S] => bif nrOk S then some (.det (some (okAll isN (rowsOf n S.row) ∧ S.n = n ∧ n < 1099511627776)) (.tup [.sl 1000 1 0 n n, .v (.bool (anyG (rowsOf n S.row)))]) [(1000, iB n fun i => sndV (rowV (S.row i)))]) else none
  | _, _ => none
def extN (o a : Int) : List (List SV) → Int
  | [] => a
  | r :: t => extN o (if cmpI (rowI r) a * o < 0 then rowI r else a) t
def sExt : List SV → List Ro → Option (Option Prop × SV)
  | [.v (.int .i64 o), .v (.int .i64 a), .sl 0 1 0 n _], [⟨1, n', row⟩] => some (some (okAll isI (rowsOf n' row) ∧ n' = n ∧ n < 1099511627776 ∧ -1 ≤ o ∧ o ≤ 1), .v (.int .i64 (extN o a (rowsOf n row))))
  | _, _ => none
def extG (o a : Int) : List (List SV) → Int
  | [] => a
  | r :: t => extG o (if cmpI (sndV (rowV r)) a * o < 0 then sndV (rowV r) else a) t
def mostV (o : Int) : List (List SV) → Int
  | [] => 0
  | r :: t => extG o (sndV (rowV r)) t
def sMost : List SV → List Ro → Option (Option Prop × SV)
  | [.v (.int .i64 o), .sl 0 2 0 n _], [⟨2, n', row⟩] => some (some (okAll isN (rowsOf n' row) ∧ n' = n ∧ n < 1099511627776 ∧ -1 ≤ o ∧ o ≤ 1), numS (mostV o (rowsOf n row)) (anyG (rowsOf n row)))
  | _, _ => none
def sMinMax (o : Int) : List SV → List Ro → Option (Option Prop × SV)
  | [.sl 0 2 0 n _], [⟨2, n', row⟩] => some (some (okAll isN (rowsOf n' row) ∧ n' = n ∧ n < 1099511627776), numS (mostV o (rowsOf n row)) (anyG (rowsOf n row)))
  | _, _ => none
def isNI : List SV → Prop
  | [.v (.int .i64 a), .v (.bool _)] => I64 a
  | _ => False
def sumG : List (List SV) → Int
  | [] => 0
  | r :: t => sndV (rowV r) + sumG t
def sSum : List SV → List Ro → Option (Option Prop × SV)
  | [.sl 0 2 0 n _], [⟨2, n', row⟩] => some (some (okAll isNI (rowsOf n' row) ∧ n' = n ∧ n < 1099511627776), numS (fitE (sumG (rowsOf n row))) (fitG (sumG (rowsOf n row)) (anyG (rowsOf n row))))
  | _, _ => none
noncomputable def ΛValues (n : Nat) (g : Nat → Int) (fl : Nat → Bool) : Nat → Option LoopSpec := addPr (addLoop noΛ Try.f147 0 Nat (fun k => k ≤ n) (fun k => n - k) [(13, fun k => .v (.int .i64 k)), (5, fun k => .v (.bool (fl k)))] [(96, fun k => iB n fun i => if i < k then g i else 0)]) 6 [(10, fun _ => 96)]
theorem vcValues (e n c : Nat) (v g : Nat → Int) (f fl : Nat → Bool) (b : Bool) : (vcFn Try.prog ΓC (ΛValues n g fl) Try.f147 [.sl 0 2 0 n c] (heapOf [nrB e n v f]) 64 (fun y h' => FinE [nrB e n v f] (.det none (.tup [.sl 1000 1 0 n n, .v (.bool b)]) [(1000, iB n g)]) y h')) =
((((0 : Int) ≤ ((↑n : Int))) ∧ (((((↑n : Int)) : Int) ≤ ((↑n : Int))) ∧ (((8 * (↑n : Int)) : Int) ≤ 140737488355328))) ∧ ((∃ x : Nat, ((Nat.le x n) ∧ ((((SV.v (Value.int IntKind.i64 0)) = (SV.v (Value.int IntKind.i64 ((↑x : Int))))) ∧ ((SV.v (Value.bool false)) = (SV.v (Value.bool (fl x))))) ∧ ((((Int.toNat (↑n : Int)) : Nat) = n) ∧ (((n : Nat) ≤ (Int.toNat (↑n : Int))) ∧ (∀ i : Nat, (((i : Nat) < n) → ([(SV.v (Value.int IntKind.i64 0))] = [(SV.v (Value.int IntKind.i64 (if i < x then g i else 0)))])))))))) ∧ (∀ x : Nat, ((Nat.le x n) → 
(sel (decide ((↑x : Int) < (↑n : Int))) ((((0 : Int) ≤ ((↑x : Int))) ∧ ((((↑x : Int)) : Int) < ((↑n : Int)))) ∧ 
(sel (fl x) ((((0 : Int) ≤ ((↑x : Int))) ∧ ((((↑x : Int)) : Int) < ((↑(Int.toNat (↑n : Int)) : Int)))) ∧ (∃ x' : Nat, (((Nat.le x' n) ∧ ((((SV.v (Value.int IntKind.i64 (IntKind.wrap IntKind.i64 ((↑x : Int) + 1)))) = (SV.v (Value.int IntKind.i64 ((↑x' : Int))))) ∧ ((SV.v (Value.bool true)) = (SV.v (Value.bool (fl x'))))) ∧ (((n : Nat) = n) ∧ (((n : Nat) ≤ n) ∧ (∀ i : Nat, (((i : Nat) < n) → ([(SV.v (Value.int IntKind.i64 (bop (Nat.beq i (0 + Int.toNat (↑x : Int))) (sndV (v (0 + Int.toNat (↑x : Int)))) (if i < x then g i else 0))))] = [(SV.v (Value.int IntKind.i64 (if i < x' then g i else 0)))]))))))) ∧ (((n - x') : Nat) < (n - x))))) ((((0 : Int) ≤ ((↑x : Int))) ∧ ((((↑x : Int)) : Int) < ((↑(Int.toNat (↑n : Int)) : Int)))) ∧ (∃ x' : Nat, (((Nat.le x' n) ∧ ((((SV.v (Value.int IntKind.i64 (IntKind.wrap IntKind.i64 ((↑x : Int) + 1)))) = (SV.v (Value.int IntKind.i64 ((↑x' : Int))))) ∧ ((SV.v (Value.bool (sndF (v (0 + Int.toNat (↑x : Int))) (f (0 + Int.toNat (↑x : Int)))))) = (SV.v (Value.bool (fl x'))))) ∧ (((n : Nat) = n) ∧ (((n : Nat) ≤ n) ∧ (∀ i : Nat, (((i : Nat) < n) → ([(SV.v (Value.int IntKind.i64 (bop (Nat.beq i (0 + Int.toNat (↑x : Int))) (sndV (v (0 + Int.toNat (↑x : Int)))) (if i < x then g i else 0))))] = [(SV.v (Value.int IntKind.i64 (if i < x' then g i else 0)))]))))))) ∧ (((n - x') : Nat) < (n - x))))))) ((((SV.sl 96 1 0 (Int.toNat (↑n : Int)) (Int.toNat (↑n : Int))) = (SV.sl 96 1 0 n n)) ∧ ((SV.v (Value.bool (fl x))) = (SV.v (Value.bool b)))) ∧ (((n : Nat) = n) ∧ (((n : Nat) ≤ n) ∧ (∀ i : Nat, (((i : Nat) < n) → ([(SV.v (Value.int IntKind.i64 (if i < x then g i else 0)))] = [(SV.v (Value.int IntKind.i64 (g i)))]))))))))))) := by kernel_rfl
structure KI where
  k : Nat
  a : Int
noncomputable def ΛExt (n : Nat) (o a : Int) (row : Nat → List SV) : Nat → Option LoopSpec := addLoop noΛ Try.f172 0 KI (fun x => x.k ≤ n ∧ extN o x.a (rowsOf (n - x.k) fun i => row (x.k + i)) = extN o a (rowsOf n row)) (fun x => n - x.k) [(11, fun x => .v (.int .i64 x.k)), (1, fun x => .v (.int .i64 x.a))] []
theorem vcExt (o a : Int) (n n' c : Nat) (g : Nat → Int) (R : SV → Prop) : (vcFn Try.prog ΓC (ΛExt n o a fun i => [.v (.int .i64 (g i))]) Try.f172 [.v (.int .i64 o), .v (.int .i64 a), .sl 0 1 0 n c] (roHeap [⟨1, n', fun i => [.v (.int .i64 (g i))]⟩]) 64 (fun y _ => R y)) =
((∃ x : KI, (((((KI.k x) : Nat) ≤ n) ∧ (((extN o (KI.a x) (rowsOf (n - KI.k x) fun i => [SV.v (Value.int IntKind.i64 (g (KI.k x + i)))])) : Int) = (extN o a (rowsOf n fun i => [SV.v (Value.int IntKind.i64 (g i))])))) ∧ ((((SV.v (Value.int IntKind.i64 0)) = (SV.v (Value.int IntKind.i64 ((↑(KI.k x) : Int))))) ∧ ((SV.v (Value.int IntKind.i64 a)) = (SV.v (Value.int IntKind.i64 (KI.a x))))) ∧ True))) ∧ (∀ x : KI, (((((KI.k x) : Nat) ≤ n) ∧ (((extN o (KI.a x) (rowsOf (n - KI.k x) fun i => [SV.v (Value.int IntKind.i64 (g (KI.k x + i)))])) : Int) = (extN o a (rowsOf n fun i => [SV.v (Value.int IntKind.i64 (g i))])))) → 
(sel (decide ((↑(KI.k x) : Int) < (↑n : Int))) ((((0 : Int) ≤ ((↑(KI.k x) : Int))) ∧ ((((↑(KI.k x) : Int)) : Int) < ((↑n : Int)))) ∧ 
(sel (decide (IntKind.wrap IntKind.i64 (cmpI (g (0 + Int.toNat (↑(KI.k x) : Int))) (KI.a x) * o) < 0)) (∃ x' : KI, ((((((KI.k x') : Nat) ≤ n) ∧ (((extN o (KI.a x') (rowsOf (n - KI.k x') fun i => [SV.v (Value.int IntKind.i64 (g (KI.k x' + i)))])) : Int) = (extN o a (rowsOf n fun i => [SV.v (Value.int IntKind.i64 (g i))])))) ∧ ((((SV.v (Value.int IntKind.i64 (IntKind.wrap IntKind.i64 ((↑(KI.k x) : Int) + 1)))) = (SV.v (Value.int IntKind.i64 ((↑(KI.k x') : Int))))) ∧ ((SV.v (Value.int IntKind.i64 (g (0 + Int.toNat (↑(KI.k x) : Int))))) = (SV.v (Value.int IntKind.i64 (KI.a x'))))) ∧ True)) ∧ (((n - KI.k x') : Nat) < (n - KI.k x)))) (∃ x' : KI, ((((((KI.k x') : Nat) ≤ n) ∧ (((extN o (KI.a x') (rowsOf (n - KI.k x') fun i => [SV.v (Value.int IntKind.i64 (g (KI.k x' + i)))])) : Int) = (extN o a (rowsOf n fun i => [SV.v (Value.int IntKind.i64 (g i))])))) ∧ ((((SV.v (Value.int IntKind.i64 (IntKind.wrap IntKind.i64 ((↑(KI.k x) : Int) + 1)))) = (SV.v (Value.int IntKind.i64 ((↑(KI.k x') : Int))))) ∧ ((SV.v (Value.int IntKind.i64 (KI.a x))) = (SV.v (Value.int IntKind.i64 (KI.a x'))))) ∧ True)) ∧ (((n - KI.k x') : Nat) < (n - KI.k x)))))) (R (SV.v (Value.int IntKind.i64 (KI.a x)))))))) := by kernel_rfl
def ΓZ0 : Ctrs := addCtr (addCtr ΓC 147 (hpCtr false sValues)) 172 (roCtr sExt)
theorem vcMost (o : Int) (n n' c : Nat) (v : Nat → Int) (f : Nat → Bool) (R : SV → Prop) : (vcFn Try.prog ΓZ0 noΛ Try.f170 [.v (.int .i64 o), .sl 0 2 0 n c] (roHeap [⟨2, n', rowsN v f⟩]) 64 (fun y _ => R y)) =

(sel ((↑n : Int) == 0) (R (SV.agg [(SV.v (Value.int IntKind.i64 0)), (SV.v (Value.bool false))])) (((okAll isN (rowsOf n fun y => [SV.v (Value.int IntKind.i64 (v (0 + y))), SV.v (Value.bool (f (0 + y)))])) ∧ (((n : Nat) = n) ∧ ((n : Nat) < 1099511627776))) ∧ ((((0 : Int) ≤ 0) ∧ ((0 : Int) < ((↑n : Int)))) ∧ ((((0 : Int) ≤ 1) ∧ (((1 : Int) ≤ (Option.getD none (↑n : Int))) ∧ ((((Option.getD none (↑n : Int)) : Int) ≤ ((↑n : Int))) ∧ ((n : Nat) ≤ n)))) ∧ (((okAll isI (rowsOf (Int.toNat (Option.getD none (↑n : Int)) - 1) fun y => [SV.v (Value.int IntKind.i64 ((fun i => sndV (rowV [SV.v (Value.int IntKind.i64 (v (0 + i))), SV.v (Value.bool (f (0 + i)))])) (1 + y)))])) ∧ ((((Int.toNat (Option.getD none (↑n : Int)) - 1) : Nat) = (Int.toNat (Option.getD none (↑n : Int)) - 1)) ∧ ((((Int.toNat (Option.getD none (↑n : Int)) - 1) : Nat) < 1099511627776) ∧ ((((-1) : Int) ≤ o) ∧ ((o : Int) ≤ 1))))) ∧ (R (SV.agg [(SV.v (Value.int IntKind.i64 (extN o (sndV (rowV [SV.v (Value.int IntKind.i64 (v 0)), SV.v (Value.bool (f 0))])) (rowsOf (Int.toNat (Option.getD none (↑n : Int)) - 1) fun y => [SV.v (Value.int IntKind.i64 ((fun i => sndV (rowV [SV.v (Value.int IntKind.i64 (v (0 + i))), SV.v (Value.bool (f (0 + i)))])) (1 + y)))])))), (SV.v (Value.bool (anyG (rowsOf n fun y => [SV.v (Value.int IntKind.i64 (v (0 + y))), SV.v (Value.bool (f (0 + y)))]))))]))))))) := by kernel_rfl
noncomputable def ΛRM (n : Nat) (fn : Func) (o : Int) (row : Nat → List SV) : Nat → Option LoopSpec := addLoop noΛ fn 0 KI (fun x => (1 ≤ x.k ∧ x.k ≤ n) ∧ extG o x.a (rowsOf (n - x.k) fun i => row (x.k + i)) = mostV o (rowsOf n row)) (fun x => n - x.k) [(5, fun x => .v (.int .i64 x.k)), (3, fun x => .v (.int .i64 x.a))] []
def ΓZ1 : Ctrs := addCtr (addCtr ΓC 170 (roCtr sMost)) 148 (roCtr sFlagged)
theorem vcMin (n n' c : Nat) (v : Nat → Int) (f : Nat → Bool) (R : SV → Prop) : (vcFn Try.prog ΓZ1 noΛ Try.f167 [.sl 0 2 0 n c] (roHeap [⟨2, n', rowsN v f⟩]) 64 (fun y _ => R y)) =
(((okAll isN (rowsOf n fun y => [SV.v (Value.int IntKind.i64 (v (0 + y))), SV.v (Value.bool (f (0 + y)))])) ∧ (((n : Nat) = n) ∧ (((n : Nat) < 1099511627776) ∧ ((((-1) : Int) ≤ 1) ∧ ((1 : Int) ≤ 1))))) ∧ (R (SV.agg [(SV.v (Value.int IntKind.i64 (mostV 1 (rowsOf n fun y => [SV.v (Value.int IntKind.i64 (v (0 + y))), SV.v (Value.bool (f (0 + y)))])))), (SV.v (Value.bool (anyG (rowsOf n fun y => [SV.v (Value.int IntKind.i64 (v (0 + y))), SV.v (Value.bool (f (0 + y)))]))))]))) := by kernel_rfl
theorem vcMax (n n' c : Nat) (v : Nat → Int) (f : Nat → Bool) (R : SV → Prop) : (vcFn Try.prog ΓZ1 noΛ Try.f166 [.sl 0 2 0 n c] (roHeap [⟨2, n', rowsN v f⟩]) 64 (fun y _ => R y)) =
(((okAll isN (rowsOf n fun y => [SV.v (Value.int IntKind.i64 (v (0 + y))), SV.v (Value.bool (f (0 + y)))])) ∧ (((n : Nat) = n) ∧ (((n : Nat) < 1099511627776) ∧ ((((-1) : Int) ≤ (-1)) ∧ (((-1) : Int) ≤ 1))))) ∧ (R (SV.agg [(SV.v (Value.int IntKind.i64 (mostV (-1) (rowsOf n fun y => [SV.v (Value.int IntKind.i64 (v (0 + y))), SV.v (Value.bool (f (0 + y)))])))), (SV.v (Value.bool (anyG (rowsOf n fun y => [SV.v (Value.int IntKind.i64 (v (0 + y))), SV.v (Value.bool (f (0 + y)))]))))]))) := by kernel_rfl
structure KE where
  k : Nat
  n : Bool
  m : Int
structure invS (n : Nat) (row : Nat → List SV) (x : KE) : Prop where
  le : x.k ≤ n
  m0 : 0 ≤ x.m
  m1 : x.m ≤ 9223372036854775808 * (x.k : Int)
  sum : sv x.n x.m = sumG (rowsOf x.k row)
noncomputable def ΛSum (n : Nat) (row : Nat → List SV) : Nat → Option LoopSpec := addLoop noΛ Try.f103 0 KE (invS n row) (fun x => n - x.k) [(15, fun x => .v (.int .i64 x.k))] [(128, fun x => varBlk 120 [.v (.bool x.n), .v (.int .u64 (x.m % 18446744073709551616)), .v (.int .u64 (x.m / 18446744073709551616))])]
noncomputable def ΛRSum (n : Nat) (row : Nat → List SV) : Nat → Option LoopSpec := addLoop noΛ Try.f107 0 KE (invS n row) (fun x => n - x.k) [(4, fun x => .v (.int .i64 x.k))] [(80, fun x => varBlk 130 [.v (.bool x.n), .v (.int .u64 (x.m / 18446744073709551616)), .v (.int .u64 (x.m % 18446744073709551616))])]
def ΓZ2 : Ctrs := addCtr (addCtr ΓC 147 (hpCtr false sValues)) 148 (roCtr sFlagged)
theorem vcSum (n n' c : Nat) (v : Nat → Int) (f : Nat → Bool) (R : SV → Prop) : (vcFn Try.prog ΓZ2 (ΛSum n (rowsN v f)) Try.f103 [.sl 0 2 0 n c] (roHeap [⟨2, n', rowsN v f⟩]) 64 (fun y _ => R y)) =
(((okAll isN (rowsOf n fun y => [SV.v (Value.int IntKind.i64 (v (0 + y))), SV.v (Value.bool (f (0 + y)))])) ∧ (((n : Nat) = n) ∧ ((n : Nat) < 1099511627776))) ∧ ((∃ x : KE, ((invS n (fun i => [SV.v (Value.int IntKind.i64 (v i)), SV.v (Value.bool (f i))]) x) ∧ (((SV.v (Value.int IntKind.i64 0)) = (SV.v (Value.int IntKind.i64 ((↑(KE.k x) : Int))))) ∧ (((1 : Nat) = 1) ∧ (((1 : Nat) ≤ 1) ∧ (∀ i : Nat, (((i : Nat) < 1) → ([(SV.v (Value.bool false)), (SV.v (Value.int IntKind.u64 0)), (SV.v (Value.int IntKind.u64 0))] = [(SV.v (Value.bool (KE.n x))), (SV.v (Value.int IntKind.u64 (KE.m x % 18446744073709551616))), (SV.v (Value.int IntKind.u64 (KE.m x / 18446744073709551616)))])))))))) ∧ (∀ x : KE, ((invS n (fun i => [SV.v (Value.int IntKind.i64 (v i)), SV.v (Value.bool (f i))]) x) → 
(sel (decide ((↑(KE.k x) : Int) < (↑n : Int))) ((((0 : Int) ≤ ((↑(KE.k x) : Int))) ∧ ((((↑(KE.k x) : Int)) : Int) < ((↑n : Int)))) ∧ ((I64 (sndV (rowV [SV.v (Value.int IntKind.i64 (v (0 + (0 + Int.toNat (↑(KE.k x) : Int))))), SV.v (Value.bool (f (0 + (0 + Int.toNat (↑(KE.k x) : Int)))))]))) ∧ ((((U64 (KE.m x % 18446744073709551616)) ∧ (U64 (KE.m x / 18446744073709551616))) ∧ (((U64 (iabs (sndV (rowV [SV.v (Value.int IntKind.i64 (v (0 + (0 + Int.toNat (↑(KE.k x) : Int))))), SV.v (Value.bool (f (0 + (0 + Int.toNat (↑(KE.k x) : Int)))))])))) ∧ (U64 0)) ∧ (((MM (KE.m x % 18446744073709551616) (KE.m x / 18446744073709551616) + MM (iabs (sndV (rowV [SV.v (Value.int IntKind.i64 (v (0 + (0 + Int.toNat (↑(KE.k x) : Int))))), SV.v (Value.bool (f (0 + (0 + Int.toNat (↑(KE.k x) : Int)))))]))) 0) : Int) < 340282366920938463463374607431768211456))) ∧ (∃ x' : KE, (((invS n (fun i => [SV.v (Value.int IntKind.i64 (v i)), SV.v (Value.bool (f i))]) x') ∧ (((SV.v (Value.int IntKind.i64 (IntKind.wrap IntKind.i64 ((↑(KE.k x) : Int) + 1)))) = (SV.v (Value.int IntKind.i64 ((↑(KE.k x') : Int))))) ∧ (((1 : Nat) = 1) ∧ (((1 : Nat) ≤ 1) ∧ (∀ i : Nat, (((i : Nat) < 1) → ([(SV.v (Value.bool (plN (KE.n x) (MM (KE.m x % 18446744073709551616) (KE.m x / 18446744073709551616)) (decide (sndV (rowV [SV.v (Value.int IntKind.i64 (v (0 + (0 + Int.toNat (↑(KE.k x) : Int))))), SV.v (Value.bool (f (0 + (0 + Int.toNat (↑(KE.k x) : Int)))))]) < 0)) (MM (iabs (sndV (rowV [SV.v (Value.int IntKind.i64 (v (0 + (0 + Int.toNat (↑(KE.k x) : Int))))), SV.v (Value.bool (f (0 + (0 + Int.toNat (↑(KE.k x) : Int)))))]))) 0)))), (SV.v (Value.int IntKind.u64 (plM (KE.n x) (MM (KE.m x % 18446744073709551616) (KE.m x / 18446744073709551616)) (decide (sndV (rowV [SV.v (Value.int IntKind.i64 (v (0 + (0 + Int.toNat (↑(KE.k x) : Int))))), SV.v (Value.bool (f (0 + (0 + Int.toNat (↑(KE.k x) : Int)))))]) < 0)) (MM (iabs (sndV (rowV [SV.v (Value.int IntKind.i64 (v (0 + (0 + Int.toNat (↑(KE.k x) : Int))))), SV.v (Value.bool (f (0 + (0 + Int.toNat (↑(KE.k x) : Int)))))]))) 0) % 18446744073709551616))), (SV.v (Value.int IntKind.u64 (plM (KE.n x) (MM (KE.m x % 18446744073709551616) (KE.m x / 18446744073709551616)) (decide (sndV (rowV [SV.v (Value.int IntKind.i64 (v (0 + (0 + Int.toNat (↑(KE.k x) : Int))))), SV.v (Value.bool (f (0 + (0 + Int.toNat (↑(KE.k x) : Int)))))]) < 0)) (MM (iabs (sndV (rowV [SV.v (Value.int IntKind.i64 (v (0 + (0 + Int.toNat (↑(KE.k x) : Int))))), SV.v (Value.bool (f (0 + (0 + Int.toNat (↑(KE.k x) : Int)))))]))) 0) / 18446744073709551616)))] = [(SV.v (Value.bool (KE.n x'))), (SV.v (Value.int IntKind.u64 (KE.m x' % 18446744073709551616))), (SV.v (Value.int IntKind.u64 (KE.m x' / 18446744073709551616)))]))))))) ∧ (((n - KE.k x') : Nat) < (n - KE.k x))))))) (((U64 (KE.m x % 18446744073709551616)) ∧ (U64 (KE.m x / 18446744073709551616))) ∧ (R (SV.agg [(SV.v (Value.int IntKind.i64 (fitV (KE.n x) (MM (KE.m x % 18446744073709551616) (KE.m x / 18446744073709551616))))), (SV.v (Value.bool (fitF (MM (KE.m x % 18446744073709551616) (KE.m x / 18446744073709551616)) (anyG (rowsOf n fun y => [SV.v (Value.int IntKind.i64 (v (0 + y))), SV.v (Value.bool (f (0 + y)))])))))])))))))) := by kernel_rfl
theorem vcRSum (n n' c : Nat) (v : Nat → Int) (f : Nat → Bool) (R : SV → Prop) : (vcFn Try.prog ΓZ2 (ΛRSum n (rowsN v f)) Try.f107 [.sl 0 2 0 n c] (roHeap [⟨2, n', rowsN v f⟩]) 64 (fun y _ => R y)) =
((∃ x : KE, ((invS n (fun i => [SV.v (Value.int IntKind.i64 (v i)), SV.v (Value.bool (f i))]) x) ∧ (((SV.v (Value.int IntKind.i64 0)) = (SV.v (Value.int IntKind.i64 ((↑(KE.k x) : Int))))) ∧ (((1 : Nat) = 1) ∧ (((1 : Nat) ≤ 1) ∧ (∀ i : Nat, (((i : Nat) < 1) → ([(SV.v (Value.bool false)), (SV.v (Value.int IntKind.u64 0)), (SV.v (Value.int IntKind.u64 0))] = [(SV.v (Value.bool (KE.n x))), (SV.v (Value.int IntKind.u64 (KE.m x / 18446744073709551616))), (SV.v (Value.int IntKind.u64 (KE.m x % 18446744073709551616)))])))))))) ∧ (∀ x : KE, ((invS n (fun i => [SV.v (Value.int IntKind.i64 (v i)), SV.v (Value.bool (f i))]) x) → 
(sel (decide ((↑(KE.k x) : Int) < (↑n : Int))) ((((0 : Int) ≤ ((↑(KE.k x) : Int))) ∧ ((((↑(KE.k x) : Int)) : Int) < ((↑n : Int)))) ∧ ((I64 (sndV (v (0 + Int.toNat (↑(KE.k x) : Int))))) ∧ ((((U64 (KE.m x % 18446744073709551616)) ∧ (U64 (KE.m x / 18446744073709551616))) ∧ (((U64 (iabs (sndV (v (0 + Int.toNat (↑(KE.k x) : Int)))))) ∧ (U64 0)) ∧ (((MM (KE.m x % 18446744073709551616) (KE.m x / 18446744073709551616) + MM (iabs (sndV (v (0 + Int.toNat (↑(KE.k x) : Int))))) 0) : Int) < 340282366920938463463374607431768211456))) ∧ (∃ x' : KE, (((invS n (fun i => [SV.v (Value.int IntKind.i64 (v i)), SV.v (Value.bool (f i))]) x') ∧ (((SV.v (Value.int IntKind.i64 (IntKind.wrap IntKind.i64 ((↑(KE.k x) : Int) + 1)))) = (SV.v (Value.int IntKind.i64 ((↑(KE.k x') : Int))))) ∧ (((1 : Nat) = 1) ∧ (((1 : Nat) ≤ 1) ∧ (∀ i : Nat, (((i : Nat) < 1) → ([(SV.v (Value.bool (plZ (KE.n x) (MM (KE.m x % 18446744073709551616) (KE.m x / 18446744073709551616)) (decide (sndV (v (0 + Int.toNat (↑(KE.k x) : Int))) < 0)) (MM (iabs (sndV (v (0 + Int.toNat (↑(KE.k x) : Int))))) 0)))), (SV.v (Value.int IntKind.u64 (plM (KE.n x) (MM (KE.m x % 18446744073709551616) (KE.m x / 18446744073709551616)) (decide (sndV (v (0 + Int.toNat (↑(KE.k x) : Int))) < 0)) (MM (iabs (sndV (v (0 + Int.toNat (↑(KE.k x) : Int))))) 0) / 18446744073709551616))), (SV.v (Value.int IntKind.u64 (plM (KE.n x) (MM (KE.m x % 18446744073709551616) (KE.m x / 18446744073709551616)) (decide (sndV (v (0 + Int.toNat (↑(KE.k x) : Int))) < 0)) (MM (iabs (sndV (v (0 + Int.toNat (↑(KE.k x) : Int))))) 0) % 18446744073709551616)))] = [(SV.v (Value.bool (KE.n x'))), (SV.v (Value.int IntKind.u64 (KE.m x' / 18446744073709551616))), (SV.v (Value.int IntKind.u64 (KE.m x' % 18446744073709551616)))]))))))) ∧ (((n - KE.k x') : Nat) < (n - KE.k x))))))) (((okAll isN (rowsOf n fun y => [SV.v (Value.int IntKind.i64 (v (0 + y))), SV.v (Value.bool (f (0 + y)))])) ∧ (((n : Nat) = n) ∧ ((n : Nat) < 4611686018427387904))) ∧ (((U64 (KE.m x % 18446744073709551616)) ∧ (U64 (KE.m x / 18446744073709551616))) ∧ (R (SV.agg [(SV.v (Value.int IntKind.i64 (fitV (KE.n x) (MM (KE.m x % 18446744073709551616) (KE.m x / 18446744073709551616))))), (SV.v (Value.bool (fitF (MM (KE.m x % 18446744073709551616) (KE.m x / 18446744073709551616)) (anyG (rowsOf n fun y => [SV.v (Value.int IntKind.i64 (v (0 + y))), SV.v (Value.bool (f (0 + y)))])))))])))))))) := by kernel_rfl
theorem rowsOf_cons (n : Nat) (row : Nat → List SV) : rowsOf (n + 1) row = row 0 :: rowsOf n fun i => row (i + 1) := by
  refine List.ext_getElem? fun i => ?_
  cases i with
  | zero => rw [rowsOf_get]; simp
  | succ i => rw [rowsOf_get, List.getElem?_cons_succ, rowsOf_get]; simp
theorem rowsOf_drop {n k : Nat} (h : k < n) (row : Nat → List SV) : (rowsOf (n - k) fun i => row (k + i)) = row k :: rowsOf (n - (k + 1)) fun i => row (k + 1 + i) := by
  rw [show n - k = (n - (k + 1)) + 1 by omega, rowsOf_cons]
  congr 1
  exact rowsOf_congr fun i _ => by rw [show k + (i + 1) = k + 1 + i by omega]
theorem rowsOf_zero (row : Nat → List SV) : rowsOf 0 row = [] := rfl
theorem same_nrB {S : Blk} {m : Nat} (hS : nrOk S = true) (h1 : S.n = m) (h2 : ∀ i, i < m → isN (S.row i)) : BlkSame S (nrB S.elem m (fun i => rowV (S.row i)) fun i => rowF (S.row i)) := by
  simp only [nrOk, Bool.and_eq_true, Bool.not_eq_true'] at hS
  obtain ⟨⟨⟨⟨⟨a1, a2⟩, a3⟩, a4⟩, a5⟩, a6⟩ := hS
  exact ⟨Nat.eq_of_beq_eq_true a4, a2, a1, h1, Nat.eq_of_beq_eq_true a5, a3, rfl, a6, fun i hi => isN_row (h2 i (by omega))⟩
theorem Values_spec : HpSpec Try.prog 147 sValues := hp_spec hm ΓC_ok Try.func147 (Λ := fun args bs => match args, bs with | [.sl 0 2 0 n _], [S] => ΛValues n (fun i => sndV (rowV (S.row i))) (fun k => anyG (rowsOf k S.row)) | _, _ => noΛ) fun args bs e hs hp => by
  unfold sValues at hs
  split at hs <;> try (cases hs; done)
  rename_i n c S
  cases hS : nrOk S with
  | false => rw [hS] at hs; cases hs
  | true =>
    rw [hS] at hs
    cases hs
    obtain ⟨p1, p2, p3⟩ := hp _ rfl
    have p1 := okAll_rows.1 p1
    refine ⟨[nrB S.elem n (fun i => rowV (S.row i)) fun i => rowF (S.row i)], ⟨same_nrB hS p2 p1, trivial⟩, ?_⟩
    refine Eq.mpr (vcValues S.elem n c (fun i => rowV (S.row i)) (fun i => sndV (rowV (S.row i))) (fun i => rowF (S.row i)) (fun k => anyG (rowsOf k S.row)) (anyG (rowsOf n S.row))) ?_
    refine ⟨⟨by omega, by omega, by omega⟩, ⟨0, ⟨Nat.zero_le _, ⟨rfl, rfl⟩, by simp, by simp, fun i hi => by rw [if_neg (by omega)]⟩⟩, fun x hx => ?_⟩
    have hx : x ≤ n := hx
    have hsucc : anyG (rowsOf (x + 1) S.row) = (anyG (rowsOf x S.row) || sndF (rowV (S.row x)) (rowF (S.row x))) := by rw [rowsOf_succ, anyG_append]; simp [anyG]
    refine sel_of (fun g => ?_) fun g => ?_
    · have g := of_decide_eq_true g
      have e1 : IntKind.i64.wrap ((x : Int) + 1) = ((x + 1 : Nat) : Int) := by rw [wrap_i64 ⟨by omega, by omega⟩]; omega
      have row : ∀ i, i < n → [SV.v (Value.int .i64 (bop (Nat.beq i (0 + Int.toNat (x : Int))) (sndV (rowV (S.row (0 + Int.toNat (x : Int))))) (if i < x then sndV (rowV (S.row i)) else 0)))] = [SV.v (Value.int .i64 (if i < x + 1 then sndV (rowV (S.row i)) else 0))] := by
        intro i hi
        rw [Int.toNat_natCast, Nat.zero_add]
        have b1 : ∀ (a b : Int), bop true a b = a := fun _ _ => rfl
        have b2 : ∀ (a b : Int), bop false a b = b := fun _ _ => rfl
        by_cases h : i = x
        · subst h
          have hb : Nat.beq i i = true := Nat.beq_eq ▸ rfl
          rw [hb, b1, if_pos (by omega)]
        · have hb : Nat.beq i x = false := by
            cases hb : Nat.beq i x with
            | false => rfl
            | true => exact absurd (Nat.eq_of_beq_eq_true hb) h
          rw [hb, b2]
          by_cases h' : i < x
          · rw [if_pos h', if_pos (by omega)]
          · rw [if_neg h', if_neg (by omega)]
      refine ⟨⟨by omega, by omega⟩, sel_of (fun hf => ?_) fun hf => ?_⟩
      · exact ⟨⟨by omega, by simp; omega⟩, x + 1, ⟨Nat.succ_le_of_lt (by omega), ⟨int_mk e1, bool_mk (by rw [hsucc, hf]; rfl)⟩, rfl, Nat.le_refl _, row⟩, by omega⟩
      · refine ⟨⟨by omega, by simp; omega⟩, x + 1, ⟨Nat.succ_le_of_lt (by omega), ⟨int_mk e1, bool_mk ?_⟩, rfl, Nat.le_refl _, row⟩, by omega⟩
        rw [hsucc, hf, Int.toNat_natCast, Nat.zero_add, Bool.false_or]
    · have g := of_decide_eq_false g
      have e : x = n := by omega
      subst e
      refine ⟨⟨by simp, rfl⟩, rfl, Nat.le_refl _, fun i hi => by rw [if_pos hi]⟩
theorem Ext_spec : RoSpec Try.prog 172 sExt := ro_spec hm ΓC_ok Try.func172 (Λ := fun args bs => match args, bs with | [.v (.int .i64 o), .v (.int .i64 a), .sl 0 1 0 n _], [⟨1, _, row⟩] => ΛExt n o a (fun i => [.v (.int .i64 (rowI (row i)))]) | _, _ => noΛ) fun args bs p x h hp => by
  unfold sExt at h
  split at h <;> try (cases h; done)
  rename_i o a n c n' row
  cases h
  obtain ⟨h1, rfl, h3, h4⟩ := hp _ rfl
  have h1 := okAll_rows.1 h1
  refine ⟨rfl, [⟨1, n', fun i => [.v (.int .i64 (rowI (row i)))]⟩], ⟨⟨rfl, rfl, fun i hi => isI_row (h1 i hi)⟩, trivial⟩, ?_⟩
  show vcFn _ _ (ΛExt n' o a fun i => [.v (.int .i64 (rowI (row i)))]) _ _ _ _ _
  refine Eq.mpr (vcExt o a n' n' c (fun i => rowI (row i)) _) ?_
  have hrow : rowsOf n' row = rowsOf n' fun i => [SV.v (Value.int .i64 (rowI (row i)))] := rowsOf_congr fun i hi => isI_row (h1 i hi)
  rw [hrow]
  refine ⟨⟨⟨0, a⟩, ⟨Nat.zero_le _, by simp⟩, ⟨rfl, rfl⟩, trivial⟩, fun x ⟨x1, x2⟩ => ?_⟩
  refine sel_of (fun g => ?_) fun g => ?_
  · have g := of_decide_eq_true g
    have e1 : IntKind.i64.wrap ((x.k : Int) + 1) = ((x.k + 1 : Nat) : Int) := by rw [wrap_i64 ⟨by omega, by omega⟩]; omega
    have hd := rowsOf_drop (n := n') (k := x.k) (by omega) fun i => [SV.v (Value.int .i64 (rowI (row i)))]
    have hc : ∀ z, -1 ≤ cmpI z x.a ∧ cmpI z x.a ≤ 1 := fun z => by unfold cmpI; split <;> (try split) <;> omega
    have hw : ∀ z, IntKind.i64.wrap (cmpI z x.a * o) = cmpI z x.a * o := fun z => by
      have hz := hc z
      have h5 : cmpI z x.a * o = o ∨ cmpI z x.a * o = 0 ∨ cmpI z x.a * o = -o := by
        have : cmpI z x.a = 1 ∨ cmpI z x.a = 0 ∨ cmpI z x.a = -1 := by omega
        rcases this with e | e | e <;> rw [e] <;> omega
      exact wrap_i64 ⟨by omega, by omega⟩
    rw [hd] at x2
    rw [e1, Int.toNat_natCast, Nat.zero_add, hw]
    have x2' : extN o (if cmpI (rowI (row x.k)) x.a * o < 0 then rowI (row x.k) else x.a) (rowsOf (n' - (x.k + 1)) fun i => [SV.v (Value.int .i64 (rowI (row (x.k + 1 + i))))]) = extN o a (rowsOf n' fun i => [SV.v (Value.int .i64 (rowI (row i)))]) := x2
    refine ⟨⟨by omega, by omega⟩, sel_of (fun hf => ?_) fun hf => ?_⟩
    · rw [if_pos (of_decide_eq_true hf)] at x2'
      exact ⟨⟨x.k + 1, rowI (row x.k)⟩, ⟨⟨by show x.k + 1 ≤ n'; omega, x2'⟩, ⟨rfl, rfl⟩, trivial⟩, by show n' - (x.k + 1) < _; omega⟩
    · rw [if_neg (of_decide_eq_false hf)] at x2'
      exact ⟨⟨x.k + 1, x.a⟩, ⟨⟨by show x.k + 1 ≤ n'; omega, x2'⟩, ⟨rfl, rfl⟩, trivial⟩, by show n' - (x.k + 1) < _; omega⟩
  · have g := of_decide_eq_false g
    have e : x.k = n' := by omega
    rw [e, Nat.sub_self, rowsOf_zero] at x2
    exact int_mk x2
theorem ΓZ0_ok : ∀ f g, ΓZ0 f = some g → g.ok Try.prog f := addCtr_ok (addCtr_ok ΓC_ok (hp_ok Try.func147 (by kernel_rfl) (by kernel_rfl) Values_spec)) (ro_ok Try.func172 (by kernel_rfl) (by kernel_rfl) Ext_spec)
theorem extN_G (o : Int) (g : Nat → List SV) : ∀ (m : Nat) (k : Nat) (a : Int), extN o a (rowsOf m fun i => [SV.v (Value.int .i64 (sndV (rowV (g (k + i)))))]) = extG o a (rowsOf m fun i => g (k + i))
  | 0, _, _ => rfl
  | m + 1, k, a => by
    rw [rowsOf_cons, rowsOf_cons]
    show extN o (if cmpI (sndV (rowV (g (k + 0)))) a * o < 0 then sndV (rowV (g (k + 0))) else a) _ = extG o (if cmpI (sndV (rowV (g (k + 0)))) a * o < 0 then sndV (rowV (g (k + 0))) else a) _
    have := extN_G o g m (k + 1) (if cmpI (sndV (rowV (g (k + 0)))) a * o < 0 then sndV (rowV (g (k + 0))) else a)
    have e : ∀ i, k + 1 + i = k + (i + 1) := fun i => by omega
    simp only [e] at this
    exact this
theorem rowsN_eq {n : Nat} {row : Nat → List SV} (h : ∀ i, i < n → isN (row i)) : rowsOf n row = rowsOf n fun i => [SV.v (Value.int .i64 (rowV (row i))), SV.v (Value.bool (rowF (row i)))] := rowsOf_congr fun i hi => isN_row (h i hi)
theorem okAll_N (n : Nat) (v : Nat → Int) (f : Nat → Bool) : okAll isN (rowsOf n fun i => [SV.v (Value.int .i64 (v i)), SV.v (Value.bool (f i))]) := okAll_rows.2 fun _ _ => trivial
theorem okAll_I (n : Nat) (v : Nat → Int) : okAll isI (rowsOf n fun i => [SV.v (Value.int .i64 (v i))]) := okAll_rows.2 fun _ _ => trivial
theorem Most_spec : RoSpec Try.prog 170 sMost := ro_spec hm ΓZ0_ok Try.func170 (Λ := fun _ _ => noΛ) fun args bs p x h hp => by
  unfold sMost at h
  split at h <;> try (cases h; done)
  rename_i o n c n' row
  cases h
  obtain ⟨h1, rfl, h3, h4⟩ := hp _ rfl
  have h1 := okAll_rows.1 h1
  refine ⟨rfl, [⟨2, n', rowsN (fun i => rowV (row i)) fun i => rowF (row i)⟩], ⟨⟨rfl, rfl, fun i hi => isN_row (h1 i hi)⟩, trivial⟩, ?_⟩
  refine Eq.mpr (vcMost o n' n' c (fun i => rowV (row i)) (fun i => rowF (row i)) _) ?_
  rw [rowsN_eq h1]
  refine sel_of (fun g => ?_) fun g => ?_
  · have g : n' = 0 := by simpa using g
    subst g
    rfl
  · have g : n' ≠ 0 := by simpa using g
    obtain ⟨m, rfl⟩ : ∃ m, n' = m + 1 := ⟨n' - 1, by omega⟩
    simp only [Option.getD_none, Int.toNat_natCast, Nat.zero_add, Nat.add_sub_cancel]
    refine ⟨⟨okAll_N _ _ _, by trivial, h3⟩, ⟨by omega, by omega⟩, ⟨by omega, by omega, by omega, Nat.le_refl _⟩, ⟨okAll_I _ _, by trivial, by omega, h4⟩, num_mk ?_ rfl⟩
    rw [rowsOf_cons]
    show _ = extG o (sndV (rowV (row 0))) _
    have := extN_G o (fun i => [SV.v (Value.int .i64 (rowV (row i))), SV.v (Value.bool (rowF (row i)))]) m 1 (sndV (rowV (row 0)))
    have e : ∀ i, 1 + i = i + 1 := fun i => by omega
    simp only [e] at this ⊢
    exact this
theorem ΓZ1_ok : ∀ f g, ΓZ1 f = some g → g.ok Try.prog f := addCtr_ok (addCtr_ok ΓC_ok (ro_ok Try.func170 (by kernel_rfl) (by kernel_rfl) Most_spec)) (ro_ok Try.func148 (by kernel_rfl) (by kernel_rfl) Flagged_spec)
theorem Min_spec : RoSpec Try.prog 167 (sMinMax 1) := ro_spec hm ΓZ1_ok Try.func167 (Λ := fun _ _ => noΛ) fun args bs p x h hp => by
  unfold sMinMax at h
  split at h <;> try (cases h; done)
  rename_i n c n' row
  cases h
  obtain ⟨h1, rfl, h3⟩ := hp _ rfl
  have h1 := okAll_rows.1 h1
  refine ⟨rfl, [⟨2, n', rowsN (fun i => rowV (row i)) fun i => rowF (row i)⟩], ⟨⟨rfl, rfl, fun i hi => isN_row (h1 i hi)⟩, trivial⟩, ?_⟩
  refine Eq.mpr (vcMin n' n' c (fun i => rowV (row i)) (fun i => rowF (row i)) _) ?_
  rw [rowsN_eq h1]
  exact ⟨⟨okAll_N _ _ _, rfl, h3, by decide, by decide⟩, num_mk (by simp only [Nat.zero_add]) (by simp only [Nat.zero_add])⟩
theorem Max_spec : RoSpec Try.prog 166 (sMinMax (-1)) := ro_spec hm ΓZ1_ok Try.func166 (Λ := fun _ _ => noΛ) fun args bs p x h hp => by
  unfold sMinMax at h
  split at h <;> try (cases h; done)
  rename_i n c n' row
  cases h
  obtain ⟨h1, rfl, h3⟩ := hp _ rfl
  have h1 := okAll_rows.1 h1
  refine ⟨rfl, [⟨2, n', rowsN (fun i => rowV (row i)) fun i => rowF (row i)⟩], ⟨⟨rfl, rfl, fun i hi => isN_row (h1 i hi)⟩, trivial⟩, ?_⟩
  refine Eq.mpr (vcMax n' n' c (fun i => rowV (row i)) (fun i => rowF (row i)) _) ?_
  rw [rowsN_eq h1]
  exact ⟨⟨okAll_N _ _ _, rfl, h3, by decide, by decide⟩, num_mk (by simp only [Nat.zero_add]) (by simp only [Nat.zero_add])⟩
theorem cmpI_1 (a b : Int) : (cmpI a b * 1 < 0) ↔ a < b := by unfold cmpI; split <;> (try split) <;> omega
theorem cmpI_m1 (a b : Int) : (cmpI a b * -1 < 0) ↔ b < a := by unfold cmpI; split <;> (try split) <;> omega
theorem isNI_row {r : List SV} (h : isNI r) : isN r ∧ I64 (rowV r) := by
  unfold isNI at h
  split at h
  · exact ⟨trivial, h⟩
  · exact h.elim
theorem sumG_append (a b : List (List SV)) : sumG (a ++ b) = sumG a + sumG b := by
  induction a with
  | nil => simp [sumG]
  | cons r t ih => simp only [List.cons_append, sumG, ih]; omega
theorem sumG_succ (n : Nat) (row : Nat → List SV) : sumG (rowsOf (n + 1) row) = sumG (rowsOf n row) + sndV (rowV (row n)) := by
  rw [rowsOf_succ, sumG_append]; simp [sumG]
theorem pl_svZ (n1 : Bool) (m1 : Int) (n2 : Bool) (m2 : Int) : sv (plZ n1 m1 n2 m2) (plM n1 m1 n2 m2) = sv n1 m1 + sv n2 m2 := by
  unfold plZ plM
  by_cases hn : n1 = n2
  · subst hn
    rw [if_pos rfl, if_pos rfl]
    unfold sv; cases n1 <;> simp <;> omega
  · rw [if_neg hn, if_neg hn]
    by_cases hm : m1 < m2
    · rw [if_pos hm]
      unfold sv iabs
      cases n1 <;> cases n2 <;> simp_all <;> (repeat' split) <;> omega
    · rw [if_neg hm]
      unfold sv iabs
      by_cases he : m1 = m2
      · subst he
        cases n1 <;> cases n2 <;> simp_all <;> omega
      · cases n1 <;> cases n2 <;> simp_all <;> (repeat' split) <;> omega
theorem plM_le {n1 n2 : Bool} {m1 m2 : Int} (h1 : 0 ≤ m1) (h2 : 0 ≤ m2) : plM n1 m1 n2 m2 ≤ m1 + m2 := by unfold plM iabs; split <;> (try split) <;> omega
theorem invS_next {n : Nat} {row : Nat → List SV} {x : KE} (h : invS n row x) (hx : x.k < n) (hv : I64 (sndV (rowV (row x.k)))) {b : Bool} (hb : sv b (plM x.n x.m (decide (sndV (rowV (row x.k)) < 0)) (iabs (sndV (rowV (row x.k))))) = sv x.n x.m + sndV (rowV (row x.k))) : invS n row ⟨x.k + 1, b, plM x.n x.m (decide (sndV (rowV (row x.k)) < 0)) (iabs (sndV (rowV (row x.k))))⟩ := by
  have i0 := iabs_nonneg (sndV (rowV (row x.k)))
  have i1 := iabs_le hv
  refine ⟨hx, plM_nonneg h.m0 i0, ?_, ?_⟩
  · have := plM_le (n1 := x.n) (n2 := decide (sndV (rowV (row x.k)) < 0)) h.m0 i0
    have := h.m1
    show plM _ _ _ _ ≤ 9223372036854775808 * ((x.k + 1 : Nat) : Int)
    omega
  · show sv b _ = sumG (rowsOf (x.k + 1) row)
    rw [hb, sumG_succ, h.sum]
theorem Sum_ok2 : ∀ f g, ΓZ2 f = some g → g.ok Try.prog f := addCtr_ok (addCtr_ok ΓC_ok (hp_ok Try.func147 (by kernel_rfl) (by kernel_rfl) Values_spec)) (ro_ok Try.func148 (by kernel_rfl) (by kernel_rfl) Flagged_spec)
theorem ex_row {n n' : Bool} {a b a' b' : Int} (h0 : n = n') (h1 : a = a') (h2 : b = b') : [SV.v (.bool n), .v (.int .u64 a), .v (.int .u64 b)] = [SV.v (.bool n'), .v (.int .u64 a'), .v (.int .u64 b')] := by rw [h0, h1, h2]
theorem Sum_spec : RoSpec Try.prog 103 sSum := ro_spec hm Sum_ok2 Try.func103 (Λ := fun args bs => match args, bs with | [.sl 0 2 0 n _], [⟨2, _, row⟩] => ΛSum n (rowsN (fun i => rowV (row i)) fun i => rowF (row i)) | _, _ => noΛ) fun args bs p x h hp => by
  unfold sSum at h
  split at h <;> try (cases h; done)
  rename_i n c n' row
  cases h
  obtain ⟨h0, rfl, h3⟩ := hp _ rfl
  have h0 := okAll_rows.1 h0
  have h1 : ∀ i, i < n' → isN (row i) := fun i hi => (isNI_row (h0 i hi)).1
  have hv : ∀ i, i < n' → I64 (rowV (row i)) := fun i hi => (isNI_row (h0 i hi)).2
  refine ⟨rfl, [⟨2, n', rowsN (fun i => rowV (row i)) fun i => rowF (row i)⟩], ⟨⟨rfl, rfl, fun i hi => isN_row (h1 i hi)⟩, trivial⟩, ?_⟩
  refine Eq.mpr (vcSum n' n' c (fun i => rowV (row i)) (fun i => rowF (row i)) _) ?_
  rw [rowsN_eq h1]
  refine ⟨⟨okAll_N _ _ _, rfl, h3⟩, ⟨⟨0, false, 0⟩, ⟨Nat.zero_le _, by decide, by show (0 : Int) ≤ _; simp, rfl⟩, rfl, rfl, Nat.le_refl _, fun i hi => rfl⟩, fun x hx => ?_⟩
  have x1 := hx.le
  have x2 := hx.m0
  have x3 := hx.m1
  refine sel_of (fun g => ?_) fun g => ?_
  · have g := of_decide_eq_true g
    have e1 : IntKind.i64.wrap ((x.k : Int) + 1) = ((x.k + 1 : Nat) : Int) := by rw [wrap_i64 ⟨by omega, by omega⟩]; omega
    rw [e1, Int.toNat_natCast, Nat.zero_add, Nat.zero_add, MM_split, MM_0]
    have vv : I64 (sndV (rowV (row x.k))) := sndV_i64 (hv x.k (by omega))
    have hs := pl_sv x.n x.m (decide (sndV (rowV (row x.k)) < 0)) (iabs (sndV (rowV (row x.k))))
    rw [sv_of] at hs
    have hle := iabs_le vv
    exact ⟨⟨by omega, by omega⟩, vv, ⟨⟨mod_u64 _, div_u64 x2 (by omega)⟩, ⟨iabs_u64 vv, by decide, by decide⟩, by show x.m + iabs (sndV (rowV (row x.k))) < _; omega⟩, ⟨_, ⟨invS_next hx (by omega) vv hs, rfl, rfl, Nat.le_refl _, fun i hi => rfl⟩, by show n' - (x.k + 1) < _; omega⟩⟩
  · have g := of_decide_eq_false g
    have e : x.k = n' := by omega
    have hs := hx.sum
    rw [e] at hs
    have hs' : sv x.n x.m = sumG (rowsOf n' fun i => [SV.v (Value.int .i64 (rowV (row i))), SV.v (Value.bool (rowF (row i)))]) := hs
    rw [MM_split]
    refine ⟨⟨mod_u64 _, div_u64 x2 (by omega)⟩, num_mk ?_ ?_⟩
    · rw [fitV_E _ x2, hs']
    · rw [fitF_G x.n _ x2, hs']; simp only [Nat.zero_add]
theorem RSum_spec : RoSpec Try.prog 107 sSum := ro_spec hm Sum_ok2 Try.func107 (Λ := fun args bs => match args, bs with | [.sl 0 2 0 n _], [⟨2, _, row⟩] => ΛRSum n (rowsN (fun i => rowV (row i)) fun i => rowF (row i)) | _, _ => noΛ) fun args bs p x h hp => by
  unfold sSum at h
  split at h <;> try (cases h; done)
  rename_i n c n' row
  cases h
  obtain ⟨h0, rfl, h3⟩ := hp _ rfl
  have h0 := okAll_rows.1 h0
  have h1 : ∀ i, i < n' → isN (row i) := fun i hi => (isNI_row (h0 i hi)).1
  have hv : ∀ i, i < n' → I64 (rowV (row i)) := fun i hi => (isNI_row (h0 i hi)).2
  refine ⟨rfl, [⟨2, n', rowsN (fun i => rowV (row i)) fun i => rowF (row i)⟩], ⟨⟨rfl, rfl, fun i hi => isN_row (h1 i hi)⟩, trivial⟩, ?_⟩
  refine Eq.mpr (vcRSum n' n' c (fun i => rowV (row i)) (fun i => rowF (row i)) _) ?_
  rw [rowsN_eq h1]
  refine ⟨⟨⟨0, false, 0⟩, ⟨Nat.zero_le _, by decide, by show (0 : Int) ≤ _; simp, rfl⟩, rfl, rfl, Nat.le_refl _, fun i hi => rfl⟩, fun x hx => ?_⟩
  have x1 := hx.le
  have x2 := hx.m0
  have x3 := hx.m1
  refine sel_of (fun g => ?_) fun g => ?_
  · have g := of_decide_eq_true g
    have e1 : IntKind.i64.wrap ((x.k : Int) + 1) = ((x.k + 1 : Nat) : Int) := by rw [wrap_i64 ⟨by omega, by omega⟩]; omega
    rw [e1, Int.toNat_natCast, Nat.zero_add, MM_split, MM_0]
    have vv : I64 (sndV (rowV (row x.k))) := sndV_i64 (hv x.k (by omega))
    have hs := pl_svZ x.n x.m (decide (sndV (rowV (row x.k)) < 0)) (iabs (sndV (rowV (row x.k))))
    rw [sv_of] at hs
    have hle := iabs_le vv
    exact ⟨⟨by omega, by omega⟩, vv, ⟨⟨mod_u64 _, div_u64 x2 (by omega)⟩, ⟨iabs_u64 vv, by decide, by decide⟩, by show x.m + iabs (sndV (rowV (row x.k))) < _; omega⟩, ⟨_, ⟨invS_next hx (by omega) vv hs, rfl, rfl, Nat.le_refl _, fun i hi => rfl⟩, by show n' - (x.k + 1) < _; omega⟩⟩
  · have g := of_decide_eq_false g
    have e : x.k = n' := by omega
    have hs := hx.sum
    rw [e] at hs
    have hs' : sv x.n x.m = sumG (rowsOf n' fun i => [SV.v (Value.int .i64 (rowV (row i))), SV.v (Value.bool (rowF (row i)))]) := hs
    rw [MM_split]
    refine ⟨⟨okAll_N _ _ _, rfl, by omega⟩, ⟨mod_u64 _, div_u64 x2 (by omega)⟩, num_mk ?_ ?_⟩
    · rw [fitV_E _ x2, hs']
    · rw [fitF_G x.n _ x2, hs']; simp only [Nat.zero_add]
end Go.Proofs.Ytheljpebapokjaa
