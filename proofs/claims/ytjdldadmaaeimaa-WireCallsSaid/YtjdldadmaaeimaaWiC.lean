/-
  Contracts: octet, word, integer, need, flag, small, count, version.
-/
import Derived.Test.YtjdldadmaaeimaaWiB
set_option maxRecDepth 100000
set_option linter.unusedSimpArgs false
set_option linter.unusedVariables false
namespace Go.Proofs.Ytjdldadmaaeimaa
open Go.SE Go.RowKit

/-- Which writers a contract speaks of: a fresh buffer, a fresh writer, a used buffer, a used writer. -/
structure Arms where
  fb : Bool := false
  fw : Bool := false
  ub : Bool := false
  uw : Bool := true
def Arms.has (a : Arms) : WrS → Bool
  | .fresh none => a.fb
  | .fresh (some _) => a.fw
  | .used none _ _ _ _ => a.ub
  | .used (some _) _ _ _ _ => a.uw
def sApp (a : Arms) (m : Nat) (f : List SV → Option (Prop × Nat × List Int × Bool)) (args : List SV) (bs : List Blk) : Option Eff := match args with
  | .vp 0 0 :: rest => match f rest with
    | some (q, k, L, b) => match wrOf bs with
      | some w => bif a.has w then some (apE w m q k L b) else none
      | none => none
    | none => none
  | _ => none
def fB (k : Option Bool) : List Blk := [wB k true nilS]
def uB (k : Option Bool) (n : Nat) (g : Nat → Int) (c : Nat) : List Blk := [wB k false (.sl 1 1 0 n c), bG n g c]
def sNeed (args : List SV) (bs : List Blk) : Option Eff := match args with
  | [.vp 0 0, .v (.bool ok)] => match wrOf bs with
    | some (.fresh (some b)) => some (.det none (.tup []) [(0, wB (some (b || !ok)) true nilS)])
    | some (.used (some b) n g c p) => some (.det (some p) (.tup []) [(0, wB (some (b || !ok)) false (.sl 1 1 0 n c)), (1, bG n g c)])
    | _ => none
  | _ => none
def fOctet : List SV → Option (Prop × Nat × List Int × Bool)
  | [.v (.int .i64 n)] => some (I64 n, 1, [n % 256], false)
  | _ => none
def fWord : List SV → Option (Prop × Nat × List Int × Bool)
  | [.v (.int .i64 n)] => some (I64 n, 4, be (n % 4294967296) 4, false)
  | _ => none
def fInteger : List SV → Option (Prop × Nat × List Int × Bool)
  | [.v (.int .i64 n)] => some (I64 n, 8, be (n % 18446744073709551616) 8, false)
  | _ => none
def fFlag : List SV → Option (Prop × Nat × List Int × Bool)
  | [.v (.bool b)] => some (True, 1, [bif b then 1 else 0], false)
  | _ => none
def notIn (n most : Int) : Bool := !(decide (0 ≤ n) && decide (n ≤ most))
def fSmall : List SV → Option (Prop × Nat × List Int × Bool)
  | [.v (.int .i64 n), .v (.int .i64 most)] => some (I64 n, 1, [n % 256], notIn n most)
  | _ => none
def fCount : List SV → Option (Prop × Nat × List Int × Bool)
  | [.v (.int .i64 n)] => some (I64 n, 4, be (n % 4294967296) 4, notIn n 2147483647)
  | _ => none
def fVersion : List SV → Option (Prop × Nat × List Int × Bool)
  | [.v (.int .i64 n)] => some (I64 n, 8, be (n % 18446744073709551616) 8, notIn n 1099511627776)
  | _ => none
def M0 : Nat := 1099511627776
def M1 : Nat := 1099511627775
def aOctet : Arms := { fw := true }
def aWord : Arms := { fb := true }
def sOctet := sApp aOctet M0 fOctet
def sWord := sApp aWord M0 fWord
def sInteger := sApp {} M0 fInteger
def sFlag := sApp {} M0 fFlag
def sSmall := sApp aOctet M0 fSmall
def sCount := sApp {} M0 fCount
def sVersion := sApp {} M0 fVersion
def ΓC0 : Ctrs := addCtr noCtrs 94 (hpCtr true sPut)
def ΓC1 : Ctrs := addCtr (addCtr (addCtr (addCtr ΓC0 95 (hpCtr true sOctet)) 59 (hpCtr true sWord)) 101 (hpCtr true sInteger)) 134 (hpCtr true sNeed)
theorem vcOctet0 (b : Bool) (n : Int) : (vcFn Try.prog noCtrs noΛ Try.f95 [.vp 0 0, .v (.int .i64 n)] (heapOf (fB (some b))) 64 (fun y h' => FinE (fB (some b)) (apE (.fresh (some b)) 0 True 1 [n % 256] false) y h')) =
(((1 : Nat) ≤ 140737488355328) ∧ (∀ c : Nat, (∃ c_1 : Nat, (True ∧ ((((1 : Nat) = 1) ∧ (((1 : Nat) ≤ 1) ∧ (((SV.sl 128 1 0 1 (1 + c)) = (SV.sl 128 1 0 1 (1 + c_1))) ∧ ((SV.v (Value.bool b)) = (SV.v (Value.bool (b || false))))))) ∧ (((1 : Nat) = 1) ∧ ((((1 + c_1) : Nat) ≤ (1 + c)) ∧ (∀ i : Nat, (((i : Nat) < 1) → ([(SV.v (Value.int IntKind.u8 (IntKind.wrap IntKind.u8 n)))] = [(SV.v (Value.int IntKind.u8 (List.getD [n % 256] i 0)))])))))))))) := by kernel_rfl
theorem vcOctet1 (b : Bool) (n0 : Nat) (g : Nat → Int) (c : Nat) (n : Int) : (vcFn Try.prog noCtrs noΛ Try.f95 [.vp 0 0, .v (.int .i64 n)] (heapOf (uB (some b) n0 g c)) 64 (fun y h' => FinE (uB (some b) n0 g c) (apE (.used (some b) n0 g c True) 0 True 1 [n % 256] false) y h')) =
((((((n0 + 1) * 1) : Nat) ≤ 140737488355328) ∧ ((((0 + c) : Nat) ≤ c) ∧ (∀ y : Nat, (((y : Nat) < 1) → True)))) ∧ (∀ c_1 : Nat, (∃ c_2 : Nat, (True ∧ ((((1 : Nat) = 1) ∧ (((1 : Nat) ≤ 1) ∧ (((SV.sl 128 1 0 (n0 + 1) (n0 + 1 + c_1)) = (SV.sl 128 1 0 (n0 + 1) (n0 + 1 + c_2))) ∧ ((SV.v (Value.bool b)) = (SV.v (Value.bool (b || false))))))) ∧ ((((n0 + 1) : Nat) = (n0 + 1)) ∧ ((((n0 + 1 + c_2) : Nat) ≤ (n0 + 1 + c_1)) ∧ (∀ i : Nat, (((i : Nat) < (n0 + 1)) → ([(SV.v (Value.int IntKind.u8 (bop (Nat.blt i n0) (g (0 + i)) (IntKind.wrap IntKind.u8 n))))] = [(SV.v (Value.int IntKind.u8 (apG n0 g [n % 256] i)))])))))))))) := by kernel_rfl
theorem vcWord0 (n : Int) : (vcFn Try.prog ΓC0 noΛ Try.f59 [.vp 0 0, .v (.int .i64 n)] (heapOf (fB none)) 64 (fun y h' => FinE (fB none) (apE (.fresh none) 0 True 4 (be (n % 4294967296) 4) false) y h')) =
(((U64 (IntKind.wrap IntKind.u64 (IntKind.wrap IntKind.u32 n))) ∧ (kOk 4)) ∧ (∀ c : Nat, (∃ c_1 : Nat, (True ∧ ((((1 : Nat) = 1) ∧ (((1 : Nat) ≤ 1) ∧ ((SV.sl 96 1 0 4 (4 + c)) = (SV.sl 96 1 0 4 (4 + c_1))))) ∧ (((4 : Nat) = 4) ∧ ((((4 + c_1) : Nat) ≤ (4 + c)) ∧ (∀ i : Nat, (((i : Nat) < 4) → ([(SV.v (Value.int IntKind.u8 (List.getD (be (IntKind.wrap IntKind.u64 (IntKind.wrap IntKind.u32 n)) 4) i 0)))] = [(SV.v (Value.int IntKind.u8 (List.getD (be (n % 4294967296) 4) i 0)))])))))))))) := by kernel_rfl
theorem vcWord1 (b : Bool) (n0 : Nat) (g : Nat → Int) (c : Nat) (n : Int) : (vcFn Try.prog ΓC0 noΛ Try.f59 [.vp 0 0, .v (.int .i64 n)] (heapOf (uB (some b) n0 g c)) 64 (fun y h' => FinE (uB (some b) n0 g c) (apE (.used (some b) n0 g c True) 0 True 4 (be (n % 4294967296) 4) false) y h')) =
((((bytesOk n0 c { elem := 5, size := 1, rw := true, lock := false, lit := false, flat := true, n := n0, row := fun i => [SV.v (Value.int IntKind.u8 (g i))], ext := c }) ∧ ((n0 : Nat) ≤ 1099511627776)) ∧ ((U64 (IntKind.wrap IntKind.u64 (IntKind.wrap IntKind.u32 n))) ∧ (kOk 4))) ∧ (∀ c_1 : Nat, (∃ c_2 : Nat, (True ∧ ((((1 : Nat) = 1) ∧ (((1 : Nat) ≤ 1) ∧ (((SV.sl 96 1 0 (n0 + 4) (n0 + 4 + c_1)) = (SV.sl 96 1 0 (n0 + 4) (n0 + 4 + c_2))) ∧ ((SV.v (Value.bool (b || false))) = (SV.v (Value.bool (b || false))))))) ∧ ((((n0 + 4) : Nat) = (n0 + 4)) ∧ ((((n0 + 4 + c_2) : Nat) ≤ (n0 + 4 + c_1)) ∧ (∀ i : Nat, (((i : Nat) < (n0 + 4)) → ([(SV.v (Value.int IntKind.u8 (apG n0 (fun i => SE.byteOf [SV.v (Value.int IntKind.u8 (g i))]) (be (IntKind.wrap IntKind.u64 (IntKind.wrap IntKind.u32 n)) 4) i)))] = [(SV.v (Value.int IntKind.u8 (apG n0 g (be (n % 4294967296) 4) i)))])))))))))) := by kernel_rfl
theorem vcInteger1 (b : Bool) (n0 : Nat) (g : Nat → Int) (c : Nat) (n : Int) : (vcFn Try.prog ΓC0 noΛ Try.f101 [.vp 0 0, .v (.int .i64 n)] (heapOf (uB (some b) n0 g c)) 64 (fun y h' => FinE (uB (some b) n0 g c) (apE (.used (some b) n0 g c True) 0 True 8 (be (n % 18446744073709551616) 8) false) y h')) =
((((bytesOk n0 c { elem := 5, size := 1, rw := true, lock := false, lit := false, flat := true, n := n0, row := fun i => [SV.v (Value.int IntKind.u8 (g i))], ext := c }) ∧ ((n0 : Nat) ≤ 1099511627776)) ∧ ((U64 (IntKind.wrap IntKind.u64 n)) ∧ (kOk 8))) ∧ (∀ c_1 : Nat, (∃ c_2 : Nat, (True ∧ ((((1 : Nat) = 1) ∧ (((1 : Nat) ≤ 1) ∧ (((SV.sl 88 1 0 (n0 + 8) (n0 + 8 + c_1)) = (SV.sl 88 1 0 (n0 + 8) (n0 + 8 + c_2))) ∧ ((SV.v (Value.bool (b || false))) = (SV.v (Value.bool (b || false))))))) ∧ ((((n0 + 8) : Nat) = (n0 + 8)) ∧ ((((n0 + 8 + c_2) : Nat) ≤ (n0 + 8 + c_1)) ∧ (∀ i : Nat, (((i : Nat) < (n0 + 8)) → ([(SV.v (Value.int IntKind.u8 (apG n0 (fun i => SE.byteOf [SV.v (Value.int IntKind.u8 (g i))]) (be (IntKind.wrap IntKind.u64 n) 8) i)))] = [(SV.v (Value.int IntKind.u8 (apG n0 g (be (n % 18446744073709551616) 8) i)))])))))))))) := by kernel_rfl
theorem vcNeed0 (b ok : Bool) : (vcFn Try.prog noCtrs noΛ Try.f134 [.vp 0 0, .v (.bool ok)] (heapOf (fB (some b))) 64 (fun y h' => FinE (fB (some b)) (.det none (.tup []) [(0, wB (some (b || !ok)) true nilS)]) y h')) =

(sel (!ok) (True ∧ (((1 : Nat) = 1) ∧ (((1 : Nat) ≤ 1) ∧ (∀ i : Nat, (((i : Nat) < 1) → ([(SV.v (Value.slice none 0 0)), (SV.v (Value.bool true))] = [(SV.v (Value.slice none 0 0)), (SV.v (Value.bool (b || !ok)))])))))) (True ∧ (((1 : Nat) = 1) ∧ (((1 : Nat) ≤ 1) ∧ (∀ i : Nat, (((i : Nat) < 1) → ([(SV.v (Value.slice none 0 0)), (SV.v (Value.bool b))] = [(SV.v (Value.slice none 0 0)), (SV.v (Value.bool (b || !ok)))]))))))) := by kernel_rfl
theorem vcNeed1 (b ok : Bool) (n0 : Nat) (g : Nat → Int) (c : Nat) : (vcFn Try.prog noCtrs noΛ Try.f134 [.vp 0 0, .v (.bool ok)] (heapOf (uB (some b) n0 g c)) 64 (fun y h' => FinE (uB (some b) n0 g c) (.det none (.tup []) [(0, wB (some (b || !ok)) false (.sl 1 1 0 n0 c)), (1, bG n0 g c)]) y h')) =

(sel (!ok) (True ∧ ((((1 : Nat) = 1) ∧ (((1 : Nat) ≤ 1) ∧ (((SV.sl 1 1 0 n0 c) = (SV.sl 1 1 0 n0 c)) ∧ ((SV.v (Value.bool true)) = (SV.v (Value.bool (b || !ok))))))) ∧ (((n0 : Nat) = n0) ∧ (((c : Nat) ≤ c) ∧ (∀ i : Nat, (((i : Nat) < n0) → ([(SV.v (Value.int IntKind.u8 (g i)))] = [(SV.v (Value.int IntKind.u8 (g i)))]))))))) (True ∧ ((((1 : Nat) = 1) ∧ (((1 : Nat) ≤ 1) ∧ (((SV.sl 1 1 0 n0 c) = (SV.sl 1 1 0 n0 c)) ∧ ((SV.v (Value.bool b)) = (SV.v (Value.bool (b || !ok))))))) ∧ (((n0 : Nat) = n0) ∧ (((c : Nat) ≤ c) ∧ (∀ i : Nat, (((i : Nat) < n0) → ([(SV.v (Value.int IntKind.u8 (g i)))] = [(SV.v (Value.int IntKind.u8 (g i)))])))))))) := by kernel_rfl
theorem vcFlag1 (b : Bool) (n0 : Nat) (g : Nat → Int) (c : Nat) (x : Bool) : (vcFn Try.prog ΓC1 noΛ Try.f102 [.vp 0 0, .v (.bool x)] (heapOf (uB (some b) n0 g c)) 64 (fun y h' => FinE (uB (some b) n0 g c) (apE (.used (some b) n0 g c True) 0 True 1 [bif x then 1 else 0] false) y h')) =

(sel x ((((bytesOk n0 c { elem := 5, size := 1, rw := true, lock := false, lit := false, flat := true, n := n0, row := fun i => [SV.v (Value.int IntKind.u8 (g i))], ext := c }) ∧ ((n0 : Nat) ≤ M0)) ∧ (I64 1)) ∧ (∀ c_1 : Nat, (∃ c_2 : Nat, (True ∧ ((((1 : Nat) = 1) ∧ (((1 : Nat) ≤ 1) ∧ (((SV.sl 120 1 0 (n0 + 1) (n0 + 1 + c_1)) = (SV.sl 120 1 0 (n0 + 1) (n0 + 1 + c_2))) ∧ ((SV.v (Value.bool (b || false))) = (SV.v (Value.bool (b || false))))))) ∧ ((((n0 + 1) : Nat) = (n0 + 1)) ∧ ((((n0 + 1 + c_2) : Nat) ≤ (n0 + 1 + c_1)) ∧ (∀ i : Nat, (((i : Nat) < (n0 + 1)) → ([(SV.v (Value.int IntKind.u8 (apG n0 (fun i => SE.byteOf [SV.v (Value.int IntKind.u8 (g i))]) [1] i)))] = [(SV.v (Value.int IntKind.u8 (apG n0 g [bif x then 1 else 0] i)))])))))))))) ((((bytesOk n0 c { elem := 5, size := 1, rw := true, lock := false, lit := false, flat := true, n := n0, row := fun i => [SV.v (Value.int IntKind.u8 (g i))], ext := c }) ∧ ((n0 : Nat) ≤ M0)) ∧ (I64 0)) ∧ (∀ c_1 : Nat, (∃ c_2 : Nat, (True ∧ ((((1 : Nat) = 1) ∧ (((1 : Nat) ≤ 1) ∧ (((SV.sl 120 1 0 (n0 + 1) (n0 + 1 + c_1)) = (SV.sl 120 1 0 (n0 + 1) (n0 + 1 + c_2))) ∧ ((SV.v (Value.bool (b || false))) = (SV.v (Value.bool (b || false))))))) ∧ ((((n0 + 1) : Nat) = (n0 + 1)) ∧ ((((n0 + 1 + c_2) : Nat) ≤ (n0 + 1 + c_1)) ∧ (∀ i : Nat, (((i : Nat) < (n0 + 1)) → ([(SV.v (Value.int IntKind.u8 (apG n0 (fun i => SE.byteOf [SV.v (Value.int IntKind.u8 (g i))]) [0] i)))] = [(SV.v (Value.int IntKind.u8 (apG n0 g [bif x then 1 else 0] i)))]))))))))))) := by kernel_rfl
theorem vcSmall0 (b : Bool) (n most : Int) : (vcFn Try.prog ΓC1 noΛ Try.f118 [.vp 0 0, .v (.int .i64 n), .v (.int .i64 most)] (heapOf (fB (some b))) 64 (fun y h' => FinE (fB (some b)) (apE (.fresh (some b)) 0 True 1 [n % 256] (notIn n most)) y h')) =

(sel (decide (n ≥ 0)) ((I64 n) ∧ (∀ c : Nat, (∃ c_1 : Nat, (True ∧ ((((1 : Nat) = 1) ∧ (((1 : Nat) ≤ 1) ∧ (((SV.sl 168 1 0 1 (1 + c)) = (SV.sl 168 1 0 1 (1 + c_1))) ∧ ((SV.v (Value.bool (b || !decide (n ≤ most) || false))) = (SV.v (Value.bool (b || notIn n most))))))) ∧ (((1 : Nat) = 1) ∧ ((((1 + c_1) : Nat) ≤ (1 + c)) ∧ (∀ i : Nat, (((i : Nat) < 1) → ([(SV.v (Value.int IntKind.u8 (List.getD [n % 256] i 0)))] = [(SV.v (Value.int IntKind.u8 (List.getD [n % 256] i 0)))])))))))))) ((I64 n) ∧ (∀ c : Nat, (∃ c_1 : Nat, (True ∧ ((((1 : Nat) = 1) ∧ (((1 : Nat) ≤ 1) ∧ (((SV.sl 168 1 0 1 (1 + c)) = (SV.sl 168 1 0 1 (1 + c_1))) ∧ ((SV.v (Value.bool (b || true || false))) = (SV.v (Value.bool (b || notIn n most))))))) ∧ (((1 : Nat) = 1) ∧ ((((1 + c_1) : Nat) ≤ (1 + c)) ∧ (∀ i : Nat, (((i : Nat) < 1) → ([(SV.v (Value.int IntKind.u8 (List.getD [n % 256] i 0)))] = [(SV.v (Value.int IntKind.u8 (List.getD [n % 256] i 0)))]))))))))))) := by kernel_rfl
theorem vcSmall1 (b : Bool) (n0 : Nat) (g : Nat → Int) (c : Nat) (n most : Int) : (vcFn Try.prog ΓC1 noΛ Try.f118 [.vp 0 0, .v (.int .i64 n), .v (.int .i64 most)] (heapOf (uB (some b) n0 g c)) 64 (fun y h' => FinE (uB (some b) n0 g c) (apE (.used (some b) n0 g c True) 0 True 1 [n % 256] (notIn n most)) y h')) =

(sel (decide (n ≥ 0)) ((bytesOk n0 c { elem := 5, size := 1, rw := true, lock := false, lit := false, flat := true, n := n0, row := fun i => [SV.v (Value.int IntKind.u8 (g i))], ext := c }) ∧ ((((bytesOk n0 c { elem := 5, size := 1, rw := true, lock := false, lit := false, flat := true, n := n0, row := fun i => [SV.v (Value.int IntKind.u8 ((fun i => SE.byteOf [SV.v (Value.int IntKind.u8 (g i))]) i))], ext := c }) ∧ ((n0 : Nat) ≤ M0)) ∧ (I64 n)) ∧ (∀ c_1 : Nat, (∃ c_2 : Nat, (True ∧ ((((1 : Nat) = 1) ∧ (((1 : Nat) ≤ 1) ∧ (((SV.sl 168 1 0 (n0 + 1) (n0 + 1 + c_1)) = (SV.sl 168 1 0 (n0 + 1) (n0 + 1 + c_2))) ∧ ((SV.v (Value.bool (b || !decide (n ≤ most) || false))) = (SV.v (Value.bool (b || notIn n most))))))) ∧ ((((n0 + 1) : Nat) = (n0 + 1)) ∧ ((((n0 + 1 + c_2) : Nat) ≤ (n0 + 1 + c_1)) ∧ (∀ i : Nat, (((i : Nat) < (n0 + 1)) → ([(SV.v (Value.int IntKind.u8 (apG n0 (fun i => SE.byteOf [SV.v (Value.int IntKind.u8 ((fun i => SE.byteOf [SV.v (Value.int IntKind.u8 (g i))]) i))]) [n % 256] i)))] = [(SV.v (Value.int IntKind.u8 (apG n0 g [n % 256] i)))]))))))))))) ((bytesOk n0 c { elem := 5, size := 1, rw := true, lock := false, lit := false, flat := true, n := n0, row := fun i => [SV.v (Value.int IntKind.u8 (g i))], ext := c }) ∧ ((((bytesOk n0 c { elem := 5, size := 1, rw := true, lock := false, lit := false, flat := true, n := n0, row := fun i => [SV.v (Value.int IntKind.u8 ((fun i => SE.byteOf [SV.v (Value.int IntKind.u8 (g i))]) i))], ext := c }) ∧ ((n0 : Nat) ≤ M0)) ∧ (I64 n)) ∧ (∀ c_1 : Nat, (∃ c_2 : Nat, (True ∧ ((((1 : Nat) = 1) ∧ (((1 : Nat) ≤ 1) ∧ (((SV.sl 168 1 0 (n0 + 1) (n0 + 1 + c_1)) = (SV.sl 168 1 0 (n0 + 1) (n0 + 1 + c_2))) ∧ ((SV.v (Value.bool (b || true || false))) = (SV.v (Value.bool (b || notIn n most))))))) ∧ ((((n0 + 1) : Nat) = (n0 + 1)) ∧ ((((n0 + 1 + c_2) : Nat) ≤ (n0 + 1 + c_1)) ∧ (∀ i : Nat, (((i : Nat) < (n0 + 1)) → ([(SV.v (Value.int IntKind.u8 (apG n0 (fun i => SE.byteOf [SV.v (Value.int IntKind.u8 ((fun i => SE.byteOf [SV.v (Value.int IntKind.u8 (g i))]) i))]) [n % 256] i)))] = [(SV.v (Value.int IntKind.u8 (apG n0 g [n % 256] i)))])))))))))))) := by kernel_rfl
theorem vcCount1 (b : Bool) (n0 : Nat) (g : Nat → Int) (c : Nat) (n : Int) : (vcFn Try.prog ΓC1 noΛ Try.f96 [.vp 0 0, .v (.int .i64 n)] (heapOf (uB (some b) n0 g c)) 64 (fun y h' => FinE (uB (some b) n0 g c) (apE (.used (some b) n0 g c True) 0 True 4 (be (n % 4294967296) 4) (notIn n 2147483647)) y h')) =

(sel (decide (n ≥ 0)) ((bytesOk n0 c { elem := 5, size := 1, rw := true, lock := false, lit := false, flat := true, n := n0, row := fun i => [SV.v (Value.int IntKind.u8 (g i))], ext := c }) ∧ ((((bytesOk n0 c { elem := 5, size := 1, rw := true, lock := false, lit := false, flat := true, n := n0, row := fun i => [SV.v (Value.int IntKind.u8 ((fun i => SE.byteOf [SV.v (Value.int IntKind.u8 (g i))]) i))], ext := c }) ∧ ((n0 : Nat) ≤ M0)) ∧ (I64 n)) ∧ (∀ c_1 : Nat, (∃ c_2 : Nat, (True ∧ ((((1 : Nat) = 1) ∧ (((1 : Nat) ≤ 1) ∧ (((SV.sl 160 1 0 (n0 + 4) (n0 + 4 + c_1)) = (SV.sl 160 1 0 (n0 + 4) (n0 + 4 + c_2))) ∧ ((SV.v (Value.bool (b || !decide (n ≤ 2147483647) || false))) = (SV.v (Value.bool (b || notIn n 2147483647))))))) ∧ ((((n0 + 4) : Nat) = (n0 + 4)) ∧ ((((n0 + 4 + c_2) : Nat) ≤ (n0 + 4 + c_1)) ∧ (∀ i : Nat, (((i : Nat) < (n0 + 4)) → ([(SV.v (Value.int IntKind.u8 (apG n0 (fun i => SE.byteOf [SV.v (Value.int IntKind.u8 ((fun i => SE.byteOf [SV.v (Value.int IntKind.u8 (g i))]) i))]) (be (n % 4294967296) 4) i)))] = [(SV.v (Value.int IntKind.u8 (apG n0 g (be (n % 4294967296) 4) i)))]))))))))))) ((bytesOk n0 c { elem := 5, size := 1, rw := true, lock := false, lit := false, flat := true, n := n0, row := fun i => [SV.v (Value.int IntKind.u8 (g i))], ext := c }) ∧ ((((bytesOk n0 c { elem := 5, size := 1, rw := true, lock := false, lit := false, flat := true, n := n0, row := fun i => [SV.v (Value.int IntKind.u8 ((fun i => SE.byteOf [SV.v (Value.int IntKind.u8 (g i))]) i))], ext := c }) ∧ ((n0 : Nat) ≤ M0)) ∧ (I64 n)) ∧ (∀ c_1 : Nat, (∃ c_2 : Nat, (True ∧ ((((1 : Nat) = 1) ∧ (((1 : Nat) ≤ 1) ∧ (((SV.sl 160 1 0 (n0 + 4) (n0 + 4 + c_1)) = (SV.sl 160 1 0 (n0 + 4) (n0 + 4 + c_2))) ∧ ((SV.v (Value.bool (b || true || false))) = (SV.v (Value.bool (b || notIn n 2147483647))))))) ∧ ((((n0 + 4) : Nat) = (n0 + 4)) ∧ ((((n0 + 4 + c_2) : Nat) ≤ (n0 + 4 + c_1)) ∧ (∀ i : Nat, (((i : Nat) < (n0 + 4)) → ([(SV.v (Value.int IntKind.u8 (apG n0 (fun i => SE.byteOf [SV.v (Value.int IntKind.u8 ((fun i => SE.byteOf [SV.v (Value.int IntKind.u8 (g i))]) i))]) (be (n % 4294967296) 4) i)))] = [(SV.v (Value.int IntKind.u8 (apG n0 g (be (n % 4294967296) 4) i)))])))))))))))) := by kernel_rfl
theorem vcVersion1 (b : Bool) (n0 : Nat) (g : Nat → Int) (c : Nat) (n : Int) : (vcFn Try.prog ΓC1 noΛ Try.f104 [.vp 0 0, .v (.int .i64 n)] (heapOf (uB (some b) n0 g c)) 64 (fun y h' => FinE (uB (some b) n0 g c) (apE (.used (some b) n0 g c True) 0 True 8 (be (n % 18446744073709551616) 8) (notIn n 1099511627776)) y h')) =

(sel (decide (n ≥ 0)) ((bytesOk n0 c { elem := 5, size := 1, rw := true, lock := false, lit := false, flat := true, n := n0, row := fun i => [SV.v (Value.int IntKind.u8 (g i))], ext := c }) ∧ ((((bytesOk n0 c { elem := 5, size := 1, rw := true, lock := false, lit := false, flat := true, n := n0, row := fun i => [SV.v (Value.int IntKind.u8 ((fun i => SE.byteOf [SV.v (Value.int IntKind.u8 (g i))]) i))], ext := c }) ∧ ((n0 : Nat) ≤ M0)) ∧ (I64 n)) ∧ (∀ c_1 : Nat, (∃ c_2 : Nat, (True ∧ ((((1 : Nat) = 1) ∧ (((1 : Nat) ≤ 1) ∧ (((SV.sl 160 1 0 (n0 + 8) (n0 + 8 + c_1)) = (SV.sl 160 1 0 (n0 + 8) (n0 + 8 + c_2))) ∧ ((SV.v (Value.bool (b || !decide (n ≤ 1099511627776) || false))) = (SV.v (Value.bool (b || notIn n 1099511627776))))))) ∧ ((((n0 + 8) : Nat) = (n0 + 8)) ∧ ((((n0 + 8 + c_2) : Nat) ≤ (n0 + 8 + c_1)) ∧ (∀ i : Nat, (((i : Nat) < (n0 + 8)) → ([(SV.v (Value.int IntKind.u8 (apG n0 (fun i => SE.byteOf [SV.v (Value.int IntKind.u8 ((fun i => SE.byteOf [SV.v (Value.int IntKind.u8 (g i))]) i))]) (be (n % 18446744073709551616) 8) i)))] = [(SV.v (Value.int IntKind.u8 (apG n0 g (be (n % 18446744073709551616) 8) i)))]))))))))))) ((bytesOk n0 c { elem := 5, size := 1, rw := true, lock := false, lit := false, flat := true, n := n0, row := fun i => [SV.v (Value.int IntKind.u8 (g i))], ext := c }) ∧ ((((bytesOk n0 c { elem := 5, size := 1, rw := true, lock := false, lit := false, flat := true, n := n0, row := fun i => [SV.v (Value.int IntKind.u8 ((fun i => SE.byteOf [SV.v (Value.int IntKind.u8 (g i))]) i))], ext := c }) ∧ ((n0 : Nat) ≤ M0)) ∧ (I64 n)) ∧ (∀ c_1 : Nat, (∃ c_2 : Nat, (True ∧ ((((1 : Nat) = 1) ∧ (((1 : Nat) ≤ 1) ∧ (((SV.sl 160 1 0 (n0 + 8) (n0 + 8 + c_1)) = (SV.sl 160 1 0 (n0 + 8) (n0 + 8 + c_2))) ∧ ((SV.v (Value.bool (b || true || false))) = (SV.v (Value.bool (b || notIn n 1099511627776))))))) ∧ ((((n0 + 8) : Nat) = (n0 + 8)) ∧ ((((n0 + 8 + c_2) : Nat) ≤ (n0 + 8 + c_1)) ∧ (∀ i : Nat, (((i : Nat) < (n0 + 8)) → ([(SV.v (Value.int IntKind.u8 (apG n0 (fun i => SE.byteOf [SV.v (Value.int IntKind.u8 ((fun i => SE.byteOf [SV.v (Value.int IntKind.u8 (g i))]) i))]) (be (n % 18446744073709551616) 8) i)))] = [(SV.v (Value.int IntKind.u8 (apG n0 g (be (n % 18446744073709551616) 8) i)))])))))))))))) := by kernel_rfl
theorem app_spec {Γ : Ctrs} (hΓ : ∀ f g, Γ f = some g → g.ok Try.prog f) {f : FuncId} {fn : Func} (hf : Try.prog.funcs[f]? = some fn) {a : Arms} {m : Nat} {F : List SV → Option (Prop × Nat × List Int × Bool)} {Λ0 : List SV → Option Bool → Nat → Option LoopSpec} {Λ1 : List SV → Option Bool → Nat → (Nat → Int) → Nat → Nat → Option LoopSpec}
    (h0 : ∀ rest q k L b kd, F rest = some (q, k, L, b) → q → a.has (.fresh kd) = true → vcFn Try.prog Γ (Λ0 rest kd) fn (.vp 0 0 :: rest) (heapOf (fB kd)) 64 (fun y h' => FinE (fB kd) (apE (.fresh kd) 0 True k L b) y h'))
    (h1 : ∀ rest q k L b kd n g c, F rest = some (q, k, L, b) → q → a.has (.used kd n g c True) = true → n ≤ m → n < 70368744177664 → vcFn Try.prog Γ (Λ1 rest kd n g c) fn (.vp 0 0 :: rest) (heapOf (uB kd n g c)) 64 (fun y h' => FinE (uB kd n g c) (apE (.used kd n g c True) 0 True k L b) y h')) :
    HpSpec Try.prog f (sApp a m F) := hp_spec hm hΓ hf (Λ := fun args bs => match args with
      | _ :: rest => match wrOf bs with
        | some (.fresh kd) => Λ0 rest kd
        | some (.used kd n g c _) => Λ1 rest kd n g c
        | none => noΛ
      | _ => noΛ) fun args bs e hs hp => by
  unfold sApp at hs
  split at hs <;> try (cases hs; done)
  rename_i rest
  split at hs <;> try (cases hs; done)
  rename_i q k L b hF
  split at hs <;> try (cases hs; done)
  rename_i w hw
  obtain ⟨ha, he⟩ := bif_some hs
  subst he
  cases w with
  | fresh kd =>
    refine ⟨_, wrOf_fresh hw, ?_⟩
    simp only [hw]
    exact h0 rest q k L b kd hF hp ha
  | used kd n g c p =>
    obtain ⟨⟨hp, hl⟩, hq⟩ : (p ∧ n ≤ m) ∧ q := hp
    refine ⟨_, (wrOf_used hw hp).1, ?_⟩
    simp only [hw]
    refine h1 rest q k L b kd n g c hF hq ?_ hl (wrOf_used hw hp).2
    cases kd <;> exact ha
theorem bytesOk_bG (n : Nat) (g : Nat → Int) (c : Nat) (h : n < 70368744177664) : bytesOk n c { elem := 5, size := 1, rw := true, lock := false, lit := false, flat := true, n := n, row := fun i => [SV.v (.int .u8 (g i))], ext := c } :=
  ⟨rfl, rfl, h, fun _ _ => trivial⟩
theorem u8_one (x : Int) (i : Nat) (hi : i < 1) : [SV.v (.int .u8 x)] = [SV.v (.int .u8 ([x].getD i 0))] := by
  have : i = 0 := by omega
  subst this; rfl
theorem tailU {a N M c : Nat} {b b' : Bool} {G G' : Nat → Int} (hN : N = M) (hb : b = b') (hG : ∀ i, i < M → G i = G' i) : ∃ c', True ∧ ((1 = 1 ∧ 1 ≤ 1 ∧ SV.sl a 1 0 N (N + c) = SV.sl a 1 0 M (M + c') ∧ SV.v (.bool b) = SV.v (.bool b')) ∧ N = M ∧ M + c' ≤ N + c ∧ ∀ i, i < M → [SV.v (.int .u8 (G i))] = [SV.v (.int .u8 (G' i))]) := by
  subst hN; subst hb
  exact ⟨c, trivial, ⟨rfl, Nat.le_refl _, rfl, rfl⟩, rfl, Nat.le_refl _, fun i hi => by rw [hG i hi]⟩
theorem tailN {a N M c : Nat} {G G' : Nat → Int} (hN : N = M) (hG : ∀ i, i < M → G i = G' i) : ∃ c', True ∧ ((1 = 1 ∧ 1 ≤ 1 ∧ SV.sl a 1 0 N (N + c) = SV.sl a 1 0 M (M + c')) ∧ N = M ∧ M + c' ≤ N + c ∧ ∀ i, i < M → [SV.v (.int .u8 (G i))] = [SV.v (.int .u8 (G' i))]) := by
  subst hN
  exact ⟨c, trivial, ⟨rfl, Nat.le_refl _, rfl⟩, rfl, Nat.le_refl _, fun i hi => by rw [hG i hi]⟩
theorem ap_one (n0 : Nat) (g : Nat → Int) (x y : Int) (hxy : x = y) (i : Nat) (hi : i < n0 + 1) : bop (Nat.blt i n0) (g (0 + i)) x = apG n0 g [y] i := by
  subst hxy
  rw [Nat.zero_add]
  by_cases h : i < n0
  · rw [blt_true h, apG_old h]; rfl
  · rw [blt_false h, apG_new h, show i - n0 = 0 by omega]; rfl
theorem u8_of (n : Int) : IntKind.u8.wrap n = n % 256 := wrap_u8 n
theorem w4_of (n : Int) : IntKind.u64.wrap (IntKind.u32.wrap n) = n % 4294967296 := by rw [wrap_u64, wrap_u32]; omega
theorem or_ok (b ok : Bool) : (!ok) = true → SV.v (.bool true) = SV.v (.bool (b || !ok)) := fun h => by rw [h, Bool.or_true]
theorem Octet_spec : HpSpec Try.prog 95 sOctet := app_spec noCtrs_ok Try.func95 (Λ0 := fun _ _ => noΛ) (Λ1 := fun _ _ _ _ _ => noΛ)
  (fun rest q k L b kd h hq ha => by
  unfold fOctet at h
  split at h <;> try (cases h; done)
  cases kd with
  | none => cases ha
  | some bd =>
    rename_i n
    cases h
    exact Eq.mpr (vcOctet0 bd n) ⟨by omega, fun c' => tailU rfl (Bool.or_false _).symm fun i hi => by
      have : i = 0 := by omega
      subst this
      exact u8_of n⟩)
  (fun rest q k L b kd n0 g c h hq ha hm hn => by
  unfold fOctet at h
  split at h <;> try (cases h; done)
  cases kd with
  | none => cases ha
  | some bd =>
    rename_i n
    cases h
    have hm : n0 ≤ 1099511627776 := hm
    exact Eq.mpr (vcOctet1 bd n0 g c n) ⟨⟨by omega, by omega, fun _ _ => trivial⟩, fun c' => tailU rfl (Bool.or_false _).symm fun i hi => ap_one n0 g _ _ (u8_of n) i hi⟩)
theorem ΓC0_ok : ∀ f g, ΓC0 f = some g → g.ok Try.prog f := addCtr_ok noCtrs_ok (hp_ok Try.func94 (by kernel_rfl) (by kernel_rfl) Put_spec)
theorem Word_spec : HpSpec Try.prog 59 sWord := app_spec ΓC0_ok Try.func59 (Λ0 := fun _ _ => noΛ) (Λ1 := fun _ _ _ _ _ => noΛ)
  (fun rest q k L b kd h hq ha => by
  unfold fWord at h
  split at h <;> try (cases h; done)
  cases kd with
  | none => 
    rename_i n
    cases h
    refine Eq.mpr (vcWord0 n) ?_
    rw [w4_of]
    exact ⟨⟨⟨by omega, by omega⟩, .inl rfl⟩, fun c' => tailN rfl fun i hi => rfl⟩
  | some bd => cases ha)
  (fun rest q k L b kd n0 g c h hq ha hm hn => by
  unfold fWord at h
  split at h <;> try (cases h; done)
  cases kd with
  | none => cases ha
  | some bd => 
    rename_i n
    cases h
    refine Eq.mpr (vcWord1 bd n0 g c n) ?_
    rw [w4_of]
    exact ⟨⟨⟨bytesOk_bG n0 g c hn, hm⟩, ⟨by omega, by omega⟩, .inl rfl⟩, fun c' => tailU rfl rfl fun i hi => rfl⟩)
theorem Integer_spec : HpSpec Try.prog 101 sInteger := app_spec ΓC0_ok Try.func101 (Λ0 := fun _ _ => noΛ) (Λ1 := fun _ _ _ _ _ => noΛ)
  (fun rest q k L b kd h hq ha => by
  unfold fInteger at h
  split at h <;> try (cases h; done)
  cases kd with
  | none => cases ha
  | some bd => cases ha)
  (fun rest q k L b kd n0 g c h hq ha hm hn => by
  unfold fInteger at h
  split at h <;> try (cases h; done)
  cases kd with
  | none => cases ha
  | some bd => 
    rename_i n
    cases h
    refine Eq.mpr (vcInteger1 bd n0 g c n) ?_
    rw [wrap_u64]
    exact ⟨⟨⟨bytesOk_bG n0 g c hn, hm⟩, ⟨by omega, by omega⟩, .inr rfl⟩, fun c' => tailU rfl rfl fun i hi => rfl⟩)
theorem Need_spec : HpSpec Try.prog 134 sNeed := hp_spec hm noCtrs_ok Try.func134 (Λ := fun _ _ => noΛ) fun args bs e hs hp => by
  unfold sNeed at hs
  split at hs <;> try (cases hs; done)
  rename_i ok
  split at hs <;> try (cases hs; done)
  · rename_i b hw
    cases hs
    refine ⟨_, wrOf_fresh hw, Eq.mpr (vcNeed0 b ok) (sel_of (fun h => ?_) fun h => ?_)⟩
    · rw [h, Bool.or_true]; exact ⟨trivial, rfl, Nat.le_refl _, fun _ _ => rfl⟩
    · rw [h, Bool.or_false]; exact ⟨trivial, rfl, Nat.le_refl _, fun _ _ => rfl⟩
  · rename_i b n0 g c p hw
    cases hs
    refine ⟨_, (wrOf_used hw (hp _ rfl)).1, Eq.mpr (vcNeed1 b ok n0 g c) (sel_of (fun h => ?_) fun h => ?_)⟩
    · rw [h, Bool.or_true]; exact ⟨trivial, ⟨rfl, Nat.le_refl _, rfl, rfl⟩, rfl, Nat.le_refl _, fun _ _ => rfl⟩
    · rw [h, Bool.or_false]; exact ⟨trivial, ⟨rfl, Nat.le_refl _, rfl, rfl⟩, rfl, Nat.le_refl _, fun _ _ => rfl⟩
theorem ΓC1_ok : ∀ f g, ΓC1 f = some g → g.ok Try.prog f := addCtr_ok (addCtr_ok (addCtr_ok (addCtr_ok ΓC0_ok (hp_ok Try.func95 (by kernel_rfl) (by kernel_rfl) Octet_spec)) (hp_ok Try.func59 (by kernel_rfl) (by kernel_rfl) Word_spec)) (hp_ok Try.func101 (by kernel_rfl) (by kernel_rfl) Integer_spec)) (hp_ok Try.func134 (by kernel_rfl) (by kernel_rfl) Need_spec)
theorem Flag_spec : HpSpec Try.prog 102 sFlag := app_spec ΓC1_ok Try.func102 (Λ0 := fun _ _ => noΛ) (Λ1 := fun _ _ _ _ _ => noΛ)
  (fun rest q k L b kd h hq ha => by
  unfold fFlag at h
  split at h <;> try (cases h; done)
  cases kd with
  | none => cases ha
  | some bd => cases ha)
  (fun rest q k L b kd n0 g c h hq ha hm hn => by
  unfold fFlag at h
  split at h <;> try (cases h; done)
  cases kd with
  | none => cases ha
  | some bd => 
    rename_i x
    cases h
    refine Eq.mpr (vcFlag1 bd n0 g c x) (sel_of (fun h => ?_) fun h => ?_)
    · rw [h]; exact ⟨⟨⟨bytesOk_bG n0 g c hn, hm⟩, ⟨by omega, by omega⟩⟩, fun c' => tailU rfl rfl fun i hi => rfl⟩
    · rw [h]; exact ⟨⟨⟨bytesOk_bG n0 g c hn, hm⟩, ⟨by omega, by omega⟩⟩, fun c' => tailU rfl rfl fun i hi => rfl⟩)
theorem notIn_lo {n most : Int} (h : decide (n ≥ 0) = true) (b : Bool) : (b || !decide (n ≤ most) || false) = (b || notIn n most) := by
  unfold notIn
  rw [show decide (0 ≤ n) = true from h, Bool.true_and, Bool.or_false]
theorem notIn_no {n most : Int} (h : decide (n ≥ 0) = false) (b : Bool) : (b || true || false) = (b || notIn n most) := by
  unfold notIn
  rw [show decide (0 ≤ n) = false from h]; simp
theorem Small_spec : HpSpec Try.prog 118 sSmall := app_spec ΓC1_ok Try.func118 (Λ0 := fun _ _ => noΛ) (Λ1 := fun _ _ _ _ _ => noΛ)
  (fun rest q k L b kd h hq ha => by
  unfold fSmall at h
  split at h <;> try (cases h; done)
  cases kd with
  | none => cases ha
  | some bd => 
    rename_i n most
    cases h
    refine Eq.mpr (vcSmall0 bd n most) (sel_of (fun h => ?_) fun h => ?_)
    · exact ⟨hq, fun c' => tailU rfl (notIn_lo h bd) fun i hi => rfl⟩
    · exact ⟨hq, fun c' => tailU rfl (notIn_no h bd) fun i hi => rfl⟩)
  (fun rest q k L b kd n0 g c h hq ha hm hn => by
  unfold fSmall at h
  split at h <;> try (cases h; done)
  cases kd with
  | none => cases ha
  | some bd => 
    rename_i n most
    cases h
    refine Eq.mpr (vcSmall1 bd n0 g c n most) (sel_of (fun h => ?_) fun h => ?_)
    · exact ⟨bytesOk_bG n0 g c hn, ⟨⟨bytesOk_bG n0 g c hn, hm⟩, hq⟩, fun c' => tailU rfl (notIn_lo h bd) fun i hi => rfl⟩
    · exact ⟨bytesOk_bG n0 g c hn, ⟨⟨bytesOk_bG n0 g c hn, hm⟩, hq⟩, fun c' => tailU rfl (notIn_no h bd) fun i hi => rfl⟩)
theorem Count_spec : HpSpec Try.prog 96 sCount := app_spec ΓC1_ok Try.func96 (Λ0 := fun _ _ => noΛ) (Λ1 := fun _ _ _ _ _ => noΛ)
  (fun rest q k L b kd h hq ha => by
  unfold fCount at h
  split at h <;> try (cases h; done)
  cases kd with
  | none => cases ha
  | some bd => cases ha)
  (fun rest q k L b kd n0 g c h hq ha hm hn => by
  unfold fCount at h
  split at h <;> try (cases h; done)
  cases kd with
  | none => cases ha
  | some bd => 
    rename_i n
    cases h
    refine Eq.mpr (vcCount1 bd n0 g c n) (sel_of (fun h => ?_) fun h => ?_)
    · exact ⟨bytesOk_bG n0 g c hn, ⟨⟨bytesOk_bG n0 g c hn, hm⟩, hq⟩, fun c' => tailU rfl (notIn_lo h bd) fun i hi => rfl⟩
    · exact ⟨bytesOk_bG n0 g c hn, ⟨⟨bytesOk_bG n0 g c hn, hm⟩, hq⟩, fun c' => tailU rfl (notIn_no h bd) fun i hi => rfl⟩)
theorem Version_spec : HpSpec Try.prog 104 sVersion := app_spec ΓC1_ok Try.func104 (Λ0 := fun _ _ => noΛ) (Λ1 := fun _ _ _ _ _ => noΛ)
  (fun rest q k L b kd h hq ha => by
  unfold fVersion at h
  split at h <;> try (cases h; done)
  cases kd with
  | none => cases ha
  | some bd => cases ha)
  (fun rest q k L b kd n0 g c h hq ha hm hn => by
  unfold fVersion at h
  split at h <;> try (cases h; done)
  cases kd with
  | none => cases ha
  | some bd => 
    rename_i n
    cases h
    refine Eq.mpr (vcVersion1 bd n0 g c n) (sel_of (fun h => ?_) fun h => ?_)
    · exact ⟨bytesOk_bG n0 g c hn, ⟨⟨bytesOk_bG n0 g c hn, hm⟩, hq⟩, fun c' => tailU rfl (notIn_lo h bd) fun i hi => rfl⟩
    · exact ⟨bytesOk_bG n0 g c hn, ⟨⟨bytesOk_bG n0 g c hn, hm⟩, hq⟩, fun c' => tailU rfl (notIn_no h bd) fun i hi => rfl⟩)
end Go.Proofs.Ytjdldadmaaeimaa
