/-
  The chapter's examples: strings that are no calls.
-/
import Derived.Test.YtjdldadmaaeimaaWiKn
set_option maxRecDepth 100000
set_option linter.unusedSimpArgs false
set_option linter.unusedVariables false
namespace Go.Proofs.Ytjdldadmaaeimaa
open Go.SE Go.RowKit

/-- What is panicked with. -/
def pV (e : Int) : SV := .v (.iface 169 (.agg #[.int .i64 e]))
def sNeedS (args : List SV) (bs : List Blk) : Option Eff := match args, bs with
  | [.v (.bool true), .v (.int .i64 _)], [] => some (.det none (.tup []) [])
  | [.v (.bool false), .v (.int .i64 e)], [] => some (.det none (pV e) [])
  | _, _ => none
def stNeed (args : List SV) (_ : List Blk) : Bool := match args with
  | [.v (.bool b), _] => !b
  | _ => false
def sTakeS (args : List SV) (bs : List Blk) : Option Eff := match args, bs with
  | [.vp 0 0, .v (.int .i64 n)], [B] => match B.row 0 with
    | [.v (.string s), .v (.int .i64 k)] => bif rdOk B then (match decide ((s.size : Int) - k < n) with
      | true => some (.det (some ((0 ≤ k ∧ k ≤ (s.size : Int)) ∧ (0 ≤ n ∧ n ≤ 8) ∧ s.size ≤ 1099511627776)) (pV 7) [(0, rdB s k)])
      | false => some (.det (some (rdQ s k n)) (.v (.int .u64 (rdT s k n.toNat))) [(0, rdB s (k + n))])) else none
    | _ => none
  | _, _ => none
def stTake (args : List SV) (bs : List Blk) : Bool := match args, bs with
  | [.vp 0 0, .v (.int .i64 n)], [B] => match B.row 0 with
    | [.v (.string s), .v (.int .i64 k)] => decide ((s.size : Int) - k < n)
    | _ => false
  | _, _ => false
def sRdK (a : List SV) (t : Nat → Nat → Option (ByteArray × Bool × SV × Int)) (args : List SV) (bs : List Blk) : Option Eff := match args, bs with
  | .vp 0 0 :: rest, [B] => match B.row 0 with
    | [.v (.string s), .v (.int .i64 k)] => match t s.size k.toNat with
      | some (s0, st, x, k') => bif rdOk B then some (.det (some (SV.agg rest = SV.agg a ∧ s = s0 ∧ 0 ≤ k)) x [(0, rdB s0 k')]) else none
      | none => none
    | _ => none
  | _, _ => none
def stRdK (t : Nat → Nat → Option (ByteArray × Bool × SV × Int)) (args : List SV) (bs : List Blk) : Bool := match args, bs with
  | .vp 0 0 :: rest, [B] => match B.row 0 with
    | [.v (.string s), .v (.int .i64 k)] => match t s.size k.toNat with
      | some (s0, st, x, k') => st
      | none => false
    | _ => false
  | _, _ => false
def ksD : ByteArray := ⟨#[10, 0, 0, 0]⟩
def ksE : ByteArray := ⟨#[10, 0, 0, 0, 7, 0]⟩
def ksF : ByteArray := ⟨#[11]⟩
def ksG : ByteArray := ⟨#[6, 0, 0, 0, 1, 255, 0, 0, 2]⟩
def rtUpto : Nat → Nat → Option (ByteArray × Bool × SV × Int)
  | 4, 1 => some (ksD, true, pV 7, 1)
  | 6, 1 => some (ksE, false, iV 7, 5)
  | 9, 1 => some (ksG, false, iV 1, 5)
  | 9, 5 => some (ksG, true, pV 4, 9)
  | _, _ => none
def rtKind : Nat → Nat → Option (ByteArray × Bool × SV × Int)
  | 4, 0 => some (ksD, false, iV 10, 1)
  | 6, 0 => some (ksE, false, iV 10, 1)
  | 1, 0 => some (ksF, true, pV 8, 1)
  | 9, 0 => some (ksG, false, iV 6, 1)
  | _, _ => none
def rtEnd : Nat → Nat → Option (ByteArray × Bool × SV × Int)
  | 6, 5 => some (ksE, true, pV 6, 5)
  | _, _ => none
def rtCall : Nat → Nat → Option (ByteArray × Bool × SV × Int)
  | 4, 0 => some (ksD, true, pV 7, 1)
  | 6, 0 => some (ksE, true, pV 6, 5)
  | 1, 0 => some (ksF, true, pV 8, 1)
  | 9, 0 => some (ksG, true, pV 4, 9)
  | _, _ => none
def sNeedP (args : List SV) (bs : List Blk) : Option Eff := match args, bs with
  | [.v (.bool b), .v (.int .i64 e)], [] => some (.det (some (b = false)) (pV e) [])
  | _, _ => none
def ΓSP : Ctrs := addCtr noCtrs 132 (hpCtrS true sNeedP fun _ _ => true)
def ΓS0 : Ctrs := addCtr noCtrs 132 (hpCtrS true sNeedS stNeed)
def ΓS1 : Ctrs := addCtr ΓS0 87 (hpCtrS true sTakeS stTake)
def aUpto : List SV := [.v (.int .u64 2147483647), iV 4]
def ΓS2 : Ctrs := addCtr noCtrs 133 (hpCtrS true (sRdK aUpto rtUpto) (stRdK rtUpto))
def ΓS3 : Ctrs := addCtr (addCtr (addCtr noCtrs 120 (hpCtrS true (sRdK [iV 1] rtKind) (stRdK rtKind))) 121 (hpCtrS true (sRdK [] rtUpto) (stRdK rtUpto))) 131 (hpCtrS true (sRdK [] rtEnd) (stRdK rtEnd))
def ΓS4 : Ctrs := addCtr noCtrs 85 (hpCtrS true (sRdK [] rtCall) (stRdK rtCall))
theorem vcNd0 (q : Option Prop) (e : Int) : (vcFnP Try.prog noCtrs noΛ Try.f132 [.v (.bool true), .v (.int .i64 e)] (heapOf []) 64 (fun y h' => false = false ∧ FinE [] (.det q (.tup []) []) y h') (fun y h' => false = true ∧ FinE [] (.det q (.tup []) []) y h')) =
((false = false) ∧ (True ∧ True)) := by kernel_rfl
theorem vcNd1 (q : Option Prop) (e : Int) : (vcFnP Try.prog noCtrs noΛ Try.f132 [.v (.bool false), .v (.int .i64 e)] (heapOf []) 64 (fun y h' => true = false ∧ FinE [] (.det q (pV e) []) y h') (fun y h' => true = true ∧ FinE [] (.det q (pV e) []) y h')) =
((true = true) ∧ (((SV.v (Value.iface 169 (Value.agg #[Value.int IntKind.i64 e]))) = (SV.v (Value.iface 169 (Value.agg #[Value.int IntKind.i64 e])))) ∧ True)) := by kernel_rfl
theorem vcTk1 (q : Option Prop) (s : ByteArray) (k : Int) (n : Nat) : (vcFnP Try.prog ΓSP noΛ Try.f87 [.vp 0 0, .v (.int .i64 (n : Int))] (heapOf [rdB s k]) 64 (fun y h' => true = false ∧ FinE [rdB s k] (.det q (pV 7) [(0, rdB s k)]) y h') (fun y h' => true = true ∧ FinE [rdB s k] (.det q (pV 7) [(0, rdB s k)]) y h')) =
((decide (IntKind.wrap IntKind.i64 ((↑(ByteArray.size s) : Int) - k) ≥ (↑n : Int)) = false) ∧ ((true = true) ∧ (((SV.v (Value.iface 169 (Value.agg #[Value.int IntKind.i64 7]))) = (SV.v (Value.iface 169 (Value.agg #[Value.int IntKind.i64 7])))) ∧ (((1 : Nat) = 1) ∧ (((1 : Nat) ≤ 1) ∧ (∀ i : Nat, (((i : Nat) < 1) → ([(SV.v (Value.string s)), (SV.v (Value.int IntKind.i64 k))] = [(SV.v (Value.string s)), (SV.v (Value.int IntKind.i64 k))])))))))) := by kernel_rfl
theorem vcUpD1 (q : Option Prop) : (vcFnP Try.prog ΓS1 noΛ Try.f133 [.vp 0 0, .v (.int .u64 2147483647), iV 4] (heapOf [rdB ksD 1]) 64 (fun y h' => true = false ∧ FinE [rdB ksD 1] (.det q (pV 7) [(0, rdB ksD 1)]) y h') (fun y h' => true = true ∧ FinE [rdB ksD 1] (.det q (pV 7) [(0, rdB ksD 1)]) y h')) =
(((((0 : Int) ≤ 1) ∧ ((1 : Int) ≤ 4)) ∧ ((((0 : Int) ≤ 4) ∧ ((4 : Int) ≤ 8)) ∧ ((4 : Nat) ≤ 1099511627776))) ∧ ((true = true) ∧ (((SV.v (Value.iface 169 (Value.agg #[Value.int IntKind.i64 7]))) = (SV.v (Value.iface 169 (Value.agg #[Value.int IntKind.i64 7])))) ∧ (((1 : Nat) = 1) ∧ (((1 : Nat) ≤ 1) ∧ (∀ i : Nat, (((i : Nat) < 1) → ([(SV.v (Value.string ksD)), (SV.v (Value.int IntKind.i64 1))] = [(SV.v (Value.string ksD)), (SV.v (Value.int IntKind.i64 1))])))))))) := by kernel_rfl
theorem vcUpE1 (q : Option Prop) : (vcFnP Try.prog ΓS1 noΛ Try.f133 [.vp 0 0, .v (.int .u64 2147483647), iV 4] (heapOf [rdB ksE 1]) 64 (fun y h' => false = false ∧ FinE [rdB ksE 1] (.det q (iV 7) [(0, rdB ksE 5)]) y h') (fun y h' => false = true ∧ FinE [rdB ksE 1] (.det q (iV 7) [(0, rdB ksE 5)]) y h')) =
((rdQ ksE 1 4) ∧ ((false = false) ∧ (((SV.v (Value.int IntKind.i64 7)) = (SV.v (Value.int IntKind.i64 7))) ∧ (((1 : Nat) = 1) ∧ (((1 : Nat) ≤ 1) ∧ (∀ i : Nat, (((i : Nat) < 1) → ([(SV.v (Value.string ksE)), (SV.v (Value.int IntKind.i64 5))] = [(SV.v (Value.string ksE)), (SV.v (Value.int IntKind.i64 5))])))))))) := by kernel_rfl
theorem vcUpG1 (q : Option Prop) : (vcFnP Try.prog ΓS1 noΛ Try.f133 [.vp 0 0, .v (.int .u64 2147483647), iV 4] (heapOf [rdB ksG 1]) 64 (fun y h' => false = false ∧ FinE [rdB ksG 1] (.det q (iV 1) [(0, rdB ksG 5)]) y h') (fun y h' => false = true ∧ FinE [rdB ksG 1] (.det q (iV 1) [(0, rdB ksG 5)]) y h')) =
((rdQ ksG 1 4) ∧ ((false = false) ∧ (((SV.v (Value.int IntKind.i64 1)) = (SV.v (Value.int IntKind.i64 1))) ∧ (((1 : Nat) = 1) ∧ (((1 : Nat) ≤ 1) ∧ (∀ i : Nat, (((i : Nat) < 1) → ([(SV.v (Value.string ksG)), (SV.v (Value.int IntKind.i64 5))] = [(SV.v (Value.string ksG)), (SV.v (Value.int IntKind.i64 5))])))))))) := by kernel_rfl
theorem vcUpG5 (q : Option Prop) : (vcFnP Try.prog ΓS1 noΛ Try.f133 [.vp 0 0, .v (.int .u64 2147483647), iV 4] (heapOf [rdB ksG 5]) 64 (fun y h' => true = false ∧ FinE [rdB ksG 5] (.det q (pV 4) [(0, rdB ksG 9)]) y h') (fun y h' => true = true ∧ FinE [rdB ksG 5] (.det q (pV 4) [(0, rdB ksG 9)]) y h')) =
((rdQ ksG 5 4) ∧ ((true = true) ∧ (((SV.v (Value.iface 169 (Value.agg #[Value.int IntKind.i64 4]))) = (SV.v (Value.iface 169 (Value.agg #[Value.int IntKind.i64 4])))) ∧ (((1 : Nat) = 1) ∧ (((1 : Nat) ≤ 1) ∧ (∀ i : Nat, (((i : Nat) < 1) → ([(SV.v (Value.string ksG)), (SV.v (Value.int IntKind.i64 9))] = [(SV.v (Value.string ksG)), (SV.v (Value.int IntKind.i64 9))])))))))) := by kernel_rfl
theorem vcCtD1 (q : Option Prop) : (vcFnP Try.prog ΓS2 noΛ Try.f121 [.vp 0 0] (heapOf [rdB ksD 1]) 64 (fun y h' => true = false ∧ FinE [rdB ksD 1] (.det q (pV 7) [(0, rdB ksD 1)]) y h') (fun y h' => true = true ∧ FinE [rdB ksD 1] (.det q (pV 7) [(0, rdB ksD 1)]) y h')) =
((((SV.agg [(SV.v (Value.int IntKind.u64 2147483647)), (SV.v (Value.int IntKind.i64 4))]) = (SV.agg [(SV.v (Value.int IntKind.u64 2147483647)), (SV.v (Value.int IntKind.i64 4))])) ∧ ((ksD = ksD) ∧ ((0 : Int) ≤ 1))) ∧ ((true = true) ∧ (((SV.v (Value.iface 169 (Value.agg #[Value.int IntKind.i64 7]))) = (SV.v (Value.iface 169 (Value.agg #[Value.int IntKind.i64 7])))) ∧ (((1 : Nat) = 1) ∧ (((1 : Nat) ≤ 1) ∧ (∀ i : Nat, (((i : Nat) < 1) → ([(SV.v (Value.string ksD)), (SV.v (Value.int IntKind.i64 1))] = [(SV.v (Value.string ksD)), (SV.v (Value.int IntKind.i64 1))])))))))) := by kernel_rfl
theorem vcCtE1 (q : Option Prop) : (vcFnP Try.prog ΓS2 noΛ Try.f121 [.vp 0 0] (heapOf [rdB ksE 1]) 64 (fun y h' => false = false ∧ FinE [rdB ksE 1] (.det q (iV 7) [(0, rdB ksE 5)]) y h') (fun y h' => false = true ∧ FinE [rdB ksE 1] (.det q (iV 7) [(0, rdB ksE 5)]) y h')) =
((((SV.agg [(SV.v (Value.int IntKind.u64 2147483647)), (SV.v (Value.int IntKind.i64 4))]) = (SV.agg [(SV.v (Value.int IntKind.u64 2147483647)), (SV.v (Value.int IntKind.i64 4))])) ∧ ((ksE = ksE) ∧ ((0 : Int) ≤ 1))) ∧ ((false = false) ∧ (((SV.v (Value.int IntKind.i64 7)) = (SV.v (Value.int IntKind.i64 7))) ∧ (((1 : Nat) = 1) ∧ (((1 : Nat) ≤ 1) ∧ (∀ i : Nat, (((i : Nat) < 1) → ([(SV.v (Value.string ksE)), (SV.v (Value.int IntKind.i64 5))] = [(SV.v (Value.string ksE)), (SV.v (Value.int IntKind.i64 5))])))))))) := by kernel_rfl
theorem vcCtG1 (q : Option Prop) : (vcFnP Try.prog ΓS2 noΛ Try.f121 [.vp 0 0] (heapOf [rdB ksG 1]) 64 (fun y h' => false = false ∧ FinE [rdB ksG 1] (.det q (iV 1) [(0, rdB ksG 5)]) y h') (fun y h' => false = true ∧ FinE [rdB ksG 1] (.det q (iV 1) [(0, rdB ksG 5)]) y h')) =
((((SV.agg [(SV.v (Value.int IntKind.u64 2147483647)), (SV.v (Value.int IntKind.i64 4))]) = (SV.agg [(SV.v (Value.int IntKind.u64 2147483647)), (SV.v (Value.int IntKind.i64 4))])) ∧ ((ksG = ksG) ∧ ((0 : Int) ≤ 1))) ∧ ((false = false) ∧ (((SV.v (Value.int IntKind.i64 1)) = (SV.v (Value.int IntKind.i64 1))) ∧ (((1 : Nat) = 1) ∧ (((1 : Nat) ≤ 1) ∧ (∀ i : Nat, (((i : Nat) < 1) → ([(SV.v (Value.string ksG)), (SV.v (Value.int IntKind.i64 5))] = [(SV.v (Value.string ksG)), (SV.v (Value.int IntKind.i64 5))])))))))) := by kernel_rfl
theorem vcCtG5 (q : Option Prop) : (vcFnP Try.prog ΓS2 noΛ Try.f121 [.vp 0 0] (heapOf [rdB ksG 5]) 64 (fun y h' => true = false ∧ FinE [rdB ksG 5] (.det q (pV 4) [(0, rdB ksG 9)]) y h') (fun y h' => true = true ∧ FinE [rdB ksG 5] (.det q (pV 4) [(0, rdB ksG 9)]) y h')) =
((((SV.agg [(SV.v (Value.int IntKind.u64 2147483647)), (SV.v (Value.int IntKind.i64 4))]) = (SV.agg [(SV.v (Value.int IntKind.u64 2147483647)), (SV.v (Value.int IntKind.i64 4))])) ∧ ((ksG = ksG) ∧ ((0 : Int) ≤ 5))) ∧ ((true = true) ∧ (((SV.v (Value.iface 169 (Value.agg #[Value.int IntKind.i64 4]))) = (SV.v (Value.iface 169 (Value.agg #[Value.int IntKind.i64 4])))) ∧ (((1 : Nat) = 1) ∧ (((1 : Nat) ≤ 1) ∧ (∀ i : Nat, (((i : Nat) < 1) → ([(SV.v (Value.string ksG)), (SV.v (Value.int IntKind.i64 9))] = [(SV.v (Value.string ksG)), (SV.v (Value.int IntKind.i64 9))])))))))) := by kernel_rfl
theorem vcKiD0 (q : Option Prop) : (vcFnP Try.prog ΓS1 noΛ Try.f120 [.vp 0 0, iV 1] (heapOf [rdB ksD 0]) 64 (fun y h' => false = false ∧ FinE [rdB ksD 0] (.det q (iV 10) [(0, rdB ksD 1)]) y h') (fun y h' => false = true ∧ FinE [rdB ksD 0] (.det q (iV 10) [(0, rdB ksD 1)]) y h')) =
((rdQ ksD 0 1) ∧ ((false = false) ∧ (((SV.v (Value.int IntKind.i64 10)) = (SV.v (Value.int IntKind.i64 10))) ∧ (((1 : Nat) = 1) ∧ (((1 : Nat) ≤ 1) ∧ (∀ i : Nat, (((i : Nat) < 1) → ([(SV.v (Value.string ksD)), (SV.v (Value.int IntKind.i64 1))] = [(SV.v (Value.string ksD)), (SV.v (Value.int IntKind.i64 1))])))))))) := by kernel_rfl
theorem vcKiE0 (q : Option Prop) : (vcFnP Try.prog ΓS1 noΛ Try.f120 [.vp 0 0, iV 1] (heapOf [rdB ksE 0]) 64 (fun y h' => false = false ∧ FinE [rdB ksE 0] (.det q (iV 10) [(0, rdB ksE 1)]) y h') (fun y h' => false = true ∧ FinE [rdB ksE 0] (.det q (iV 10) [(0, rdB ksE 1)]) y h')) =
((rdQ ksE 0 1) ∧ ((false = false) ∧ (((SV.v (Value.int IntKind.i64 10)) = (SV.v (Value.int IntKind.i64 10))) ∧ (((1 : Nat) = 1) ∧ (((1 : Nat) ≤ 1) ∧ (∀ i : Nat, (((i : Nat) < 1) → ([(SV.v (Value.string ksE)), (SV.v (Value.int IntKind.i64 1))] = [(SV.v (Value.string ksE)), (SV.v (Value.int IntKind.i64 1))])))))))) := by kernel_rfl
theorem vcKiF0 (q : Option Prop) : (vcFnP Try.prog ΓS1 noΛ Try.f120 [.vp 0 0, iV 1] (heapOf [rdB ksF 0]) 64 (fun y h' => true = false ∧ FinE [rdB ksF 0] (.det q (pV 8) [(0, rdB ksF 1)]) y h') (fun y h' => true = true ∧ FinE [rdB ksF 0] (.det q (pV 8) [(0, rdB ksF 1)]) y h')) =
((rdQ ksF 0 1) ∧ ((true = true) ∧ (((SV.v (Value.iface 169 (Value.agg #[Value.int IntKind.i64 8]))) = (SV.v (Value.iface 169 (Value.agg #[Value.int IntKind.i64 8])))) ∧ (((1 : Nat) = 1) ∧ (((1 : Nat) ≤ 1) ∧ (∀ i : Nat, (((i : Nat) < 1) → ([(SV.v (Value.string ksF)), (SV.v (Value.int IntKind.i64 1))] = [(SV.v (Value.string ksF)), (SV.v (Value.int IntKind.i64 1))])))))))) := by kernel_rfl
theorem vcKiG0 (q : Option Prop) : (vcFnP Try.prog ΓS1 noΛ Try.f120 [.vp 0 0, iV 1] (heapOf [rdB ksG 0]) 64 (fun y h' => false = false ∧ FinE [rdB ksG 0] (.det q (iV 6) [(0, rdB ksG 1)]) y h') (fun y h' => false = true ∧ FinE [rdB ksG 0] (.det q (iV 6) [(0, rdB ksG 1)]) y h')) =
((rdQ ksG 0 1) ∧ ((false = false) ∧ (((SV.v (Value.int IntKind.i64 6)) = (SV.v (Value.int IntKind.i64 6))) ∧ (((1 : Nat) = 1) ∧ (((1 : Nat) ≤ 1) ∧ (∀ i : Nat, (((i : Nat) < 1) → ([(SV.v (Value.string ksG)), (SV.v (Value.int IntKind.i64 1))] = [(SV.v (Value.string ksG)), (SV.v (Value.int IntKind.i64 1))])))))))) := by kernel_rfl
theorem vcEnE5 (q : Option Prop) : (vcFnP Try.prog ΓS0 noΛ Try.f131 [.vp 0 0] (heapOf [rdB ksE 5]) 64 (fun y h' => true = false ∧ FinE [rdB ksE 5] (.det q (pV 6) [(0, rdB ksE 5)]) y h') (fun y h' => true = true ∧ FinE [rdB ksE 5] (.det q (pV 6) [(0, rdB ksE 5)]) y h')) =
((true = true) ∧ (((SV.v (Value.iface 169 (Value.agg #[Value.int IntKind.i64 6]))) = (SV.v (Value.iface 169 (Value.agg #[Value.int IntKind.i64 6])))) ∧ (((1 : Nat) = 1) ∧ (((1 : Nat) ≤ 1) ∧ (∀ i : Nat, (((i : Nat) < 1) → ([(SV.v (Value.string ksE)), (SV.v (Value.int IntKind.i64 5))] = [(SV.v (Value.string ksE)), (SV.v (Value.int IntKind.i64 5))]))))))) := by kernel_rfl
theorem vcCaD0 (q : Option Prop) : (vcFnP Try.prog ΓS3 noΛ Try.f85 [.vp 0 0] (heapOf [rdB ksD 0]) 64 (fun y h' => true = false ∧ FinE [rdB ksD 0] (.det q (pV 7) [(0, rdB ksD 1)]) y h') (fun y h' => true = true ∧ FinE [rdB ksD 0] (.det q (pV 7) [(0, rdB ksD 1)]) y h')) =
((((SV.agg [(SV.v (Value.int IntKind.i64 1))]) = (SV.agg [(SV.v (Value.int IntKind.i64 1))])) ∧ ((ksD = ksD) ∧ ((0 : Int) ≤ 0))) ∧ ((((SV.agg []) = (SV.agg [])) ∧ ((ksD = ksD) ∧ ((0 : Int) ≤ 1))) ∧ ((true = true) ∧ (((SV.v (Value.iface 169 (Value.agg #[Value.int IntKind.i64 7]))) = (SV.v (Value.iface 169 (Value.agg #[Value.int IntKind.i64 7])))) ∧ (((1 : Nat) = 1) ∧ (((1 : Nat) ≤ 1) ∧ (∀ i : Nat, (((i : Nat) < 1) → ([(SV.v (Value.string ksD)), (SV.v (Value.int IntKind.i64 1))] = [(SV.v (Value.string ksD)), (SV.v (Value.int IntKind.i64 1))]))))))))) := by kernel_rfl
theorem vcCaE0 (q : Option Prop) : (vcFnP Try.prog ΓS3 noΛ Try.f85 [.vp 0 0] (heapOf [rdB ksE 0]) 64 (fun y h' => true = false ∧ FinE [rdB ksE 0] (.det q (pV 6) [(0, rdB ksE 5)]) y h') (fun y h' => true = true ∧ FinE [rdB ksE 0] (.det q (pV 6) [(0, rdB ksE 5)]) y h')) =
((((SV.agg [(SV.v (Value.int IntKind.i64 1))]) = (SV.agg [(SV.v (Value.int IntKind.i64 1))])) ∧ ((ksE = ksE) ∧ ((0 : Int) ≤ 0))) ∧ ((((SV.agg []) = (SV.agg [])) ∧ ((ksE = ksE) ∧ ((0 : Int) ≤ 1))) ∧ ((((SV.agg []) = (SV.agg [])) ∧ ((ksE = ksE) ∧ ((0 : Int) ≤ 5))) ∧ ((true = true) ∧ (((SV.v (Value.iface 169 (Value.agg #[Value.int IntKind.i64 6]))) = (SV.v (Value.iface 169 (Value.agg #[Value.int IntKind.i64 6])))) ∧ (((1 : Nat) = 1) ∧ (((1 : Nat) ≤ 1) ∧ (∀ i : Nat, (((i : Nat) < 1) → ([(SV.v (Value.string ksE)), (SV.v (Value.int IntKind.i64 5))] = [(SV.v (Value.string ksE)), (SV.v (Value.int IntKind.i64 5))])))))))))) := by kernel_rfl
theorem vcCaF0 (q : Option Prop) : (vcFnP Try.prog ΓS3 noΛ Try.f85 [.vp 0 0] (heapOf [rdB ksF 0]) 64 (fun y h' => true = false ∧ FinE [rdB ksF 0] (.det q (pV 8) [(0, rdB ksF 1)]) y h') (fun y h' => true = true ∧ FinE [rdB ksF 0] (.det q (pV 8) [(0, rdB ksF 1)]) y h')) =
((((SV.agg [(SV.v (Value.int IntKind.i64 1))]) = (SV.agg [(SV.v (Value.int IntKind.i64 1))])) ∧ ((ksF = ksF) ∧ ((0 : Int) ≤ 0))) ∧ ((true = true) ∧ (((SV.v (Value.iface 169 (Value.agg #[Value.int IntKind.i64 8]))) = (SV.v (Value.iface 169 (Value.agg #[Value.int IntKind.i64 8])))) ∧ (((1 : Nat) = 1) ∧ (((1 : Nat) ≤ 1) ∧ (∀ i : Nat, (((i : Nat) < 1) → ([(SV.v (Value.string ksF)), (SV.v (Value.int IntKind.i64 1))] = [(SV.v (Value.string ksF)), (SV.v (Value.int IntKind.i64 1))])))))))) := by kernel_rfl
theorem vcCaG0 (q : Option Prop) : (vcFnP Try.prog ΓS3 noΛ Try.f85 [.vp 0 0] (heapOf [rdB ksG 0]) 64 (fun y h' => true = false ∧ FinE [rdB ksG 0] (.det q (pV 4) [(0, rdB ksG 9)]) y h') (fun y h' => true = true ∧ FinE [rdB ksG 0] (.det q (pV 4) [(0, rdB ksG 9)]) y h')) =
((((SV.agg [(SV.v (Value.int IntKind.i64 1))]) = (SV.agg [(SV.v (Value.int IntKind.i64 1))])) ∧ ((ksG = ksG) ∧ ((0 : Int) ≤ 0))) ∧ ((((SV.agg []) = (SV.agg [])) ∧ ((ksG = ksG) ∧ ((0 : Int) ≤ 1))) ∧ ((((SV.agg []) = (SV.agg [])) ∧ ((ksG = ksG) ∧ ((0 : Int) ≤ 5))) ∧ ((true = true) ∧ (((SV.v (Value.iface 169 (Value.agg #[Value.int IntKind.i64 4]))) = (SV.v (Value.iface 169 (Value.agg #[Value.int IntKind.i64 4])))) ∧ (((1 : Nat) = 1) ∧ (((1 : Nat) ≤ 1) ∧ (∀ i : Nat, (((i : Nat) < 1) → ([(SV.v (Value.string ksG)), (SV.v (Value.int IntKind.i64 9))] = [(SV.v (Value.string ksG)), (SV.v (Value.int IntKind.i64 9))])))))))))) := by kernel_rfl
theorem vcRcD (q : Option Prop) : (vcFnD Try.prog ΓS4 noΛ Try.f38 Try.f84 (dA Try.f38) (dB Try.f38) (dC Try.f84) 3 5 [.v (.string ksD)] (heapOf []) 64 (fun y h' => FinE [] (.det q (.tup [callC 0 0 0, iV 7]) []) y h')) =
((((SV.agg []) = (SV.agg [])) ∧ ((ksD = ksD) ∧ ((0 : Int) ≤ 0))) ∧ (((((SV.v (Value.int IntKind.i64 0)) = (SV.v (Value.int IntKind.i64 0))) ∧ (((SV.v (Value.int IntKind.i64 0)) = (SV.v (Value.int IntKind.i64 0))) ∧ (((SV.v (Value.int IntKind.i64 0)) = (SV.v (Value.int IntKind.i64 0))) ∧ (((SV.v (Value.int IntKind.i64 0)) = (SV.v (Value.int IntKind.i64 0))) ∧ (((SV.v (Value.int IntKind.i64 0)) = (SV.v (Value.int IntKind.i64 0))) ∧ (((SV.v (Value.int IntKind.i64 0)) = (SV.v (Value.int IntKind.i64 0))) ∧ (((SV.v (Value.int IntKind.i64 0)) = (SV.v (Value.int IntKind.i64 0))) ∧ (((SV.v (Value.int IntKind.i64 0)) = (SV.v (Value.int IntKind.i64 0))) ∧ (((SV.v (Value.int IntKind.i64 0)) = (SV.v (Value.int IntKind.i64 0))) ∧ (((SV.v (Value.slice none 0 0)) = (SV.v (Value.slice none 0 0))) ∧ (((SV.v (Value.int IntKind.i64 0)) = (SV.v (Value.int IntKind.i64 0))) ∧ (((SV.v (Value.bool false)) = (SV.v (Value.bool false))) ∧ (((SV.v (Value.int IntKind.i64 0)) = (SV.v (Value.int IntKind.i64 0))) ∧ (((SV.v (Value.bool false)) = (SV.v (Value.bool false))) ∧ (((SV.v (Value.int IntKind.i64 0)) = (SV.v (Value.int IntKind.i64 0))) ∧ (((SV.v (Value.bool false)) = (SV.v (Value.bool false))) ∧ (((SV.v (Value.int IntKind.i64 0)) = (SV.v (Value.int IntKind.i64 0))) ∧ (((SV.v (Value.bool false)) = (SV.v (Value.bool false))) ∧ (((SV.v (Value.int IntKind.i64 0)) = (SV.v (Value.int IntKind.i64 0))) ∧ (((SV.v (Value.bool false)) = (SV.v (Value.bool false))) ∧ (((SV.v (Value.int IntKind.i64 0)) = (SV.v (Value.int IntKind.i64 0))) ∧ (((SV.v (Value.bool false)) = (SV.v (Value.bool false))) ∧ (((SV.v (Value.int IntKind.i64 0)) = (SV.v (Value.int IntKind.i64 0))) ∧ (((SV.v (Value.bool false)) = (SV.v (Value.bool false))) ∧ (((SV.v (Value.int IntKind.i64 0)) = (SV.v (Value.int IntKind.i64 0))) ∧ (((SV.v (Value.bool false)) = (SV.v (Value.bool false))) ∧ (((SV.v (Value.int IntKind.i64 0)) = (SV.v (Value.int IntKind.i64 0))) ∧ (((SV.v (Value.bool false)) = (SV.v (Value.bool false))) ∧ (((SV.v (Value.int IntKind.i64 0)) = (SV.v (Value.int IntKind.i64 0))) ∧ (((SV.v (Value.bool false)) = (SV.v (Value.bool false))) ∧ (((SV.v (Value.int IntKind.i64 0)) = (SV.v (Value.int IntKind.i64 0))) ∧ (((SV.v (Value.bool false)) = (SV.v (Value.bool false))) ∧ (((SV.v (Value.int IntKind.i64 0)) = (SV.v (Value.int IntKind.i64 0))) ∧ (((SV.v (Value.bool false)) = (SV.v (Value.bool false))) ∧ (((SV.v (Value.int IntKind.i64 0)) = (SV.v (Value.int IntKind.i64 0))) ∧ (((SV.v (Value.int IntKind.i64 0)) = (SV.v (Value.int IntKind.i64 0))) ∧ (((SV.v (Value.int IntKind.i64 0)) = (SV.v (Value.int IntKind.i64 0))) ∧ (((SV.v (Value.int IntKind.i64 0)) = (SV.v (Value.int IntKind.i64 0))) ∧ (((SV.v (Value.int IntKind.i64 0)) = (SV.v (Value.int IntKind.i64 0))) ∧ (((SV.v (Value.int IntKind.i64 0)) = (SV.v (Value.int IntKind.i64 0))) ∧ (((SV.v (Value.int IntKind.i64 0)) = (SV.v (Value.int IntKind.i64 0))) ∧ (((SV.v (Value.int IntKind.i64 0)) = (SV.v (Value.int IntKind.i64 0))) ∧ ((SV.v (Value.int IntKind.i64 0)) = (SV.v (Value.int IntKind.i64 0))))))))))))))))))))))))))))))))))))))))))))) ∧ ((SV.v (Value.int IntKind.i64 7)) = (SV.v (Value.int IntKind.i64 7)))) ∧ True)) := by kernel_rfl
theorem vcRcE (q : Option Prop) : (vcFnD Try.prog ΓS4 noΛ Try.f38 Try.f84 (dA Try.f38) (dB Try.f38) (dC Try.f84) 3 5 [.v (.string ksE)] (heapOf []) 64 (fun y h' => FinE [] (.det q (.tup [callC 0 0 0, iV 6]) []) y h')) =
((((SV.agg []) = (SV.agg [])) ∧ ((ksE = ksE) ∧ ((0 : Int) ≤ 0))) ∧ (((((SV.v (Value.int IntKind.i64 0)) = (SV.v (Value.int IntKind.i64 0))) ∧ (((SV.v (Value.int IntKind.i64 0)) = (SV.v (Value.int IntKind.i64 0))) ∧ (((SV.v (Value.int IntKind.i64 0)) = (SV.v (Value.int IntKind.i64 0))) ∧ (((SV.v (Value.int IntKind.i64 0)) = (SV.v (Value.int IntKind.i64 0))) ∧ (((SV.v (Value.int IntKind.i64 0)) = (SV.v (Value.int IntKind.i64 0))) ∧ (((SV.v (Value.int IntKind.i64 0)) = (SV.v (Value.int IntKind.i64 0))) ∧ (((SV.v (Value.int IntKind.i64 0)) = (SV.v (Value.int IntKind.i64 0))) ∧ (((SV.v (Value.int IntKind.i64 0)) = (SV.v (Value.int IntKind.i64 0))) ∧ (((SV.v (Value.int IntKind.i64 0)) = (SV.v (Value.int IntKind.i64 0))) ∧ (((SV.v (Value.slice none 0 0)) = (SV.v (Value.slice none 0 0))) ∧ (((SV.v (Value.int IntKind.i64 0)) = (SV.v (Value.int IntKind.i64 0))) ∧ (((SV.v (Value.bool false)) = (SV.v (Value.bool false))) ∧ (((SV.v (Value.int IntKind.i64 0)) = (SV.v (Value.int IntKind.i64 0))) ∧ (((SV.v (Value.bool false)) = (SV.v (Value.bool false))) ∧ (((SV.v (Value.int IntKind.i64 0)) = (SV.v (Value.int IntKind.i64 0))) ∧ (((SV.v (Value.bool false)) = (SV.v (Value.bool false))) ∧ (((SV.v (Value.int IntKind.i64 0)) = (SV.v (Value.int IntKind.i64 0))) ∧ (((SV.v (Value.bool false)) = (SV.v (Value.bool false))) ∧ (((SV.v (Value.int IntKind.i64 0)) = (SV.v (Value.int IntKind.i64 0))) ∧ (((SV.v (Value.bool false)) = (SV.v (Value.bool false))) ∧ (((SV.v (Value.int IntKind.i64 0)) = (SV.v (Value.int IntKind.i64 0))) ∧ (((SV.v (Value.bool false)) = (SV.v (Value.bool false))) ∧ (((SV.v (Value.int IntKind.i64 0)) = (SV.v (Value.int IntKind.i64 0))) ∧ (((SV.v (Value.bool false)) = (SV.v (Value.bool false))) ∧ (((SV.v (Value.int IntKind.i64 0)) = (SV.v (Value.int IntKind.i64 0))) ∧ (((SV.v (Value.bool false)) = (SV.v (Value.bool false))) ∧ (((SV.v (Value.int IntKind.i64 0)) = (SV.v (Value.int IntKind.i64 0))) ∧ (((SV.v (Value.bool false)) = (SV.v (Value.bool false))) ∧ (((SV.v (Value.int IntKind.i64 0)) = (SV.v (Value.int IntKind.i64 0))) ∧ (((SV.v (Value.bool false)) = (SV.v (Value.bool false))) ∧ (((SV.v (Value.int IntKind.i64 0)) = (SV.v (Value.int IntKind.i64 0))) ∧ (((SV.v (Value.bool false)) = (SV.v (Value.bool false))) ∧ (((SV.v (Value.int IntKind.i64 0)) = (SV.v (Value.int IntKind.i64 0))) ∧ (((SV.v (Value.bool false)) = (SV.v (Value.bool false))) ∧ (((SV.v (Value.int IntKind.i64 0)) = (SV.v (Value.int IntKind.i64 0))) ∧ (((SV.v (Value.int IntKind.i64 0)) = (SV.v (Value.int IntKind.i64 0))) ∧ (((SV.v (Value.int IntKind.i64 0)) = (SV.v (Value.int IntKind.i64 0))) ∧ (((SV.v (Value.int IntKind.i64 0)) = (SV.v (Value.int IntKind.i64 0))) ∧ (((SV.v (Value.int IntKind.i64 0)) = (SV.v (Value.int IntKind.i64 0))) ∧ (((SV.v (Value.int IntKind.i64 0)) = (SV.v (Value.int IntKind.i64 0))) ∧ (((SV.v (Value.int IntKind.i64 0)) = (SV.v (Value.int IntKind.i64 0))) ∧ (((SV.v (Value.int IntKind.i64 0)) = (SV.v (Value.int IntKind.i64 0))) ∧ ((SV.v (Value.int IntKind.i64 0)) = (SV.v (Value.int IntKind.i64 0))))))))))))))))))))))))))))))))))))))))))))) ∧ ((SV.v (Value.int IntKind.i64 6)) = (SV.v (Value.int IntKind.i64 6)))) ∧ True)) := by kernel_rfl
theorem vcRcF (q : Option Prop) : (vcFnD Try.prog ΓS4 noΛ Try.f38 Try.f84 (dA Try.f38) (dB Try.f38) (dC Try.f84) 3 5 [.v (.string ksF)] (heapOf []) 64 (fun y h' => FinE [] (.det q (.tup [callC 0 0 0, iV 8]) []) y h')) =
((((SV.agg []) = (SV.agg [])) ∧ ((ksF = ksF) ∧ ((0 : Int) ≤ 0))) ∧ (((((SV.v (Value.int IntKind.i64 0)) = (SV.v (Value.int IntKind.i64 0))) ∧ (((SV.v (Value.int IntKind.i64 0)) = (SV.v (Value.int IntKind.i64 0))) ∧ (((SV.v (Value.int IntKind.i64 0)) = (SV.v (Value.int IntKind.i64 0))) ∧ (((SV.v (Value.int IntKind.i64 0)) = (SV.v (Value.int IntKind.i64 0))) ∧ (((SV.v (Value.int IntKind.i64 0)) = (SV.v (Value.int IntKind.i64 0))) ∧ (((SV.v (Value.int IntKind.i64 0)) = (SV.v (Value.int IntKind.i64 0))) ∧ (((SV.v (Value.int IntKind.i64 0)) = (SV.v (Value.int IntKind.i64 0))) ∧ (((SV.v (Value.int IntKind.i64 0)) = (SV.v (Value.int IntKind.i64 0))) ∧ (((SV.v (Value.int IntKind.i64 0)) = (SV.v (Value.int IntKind.i64 0))) ∧ (((SV.v (Value.slice none 0 0)) = (SV.v (Value.slice none 0 0))) ∧ (((SV.v (Value.int IntKind.i64 0)) = (SV.v (Value.int IntKind.i64 0))) ∧ (((SV.v (Value.bool false)) = (SV.v (Value.bool false))) ∧ (((SV.v (Value.int IntKind.i64 0)) = (SV.v (Value.int IntKind.i64 0))) ∧ (((SV.v (Value.bool false)) = (SV.v (Value.bool false))) ∧ (((SV.v (Value.int IntKind.i64 0)) = (SV.v (Value.int IntKind.i64 0))) ∧ (((SV.v (Value.bool false)) = (SV.v (Value.bool false))) ∧ (((SV.v (Value.int IntKind.i64 0)) = (SV.v (Value.int IntKind.i64 0))) ∧ (((SV.v (Value.bool false)) = (SV.v (Value.bool false))) ∧ (((SV.v (Value.int IntKind.i64 0)) = (SV.v (Value.int IntKind.i64 0))) ∧ (((SV.v (Value.bool false)) = (SV.v (Value.bool false))) ∧ (((SV.v (Value.int IntKind.i64 0)) = (SV.v (Value.int IntKind.i64 0))) ∧ (((SV.v (Value.bool false)) = (SV.v (Value.bool false))) ∧ (((SV.v (Value.int IntKind.i64 0)) = (SV.v (Value.int IntKind.i64 0))) ∧ (((SV.v (Value.bool false)) = (SV.v (Value.bool false))) ∧ (((SV.v (Value.int IntKind.i64 0)) = (SV.v (Value.int IntKind.i64 0))) ∧ (((SV.v (Value.bool false)) = (SV.v (Value.bool false))) ∧ (((SV.v (Value.int IntKind.i64 0)) = (SV.v (Value.int IntKind.i64 0))) ∧ (((SV.v (Value.bool false)) = (SV.v (Value.bool false))) ∧ (((SV.v (Value.int IntKind.i64 0)) = (SV.v (Value.int IntKind.i64 0))) ∧ (((SV.v (Value.bool false)) = (SV.v (Value.bool false))) ∧ (((SV.v (Value.int IntKind.i64 0)) = (SV.v (Value.int IntKind.i64 0))) ∧ (((SV.v (Value.bool false)) = (SV.v (Value.bool false))) ∧ (((SV.v (Value.int IntKind.i64 0)) = (SV.v (Value.int IntKind.i64 0))) ∧ (((SV.v (Value.bool false)) = (SV.v (Value.bool false))) ∧ (((SV.v (Value.int IntKind.i64 0)) = (SV.v (Value.int IntKind.i64 0))) ∧ (((SV.v (Value.int IntKind.i64 0)) = (SV.v (Value.int IntKind.i64 0))) ∧ (((SV.v (Value.int IntKind.i64 0)) = (SV.v (Value.int IntKind.i64 0))) ∧ (((SV.v (Value.int IntKind.i64 0)) = (SV.v (Value.int IntKind.i64 0))) ∧ (((SV.v (Value.int IntKind.i64 0)) = (SV.v (Value.int IntKind.i64 0))) ∧ (((SV.v (Value.int IntKind.i64 0)) = (SV.v (Value.int IntKind.i64 0))) ∧ (((SV.v (Value.int IntKind.i64 0)) = (SV.v (Value.int IntKind.i64 0))) ∧ (((SV.v (Value.int IntKind.i64 0)) = (SV.v (Value.int IntKind.i64 0))) ∧ ((SV.v (Value.int IntKind.i64 0)) = (SV.v (Value.int IntKind.i64 0))))))))))))))))))))))))))))))))))))))))))))) ∧ ((SV.v (Value.int IntKind.i64 8)) = (SV.v (Value.int IntKind.i64 8)))) ∧ True)) := by kernel_rfl
theorem vcRcG (q : Option Prop) : (vcFnD Try.prog ΓS4 noΛ Try.f38 Try.f84 (dA Try.f38) (dB Try.f38) (dC Try.f84) 3 5 [.v (.string ksG)] (heapOf []) 64 (fun y h' => FinE [] (.det q (.tup [callC 0 0 0, iV 4]) []) y h')) =
((((SV.agg []) = (SV.agg [])) ∧ ((ksG = ksG) ∧ ((0 : Int) ≤ 0))) ∧ (((((SV.v (Value.int IntKind.i64 0)) = (SV.v (Value.int IntKind.i64 0))) ∧ (((SV.v (Value.int IntKind.i64 0)) = (SV.v (Value.int IntKind.i64 0))) ∧ (((SV.v (Value.int IntKind.i64 0)) = (SV.v (Value.int IntKind.i64 0))) ∧ (((SV.v (Value.int IntKind.i64 0)) = (SV.v (Value.int IntKind.i64 0))) ∧ (((SV.v (Value.int IntKind.i64 0)) = (SV.v (Value.int IntKind.i64 0))) ∧ (((SV.v (Value.int IntKind.i64 0)) = (SV.v (Value.int IntKind.i64 0))) ∧ (((SV.v (Value.int IntKind.i64 0)) = (SV.v (Value.int IntKind.i64 0))) ∧ (((SV.v (Value.int IntKind.i64 0)) = (SV.v (Value.int IntKind.i64 0))) ∧ (((SV.v (Value.int IntKind.i64 0)) = (SV.v (Value.int IntKind.i64 0))) ∧ (((SV.v (Value.slice none 0 0)) = (SV.v (Value.slice none 0 0))) ∧ (((SV.v (Value.int IntKind.i64 0)) = (SV.v (Value.int IntKind.i64 0))) ∧ (((SV.v (Value.bool false)) = (SV.v (Value.bool false))) ∧ (((SV.v (Value.int IntKind.i64 0)) = (SV.v (Value.int IntKind.i64 0))) ∧ (((SV.v (Value.bool false)) = (SV.v (Value.bool false))) ∧ (((SV.v (Value.int IntKind.i64 0)) = (SV.v (Value.int IntKind.i64 0))) ∧ (((SV.v (Value.bool false)) = (SV.v (Value.bool false))) ∧ (((SV.v (Value.int IntKind.i64 0)) = (SV.v (Value.int IntKind.i64 0))) ∧ (((SV.v (Value.bool false)) = (SV.v (Value.bool false))) ∧ (((SV.v (Value.int IntKind.i64 0)) = (SV.v (Value.int IntKind.i64 0))) ∧ (((SV.v (Value.bool false)) = (SV.v (Value.bool false))) ∧ (((SV.v (Value.int IntKind.i64 0)) = (SV.v (Value.int IntKind.i64 0))) ∧ (((SV.v (Value.bool false)) = (SV.v (Value.bool false))) ∧ (((SV.v (Value.int IntKind.i64 0)) = (SV.v (Value.int IntKind.i64 0))) ∧ (((SV.v (Value.bool false)) = (SV.v (Value.bool false))) ∧ (((SV.v (Value.int IntKind.i64 0)) = (SV.v (Value.int IntKind.i64 0))) ∧ (((SV.v (Value.bool false)) = (SV.v (Value.bool false))) ∧ (((SV.v (Value.int IntKind.i64 0)) = (SV.v (Value.int IntKind.i64 0))) ∧ (((SV.v (Value.bool false)) = (SV.v (Value.bool false))) ∧ (((SV.v (Value.int IntKind.i64 0)) = (SV.v (Value.int IntKind.i64 0))) ∧ (((SV.v (Value.bool false)) = (SV.v (Value.bool false))) ∧ (((SV.v (Value.int IntKind.i64 0)) = (SV.v (Value.int IntKind.i64 0))) ∧ (((SV.v (Value.bool false)) = (SV.v (Value.bool false))) ∧ (((SV.v (Value.int IntKind.i64 0)) = (SV.v (Value.int IntKind.i64 0))) ∧ (((SV.v (Value.bool false)) = (SV.v (Value.bool false))) ∧ (((SV.v (Value.int IntKind.i64 0)) = (SV.v (Value.int IntKind.i64 0))) ∧ (((SV.v (Value.int IntKind.i64 0)) = (SV.v (Value.int IntKind.i64 0))) ∧ (((SV.v (Value.int IntKind.i64 0)) = (SV.v (Value.int IntKind.i64 0))) ∧ (((SV.v (Value.int IntKind.i64 0)) = (SV.v (Value.int IntKind.i64 0))) ∧ (((SV.v (Value.int IntKind.i64 0)) = (SV.v (Value.int IntKind.i64 0))) ∧ (((SV.v (Value.int IntKind.i64 0)) = (SV.v (Value.int IntKind.i64 0))) ∧ (((SV.v (Value.int IntKind.i64 0)) = (SV.v (Value.int IntKind.i64 0))) ∧ (((SV.v (Value.int IntKind.i64 0)) = (SV.v (Value.int IntKind.i64 0))) ∧ ((SV.v (Value.int IntKind.i64 0)) = (SV.v (Value.int IntKind.i64 0))))))))))))))))))))))))))))))))))))))))))))) ∧ ((SV.v (Value.int IntKind.i64 4)) = (SV.v (Value.int IntKind.i64 4)))) ∧ True)) := by kernel_rfl
theorem bif_some2 {b : Bool} {α : Type _} {x : Option α} {y : α} (h : (bif b then x else none) = some y) : b = true ∧ x = some y := by
  cases b with
  | true => exact ⟨rfl, h⟩
  | false => cases h
theorem NeedS_spec : HpSpecS Try.prog 132 sNeedS stNeed := hp_specS hm noCtrs_ok Try.func132 (Λ := fun _ _ => noΛ) fun args bs e hs hp => by
  unfold sNeedS at hs
  split at hs
  · rename_i e0
    have he := Option.some.inj hs
    subst he
    refine ⟨[], trivial, ?_⟩
    show vcFnP _ _ _ _ _ _ _ (fun y h' => false = false ∧ _) (fun y h' => false = true ∧ _)
    rw [vcNd0]
    exact ⟨rfl, trivial, trivial⟩
  · rename_i e0
    have he := Option.some.inj hs
    subst he
    refine ⟨[], trivial, ?_⟩
    show vcFnP _ _ _ _ _ _ _ (fun y h' => true = false ∧ FinE [] (.det _ (pV e0) []) y h') (fun y h' => true = true ∧ FinE [] (.det _ (pV e0) []) y h')
    rw [vcNd1]
    exact ⟨rfl, rfl, trivial⟩
  · cases hs
theorem NeedP_spec : HpSpecS Try.prog 132 sNeedP (fun _ _ => true) := hp_specS hm noCtrs_ok Try.func132 (Λ := fun _ _ => noΛ) fun args bs e hs hp => by
  unfold sNeedP at hs
  split at hs
  · rename_i b e0
    have he := Option.some.inj hs
    subst he
    have hb : b = false := hp _ rfl
    subst hb
    refine ⟨[], trivial, ?_⟩
    rw [vcNd1]
    exact ⟨rfl, rfl, trivial⟩
  · cases hs
theorem ΓSP_ok : ∀ f g, ΓSP f = some g → g.ok Try.prog f := addCtr_ok noCtrs_ok (hp_okS Try.func132 (by kernel_rfl) (by kernel_rfl) NeedP_spec)
theorem ΓS0_ok : ∀ f g, ΓS0 f = some g → g.ok Try.prog f := addCtr_ok noCtrs_ok (hp_okS Try.func132 (by kernel_rfl) (by kernel_rfl) NeedS_spec)
def sTakeP (args : List SV) (bs : List Blk) : Option Eff := match args, bs with
  | [.vp 0 0, .v (.int .i64 n)], [B] => match B.row 0 with
    | [.v (.string s), .v (.int .i64 k)] => bif rdOk B then some (.det (some ((s.size : Int) - k < n ∧ (0 ≤ k ∧ k ≤ (s.size : Int)) ∧ (0 ≤ n ∧ n ≤ 8) ∧ s.size ≤ 1099511627776)) (pV 7) [(0, rdB s k)]) else none
    | _ => none
  | _, _ => none
theorem TakeP_spec : HpSpecS Try.prog 87 sTakeP (fun _ _ => true) := hp_specS hm ΓSP_ok Try.func87 (Λ := fun _ _ => noΛ) fun args bs e hs hp => by
  unfold sTakeP at hs
  split at hs <;> try (cases hs; done)
  rename_i n B
  split at hs <;> try (cases hs; done)
  rename_i s k hB
  obtain ⟨ha, he⟩ := bif_some hs
  subst he
  obtain ⟨h1, ⟨h2, h3⟩, ⟨h4, h5⟩, h6⟩ := hp _ rfl
  obtain ⟨n, rfl⟩ : ∃ m : Nat, n = (m : Int) := ⟨n.toNat, by omega⟩
  refine ⟨[rdB s k], ⟨rdOk_same ha hB, trivial⟩, ?_⟩
  rw [vcTk1]
  exact ⟨decide_eq_false (by rw [wrap_i64 ⟨by omega, by omega⟩]; omega), rfl, rfl, rfl, Nat.le_refl _, fun _ _ => rfl⟩
theorem TakeS_spec : HpSpecS Try.prog 87 sTakeS stTake := fun args bs e hs hp δ w vals a1 a2 a3 a4 => by
  have hs0 := hs
  unfold sTakeS at hs
  split at hs <;> try (cases hs; done)
  rename_i n B
  split at hs <;> try (cases hs; done)
  rename_i s k hB
  have hst : stTake [.vp 0 0, .v (.int .i64 n)] [B] = decide ((s.size : Int) - k < n) := by
    unfold stTake
    simp only [hB]
  rw [hst]
  obtain ⟨ha, hs⟩ := bif_some2 hs
  cases hd : decide ((s.size : Int) - k < n) with
  | true =>
    rw [hd] at hs
    have he := Option.some.inj hs
    subst he
    obtain ⟨h1, h2, h3⟩ := hp _ rfl
    have hlt := of_decide_eq_true hd
    exact TakeP_spec [.vp 0 0, .v (.int .i64 n)] [B] (.det (some ((s.size : Int) - k < n ∧ (0 ≤ k ∧ k ≤ (s.size : Int)) ∧ (0 ≤ n ∧ n ≤ 8) ∧ s.size ≤ 1099511627776)) (pV 7) [(0, rdB s k)]) (by simp only [sTakeP, hB, ha, cond_true]) (fun q hq => by cases hq; exact ⟨hlt, h1, h2, h3⟩) δ w vals a1 a2 a3 a4
  | false =>
    rw [hd] at hs
    have he := Option.some.inj hs
    subst he
    exact Take_spec [.vp 0 0, .v (.int .i64 n)] [B] (.det (some (rdQ s k n)) (.v (.int .u64 (rdT s k n.toNat))) [(0, rdB s (k + n))]) (by simp only [sRdG, fTake, hB, ha, cond_true]) hp δ w vals a1 a2 a3 a4
theorem ΓS1_ok : ∀ f g, ΓS1 f = some g → g.ok Try.prog f := addCtr_ok ΓS0_ok (hp_okS Try.func87 (by kernel_rfl) (by kernel_rfl) TakeS_spec)
theorem rdk_spec {Γ : Ctrs} (hΓ : ∀ f g, Γ f = some g → g.ok Try.prog f) {f : FuncId} {fn : Func} (hf : Try.prog.funcs[f]? = some fn) {a : List SV} {t : Nat → Nat → Option (ByteArray × Bool × SV × Int)}
    (h : ∀ (q : Option Prop) sz k s0 st x k', t sz k = some (s0, st, x, k') → vcFnP Try.prog Γ noΛ fn (.vp 0 0 :: a) (heapOf [rdB s0 (k : Int)]) 64 (fun y h' => st = false ∧ FinE [rdB s0 (k : Int)] (.det q x [(0, rdB s0 k')]) y h') (fun y h' => st = true ∧ FinE [rdB s0 (k : Int)] (.det q x [(0, rdB s0 k')]) y h')) :
    HpSpecS Try.prog f (sRdK a t) (stRdK t) := hp_specS hm hΓ hf (Λ := fun _ _ => noΛ) fun args bs e hs hp => by
  unfold sRdK at hs
  split at hs
  · rename_i rest B
    split at hs
    · rename_i s k hB
      split at hs
      · rename_i s0 st x k' ht
        obtain ⟨ha, he⟩ := bif_some hs
        subst he
        obtain ⟨h1, h2, h3⟩ := hp _ rfl
        have h1 : rest = a := by injection h1
        subst h1 h2
        obtain ⟨k, rfl⟩ : ∃ m : Nat, k = (m : Int) := ⟨k.toNat, by omega⟩
        rw [Int.toNat_natCast] at ht
        have hst : stRdK t (.vp 0 0 :: rest) [B] = st := by
          unfold stRdK
          simp only [hB, Int.toNat_natCast, ht]
        refine ⟨[rdB s k], ⟨rdOk_same ha hB, trivial⟩, ?_⟩
        rw [hst]
        exact h _ _ _ _ _ _ _ ht
      · cases hs
    · cases hs
  · cases hs
theorem UptoS_spec : HpSpecS Try.prog 133 (sRdK aUpto rtUpto) (stRdK rtUpto) := rdk_spec ΓS1_ok Try.func133 fun q sz k s0 st x k' hk => by
  unfold rtUpto at hk
  split at hk
  · obtain ⟨rfl, hk1⟩ := Prod.mk.inj (Option.some.inj hk)
    obtain ⟨rfl, hk2⟩ := Prod.mk.inj hk1
    obtain ⟨rfl, rfl⟩ := Prod.mk.inj hk2
    refine Eq.mpr (vcUpD1 q) ?_
    exact ⟨⟨⟨by omega, by omega⟩, ⟨by omega, by omega⟩, by omega⟩, rfl, rfl, rfl, Nat.le_refl _, fun _ _ => rfl⟩
  · obtain ⟨rfl, hk1⟩ := Prod.mk.inj (Option.some.inj hk)
    obtain ⟨rfl, hk2⟩ := Prod.mk.inj hk1
    obtain ⟨rfl, rfl⟩ := Prod.mk.inj hk2
    refine Eq.mpr (vcUpE1 q) ?_
    exact ⟨⟨⟨by omega, by omega⟩, ⟨by omega, by show _ ≤ ((6 : Nat) : Int); omega⟩, by show 6 ≤ 1099511627776; omega⟩, rfl, rfl, rfl, Nat.le_refl _, fun _ _ => rfl⟩
  · obtain ⟨rfl, hk1⟩ := Prod.mk.inj (Option.some.inj hk)
    obtain ⟨rfl, hk2⟩ := Prod.mk.inj hk1
    obtain ⟨rfl, rfl⟩ := Prod.mk.inj hk2
    refine Eq.mpr (vcUpG1 q) ?_
    exact ⟨⟨⟨by omega, by omega⟩, ⟨by omega, by show _ ≤ ((9 : Nat) : Int); omega⟩, by show 9 ≤ 1099511627776; omega⟩, rfl, rfl, rfl, Nat.le_refl _, fun _ _ => rfl⟩
  · obtain ⟨rfl, hk1⟩ := Prod.mk.inj (Option.some.inj hk)
    obtain ⟨rfl, hk2⟩ := Prod.mk.inj hk1
    obtain ⟨rfl, rfl⟩ := Prod.mk.inj hk2
    refine Eq.mpr (vcUpG5 q) ?_
    exact ⟨⟨⟨by omega, by omega⟩, ⟨by omega, by show _ ≤ ((9 : Nat) : Int); omega⟩, by show 9 ≤ 1099511627776; omega⟩, rfl, rfl, rfl, Nat.le_refl _, fun _ _ => rfl⟩
  · cases hk
theorem ΓS2_ok : ∀ f g, ΓS2 f = some g → g.ok Try.prog f := addCtr_ok noCtrs_ok (hp_okS Try.func133 (by kernel_rfl) (by kernel_rfl) UptoS_spec)
theorem CountS_spec : HpSpecS Try.prog 121 (sRdK [] rtUpto) (stRdK rtUpto) := rdk_spec ΓS2_ok Try.func121 fun q sz k s0 st x k' hk => by
  unfold rtUpto at hk
  split at hk
  · obtain ⟨rfl, hk1⟩ := Prod.mk.inj (Option.some.inj hk)
    obtain ⟨rfl, hk2⟩ := Prod.mk.inj hk1
    obtain ⟨rfl, rfl⟩ := Prod.mk.inj hk2
    refine Eq.mpr (vcCtD1 q) ?_
    exact ⟨⟨rfl, rfl, by omega⟩, rfl, rfl, rfl, Nat.le_refl _, fun _ _ => rfl⟩
  · obtain ⟨rfl, hk1⟩ := Prod.mk.inj (Option.some.inj hk)
    obtain ⟨rfl, hk2⟩ := Prod.mk.inj hk1
    obtain ⟨rfl, rfl⟩ := Prod.mk.inj hk2
    refine Eq.mpr (vcCtE1 q) ?_
    exact ⟨⟨rfl, rfl, by omega⟩, rfl, rfl, rfl, Nat.le_refl _, fun _ _ => rfl⟩
  · obtain ⟨rfl, hk1⟩ := Prod.mk.inj (Option.some.inj hk)
    obtain ⟨rfl, hk2⟩ := Prod.mk.inj hk1
    obtain ⟨rfl, rfl⟩ := Prod.mk.inj hk2
    refine Eq.mpr (vcCtG1 q) ?_
    exact ⟨⟨rfl, rfl, by omega⟩, rfl, rfl, rfl, Nat.le_refl _, fun _ _ => rfl⟩
  · obtain ⟨rfl, hk1⟩ := Prod.mk.inj (Option.some.inj hk)
    obtain ⟨rfl, hk2⟩ := Prod.mk.inj hk1
    obtain ⟨rfl, rfl⟩ := Prod.mk.inj hk2
    refine Eq.mpr (vcCtG5 q) ?_
    exact ⟨⟨rfl, rfl, by omega⟩, rfl, rfl, rfl, Nat.le_refl _, fun _ _ => rfl⟩
  · cases hk
theorem KindS_spec : HpSpecS Try.prog 120 (sRdK [iV 1] rtKind) (stRdK rtKind) := rdk_spec ΓS1_ok Try.func120 fun q sz k s0 st x k' hk => by
  unfold rtKind at hk
  split at hk
  · obtain ⟨rfl, hk1⟩ := Prod.mk.inj (Option.some.inj hk)
    obtain ⟨rfl, hk2⟩ := Prod.mk.inj hk1
    obtain ⟨rfl, rfl⟩ := Prod.mk.inj hk2
    refine Eq.mpr (vcKiD0 q) ?_
    exact ⟨⟨⟨by omega, by omega⟩, ⟨by omega, by show _ ≤ ((4 : Nat) : Int); omega⟩, by show 4 ≤ 1099511627776; omega⟩, rfl, rfl, rfl, Nat.le_refl _, fun _ _ => rfl⟩
  · obtain ⟨rfl, hk1⟩ := Prod.mk.inj (Option.some.inj hk)
    obtain ⟨rfl, hk2⟩ := Prod.mk.inj hk1
    obtain ⟨rfl, rfl⟩ := Prod.mk.inj hk2
    refine Eq.mpr (vcKiE0 q) ?_
    exact ⟨⟨⟨by omega, by omega⟩, ⟨by omega, by show _ ≤ ((6 : Nat) : Int); omega⟩, by show 6 ≤ 1099511627776; omega⟩, rfl, rfl, rfl, Nat.le_refl _, fun _ _ => rfl⟩
  · obtain ⟨rfl, hk1⟩ := Prod.mk.inj (Option.some.inj hk)
    obtain ⟨rfl, hk2⟩ := Prod.mk.inj hk1
    obtain ⟨rfl, rfl⟩ := Prod.mk.inj hk2
    refine Eq.mpr (vcKiF0 q) ?_
    exact ⟨⟨⟨by omega, by omega⟩, ⟨by omega, by show _ ≤ ((1 : Nat) : Int); omega⟩, by show 1 ≤ 1099511627776; omega⟩, rfl, rfl, rfl, Nat.le_refl _, fun _ _ => rfl⟩
  · obtain ⟨rfl, hk1⟩ := Prod.mk.inj (Option.some.inj hk)
    obtain ⟨rfl, hk2⟩ := Prod.mk.inj hk1
    obtain ⟨rfl, rfl⟩ := Prod.mk.inj hk2
    refine Eq.mpr (vcKiG0 q) ?_
    exact ⟨⟨⟨by omega, by omega⟩, ⟨by omega, by show _ ≤ ((9 : Nat) : Int); omega⟩, by show 9 ≤ 1099511627776; omega⟩, rfl, rfl, rfl, Nat.le_refl _, fun _ _ => rfl⟩
  · cases hk
theorem EndS_spec : HpSpecS Try.prog 131 (sRdK [] rtEnd) (stRdK rtEnd) := rdk_spec ΓS0_ok Try.func131 fun q sz k s0 st x k' hk => by
  unfold rtEnd at hk
  split at hk
  · obtain ⟨rfl, hk1⟩ := Prod.mk.inj (Option.some.inj hk)
    obtain ⟨rfl, hk2⟩ := Prod.mk.inj hk1
    obtain ⟨rfl, rfl⟩ := Prod.mk.inj hk2
    refine Eq.mpr (vcEnE5 q) ?_
    exact ⟨rfl, rfl, rfl, Nat.le_refl _, fun _ _ => rfl⟩
  · cases hk
theorem ΓS3_ok : ∀ f g, ΓS3 f = some g → g.ok Try.prog f := addCtr_ok (addCtr_ok (addCtr_ok noCtrs_ok (hp_okS Try.func120 (by kernel_rfl) (by kernel_rfl) KindS_spec)) (hp_okS Try.func121 (by kernel_rfl) (by kernel_rfl) CountS_spec)) (hp_okS Try.func131 (by kernel_rfl) (by kernel_rfl) EndS_spec)
theorem CallS_spec : HpSpecS Try.prog 85 (sRdK [] rtCall) (stRdK rtCall) := rdk_spec ΓS3_ok Try.func85 fun q sz k s0 st x k' hk => by
  unfold rtCall at hk
  split at hk
  · obtain ⟨rfl, hk1⟩ := Prod.mk.inj (Option.some.inj hk)
    obtain ⟨rfl, hk2⟩ := Prod.mk.inj hk1
    obtain ⟨rfl, rfl⟩ := Prod.mk.inj hk2
    refine Eq.mpr (vcCaD0 q) ?_
    exact ⟨⟨rfl, rfl, by omega⟩, ⟨rfl, rfl, by omega⟩, rfl, rfl, rfl, Nat.le_refl _, fun _ _ => rfl⟩
  · obtain ⟨rfl, hk1⟩ := Prod.mk.inj (Option.some.inj hk)
    obtain ⟨rfl, hk2⟩ := Prod.mk.inj hk1
    obtain ⟨rfl, rfl⟩ := Prod.mk.inj hk2
    refine Eq.mpr (vcCaE0 q) ?_
    exact ⟨⟨rfl, rfl, by omega⟩, ⟨rfl, rfl, by omega⟩, ⟨rfl, rfl, by omega⟩, rfl, rfl, rfl, Nat.le_refl _, fun _ _ => rfl⟩
  · obtain ⟨rfl, hk1⟩ := Prod.mk.inj (Option.some.inj hk)
    obtain ⟨rfl, hk2⟩ := Prod.mk.inj hk1
    obtain ⟨rfl, rfl⟩ := Prod.mk.inj hk2
    refine Eq.mpr (vcCaF0 q) ?_
    exact ⟨⟨rfl, rfl, by omega⟩, rfl, rfl, rfl, Nat.le_refl _, fun _ _ => rfl⟩
  · obtain ⟨rfl, hk1⟩ := Prod.mk.inj (Option.some.inj hk)
    obtain ⟨rfl, hk2⟩ := Prod.mk.inj hk1
    obtain ⟨rfl, rfl⟩ := Prod.mk.inj hk2
    refine Eq.mpr (vcCaG0 q) ?_
    exact ⟨⟨rfl, rfl, by omega⟩, ⟨rfl, rfl, by omega⟩, ⟨rfl, rfl, by omega⟩, rfl, rfl, rfl, Nat.le_refl _, fun _ _ => rfl⟩
  · cases hk
theorem ΓS4_ok : ∀ f g, ΓS4 f = some g → g.ok Try.prog f := addCtr_ok noCtrs_ok (hp_okS Try.func85 (by kernel_rfl) (by kernel_rfl) CallS_spec)
theorem hRcD (q : Option Prop) : vcFnD Try.prog ΓS4 noΛ Try.f38 Try.f84 (dA Try.f38) (dB Try.f38) (dC Try.f84) 3 5 [.v (.string ksD)] (heapOf []) 64 (fun y h' => FinE [] (.det q (.tup [callC 0 0 0, iV 7]) []) y h') := by
  rw [vcRcD]
  refine ⟨⟨rfl, rfl, by omega⟩, ⟨?_, rfl⟩, trivial⟩
  repeat (first | exact rfl | refine ⟨rfl, ?_⟩)
theorem hRcE (q : Option Prop) : vcFnD Try.prog ΓS4 noΛ Try.f38 Try.f84 (dA Try.f38) (dB Try.f38) (dC Try.f84) 3 5 [.v (.string ksE)] (heapOf []) 64 (fun y h' => FinE [] (.det q (.tup [callC 0 0 0, iV 6]) []) y h') := by
  rw [vcRcE]
  refine ⟨⟨rfl, rfl, by omega⟩, ⟨?_, rfl⟩, trivial⟩
  repeat (first | exact rfl | refine ⟨rfl, ?_⟩)
theorem hRcF (q : Option Prop) : vcFnD Try.prog ΓS4 noΛ Try.f38 Try.f84 (dA Try.f38) (dB Try.f38) (dC Try.f84) 3 5 [.v (.string ksF)] (heapOf []) 64 (fun y h' => FinE [] (.det q (.tup [callC 0 0 0, iV 8]) []) y h') := by
  rw [vcRcF]
  refine ⟨⟨rfl, rfl, by omega⟩, ⟨?_, rfl⟩, trivial⟩
  repeat (first | exact rfl | refine ⟨rfl, ?_⟩)
theorem hRcG (q : Option Prop) : vcFnD Try.prog ΓS4 noΛ Try.f38 Try.f84 (dA Try.f38) (dB Try.f38) (dC Try.f84) 3 5 [.v (.string ksG)] (heapOf []) 64 (fun y h' => FinE [] (.det q (.tup [callC 0 0 0, iV 4]) []) y h') := by
  rw [vcRcG]
  refine ⟨⟨rfl, rfl, by omega⟩, ⟨?_, rfl⟩, trivial⟩
  repeat (first | exact rfl | refine ⟨rfl, ?_⟩)
/-- The string, and its error. -/
def tRc : Nat → Option (ByteArray × Int)
  | 4 => some (ksD, 7)
  | 6 => some (ksE, 6)
  | 1 => some (ksF, 8)
  | 9 => some (ksG, 4)
  | _ => none
def sReadT (args : List SV) (bs : List Blk) : Option Eff := match args, bs with
  | [.v (.string s)], [] => match tRc s.size with
    | some (s0, e) => some (.det (some (s = s0)) (.tup [callC 0 0 0, iV e]) [])
    | none => none
  | _, _ => none
theorem ReadT_spec : HpSpec Try.prog 38 sReadT := hp_spec_of fun args bs e hs hp => by
  unfold sReadT at hs
  split at hs
  · rename_i s
    split at hs
    · rename_i s0 e0 ht
      have he := Option.some.inj hs
      subst he
      have hx : s = s0 := hp _ rfl
      subst hx
      obtain ⟨o, rid, b1, b2, b3, b4⟩ := defer38
      obtain ⟨o2, rid2, d1, d2, d3, d4⟩ := caught84
      refine ⟨[], trivial, fun δ w vals ha hr ht' => fn_callsD hm ΓS4_ok Try.func38 Try.func84 b1 b4 b2 b3 (by kernel_rfl) d1 d4 d2 d3 rfl (by kernel_rfl) (by kernel_rfl) ha hr ht' (Λ := noΛ) (nx := 64) ?_⟩
      unfold tRc at ht
      split at ht
      · obtain ⟨rfl, rfl⟩ := Prod.mk.inj (Option.some.inj ht)
        exact hRcD _
      · obtain ⟨rfl, rfl⟩ := Prod.mk.inj (Option.some.inj ht)
        exact hRcE _
      · obtain ⟨rfl, rfl⟩ := Prod.mk.inj (Option.some.inj ht)
        exact hRcF _
      · obtain ⟨rfl, rfl⟩ := Prod.mk.inj (Option.some.inj ht)
        exact hRcG _
      · cases ht
    · cases hs
  · cases hs
end Go.Proofs.Ytjdldadmaaeimaa
