/-
  FixedOps, FixedScale, FixedMonotone, FixedOrder: what the functions of the laws reckon.
-/
import Derived.Test.YtnnmfonapfhcaaaFyB
set_option maxRecDepth 100000
namespace Go.Proofs.Ytnnmfonapfhcaaa
open Go.SE Go.RowKit

def sOpsLaw : List SV → Option (Option Prop × SV)
  | [.agg [.v (.int .i64 a), .v (.bool _)], .agg [.v (.int .i64 b), .v (.bool _)], .v (.int .i64 v), .v (.int .i64 w)] => some (some ((I64 a ∧ I64 b) ∧ I64 v ∧ I64 w), .v (.bool true))
  | _ => none
def sTwoLaw : List SV → Option (Option Prop × SV)
  | [.agg [.v (.int .i64 a), .v (.bool _)], .agg [.v (.int .i64 b), .v (.bool _)]] => some (some (I64 a ∧ I64 b), .v (.bool true))
  | _ => none
def sThreeLaw : List SV → Option (Option Prop × SV)
  | [.agg [.v (.int .i64 a), .v (.bool _)], .agg [.v (.int .i64 b), .v (.bool _)], .agg [.v (.int .i64 c), .v (.bool _)]] => some (some (I64 a ∧ I64 b ∧ I64 c), .v (.bool true))
  | _ => none
theorem vcOpsLaw (a : Int) (f : Bool) (b : Int) (g : Bool) (v w : Int) (R : SV → Prop) : (vcPure Try.prog ΓL noΛ Try.f7 [numS a f, numS b g, .v (.int .i64 v), .v (.int .i64 w)] R) =

(sel (!(sndV v == sndV v && sndF v false == sndF v false)) (R (SV.v (Value.bool false))) ((I64 v) ∧ ((I64 v) ∧ 
(sel (!(fitE (v * 4294967296) == fitE (v * 4294967296) && fitG (v * 4294967296) false == fitG (v * 4294967296) false)) (R (SV.v (Value.bool false))) (((I64 v) ∧ (I64 w)) ∧ (((I64 v) ∧ (I64 w)) ∧ 
(sel (!(ratV v w == ratV v w && ratF v w == ratF v w)) (R (SV.v (Value.bool false))) ((I64 a) ∧ ((I64 a) ∧ 
(sel (!(-sndV a == -sndV a && sndF a f == sndF a f)) (R (SV.v (Value.bool false))) ((I64 a) ∧ ((I64 a) ∧ 
(sel (!(iabs (sndV a) == iabs (sndV a) && sndF a f == sndF a f)) (R (SV.v (Value.bool false))) (((I64 a) ∧ (I64 b)) ∧ (((I64 a) ∧ (I64 b)) ∧ 
(sel (fitE (sndV a + sndV b) == fitE (sndV a + sndV b) && fitG (sndV a + sndV b) (sndF a f || sndF b g) == fitG (sndV a + sndV b) (sndF a f || sndF b g)) (((I64 a) ∧ (I64 b)) ∧ (((I64 a) ∧ (I64 b)) ∧ 
(sel (fitE (sndV a - sndV b) == fitE (sndV a - sndV b) && fitG (sndV a - sndV b) (sndF a f || sndF b g) == fitG (sndV a - sndV b) (sndF a f || sndF b g)) (((I64 a) ∧ (I64 b)) ∧ (((I64 a) ∧ (I64 b)) ∧ 
(sel (fitE (mulE (sndV a) (sndV b)) == fitE (mulE (sndV a) (sndV b)) && fitG (mulE (sndV a) (sndV b)) (sndF a f || sndF b g) == fitG (mulE (sndV a) (sndV b)) (sndF a f || sndF b g)) (((I64 a) ∧ (I64 b)) ∧ (((I64 a) ∧ (I64 b)) ∧ 
(sel (ratV (sndV a) (sndV b) == ratV (sndV a) (sndV b) && (ratF (sndV a) (sndV b) || (sndF a f || sndF b g)) == (ratF (sndV a) (sndV b) || (sndF a f || sndF b g))) (R (SV.v (Value.bool true))) (R (SV.v (Value.bool false)))))) (R (SV.v (Value.bool false)))))) (R (SV.v (Value.bool false)))))) (R (SV.v (Value.bool false))))))))))))))))))) := by kernel_rfl
theorem vcScaleLaw (a : Int) (f : Bool) (b : Int) (g : Bool) (R : SV → Prop) : (vcPure Try.prog ΓL noΛ Try.f6 [numS a f, numS b g] R) =
((I64 1) ∧ 
(sel (!f) 
(sel (a != -9223372036854775808) (((I64 a) ∧ (I64 4294967296)) ∧ 
(sel (!(fitE (mulE (sndV a) 4294967296) == a && fitG (mulE (sndV a) 4294967296) (sndF a f || false) == f)) (R (SV.v (Value.bool false))) (((I64 a) ∧ (I64 b)) ∧ (((I64 (fitE (mulE (sndV a) (sndV b)))) ∧ (I64 b)) ∧ 
(sel (ratF (sndV (fitE (mulE (sndV a) (sndV b)))) (sndV b) || (sndF (fitE (mulE (sndV a) (sndV b))) (fitG (mulE (sndV a) (sndV b)) (sndF a f || sndF b g)) || sndF b g)) (R (SV.v (Value.bool true))) ((I64 b) ∧ 
(sel (decide (cmpI (sndV (iabs (sndV b))) 4294967296 < 0)) (R (SV.v (Value.bool true))) (((I64 (ratV (sndV (fitE (mulE (sndV a) (sndV b)))) (sndV b))) ∧ (I64 a)) ∧ ((I64 (fitE (sndV (ratV (sndV (fitE (mulE (sndV a) (sndV b)))) (sndV b)) - sndV a))) ∧ 
(sel (decide (cmpI (sndV (iabs (sndV (fitE (sndV (ratV (sndV (fitE (mulE (sndV a) (sndV b)))) (sndV b)) - sndV a))))) 1 ≤ 0)) (R (SV.v (Value.bool true))) (R (SV.v (Value.bool false))))))))))))) (((I64 a) ∧ (I64 b)) ∧ (((I64 (fitE (mulE (sndV a) (sndV b)))) ∧ (I64 b)) ∧ 
(sel (ratF (sndV (fitE (mulE (sndV a) (sndV b)))) (sndV b) || (sndF (fitE (mulE (sndV a) (sndV b))) (fitG (mulE (sndV a) (sndV b)) (sndF a f || sndF b g)) || sndF b g)) (R (SV.v (Value.bool true))) ((I64 b) ∧ 
(sel (decide (cmpI (sndV (iabs (sndV b))) 4294967296 < 0)) (R (SV.v (Value.bool true))) (((I64 (ratV (sndV (fitE (mulE (sndV a) (sndV b)))) (sndV b))) ∧ (I64 a)) ∧ ((I64 (fitE (sndV (ratV (sndV (fitE (mulE (sndV a) (sndV b)))) (sndV b)) - sndV a))) ∧ 
(sel (decide (cmpI (sndV (iabs (sndV (fitE (sndV (ratV (sndV (fitE (mulE (sndV a) (sndV b)))) (sndV b)) - sndV a))))) 1 ≤ 0)) (R (SV.v (Value.bool true))) (R (SV.v (Value.bool false)))))))))))) (((I64 a) ∧ (I64 b)) ∧ (((I64 (fitE (mulE (sndV a) (sndV b)))) ∧ (I64 b)) ∧ 
(sel (ratF (sndV (fitE (mulE (sndV a) (sndV b)))) (sndV b) || (sndF (fitE (mulE (sndV a) (sndV b))) (fitG (mulE (sndV a) (sndV b)) (sndF a f || sndF b g)) || sndF b g)) (R (SV.v (Value.bool true))) ((I64 b) ∧ 
(sel (decide (cmpI (sndV (iabs (sndV b))) 4294967296 < 0)) (R (SV.v (Value.bool true))) (((I64 (ratV (sndV (fitE (mulE (sndV a) (sndV b)))) (sndV b))) ∧ (I64 a)) ∧ ((I64 (fitE (sndV (ratV (sndV (fitE (mulE (sndV a) (sndV b)))) (sndV b)) - sndV a))) ∧ 
(sel (decide (cmpI (sndV (iabs (sndV (fitE (sndV (ratV (sndV (fitE (mulE (sndV a) (sndV b)))) (sndV b)) - sndV a))))) 1 ≤ 0)) (R (SV.v (Value.bool true))) (R (SV.v (Value.bool false))))))))))))) := by kernel_rfl
theorem vcMonoLaw (a : Int) (f : Bool) (b : Int) (g : Bool) (c : Int) (h : Bool) (R : SV → Prop) : (vcPure Try.prog ΓL noΛ Try.f4 [numS a f, numS b g, numS c h] R) =

(sel (decide (cmpI (sndV a) (sndV b) ≤ 0)) (((I64 a) ∧ (I64 c)) ∧ (((I64 b) ∧ (I64 c)) ∧ 
(sel (decide (cmpI (sndV (fitE (sndV a + sndV c))) (sndV (fitE (sndV b + sndV c))) > 0)) (R (SV.v (Value.bool false))) 
(sel (decide (sndV a / 4294967296 < -2147483648)) (R (SV.v (Value.bool false))) 
(sel (decide (sndV a / 4294967296 ≥ 2147483648)) (R (SV.v (Value.bool false))) ((I64 a) ∧ ((((I64 (sndV a / 4294967296)) ∧ (I64 4294967296)) ∧ ((I64 (iabs (sndV a))) ∧ (I64 1))) ∧ 
(sel (decide (cmpI (sndV a / 4294967296 * 4294967296) (iabs (sndV a) * 1) > 0)) 
(sel (decide (a ≥ 0)) (R (SV.v (Value.bool false))) 
(sel (a == -9223372036854775808) ((I64 a) ∧ 
(sel (sndV a / 4294967296 == IntKind.wrap IntKind.i64 (a + 1) / 4294967296) 
(sel (IntKind.wrap IntKind.i64 ((sndV a + 2147483648) / 4294967296 - sndV a / 4294967296) == 0) 
(sel ((IntKind.wrap IntKind.i64 ((sndV a + 2147483648) / 4294967296 - sndV a / 4294967296) == 1) == decide (IntKind.wrap IntKind.i64 (IntKind.wrap IntKind.i64 (a + 1) - IntKind.wrap IntKind.i64 (sndV a / 4294967296 * 4294967296)) ≥ 2147483648)) (R (SV.v (Value.bool true))) (R (SV.v (Value.bool false)))) 
(sel (IntKind.wrap IntKind.i64 ((sndV a + 2147483648) / 4294967296 - sndV a / 4294967296) == 1) 
(sel ((IntKind.wrap IntKind.i64 ((sndV a + 2147483648) / 4294967296 - sndV a / 4294967296) == 1) == decide (IntKind.wrap IntKind.i64 (IntKind.wrap IntKind.i64 (a + 1) - IntKind.wrap IntKind.i64 (sndV a / 4294967296 * 4294967296)) ≥ 2147483648)) (R (SV.v (Value.bool true))) (R (SV.v (Value.bool false)))) (R (SV.v (Value.bool false))))) (R (SV.v (Value.bool false))))) ((I64 a) ∧ 
(sel (sndV a / 4294967296 == a / 4294967296) 
(sel (IntKind.wrap IntKind.i64 ((sndV a + 2147483648) / 4294967296 - sndV a / 4294967296) == 0) 
(sel ((IntKind.wrap IntKind.i64 ((sndV a + 2147483648) / 4294967296 - sndV a / 4294967296) == 1) == decide (IntKind.wrap IntKind.i64 (a - IntKind.wrap IntKind.i64 (sndV a / 4294967296 * 4294967296)) ≥ 2147483648)) (R (SV.v (Value.bool true))) (R (SV.v (Value.bool false)))) 
(sel (IntKind.wrap IntKind.i64 ((sndV a + 2147483648) / 4294967296 - sndV a / 4294967296) == 1) 
(sel ((IntKind.wrap IntKind.i64 ((sndV a + 2147483648) / 4294967296 - sndV a / 4294967296) == 1) == decide (IntKind.wrap IntKind.i64 (a - IntKind.wrap IntKind.i64 (sndV a / 4294967296 * 4294967296)) ≥ 2147483648)) (R (SV.v (Value.bool true))) (R (SV.v (Value.bool false)))) (R (SV.v (Value.bool false))))) (R (SV.v (Value.bool false))))))) 
(sel (a == -9223372036854775808) ((I64 a) ∧ 
(sel (sndV a / 4294967296 == IntKind.wrap IntKind.i64 (a + 1) / 4294967296) 
(sel (IntKind.wrap IntKind.i64 ((sndV a + 2147483648) / 4294967296 - sndV a / 4294967296) == 0) 
(sel ((IntKind.wrap IntKind.i64 ((sndV a + 2147483648) / 4294967296 - sndV a / 4294967296) == 1) == decide (IntKind.wrap IntKind.i64 (IntKind.wrap IntKind.i64 (a + 1) - IntKind.wrap IntKind.i64 (sndV a / 4294967296 * 4294967296)) ≥ 2147483648)) (R (SV.v (Value.bool true))) (R (SV.v (Value.bool false)))) 
(sel (IntKind.wrap IntKind.i64 ((sndV a + 2147483648) / 4294967296 - sndV a / 4294967296) == 1) 
(sel ((IntKind.wrap IntKind.i64 ((sndV a + 2147483648) / 4294967296 - sndV a / 4294967296) == 1) == decide (IntKind.wrap IntKind.i64 (IntKind.wrap IntKind.i64 (a + 1) - IntKind.wrap IntKind.i64 (sndV a / 4294967296 * 4294967296)) ≥ 2147483648)) (R (SV.v (Value.bool true))) (R (SV.v (Value.bool false)))) (R (SV.v (Value.bool false))))) (R (SV.v (Value.bool false))))) ((I64 a) ∧ 
(sel (sndV a / 4294967296 == a / 4294967296) 
(sel (IntKind.wrap IntKind.i64 ((sndV a + 2147483648) / 4294967296 - sndV a / 4294967296) == 0) 
(sel ((IntKind.wrap IntKind.i64 ((sndV a + 2147483648) / 4294967296 - sndV a / 4294967296) == 1) == decide (IntKind.wrap IntKind.i64 (a - IntKind.wrap IntKind.i64 (sndV a / 4294967296 * 4294967296)) ≥ 2147483648)) (R (SV.v (Value.bool true))) (R (SV.v (Value.bool false)))) 
(sel (IntKind.wrap IntKind.i64 ((sndV a + 2147483648) / 4294967296 - sndV a / 4294967296) == 1) 
(sel ((IntKind.wrap IntKind.i64 ((sndV a + 2147483648) / 4294967296 - sndV a / 4294967296) == 1) == decide (IntKind.wrap IntKind.i64 (a - IntKind.wrap IntKind.i64 (sndV a / 4294967296 * 4294967296)) ≥ 2147483648)) (R (SV.v (Value.bool true))) (R (SV.v (Value.bool false)))) (R (SV.v (Value.bool false))))) (R (SV.v (Value.bool false)))))))))))))) 
(sel (decide (sndV a / 4294967296 < -2147483648)) (R (SV.v (Value.bool false))) 
(sel (decide (sndV a / 4294967296 ≥ 2147483648)) (R (SV.v (Value.bool false))) ((I64 a) ∧ ((((I64 (sndV a / 4294967296)) ∧ (I64 4294967296)) ∧ ((I64 (iabs (sndV a))) ∧ (I64 1))) ∧ 
(sel (decide (cmpI (sndV a / 4294967296 * 4294967296) (iabs (sndV a) * 1) > 0)) 
(sel (decide (a ≥ 0)) (R (SV.v (Value.bool false))) 
(sel (a == -9223372036854775808) ((I64 a) ∧ 
(sel (sndV a / 4294967296 == IntKind.wrap IntKind.i64 (a + 1) / 4294967296) 
(sel (IntKind.wrap IntKind.i64 ((sndV a + 2147483648) / 4294967296 - sndV a / 4294967296) == 0) 
(sel ((IntKind.wrap IntKind.i64 ((sndV a + 2147483648) / 4294967296 - sndV a / 4294967296) == 1) == decide (IntKind.wrap IntKind.i64 (IntKind.wrap IntKind.i64 (a + 1) - IntKind.wrap IntKind.i64 (sndV a / 4294967296 * 4294967296)) ≥ 2147483648)) (R (SV.v (Value.bool true))) (R (SV.v (Value.bool false)))) 
(sel (IntKind.wrap IntKind.i64 ((sndV a + 2147483648) / 4294967296 - sndV a / 4294967296) == 1) 
(sel ((IntKind.wrap IntKind.i64 ((sndV a + 2147483648) / 4294967296 - sndV a / 4294967296) == 1) == decide (IntKind.wrap IntKind.i64 (IntKind.wrap IntKind.i64 (a + 1) - IntKind.wrap IntKind.i64 (sndV a / 4294967296 * 4294967296)) ≥ 2147483648)) (R (SV.v (Value.bool true))) (R (SV.v (Value.bool false)))) (R (SV.v (Value.bool false))))) (R (SV.v (Value.bool false))))) ((I64 a) ∧ 
(sel (sndV a / 4294967296 == a / 4294967296) 
(sel (IntKind.wrap IntKind.i64 ((sndV a + 2147483648) / 4294967296 - sndV a / 4294967296) == 0) 
(sel ((IntKind.wrap IntKind.i64 ((sndV a + 2147483648) / 4294967296 - sndV a / 4294967296) == 1) == decide (IntKind.wrap IntKind.i64 (a - IntKind.wrap IntKind.i64 (sndV a / 4294967296 * 4294967296)) ≥ 2147483648)) (R (SV.v (Value.bool true))) (R (SV.v (Value.bool false)))) 
(sel (IntKind.wrap IntKind.i64 ((sndV a + 2147483648) / 4294967296 - sndV a / 4294967296) == 1) 
(sel ((IntKind.wrap IntKind.i64 ((sndV a + 2147483648) / 4294967296 - sndV a / 4294967296) == 1) == decide (IntKind.wrap IntKind.i64 (a - IntKind.wrap IntKind.i64 (sndV a / 4294967296 * 4294967296)) ≥ 2147483648)) (R (SV.v (Value.bool true))) (R (SV.v (Value.bool false)))) (R (SV.v (Value.bool false))))) (R (SV.v (Value.bool false))))))) 
(sel (a == -9223372036854775808) ((I64 a) ∧ 
(sel (sndV a / 4294967296 == IntKind.wrap IntKind.i64 (a + 1) / 4294967296) 
(sel (IntKind.wrap IntKind.i64 ((sndV a + 2147483648) / 4294967296 - sndV a / 4294967296) == 0) 
(sel ((IntKind.wrap IntKind.i64 ((sndV a + 2147483648) / 4294967296 - sndV a / 4294967296) == 1) == decide (IntKind.wrap IntKind.i64 (IntKind.wrap IntKind.i64 (a + 1) - IntKind.wrap IntKind.i64 (sndV a / 4294967296 * 4294967296)) ≥ 2147483648)) (R (SV.v (Value.bool true))) (R (SV.v (Value.bool false)))) 
(sel (IntKind.wrap IntKind.i64 ((sndV a + 2147483648) / 4294967296 - sndV a / 4294967296) == 1) 
(sel ((IntKind.wrap IntKind.i64 ((sndV a + 2147483648) / 4294967296 - sndV a / 4294967296) == 1) == decide (IntKind.wrap IntKind.i64 (IntKind.wrap IntKind.i64 (a + 1) - IntKind.wrap IntKind.i64 (sndV a / 4294967296 * 4294967296)) ≥ 2147483648)) (R (SV.v (Value.bool true))) (R (SV.v (Value.bool false)))) (R (SV.v (Value.bool false))))) (R (SV.v (Value.bool false))))) ((I64 a) ∧ 
(sel (sndV a / 4294967296 == a / 4294967296) 
(sel (IntKind.wrap IntKind.i64 ((sndV a + 2147483648) / 4294967296 - sndV a / 4294967296) == 0) 
(sel ((IntKind.wrap IntKind.i64 ((sndV a + 2147483648) / 4294967296 - sndV a / 4294967296) == 1) == decide (IntKind.wrap IntKind.i64 (a - IntKind.wrap IntKind.i64 (sndV a / 4294967296 * 4294967296)) ≥ 2147483648)) (R (SV.v (Value.bool true))) (R (SV.v (Value.bool false)))) 
(sel (IntKind.wrap IntKind.i64 ((sndV a + 2147483648) / 4294967296 - sndV a / 4294967296) == 1) 
(sel ((IntKind.wrap IntKind.i64 ((sndV a + 2147483648) / 4294967296 - sndV a / 4294967296) == 1) == decide (IntKind.wrap IntKind.i64 (a - IntKind.wrap IntKind.i64 (sndV a / 4294967296 * 4294967296)) ≥ 2147483648)) (R (SV.v (Value.bool true))) (R (SV.v (Value.bool false)))) (R (SV.v (Value.bool false))))) (R (SV.v (Value.bool false)))))))))))) := by kernel_rfl
theorem vcOrderLaw (a : Int) (f : Bool) (b : Int) (g : Bool) (c : Int) (h : Bool) (R : SV → Prop) : (vcPure Try.prog ΓL noΛ Try.f9 [numS a f, numS b g, numS c h] R) =
(((I64 a) ∧ (I64 b)) ∧ (((I64 b) ∧ (I64 a)) ∧ 
(sel (!(fitE (sndV a + sndV b) == fitE (sndV b + sndV a) && fitG (sndV a + sndV b) (sndF a f || sndF b g) == fitG (sndV b + sndV a) (sndF b g || sndF a f))) (R (SV.v (Value.bool false))) (((I64 a) ∧ (I64 b)) ∧ (((I64 b) ∧ (I64 a)) ∧ 
(sel (!(fitE (mulE (sndV a) (sndV b)) == fitE (mulE (sndV b) (sndV a)) && fitG (mulE (sndV a) (sndV b)) (sndF a f || sndF b g) == fitG (mulE (sndV b) (sndV a)) (sndF b g || sndF a f))) (R (SV.v (Value.bool false))) ((((isNI [SV.v (Value.int IntKind.i64 a), SV.v (Value.bool f)]) ∧ ((isNI [SV.v (Value.int IntKind.i64 b), SV.v (Value.bool g)]) ∧ ((isNI [SV.v (Value.int IntKind.i64 c), SV.v (Value.bool h)]) ∧ True))) ∧ (((3 : Nat) = 3) ∧ ((3 : Nat) < 1099511627776))) ∧ ((((isNI [SV.v (Value.int IntKind.i64 c), SV.v (Value.bool h)]) ∧ ((isNI [SV.v (Value.int IntKind.i64 a), SV.v (Value.bool f)]) ∧ ((isNI [SV.v (Value.int IntKind.i64 b), SV.v (Value.bool g)]) ∧ True))) ∧ (((3 : Nat) = 3) ∧ ((3 : Nat) < 1099511627776))) ∧ 
(sel (!(fitE (sumG [[SV.v (Value.int IntKind.i64 a), SV.v (Value.bool f)], [SV.v (Value.int IntKind.i64 b), SV.v (Value.bool g)], [SV.v (Value.int IntKind.i64 c), SV.v (Value.bool h)]]) == fitE (sumG [[SV.v (Value.int IntKind.i64 c), SV.v (Value.bool h)], [SV.v (Value.int IntKind.i64 a), SV.v (Value.bool f)], [SV.v (Value.int IntKind.i64 b), SV.v (Value.bool g)]]) && fitG (sumG [[SV.v (Value.int IntKind.i64 a), SV.v (Value.bool f)], [SV.v (Value.int IntKind.i64 b), SV.v (Value.bool g)], [SV.v (Value.int IntKind.i64 c), SV.v (Value.bool h)]]) (anyG [[SV.v (Value.int IntKind.i64 a), SV.v (Value.bool f)], [SV.v (Value.int IntKind.i64 b), SV.v (Value.bool g)], [SV.v (Value.int IntKind.i64 c), SV.v (Value.bool h)]]) == fitG (sumG [[SV.v (Value.int IntKind.i64 c), SV.v (Value.bool h)], [SV.v (Value.int IntKind.i64 a), SV.v (Value.bool f)], [SV.v (Value.int IntKind.i64 b), SV.v (Value.bool g)]]) (anyG [[SV.v (Value.int IntKind.i64 c), SV.v (Value.bool h)], [SV.v (Value.int IntKind.i64 a), SV.v (Value.bool f)], [SV.v (Value.int IntKind.i64 b), SV.v (Value.bool g)]]))) (R (SV.v (Value.bool false))) ((((isN [SV.v (Value.int IntKind.i64 a), SV.v (Value.bool f)]) ∧ ((isN [SV.v (Value.int IntKind.i64 b), SV.v (Value.bool g)]) ∧ ((isN [SV.v (Value.int IntKind.i64 c), SV.v (Value.bool h)]) ∧ True))) ∧ (((3 : Nat) = 3) ∧ ((3 : Nat) < 1099511627776))) ∧ ((((isN [SV.v (Value.int IntKind.i64 c), SV.v (Value.bool h)]) ∧ ((isN [SV.v (Value.int IntKind.i64 b), SV.v (Value.bool g)]) ∧ ((isN [SV.v (Value.int IntKind.i64 a), SV.v (Value.bool f)]) ∧ True))) ∧ (((3 : Nat) = 3) ∧ ((3 : Nat) < 1099511627776))) ∧ 
(sel (!(mostV 1 [[SV.v (Value.int IntKind.i64 a), SV.v (Value.bool f)], [SV.v (Value.int IntKind.i64 b), SV.v (Value.bool g)], [SV.v (Value.int IntKind.i64 c), SV.v (Value.bool h)]] == mostV 1 [[SV.v (Value.int IntKind.i64 c), SV.v (Value.bool h)], [SV.v (Value.int IntKind.i64 b), SV.v (Value.bool g)], [SV.v (Value.int IntKind.i64 a), SV.v (Value.bool f)]] && anyG [[SV.v (Value.int IntKind.i64 a), SV.v (Value.bool f)], [SV.v (Value.int IntKind.i64 b), SV.v (Value.bool g)], [SV.v (Value.int IntKind.i64 c), SV.v (Value.bool h)]] == anyG [[SV.v (Value.int IntKind.i64 c), SV.v (Value.bool h)], [SV.v (Value.int IntKind.i64 b), SV.v (Value.bool g)], [SV.v (Value.int IntKind.i64 a), SV.v (Value.bool f)]])) (R (SV.v (Value.bool false))) ((((isN [SV.v (Value.int IntKind.i64 a), SV.v (Value.bool f)]) ∧ ((isN [SV.v (Value.int IntKind.i64 b), SV.v (Value.bool g)]) ∧ ((isN [SV.v (Value.int IntKind.i64 c), SV.v (Value.bool h)]) ∧ True))) ∧ (((3 : Nat) = 3) ∧ ((3 : Nat) < 1099511627776))) ∧ ((((isN [SV.v (Value.int IntKind.i64 b), SV.v (Value.bool g)]) ∧ ((isN [SV.v (Value.int IntKind.i64 c), SV.v (Value.bool h)]) ∧ ((isN [SV.v (Value.int IntKind.i64 a), SV.v (Value.bool f)]) ∧ True))) ∧ (((3 : Nat) = 3) ∧ ((3 : Nat) < 1099511627776))) ∧ 
(sel (!(mostV (-1) [[SV.v (Value.int IntKind.i64 a), SV.v (Value.bool f)], [SV.v (Value.int IntKind.i64 b), SV.v (Value.bool g)], [SV.v (Value.int IntKind.i64 c), SV.v (Value.bool h)]] == mostV (-1) [[SV.v (Value.int IntKind.i64 b), SV.v (Value.bool g)], [SV.v (Value.int IntKind.i64 c), SV.v (Value.bool h)], [SV.v (Value.int IntKind.i64 a), SV.v (Value.bool f)]] && anyG [[SV.v (Value.int IntKind.i64 a), SV.v (Value.bool f)], [SV.v (Value.int IntKind.i64 b), SV.v (Value.bool g)], [SV.v (Value.int IntKind.i64 c), SV.v (Value.bool h)]] == anyG [[SV.v (Value.int IntKind.i64 b), SV.v (Value.bool g)], [SV.v (Value.int IntKind.i64 c), SV.v (Value.bool h)], [SV.v (Value.int IntKind.i64 a), SV.v (Value.bool f)]])) (R (SV.v (Value.bool false))) ((I64 a) ∧ ((I64 (-sndV a)) ∧ (((I64 a) ∧ (I64 b)) ∧ ((I64 b) ∧ (((I64 a) ∧ (I64 (-sndV b))) ∧ 
(sel (fitE (sndV a - sndV b) == fitE (sndV a + sndV (-sndV b)) && fitG (sndV a - sndV b) (sndF a f || sndF b g) == fitG (sndV a + sndV (-sndV b)) (sndF a f || sndF (-sndV b) (sndF b g))) 
(sel (cmpI (sndV (-sndV (-sndV a))) (sndV a) == 0) 
(sel f 
(sel (sndF (-sndV a) (sndF a f) == true) ((I64 (-sndV (-sndV a))) ∧ ((I64 (-sndV (-sndV (-sndV a)))) ∧ 
(sel (-sndV (-sndV (-sndV (-sndV a))) == -sndV (-sndV a) && sndF (-sndV (-sndV (-sndV a))) (sndF (-sndV (-sndV a)) (sndF (-sndV a) (sndF a f))) == sndF (-sndV a) (sndF a f)) (R (SV.v (Value.bool true))) (R (SV.v (Value.bool false)))))) (R (SV.v (Value.bool false)))) 
(sel (sndF (-sndV a) (sndF a f) == (a == -9223372036854775808)) ((I64 (-sndV (-sndV a))) ∧ ((I64 (-sndV (-sndV (-sndV a)))) ∧ 
(sel (-sndV (-sndV (-sndV (-sndV a))) == -sndV (-sndV a) && sndF (-sndV (-sndV (-sndV a))) (sndF (-sndV (-sndV a)) (sndF (-sndV a) (sndF a f))) == sndF (-sndV a) (sndF a f)) (R (SV.v (Value.bool true))) (R (SV.v (Value.bool false)))))) (R (SV.v (Value.bool false))))) (R (SV.v (Value.bool false)))) (R (SV.v (Value.bool false)))))))))))))))))))))))) := by kernel_rfl
end Go.Proofs.Ytnnmfonapfhcaaa
