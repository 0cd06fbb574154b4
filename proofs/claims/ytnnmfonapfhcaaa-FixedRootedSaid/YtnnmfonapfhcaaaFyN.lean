/-
  FixedRoots, FixedTurns, FixedCircle, FixedFlags, FixedRooted: what the functions of the laws reckon.
-/
import Derived.Test.YtnnmfonapfhcaaaFyM
import Derived.Test.YtnnmfonapfhcaaaFyC
set_option maxRecDepth 100000
namespace Go.Proofs.Ytnnmfonapfhcaaa
open Go.SE Go.RowKit

def sOneLaw : List SV → Option (Option Prop × SV)
  | [.agg [.v (.int .i64 a), .v (.bool _)]] => some (some (I64 a), .v (.bool true))
  | _ => none
def sFourLaw : List SV → Option (Option Prop × SV)
  | [.agg [.v (.int .i64 a), .v (.bool _)], .agg [.v (.int .i64 b), .v (.bool _)], .agg [.v (.int .i64 c), .v (.bool _)], .agg [.v (.int .i64 d), .v (.bool _)]] => some (some ((I64 a ∧ I64 b) ∧ I64 c ∧ I64 d), .v (.bool true))
  | _ => none
def ΓT : Ctrs := addCtr ΓS 23 (pureCtr sAwake)
theorem vcRootsLaw (a : Int) (fa : Bool) (b : Int) (fb : Bool) (c : Int) (fc : Bool) (d : Int) (fd : Bool) (R : SV → Prop) : (vcPure Try.prog ΓT noΛ Try.f8 [numS a fa, numS b fb, numS c fc, numS d fd] R) =
((I64 a) ∧ ((I64 a) ∧ 
(sel (sqrtV a == sqrtV a && sqrtF a fa == sqrtF a fa) (((I64 a) ∧ (I64 b)) ∧ (((I64 a) ∧ (I64 b)) ∧ 
(sel (fitE (hypE (sndV a) (sndV b)) == fitE (hypE (sndV a) (sndV b)) && fitG (hypE (sndV a) (sndV b)) (sndF a fa || sndF b fb) == fitG (hypE (sndV a) (sndV b)) (sndF a fa || sndF b fb)) ((((I64 a) ∧ (I64 b)) ∧ ((I64 c) ∧ (I64 d))) ∧ ((((I64 a) ∧ (I64 b)) ∧ ((I64 c) ∧ (I64 d))) ∧ 
(sel (fitE (dotE (sndV a) (sndV b) (sndV c) (sndV d)) == fitE (dotE (sndV a) (sndV b) (sndV c) (sndV d)) && fitG (dotE (sndV a) (sndV b) (sndV c) (sndV d)) (sndF a fa || sndF b fb || (sndF c fc || sndF d fd)) == fitG (dotE (sndV a) (sndV b) (sndV c) (sndV d)) (sndF a fa || sndF b fb || (sndF c fc || sndF d fd))) (R (SV.v (Value.bool true))) (R (SV.v (Value.bool false)))))) (R (SV.v (Value.bool false)))))) (R (SV.v (Value.bool false)))))) := by kernel_rfl
theorem vcTurnsLaw (a : Int) (fa : Bool) (R : SV → Prop) : (vcPure Try.prog ΓT noΛ Try.f13 [numS a fa] R) =
((I64 a) ∧ ((I64 a) ∧ 
(sel (wrapT (sndV a) == wrapT (sndV a) && sndF a fa == sndF a fa) ((I64 a) ∧ ((I64 a) ∧ 
(sel (NB.v (sinN { v := a, f := fa }) == NB.v (sinN { v := a, f := fa }) && NB.f (sinN { v := a, f := fa }) == NB.f (sinN { v := a, f := fa })) ((I64 a) ∧ ((I64 a) ∧ 
(sel (NB.v (cosN { v := a, f := fa }) == NB.v (cosN { v := a, f := fa }) && NB.f (cosN { v := a, f := fa }) == NB.f (cosN { v := a, f := fa })) (R (SV.v (Value.bool true))) (R (SV.v (Value.bool false)))))) (R (SV.v (Value.bool false)))))) (R (SV.v (Value.bool false)))))) := by kernel_rfl
theorem vcCircleLaw (a : Int) (fa : Bool) (R : SV → Prop) : (vcPure Try.prog ΓT noΛ Try.f14 [numS a fa] R) =
((I64 a) ∧ ((I64 a) ∧ ((I64 1) ∧ ((I64 (NB.v (sinN { v := a, f := fa }))) ∧ 
(sel (decide (cmpI (sndV (iabs (sndV (NB.v (sinN { v := a, f := fa }))))) 4294967296 > 0)) (R (SV.v (Value.bool false))) ((I64 (NB.v (cosN { v := a, f := fa }))) ∧ 
(sel (decide (cmpI (sndV (iabs (sndV (NB.v (cosN { v := a, f := fa }))))) 4294967296 > 0)) (R (SV.v (Value.bool false))) ((I64 a) ∧ ((I64 (-sndV a)) ∧ ((I64 (NB.v (sinN { v := a, f := fa }))) ∧ 
(sel (!(NB.v (sinN { v := -sndV a, f := sndF a fa }) == -sndV (NB.v (sinN { v := a, f := fa })) && NB.f (sinN { v := -sndV a, f := sndF a fa }) == sndF (NB.v (sinN { v := a, f := fa })) (NB.f (sinN { v := a, f := fa })))) (R (SV.v (Value.bool false))) ((((I64 (NB.v (sinN { v := a, f := fa }))) ∧ (I64 (NB.v (sinN { v := a, f := fa })))) ∧ ((I64 (NB.v (cosN { v := a, f := fa }))) ∧ (I64 (NB.v (cosN { v := a, f := fa }))))) ∧ (((I64 (fitE (dotE (sndV (NB.v (sinN { v := a, f := fa }))) (sndV (NB.v (sinN { v := a, f := fa }))) (sndV (NB.v (cosN { v := a, f := fa }))) (sndV (NB.v (cosN { v := a, f := fa })))))) ∧ (I64 4294967296)) ∧ ((I64 (fitE (sndV (fitE (dotE (sndV (NB.v (sinN { v := a, f := fa }))) (sndV (NB.v (sinN { v := a, f := fa }))) (sndV (NB.v (cosN { v := a, f := fa }))) (sndV (NB.v (cosN { v := a, f := fa }))))) - 4294967296))) ∧ 
(sel (decide (cmpI (sndV (iabs (sndV (fitE (sndV (fitE (dotE (sndV (NB.v (sinN { v := a, f := fa }))) (sndV (NB.v (sinN { v := a, f := fa }))) (sndV (NB.v (cosN { v := a, f := fa }))) (sndV (NB.v (cosN { v := a, f := fa }))))) - 4294967296))))) 4096 > 0)) (R (SV.v (Value.bool false))) 
(sel (decide (a > 9223372009868700398)) (R (SV.v (Value.bool true))) 
(sel (a == -9223372036854775808) (R (SV.v (Value.bool true))) (((I64 a) ∧ (I64 26986075409)) ∧ ((I64 (fitE (sndV a + 26986075409))) ∧ 
(sel (NB.v (sinN { v := fitE (sndV a + 26986075409), f := fitG (sndV a + 26986075409) (sndF a fa || false) }) == NB.v (sinN { v := a, f := fa }) && NB.f (sinN { v := fitE (sndV a + 26986075409), f := fitG (sndV a + 26986075409) (sndF a fa || false) }) == NB.f (sinN { v := a, f := fa })) ((I64 (fitE (sndV a + 26986075409))) ∧ 
(sel (NB.v (cosN { v := fitE (sndV a + 26986075409), f := fitG (sndV a + 26986075409) (sndF a fa || false) }) == NB.v (cosN { v := a, f := fa }) && NB.f (cosN { v := fitE (sndV a + 26986075409), f := fitG (sndV a + 26986075409) (sndF a fa || false) }) == NB.f (cosN { v := a, f := fa })) (R (SV.v (Value.bool true))) (R (SV.v (Value.bool false))))) (R (SV.v (Value.bool false))))))))))))))))))))))) := by kernel_rfl
theorem vcRootedLaw (a : Int) (fa : Bool) (b : Int) (fb : Bool) (R : SV → Prop) : (vcPure Try.prog ΓT noΛ Try.f12 [numS a fa, numS b fb] R) =

(sel (decide (a < 0)) ((I64 a) ∧ 
(sel (sqrtV a == 0 && sqrtF a fa == true) (R (SV.v (Value.bool true))) (R (SV.v (Value.bool false))))) ((I64 a) ∧ 
(sel (!sqrtF a fa == fa) (R (SV.v (Value.bool false))) 
(sel (decide (sqrtV a < 0)) (R (SV.v (Value.bool false))) 
(sel (decide (sqrtV a ≥ 4611686018427387904)) (R (SV.v (Value.bool false))) ((((I64 (sqrtV a)) ∧ (I64 (sqrtV a))) ∧ ((I64 a) ∧ (I64 4294967296))) ∧ 
(sel (decide (cmpI (sqrtV a * sqrtV a) (a * 4294967296) > 0)) (R (SV.v (Value.bool false))) ((((I64 (IntKind.wrap IntKind.i64 (sqrtV a + 1))) ∧ (I64 (IntKind.wrap IntKind.i64 (sqrtV a + 1)))) ∧ ((I64 a) ∧ (I64 4294967296))) ∧ 
(sel (decide (cmpI (IntKind.wrap IntKind.i64 (sqrtV a + 1) * IntKind.wrap IntKind.i64 (sqrtV a + 1)) (a * 4294967296) ≤ 0)) (R (SV.v (Value.bool false))) (((I64 a) ∧ (I64 b)) ∧ 
(sel (fitG (hypE (sndV a) (sndV b)) (sndF a fa || sndF b fb)) (R (SV.v (Value.bool true))) ((I64 a) ∧ ((I64 b) ∧ ((((isN [SV.v (Value.int IntKind.i64 (iabs (sndV a))), SV.v (Value.bool (sndF a fa))]) ∧ ((isN [SV.v (Value.int IntKind.i64 (iabs (sndV b))), SV.v (Value.bool (sndF b fb))]) ∧ True)) ∧ (((2 : Nat) = 2) ∧ ((2 : Nat) < 1099511627776))) ∧ 
(sel (decide (cmpI (sndV (fitE (hypE (sndV a) (sndV b)))) (sndV (mostV (-1) [[SV.v (Value.int IntKind.i64 (iabs (sndV a))), SV.v (Value.bool (sndF a fa))], [SV.v (Value.int IntKind.i64 (iabs (sndV b))), SV.v (Value.bool (sndF b fb))]])) ≥ 0)) ((I64 a) ∧ ((I64 b) ∧ (((I64 (iabs (sndV a))) ∧ (I64 (iabs (sndV b)))) ∧ 
(sel (decide (cmpI (sndV (fitE (hypE (sndV a) (sndV b)))) (sndV (fitE (sndV (iabs (sndV a)) + sndV (iabs (sndV b))))) ≤ 0)) (R (SV.v (Value.bool true))) (R (SV.v (Value.bool false))))))) (R (SV.v (Value.bool false)))))))))))))))))) := by kernel_rfl
theorem vcFlagsLaw (a : Int) (fa : Bool) (b : Int) (fb : Bool) (c : Int) (fc : Bool) (R : SV → Prop) : (vcPure Try.prog ΓT noΛ Try.f15 [numS a fa, numS b fb, numS c fc] R) =
(((I64 a) ∧ (I64 b)) ∧ 
(sel (!fitG (sndV a + sndV b) (sndF a true || sndF b fb)) (R (SV.v (Value.bool false))) (((I64 b) ∧ (I64 a)) ∧ 
(sel (!fitG (sndV b - sndV a) (sndF b fb || sndF a true)) (R (SV.v (Value.bool false))) (((I64 a) ∧ (I64 b)) ∧ 
(sel (!fitG (mulE (sndV a) (sndV b)) (sndF a true || sndF b fb)) (R (SV.v (Value.bool false))) (((I64 b) ∧ (I64 a)) ∧ 
(sel (!(ratF (sndV b) (sndV a) || (sndF b fb || sndF a true))) (R (SV.v (Value.bool false))) (((I64 a) ∧ (I64 b)) ∧ 
(sel (!(ratF (sndV a) (sndV b) || (sndF a true || sndF b fb))) (R (SV.v (Value.bool false))) ((I64 a) ∧ 
(sel (!sndF a true) (R (SV.v (Value.bool false))) ((I64 a) ∧ 
(sel (!sndF a true) (R (SV.v (Value.bool false))) ((I64 a) ∧ 
(sel (!sqrtF a true) (R (SV.v (Value.bool false))) ((((I64 b) ∧ (I64 a)) ∧ ((I64 c) ∧ (I64 c))) ∧ 
(sel (!fitG (dotE (sndV b) (sndV a) (sndV c) (sndV c)) (sndF b fb || sndF a true || (sndF c fc || sndF c fc))) (R (SV.v (Value.bool false))) (((I64 b) ∧ (I64 a)) ∧ 
(sel (!fitG (hypE (sndV b) (sndV a)) (sndF b fb || sndF a true)) (R (SV.v (Value.bool false))) ((((isNI [SV.v (Value.int IntKind.i64 b), SV.v (Value.bool fb)]) ∧ ((isNI [SV.v (Value.int IntKind.i64 c), SV.v (Value.bool fc)]) ∧ ((isNI [SV.v (Value.int IntKind.i64 a), SV.v (Value.bool true)]) ∧ True))) ∧ (((3 : Nat) = 3) ∧ ((3 : Nat) < 1099511627776))) ∧ 
(sel (!fitG (sumG [[SV.v (Value.int IntKind.i64 b), SV.v (Value.bool fb)], [SV.v (Value.int IntKind.i64 c), SV.v (Value.bool fc)], [SV.v (Value.int IntKind.i64 a), SV.v (Value.bool true)]]) (anyG [[SV.v (Value.int IntKind.i64 b), SV.v (Value.bool fb)], [SV.v (Value.int IntKind.i64 c), SV.v (Value.bool fc)], [SV.v (Value.int IntKind.i64 a), SV.v (Value.bool true)]])) (R (SV.v (Value.bool false))) ((((isN [SV.v (Value.int IntKind.i64 b), SV.v (Value.bool fb)]) ∧ ((isN [SV.v (Value.int IntKind.i64 a), SV.v (Value.bool true)]) ∧ True)) ∧ (((2 : Nat) = 2) ∧ ((2 : Nat) < 1099511627776))) ∧ 
(sel (!anyG [[SV.v (Value.int IntKind.i64 b), SV.v (Value.bool fb)], [SV.v (Value.int IntKind.i64 a), SV.v (Value.bool true)]]) (R (SV.v (Value.bool false))) ((((isN [SV.v (Value.int IntKind.i64 a), SV.v (Value.bool true)]) ∧ ((isN [SV.v (Value.int IntKind.i64 c), SV.v (Value.bool fc)]) ∧ True)) ∧ (((2 : Nat) = 2) ∧ ((2 : Nat) < 1099511627776))) ∧ 
(sel (!anyG [[SV.v (Value.int IntKind.i64 a), SV.v (Value.bool true)], [SV.v (Value.int IntKind.i64 c), SV.v (Value.bool fc)]]) (R (SV.v (Value.bool false))) (((I64 b) ∧ ((I64 c) ∧ (I64 a))) ∧ 
(sel (!(sndF c fc || (sndF b fb || sndF a true))) (R (SV.v (Value.bool false))) ((I64 a) ∧ 
(sel (!sndF a true) (R (SV.v (Value.bool false))) ((I64 a) ∧ 
(sel (!NB.f (sinN { v := a, f := true })) (R (SV.v (Value.bool false))) ((I64 a) ∧ 
(sel (!NB.f (cosN { v := a, f := true })) (R (SV.v (Value.bool false))) (((I64 a) ∧ (I64 b)) ∧ (((I64 a) ∧ (I64 b)) ∧ 
(sel (fitE (sndV a + sndV b) == fitE (sndV a + sndV b)) (((I64 b) ∧ (I64 a)) ∧ (((I64 b) ∧ (I64 a)) ∧ 
(sel (fitE (mulE (sndV b) (sndV a)) == fitE (mulE (sndV b) (sndV a))) ((((I64 b) ∧ (I64 a)) ∧ ((I64 c) ∧ (I64 c))) ∧ ((((I64 b) ∧ (I64 a)) ∧ ((I64 c) ∧ (I64 c))) ∧ 
(sel (fitE (dotE (sndV b) (sndV a) (sndV c) (sndV c)) == fitE (dotE (sndV b) (sndV a) (sndV c) (sndV c))) ((I64 a) ∧ ((I64 a) ∧ 
(sel (NB.v (sinN { v := a, f := true }) == NB.v (sinN { v := a, f := fa })) ((((isN [SV.v (Value.int IntKind.i64 a), SV.v (Value.bool true)]) ∧ ((isN [SV.v (Value.int IntKind.i64 b), SV.v (Value.bool fb)]) ∧ ((isN [SV.v (Value.int IntKind.i64 c), SV.v (Value.bool fc)]) ∧ True))) ∧ (((3 : Nat) = 3) ∧ ((3 : Nat) < 1099511627776))) ∧ ((((isN [SV.v (Value.int IntKind.i64 a), SV.v (Value.bool fa)]) ∧ ((isN [SV.v (Value.int IntKind.i64 b), SV.v (Value.bool fb)]) ∧ ((isN [SV.v (Value.int IntKind.i64 c), SV.v (Value.bool fc)]) ∧ True))) ∧ (((3 : Nat) = 3) ∧ ((3 : Nat) < 1099511627776))) ∧ 
(sel (mostV (-1) [[SV.v (Value.int IntKind.i64 a), SV.v (Value.bool true)], [SV.v (Value.int IntKind.i64 b), SV.v (Value.bool fb)], [SV.v (Value.int IntKind.i64 c), SV.v (Value.bool fc)]] == mostV (-1) [[SV.v (Value.int IntKind.i64 a), SV.v (Value.bool fa)], [SV.v (Value.int IntKind.i64 b), SV.v (Value.bool fb)], [SV.v (Value.int IntKind.i64 c), SV.v (Value.bool fc)]]) (R (SV.v (Value.bool true))) (R (SV.v (Value.bool false)))))) (R (SV.v (Value.bool false)))))) (R (SV.v (Value.bool false)))))) (R (SV.v (Value.bool false)))))) (R (SV.v (Value.bool false)))))))))))))))))))))))))))))))))))))))) := by kernel_rfl
theorem ΓT_ok : ∀ f g, ΓT f = some g → g.ok Try.prog f := addCtr_ok ΓS_ok (pure_ok Try.func23 (by kernel_rfl) (by kernel_rfl) Awake_spec)
end Go.Proofs.Ytnnmfonapfhcaaa
