/-
  Contracts of vectors and rotations: of the program, and of the reference.
-/
import Derived.Test.YtheljpebapokjaaPaA
set_option maxRecDepth 100000
set_option linter.unusedSimpArgs false
namespace Go.Proofs.Ytheljpebapokjaa
open Go.SE Go.RowKit

def ofV (x y : Int) : VB := ⟨intN x, intN y⟩
def locV (p : Int × Int) : VB := ⟨ratN p.1 256, ratN p.2 256⟩
def subV (a b : VB) : VB := ⟨subN a.x b.x, subN a.y b.y⟩
def scaV (v : VB) (k : NB) : VB := ⟨mulN v.x k, mulN v.y k⟩
def dotV (a b : VB) : NB := dotN a.x b.x a.y b.y
def crsV (a b : VB) : NB := dotN a.x b.y (negN a.y) b.x
def sum1 (a : NB) : NB := fitN (sndV a.v + 0) (sndF a.v a.f || false)
def perpV (v : VB) : VB := ⟨negN v.y, sum1 v.x⟩
def turV (k : NB) (v : VB) : VB := scaV (perpV v) k
def lenV (v : VB) : NB := hypN v.x v.y
def angV (x : NB) : VB := ⟨cosN x, sinN x⟩
def appV (r v : VB) : VB := ⟨dotN r.x v.x (negN r.y) v.y, dotN r.y v.x r.x v.y⟩
def bacV (r v : VB) : VB := ⟨dotN r.x v.x r.y v.y, dotN (negN r.y) v.x r.x v.y⟩
def comV (r s : VB) : VB :=
  bif (hypN (dotN r.x s.x (negN r.y) s.y) (dotN r.y s.x r.x s.y)).v == 0 then ⟨dotN r.x s.x (negN r.y) s.y, dotN r.y s.x r.x s.y⟩
  else ⟨divN (dotN r.x s.x (negN r.y) s.y) (hypN (dotN r.x s.x (negN r.y) s.y) (dotN r.y s.x r.x s.y)), divN (dotN r.y s.x r.x s.y) (hypN (dotN r.x s.x (negN r.y) s.y) (dotN r.y s.x r.x s.y))⟩
def spiV (r : VB) (w : NB) : VB := comV (angV w) r
def sOfV : List SV → Option (Option Prop × SV)
  | [.v (.int .i64 a0), .v (.int .i64 a1)] => some (some (I64 a0 ∧ I64 a1), vS (ofV a0 a1))
  | _ => none
def sLocalV : List SV → Option (Option Prop × SV)
  | [.agg [.v (.int .i64 a0), .v (.int .i64 b0)]] => some (some ((I64 a0 ∧ I64 b0)), vS (locV (a0, b0)))
  | _ => none
def sSubV : List SV → Option (Option Prop × SV)
  | [.agg [.v (.int .i64 a0), .v (.bool f0), .v (.int .i64 b0), .v (.bool g0)], .agg [.v (.int .i64 a1), .v (.bool f1), .v (.int .i64 b1), .v (.bool g1)]] => some (some ((I64 a0 ∧ I64 b0) ∧ (I64 a1 ∧ I64 b1)), vS (subV ⟨⟨a0, f0⟩, ⟨b0, g0⟩⟩ ⟨⟨a1, f1⟩, ⟨b1, g1⟩⟩))
  | _ => none
def sScaleV : List SV → Option (Option Prop × SV)
  | [.agg [.v (.int .i64 a0), .v (.bool f0), .v (.int .i64 b0), .v (.bool g0)], .agg [.v (.int .i64 a1), .v (.bool f1)]] => some (some ((I64 a0 ∧ I64 b0) ∧ I64 a1), vS (scaV ⟨⟨a0, f0⟩, ⟨b0, g0⟩⟩ ⟨a1, f1⟩))
  | _ => none
def sDotV : List SV → Option (Option Prop × SV)
  | [.agg [.v (.int .i64 a0), .v (.bool f0), .v (.int .i64 b0), .v (.bool g0)], .agg [.v (.int .i64 a1), .v (.bool f1), .v (.int .i64 b1), .v (.bool g1)]] => some (some ((I64 a0 ∧ I64 b0) ∧ (I64 a1 ∧ I64 b1)), nS (dotV ⟨⟨a0, f0⟩, ⟨b0, g0⟩⟩ ⟨⟨a1, f1⟩, ⟨b1, g1⟩⟩))
  | _ => none
def sCrossV : List SV → Option (Option Prop × SV)
  | [.agg [.v (.int .i64 a0), .v (.bool f0), .v (.int .i64 b0), .v (.bool g0)], .agg [.v (.int .i64 a1), .v (.bool f1), .v (.int .i64 b1), .v (.bool g1)]] => some (some ((I64 a0 ∧ I64 b0) ∧ (I64 a1 ∧ I64 b1)), nS (crsV ⟨⟨a0, f0⟩, ⟨b0, g0⟩⟩ ⟨⟨a1, f1⟩, ⟨b1, g1⟩⟩))
  | _ => none
def sPerpV : List SV → Option (Option Prop × SV)
  | [.agg [.v (.int .i64 a0), .v (.bool f0), .v (.int .i64 b0), .v (.bool g0)]] => some (some ((I64 a0 ∧ I64 b0)), vS (perpV ⟨⟨a0, f0⟩, ⟨b0, g0⟩⟩))
  | _ => none
def sLenV : List SV → Option (Option Prop × SV)
  | [.agg [.v (.int .i64 a0), .v (.bool f0), .v (.int .i64 b0), .v (.bool g0)]] => some (some ((I64 a0 ∧ I64 b0)), nS (lenV ⟨⟨a0, f0⟩, ⟨b0, g0⟩⟩))
  | _ => none
def sAngleV : List SV → Option (Option Prop × SV)
  | [.agg [.v (.int .i64 a0), .v (.bool f0)]] => some (some (I64 a0), vS (angV ⟨a0, f0⟩))
  | _ => none
def sApplyV : List SV → Option (Option Prop × SV)
  | [.agg [.v (.int .i64 a0), .v (.bool f0), .v (.int .i64 b0), .v (.bool g0)], .agg [.v (.int .i64 a1), .v (.bool f1), .v (.int .i64 b1), .v (.bool g1)]] => some (some ((I64 a0 ∧ I64 b0) ∧ (I64 a1 ∧ I64 b1)), vS (appV ⟨⟨a0, f0⟩, ⟨b0, g0⟩⟩ ⟨⟨a1, f1⟩, ⟨b1, g1⟩⟩))
  | _ => none
def sBackV : List SV → Option (Option Prop × SV)
  | [.agg [.v (.int .i64 a0), .v (.bool f0), .v (.int .i64 b0), .v (.bool g0)], .agg [.v (.int .i64 a1), .v (.bool f1), .v (.int .i64 b1), .v (.bool g1)]] => some (some ((I64 a0 ∧ I64 b0) ∧ (I64 a1 ∧ I64 b1)), vS (bacV ⟨⟨a0, f0⟩, ⟨b0, g0⟩⟩ ⟨⟨a1, f1⟩, ⟨b1, g1⟩⟩))
  | _ => none
def sComposeV : List SV → Option (Option Prop × SV)
  | [.agg [.v (.int .i64 a0), .v (.bool f0), .v (.int .i64 b0), .v (.bool g0)], .agg [.v (.int .i64 a1), .v (.bool f1), .v (.int .i64 b1), .v (.bool g1)]] => some (some ((I64 a0 ∧ I64 b0) ∧ (I64 a1 ∧ I64 b1)), vS (comV ⟨⟨a0, f0⟩, ⟨b0, g0⟩⟩ ⟨⟨a1, f1⟩, ⟨b1, g1⟩⟩))
  | _ => none
def sTurnV : List SV → Option (Option Prop × SV)
  | [.agg [.v (.int .i64 a0), .v (.bool f0)], .agg [.v (.int .i64 a1), .v (.bool f1), .v (.int .i64 b1), .v (.bool g1)]] => some (some (I64 a0 ∧ (I64 a1 ∧ I64 b1)), vS (turV ⟨a0, f0⟩ ⟨⟨a1, f1⟩, ⟨b1, g1⟩⟩))
  | _ => none
def sSpinV : List SV → Option (Option Prop × SV)
  | [.agg [.v (.int .i64 a0), .v (.bool f0), .v (.int .i64 b0), .v (.bool g0)], .agg [.v (.int .i64 a1), .v (.bool f1)]] => some (some ((I64 a0 ∧ I64 b0) ∧ I64 a1), vS (spiV ⟨⟨a0, f0⟩, ⟨b0, g0⟩⟩ ⟨a1, f1⟩))
  | _ => none
def ΓV00 : Ctrs := addCtr (addCtr (addCtr (addCtr (addCtr (addCtr (addCtr (addCtr (noCtrs) 85 (pureCtr (i1B intN))) 87 (pureCtr (i2B ratN))) 100 (pureCtr (n1B negN))) 98 (pureCtr (n2B mulN))) 81 (pureCtr (n2B divN))) 104 (pureCtr (n2B subN))) 97 (pureCtr (n2B hypN))) 99 (pureCtr (n4B dotN))
def ΓV01 : Ctrs := addCtr (addCtr (addCtr (addCtr (addCtr (addCtr (addCtr (addCtr (ΓV00) 122 (pureCtr (n1B sinN))) 121 (pureCtr (n1B cosN))) 86 (pureCtr sOfN)) 103 (roCtr sSum)) 91 (pureCtr (i1B intN))) 92 (pureCtr (i2B ratN))) 102 (pureCtr (n1B negN))) 112 (pureCtr (n2B mulN))
def ΓV02 : Ctrs := addCtr (addCtr (addCtr (addCtr (addCtr (addCtr (ΓV01) 84 (pureCtr (n2B divN))) 111 (pureCtr (n2B subN))) 113 (pureCtr (n2B hypN))) 101 (pureCtr (n4B dotN))) 83 (pureCtr sOfN)) 107 (roCtr sSum)
def ΓV0 : Ctrs := addCtr (ΓV02) 82 (pureCtr (n1B absN))
theorem vcOfV (a0 : Int) (a1 : Int) (R : SV → Prop) : (vcPure Try.prog ΓV0 noΛ Try.f28 [.v (.int .i64 a0), .v (.int .i64 a1)] R) =
((I64 a0) ∧ ((I64 a1) ∧ (R (SV.agg [(SV.v (Value.int IntKind.i64 (NB.v (intN a0)))), (SV.v (Value.bool (NB.f (intN a0)))), (SV.v (Value.int IntKind.i64 (NB.v (intN a1)))), (SV.v (Value.bool (NB.f (intN a1))))])))) := by kernel_rfl
theorem vcLocalV (a0 : Int × Int) (R : SV → Prop) : (vcPure Try.prog ΓV0 noΛ Try.f30 [.agg [.v (.int .i64 a0.1), .v (.int .i64 a0.2)]] R) =
(((I64 (Prod.fst a0)) ∧ (I64 256)) ∧ (((I64 (Prod.snd a0)) ∧ (I64 256)) ∧ (R (SV.agg [(SV.v (Value.int IntKind.i64 (NB.v (ratN (Prod.fst a0) 256)))), (SV.v (Value.bool (NB.f (ratN (Prod.fst a0) 256)))), (SV.v (Value.int IntKind.i64 (NB.v (ratN (Prod.snd a0) 256)))), (SV.v (Value.bool (NB.f (ratN (Prod.snd a0) 256))))])))) := by kernel_rfl
theorem vcSubV (a0 : VB) (a1 : VB) (R : SV → Prop) : (vcPure Try.prog ΓV0 noΛ Try.f48 [vS a0, vS a1] R) =
(((I64 (NB.v (VB.x a0))) ∧ (I64 (NB.v (VB.x a1)))) ∧ (((I64 (NB.v (VB.y a0))) ∧ (I64 (NB.v (VB.y a1)))) ∧ (R (SV.agg [(SV.v (Value.int IntKind.i64 (NB.v (subN (VB.x a0) (VB.x a1))))), (SV.v (Value.bool (NB.f (subN (VB.x a0) (VB.x a1))))), (SV.v (Value.int IntKind.i64 (NB.v (subN (VB.y a0) (VB.y a1))))), (SV.v (Value.bool (NB.f (subN (VB.y a0) (VB.y a1)))))])))) := by kernel_rfl
theorem vcScaleV (a0 : VB) (a1 : NB) (R : SV → Prop) : (vcPure Try.prog ΓV0 noΛ Try.f42 [vS a0, nS a1] R) =
(((I64 (NB.v (VB.x a0))) ∧ (I64 (NB.v a1))) ∧ (((I64 (NB.v (VB.y a0))) ∧ (I64 (NB.v a1))) ∧ (R (SV.agg [(SV.v (Value.int IntKind.i64 (NB.v (mulN (VB.x a0) a1)))), (SV.v (Value.bool (NB.f (mulN (VB.x a0) a1)))), (SV.v (Value.int IntKind.i64 (NB.v (mulN (VB.y a0) a1)))), (SV.v (Value.bool (NB.f (mulN (VB.y a0) a1))))])))) := by kernel_rfl
theorem vcDotV (a0 : VB) (a1 : VB) (R : SV → Prop) : (vcPure Try.prog ΓV0 noΛ Try.f46 [vS a0, vS a1] R) =
((((I64 (NB.v (VB.x a0))) ∧ (I64 (NB.v (VB.x a1)))) ∧ ((I64 (NB.v (VB.y a0))) ∧ (I64 (NB.v (VB.y a1))))) ∧ (R (SV.agg [(SV.v (Value.int IntKind.i64 (NB.v (dotN (VB.x a0) (VB.x a1) (VB.y a0) (VB.y a1))))), (SV.v (Value.bool (NB.f (dotN (VB.x a0) (VB.x a1) (VB.y a0) (VB.y a1)))))]))) := by kernel_rfl
theorem vcCrossV (a0 : VB) (a1 : VB) (R : SV → Prop) : (vcPure Try.prog ΓV0 noΛ Try.f45 [vS a0, vS a1] R) =
((I64 (NB.v (VB.y a0))) ∧ ((((I64 (NB.v (VB.x a0))) ∧ (I64 (NB.v (VB.y a1)))) ∧ ((I64 (NB.v (negN (VB.y a0)))) ∧ (I64 (NB.v (VB.x a1))))) ∧ (R (SV.agg [(SV.v (Value.int IntKind.i64 (NB.v (dotN (VB.x a0) (VB.y a1) (negN (VB.y a0)) (VB.x a1))))), (SV.v (Value.bool (NB.f (dotN (VB.x a0) (VB.y a1) (negN (VB.y a0)) (VB.x a1)))))])))) := by kernel_rfl
theorem vcPerpV (a0 : VB) (R : SV → Prop) : (vcPure Try.prog ΓV0 noΛ Try.f47 [vS a0] R) =
((I64 (NB.v (VB.y a0))) ∧ ((((isNI [SV.v (Value.int IntKind.i64 (NB.v (VB.x a0))), SV.v (Value.bool (NB.f (VB.x a0)))]) ∧ True) ∧ (((1 : Nat) = 1) ∧ ((1 : Nat) < 1099511627776))) ∧ (R (SV.agg [(SV.v (Value.int IntKind.i64 (NB.v (negN (VB.y a0))))), (SV.v (Value.bool (NB.f (negN (VB.y a0))))), (SV.v (Value.int IntKind.i64 (fitE (sumG [[SV.v (Value.int IntKind.i64 (NB.v (VB.x a0))), SV.v (Value.bool (NB.f (VB.x a0)))]])))), (SV.v (Value.bool (fitG (sumG [[SV.v (Value.int IntKind.i64 (NB.v (VB.x a0))), SV.v (Value.bool (NB.f (VB.x a0)))]]) (anyG [[SV.v (Value.int IntKind.i64 (NB.v (VB.x a0))), SV.v (Value.bool (NB.f (VB.x a0)))]]))))])))) := by kernel_rfl
theorem vcLenV (a0 : VB) (R : SV → Prop) : (vcPure Try.prog ΓV0 noΛ Try.f40 [vS a0] R) =
(((I64 (NB.v (VB.x a0))) ∧ (I64 (NB.v (VB.y a0)))) ∧ (R (SV.agg [(SV.v (Value.int IntKind.i64 (NB.v (hypN (VB.x a0) (VB.y a0))))), (SV.v (Value.bool (NB.f (hypN (VB.x a0) (VB.y a0)))))]))) := by kernel_rfl
theorem vcAngleV (a0 : NB) (R : SV → Prop) : (vcPure Try.prog ΓV0 noΛ Try.f73 [nS a0] R) =
((I64 (NB.v a0)) ∧ ((I64 (NB.v a0)) ∧ (R (SV.agg [(SV.v (Value.int IntKind.i64 (NB.v (cosN a0)))), (SV.v (Value.bool (NB.f (cosN a0)))), (SV.v (Value.int IntKind.i64 (NB.v (sinN a0)))), (SV.v (Value.bool (NB.f (sinN a0))))])))) := by kernel_rfl
theorem vcApplyV (a0 : VB) (a1 : VB) (R : SV → Prop) : (vcPure Try.prog ΓV0 noΛ Try.f75 [vS a0, vS a1] R) =
((I64 (NB.v (VB.y a0))) ∧ ((((I64 (NB.v (VB.x a0))) ∧ (I64 (NB.v (VB.x a1)))) ∧ ((I64 (NB.v (negN (VB.y a0)))) ∧ (I64 (NB.v (VB.y a1))))) ∧ ((((I64 (NB.v (VB.y a0))) ∧ (I64 (NB.v (VB.x a1)))) ∧ ((I64 (NB.v (VB.x a0))) ∧ (I64 (NB.v (VB.y a1))))) ∧ (R (SV.agg [(SV.v (Value.int IntKind.i64 (NB.v (dotN (VB.x a0) (VB.x a1) (negN (VB.y a0)) (VB.y a1))))), (SV.v (Value.bool (NB.f (dotN (VB.x a0) (VB.x a1) (negN (VB.y a0)) (VB.y a1))))), (SV.v (Value.int IntKind.i64 (NB.v (dotN (VB.y a0) (VB.x a1) (VB.x a0) (VB.y a1))))), (SV.v (Value.bool (NB.f (dotN (VB.y a0) (VB.x a1) (VB.x a0) (VB.y a1)))))]))))) := by kernel_rfl
theorem vcBackV (a0 : VB) (a1 : VB) (R : SV → Prop) : (vcPure Try.prog ΓV0 noΛ Try.f76 [vS a0, vS a1] R) =
((((I64 (NB.v (VB.x a0))) ∧ (I64 (NB.v (VB.x a1)))) ∧ ((I64 (NB.v (VB.y a0))) ∧ (I64 (NB.v (VB.y a1))))) ∧ ((I64 (NB.v (VB.y a0))) ∧ ((((I64 (NB.v (negN (VB.y a0)))) ∧ (I64 (NB.v (VB.x a1)))) ∧ ((I64 (NB.v (VB.x a0))) ∧ (I64 (NB.v (VB.y a1))))) ∧ (R (SV.agg [(SV.v (Value.int IntKind.i64 (NB.v (dotN (VB.x a0) (VB.x a1) (VB.y a0) (VB.y a1))))), (SV.v (Value.bool (NB.f (dotN (VB.x a0) (VB.x a1) (VB.y a0) (VB.y a1))))), (SV.v (Value.int IntKind.i64 (NB.v (dotN (negN (VB.y a0)) (VB.x a1) (VB.x a0) (VB.y a1))))), (SV.v (Value.bool (NB.f (dotN (negN (VB.y a0)) (VB.x a1) (VB.x a0) (VB.y a1)))))]))))) := by kernel_rfl
theorem vcComposeV (a0 : VB) (a1 : VB) (R : SV → Prop) : (vcPure Try.prog ΓV0 noΛ Try.f124 [vS a0, vS a1] R) =
((I64 (NB.v (VB.y a0))) ∧ ((((I64 (NB.v (VB.x a0))) ∧ (I64 (NB.v (VB.x a1)))) ∧ ((I64 (NB.v (negN (VB.y a0)))) ∧ (I64 (NB.v (VB.y a1))))) ∧ ((((I64 (NB.v (VB.y a0))) ∧ (I64 (NB.v (VB.x a1)))) ∧ ((I64 (NB.v (VB.x a0))) ∧ (I64 (NB.v (VB.y a1))))) ∧ (((I64 (NB.v (dotN (VB.x a0) (VB.x a1) (negN (VB.y a0)) (VB.y a1)))) ∧ (I64 (NB.v (dotN (VB.y a0) (VB.x a1) (VB.x a0) (VB.y a1))))) ∧ 
(sel (NB.v (hypN (dotN (VB.x a0) (VB.x a1) (negN (VB.y a0)) (VB.y a1)) (dotN (VB.y a0) (VB.x a1) (VB.x a0) (VB.y a1))) != 0) (((I64 (NB.v (dotN (VB.x a0) (VB.x a1) (negN (VB.y a0)) (VB.y a1)))) ∧ (I64 (NB.v (hypN (dotN (VB.x a0) (VB.x a1) (negN (VB.y a0)) (VB.y a1)) (dotN (VB.y a0) (VB.x a1) (VB.x a0) (VB.y a1)))))) ∧ (((I64 (NB.v (dotN (VB.y a0) (VB.x a1) (VB.x a0) (VB.y a1)))) ∧ (I64 (NB.v (hypN (dotN (VB.x a0) (VB.x a1) (negN (VB.y a0)) (VB.y a1)) (dotN (VB.y a0) (VB.x a1) (VB.x a0) (VB.y a1)))))) ∧ (R (SV.agg [(SV.v (Value.int IntKind.i64 (NB.v (divN (dotN (VB.x a0) (VB.x a1) (negN (VB.y a0)) (VB.y a1)) (hypN (dotN (VB.x a0) (VB.x a1) (negN (VB.y a0)) (VB.y a1)) (dotN (VB.y a0) (VB.x a1) (VB.x a0) (VB.y a1))))))), (SV.v (Value.bool (NB.f (divN (dotN (VB.x a0) (VB.x a1) (negN (VB.y a0)) (VB.y a1)) (hypN (dotN (VB.x a0) (VB.x a1) (negN (VB.y a0)) (VB.y a1)) (dotN (VB.y a0) (VB.x a1) (VB.x a0) (VB.y a1))))))), (SV.v (Value.int IntKind.i64 (NB.v (divN (dotN (VB.y a0) (VB.x a1) (VB.x a0) (VB.y a1)) (hypN (dotN (VB.x a0) (VB.x a1) (negN (VB.y a0)) (VB.y a1)) (dotN (VB.y a0) (VB.x a1) (VB.x a0) (VB.y a1))))))), (SV.v (Value.bool (NB.f (divN (dotN (VB.y a0) (VB.x a1) (VB.x a0) (VB.y a1)) (hypN (dotN (VB.x a0) (VB.x a1) (negN (VB.y a0)) (VB.y a1)) (dotN (VB.y a0) (VB.x a1) (VB.x a0) (VB.y a1)))))))])))) (R (SV.agg [(SV.v (Value.int IntKind.i64 (NB.v (dotN (VB.x a0) (VB.x a1) (negN (VB.y a0)) (VB.y a1))))), (SV.v (Value.bool (NB.f (dotN (VB.x a0) (VB.x a1) (negN (VB.y a0)) (VB.y a1))))), (SV.v (Value.int IntKind.i64 (NB.v (dotN (VB.y a0) (VB.x a1) (VB.x a0) (VB.y a1))))), (SV.v (Value.bool (NB.f (dotN (VB.y a0) (VB.x a1) (VB.x a0) (VB.y a1)))))]))))))) := by kernel_rfl
theorem vcROfV (a0 : Int) (a1 : Int) (R : SV → Prop) : (vcPure Try.prog ΓV0 noΛ Try.f29 [.v (.int .i64 a0), .v (.int .i64 a1)] R) =
((I64 a0) ∧ ((I64 a1) ∧ (R (SV.agg [(SV.v (Value.int IntKind.i64 (NB.v (intN a0)))), (SV.v (Value.bool (NB.f (intN a0)))), (SV.v (Value.int IntKind.i64 (NB.v (intN a1)))), (SV.v (Value.bool (NB.f (intN a1))))])))) := by kernel_rfl
theorem vcRLocalV (a0 : Int × Int) (R : SV → Prop) : (vcPure Try.prog ΓV0 noΛ Try.f31 [.agg [.v (.int .i64 a0.1), .v (.int .i64 a0.2)]] R) =
(((I64 (Prod.fst a0)) ∧ (I64 256)) ∧ (((I64 (Prod.snd a0)) ∧ (I64 256)) ∧ (R (SV.agg [(SV.v (Value.int IntKind.i64 (NB.v (ratN (Prod.fst a0) 256)))), (SV.v (Value.bool (NB.f (ratN (Prod.fst a0) 256)))), (SV.v (Value.int IntKind.i64 (NB.v (ratN (Prod.snd a0) 256)))), (SV.v (Value.bool (NB.f (ratN (Prod.snd a0) 256))))])))) := by kernel_rfl
theorem vcRSubV (a0 : VB) (a1 : VB) (R : SV → Prop) : (vcPure Try.prog ΓV0 noΛ Try.f57 [vS a0, vS a1] R) =
(((I64 (NB.v (VB.x a0))) ∧ (I64 (NB.v (VB.x a1)))) ∧ (((I64 (NB.v (VB.y a0))) ∧ (I64 (NB.v (VB.y a1)))) ∧ (R (SV.agg [(SV.v (Value.int IntKind.i64 (NB.v (subN (VB.x a0) (VB.x a1))))), (SV.v (Value.bool (NB.f (subN (VB.x a0) (VB.x a1))))), (SV.v (Value.int IntKind.i64 (NB.v (subN (VB.y a0) (VB.y a1))))), (SV.v (Value.bool (NB.f (subN (VB.y a0) (VB.y a1)))))])))) := by kernel_rfl
theorem vcRScaleV (a0 : VB) (a1 : NB) (R : SV → Prop) : (vcPure Try.prog ΓV0 noΛ Try.f58 [vS a0, nS a1] R) =
(((I64 (NB.v (VB.x a0))) ∧ (I64 (NB.v a1))) ∧ (((I64 (NB.v (VB.y a0))) ∧ (I64 (NB.v a1))) ∧ (R (SV.agg [(SV.v (Value.int IntKind.i64 (NB.v (mulN (VB.x a0) a1)))), (SV.v (Value.bool (NB.f (mulN (VB.x a0) a1)))), (SV.v (Value.int IntKind.i64 (NB.v (mulN (VB.y a0) a1)))), (SV.v (Value.bool (NB.f (mulN (VB.y a0) a1))))])))) := by kernel_rfl
theorem vcRDotV (a0 : VB) (a1 : VB) (R : SV → Prop) : (vcPure Try.prog ΓV0 noΛ Try.f59 [vS a0, vS a1] R) =
((((I64 (NB.v (VB.x a0))) ∧ (I64 (NB.v (VB.x a1)))) ∧ ((I64 (NB.v (VB.y a0))) ∧ (I64 (NB.v (VB.y a1))))) ∧ (R (SV.agg [(SV.v (Value.int IntKind.i64 (NB.v (dotN (VB.x a0) (VB.x a1) (VB.y a0) (VB.y a1))))), (SV.v (Value.bool (NB.f (dotN (VB.x a0) (VB.x a1) (VB.y a0) (VB.y a1)))))]))) := by kernel_rfl
theorem vcRCrossV (a0 : VB) (a1 : VB) (R : SV → Prop) : (vcPure Try.prog ΓV0 noΛ Try.f60 [vS a0, vS a1] R) =
((I64 (NB.v (VB.y a0))) ∧ ((((I64 (NB.v (VB.x a0))) ∧ (I64 (NB.v (VB.y a1)))) ∧ ((I64 (NB.v (negN (VB.y a0)))) ∧ (I64 (NB.v (VB.x a1))))) ∧ (R (SV.agg [(SV.v (Value.int IntKind.i64 (NB.v (dotN (VB.x a0) (VB.y a1) (negN (VB.y a0)) (VB.x a1))))), (SV.v (Value.bool (NB.f (dotN (VB.x a0) (VB.y a1) (negN (VB.y a0)) (VB.x a1)))))])))) := by kernel_rfl
theorem vcRPerpV (a0 : VB) (R : SV → Prop) : (vcPure Try.prog ΓV0 noΛ Try.f61 [vS a0] R) =
((I64 (NB.v (VB.y a0))) ∧ ((((isNI [SV.v (Value.int IntKind.i64 (NB.v (VB.x a0))), SV.v (Value.bool (NB.f (VB.x a0)))]) ∧ True) ∧ (((1 : Nat) = 1) ∧ ((1 : Nat) < 1099511627776))) ∧ (R (SV.agg [(SV.v (Value.int IntKind.i64 (NB.v (negN (VB.y a0))))), (SV.v (Value.bool (NB.f (negN (VB.y a0))))), (SV.v (Value.int IntKind.i64 (fitE (sumG [[SV.v (Value.int IntKind.i64 (NB.v (VB.x a0))), SV.v (Value.bool (NB.f (VB.x a0)))]])))), (SV.v (Value.bool (fitG (sumG [[SV.v (Value.int IntKind.i64 (NB.v (VB.x a0))), SV.v (Value.bool (NB.f (VB.x a0)))]]) (anyG [[SV.v (Value.int IntKind.i64 (NB.v (VB.x a0))), SV.v (Value.bool (NB.f (VB.x a0)))]]))))])))) := by kernel_rfl
theorem vcRLenV (a0 : VB) (R : SV → Prop) : (vcPure Try.prog ΓV0 noΛ Try.f64 [vS a0] R) =
(((I64 (NB.v (VB.x a0))) ∧ (I64 (NB.v (VB.y a0)))) ∧ (R (SV.agg [(SV.v (Value.int IntKind.i64 (NB.v (hypN (VB.x a0) (VB.y a0))))), (SV.v (Value.bool (NB.f (hypN (VB.x a0) (VB.y a0)))))]))) := by kernel_rfl
theorem vcRApplyV (a0 : VB) (a1 : VB) (R : SV → Prop) : (vcPure Try.prog ΓV0 noΛ Try.f105 [vS a0, vS a1] R) =
((I64 (NB.v (VB.y a0))) ∧ ((((I64 (NB.v (VB.x a0))) ∧ (I64 (NB.v (VB.x a1)))) ∧ ((I64 (NB.v (negN (VB.y a0)))) ∧ (I64 (NB.v (VB.y a1))))) ∧ ((((I64 (NB.v (VB.y a0))) ∧ (I64 (NB.v (VB.x a1)))) ∧ ((I64 (NB.v (VB.x a0))) ∧ (I64 (NB.v (VB.y a1))))) ∧ (R (SV.agg [(SV.v (Value.int IntKind.i64 (NB.v (dotN (VB.x a0) (VB.x a1) (negN (VB.y a0)) (VB.y a1))))), (SV.v (Value.bool (NB.f (dotN (VB.x a0) (VB.x a1) (negN (VB.y a0)) (VB.y a1))))), (SV.v (Value.int IntKind.i64 (NB.v (dotN (VB.y a0) (VB.x a1) (VB.x a0) (VB.y a1))))), (SV.v (Value.bool (NB.f (dotN (VB.y a0) (VB.x a1) (VB.x a0) (VB.y a1)))))]))))) := by kernel_rfl
theorem vcRBackV (a0 : VB) (a1 : VB) (R : SV → Prop) : (vcPure Try.prog ΓV0 noΛ Try.f106 [vS a0, vS a1] R) =
((((I64 (NB.v (VB.x a0))) ∧ (I64 (NB.v (VB.x a1)))) ∧ ((I64 (NB.v (VB.y a0))) ∧ (I64 (NB.v (VB.y a1))))) ∧ ((I64 (NB.v (VB.y a0))) ∧ ((((I64 (NB.v (negN (VB.y a0)))) ∧ (I64 (NB.v (VB.x a1)))) ∧ ((I64 (NB.v (VB.x a0))) ∧ (I64 (NB.v (VB.y a1))))) ∧ (R (SV.agg [(SV.v (Value.int IntKind.i64 (NB.v (dotN (VB.x a0) (VB.x a1) (VB.y a0) (VB.y a1))))), (SV.v (Value.bool (NB.f (dotN (VB.x a0) (VB.x a1) (VB.y a0) (VB.y a1))))), (SV.v (Value.int IntKind.i64 (NB.v (dotN (negN (VB.y a0)) (VB.x a1) (VB.x a0) (VB.y a1))))), (SV.v (Value.bool (NB.f (dotN (negN (VB.y a0)) (VB.x a1) (VB.x a0) (VB.y a1)))))]))))) := by kernel_rfl
def ΓV10 : Ctrs := addCtr (addCtr (addCtr (addCtr (addCtr (addCtr (addCtr (addCtr (ΓV0) 28 (pureCtr sOfV)) 30 (pureCtr sLocalV)) 48 (pureCtr sSubV)) 42 (pureCtr sScaleV)) 46 (pureCtr sDotV)) 45 (pureCtr sCrossV)) 47 (pureCtr sPerpV)) 40 (pureCtr sLenV)
def ΓV11 : Ctrs := addCtr (addCtr (addCtr (addCtr (addCtr (addCtr (addCtr (addCtr (ΓV10) 73 (pureCtr sAngleV)) 75 (pureCtr sApplyV)) 76 (pureCtr sBackV)) 124 (pureCtr sComposeV)) 29 (pureCtr sOfV)) 31 (pureCtr sLocalV)) 57 (pureCtr sSubV)) 58 (pureCtr sScaleV)
def ΓV1 : Ctrs := addCtr (addCtr (addCtr (addCtr (addCtr (addCtr (ΓV11) 59 (pureCtr sDotV)) 60 (pureCtr sCrossV)) 61 (pureCtr sPerpV)) 64 (pureCtr sLenV)) 105 (pureCtr sApplyV)) 106 (pureCtr sBackV)
theorem vcTurnV (a0 : NB) (a1 : VB) (R : SV → Prop) : (vcPure Try.prog ΓV1 noΛ Try.f62 [nS a0, vS a1] R) =
(((I64 (NB.v (VB.x a1))) ∧ (I64 (NB.v (VB.y a1)))) ∧ ((((I64 (NB.v (VB.x (perpV a1)))) ∧ (I64 (NB.v (VB.y (perpV a1))))) ∧ (I64 (NB.v a0))) ∧ (R (SV.agg [(SV.v (Value.int IntKind.i64 (NB.v (VB.x (scaV (perpV a1) a0))))), (SV.v (Value.bool (NB.f (VB.x (scaV (perpV a1) a0))))), (SV.v (Value.int IntKind.i64 (NB.v (VB.y (scaV (perpV a1) a0))))), (SV.v (Value.bool (NB.f (VB.y (scaV (perpV a1) a0)))))])))) := by kernel_rfl
theorem vcSpinV (a0 : VB) (a1 : NB) (R : SV → Prop) : (vcPure Try.prog ΓV1 noΛ Try.f80 [vS a0, nS a1] R) =
((I64 (NB.v a1)) ∧ ((((I64 (NB.v (VB.x (angV a1)))) ∧ (I64 (NB.v (VB.y (angV a1))))) ∧ ((I64 (NB.v (VB.x a0))) ∧ (I64 (NB.v (VB.y a0))))) ∧ (R (SV.agg [(SV.v (Value.int IntKind.i64 (NB.v (VB.x (comV (angV a1) a0))))), (SV.v (Value.bool (NB.f (VB.x (comV (angV a1) a0))))), (SV.v (Value.int IntKind.i64 (NB.v (VB.y (comV (angV a1) a0))))), (SV.v (Value.bool (NB.f (VB.y (comV (angV a1) a0)))))])))) := by kernel_rfl
theorem vcRTurnV (a0 : NB) (a1 : VB) (R : SV → Prop) : (vcPure Try.prog ΓV1 noΛ Try.f63 [nS a0, vS a1] R) =
(((I64 (NB.v (VB.x a1))) ∧ (I64 (NB.v (VB.y a1)))) ∧ ((((I64 (NB.v (VB.x (perpV a1)))) ∧ (I64 (NB.v (VB.y (perpV a1))))) ∧ (I64 (NB.v a0))) ∧ (R (SV.agg [(SV.v (Value.int IntKind.i64 (NB.v (VB.x (scaV (perpV a1) a0))))), (SV.v (Value.bool (NB.f (VB.x (scaV (perpV a1) a0))))), (SV.v (Value.int IntKind.i64 (NB.v (VB.y (scaV (perpV a1) a0))))), (SV.v (Value.bool (NB.f (VB.y (scaV (perpV a1) a0)))))])))) := by kernel_rfl
def ΓV2 : Ctrs := addCtr (addCtr (addCtr (ΓV1) 62 (pureCtr sTurnV)) 80 (pureCtr sSpinV)) 63 (pureCtr sTurnV)
theorem neg_i {a : NB} (h : I64 a.v) : I64 (negN a).v := (neg_sd (sndV_sd h)).i64
theorem int_i (a : Int) : I64 (intN a).v := (fitE_sd _).i64
theorem rat_i (a b : Int) : I64 (ratN a b).v := (ratV_sd _ _).i64
theorem mul_i (a b : NB) : I64 (mulN a b).v := (fitE_sd _).i64
theorem div_i (a b : NB) : I64 (divN a b).v := (ratV_sd _ _).i64
theorem sub_i (a b : NB) : I64 (subN a b).v := (fitE_sd _).i64
theorem add_i (a b : NB) : I64 (addN a b).v := (fitE_sd _).i64
theorem dot_i (a b c d : NB) : I64 (dotN a b c d).v := (fitE_sd _).i64
theorem hyp_i (a b : NB) : I64 (hypN a b).v := (fitE_sd _).i64
theorem sum1_i (a : NB) : I64 (sum1 a).v := (fitE_sd _).i64
theorem sin_i (a : NB) : I64 (sinN a).v := by have := sinN_in a; exact ⟨by omega, by omega⟩
theorem cos_i (a : NB) : I64 (cosN a).v := sin_i _
theorem isNI_i (v : Int) (f : Bool) : isNI [SV.v (Value.int .i64 v), SV.v (Value.bool f)] = I64 v := rfl
theorem lit_i (n : Int) (h : decide (-9223372036854775808 ≤ n) = true ∧ decide (n < 9223372036854775808) = true) : I64 n := ⟨of_decide_eq_true h.1, of_decide_eq_true h.2⟩
theorem i256 : I64 256 := ⟨by decide, by decide⟩
theorem com_i {r s : VB} : I64 (comV r s).x.v ∧ I64 (comV r s).y.v := by
  unfold comV
  cases ((hypN (dotN r.x s.x (negN r.y) s.y) (dotN r.y s.x r.x s.y)).v == 0)
  · exact ⟨div_i _ _, div_i _ _⟩
  · exact ⟨dot_i _ _ _ _, dot_i _ _ _ _⟩
theorem perp_ix {v : VB} (h : I64 v.y.v) : I64 (perpV v).x.v := neg_i h
theorem perp_iy (v : VB) : I64 (perpV v).y.v := sum1_i _
theorem ang_ix (x : NB) : I64 (angV x).x.v := cos_i _
theorem ang_iy (x : NB) : I64 (angV x).y.v := sin_i _
theorem ΓV00_ok : ∀ f g, ΓV00 f = some g → g.ok Try.prog f := addCtr_ok (addCtr_ok (addCtr_ok (addCtr_ok (addCtr_ok (addCtr_ok (addCtr_ok (addCtr_ok (noCtrs_ok) (pure_ok Try.func85 (by kernel_rfl) (by kernel_rfl) (spec := i1B intN) Int_spec)) (pure_ok Try.func87 (by kernel_rfl) (by kernel_rfl) (spec := i2B ratN) Ratio_spec)) (pure_ok Try.func100 (by kernel_rfl) (by kernel_rfl) (spec := n1B negN) Neg_spec)) (pure_ok Try.func98 (by kernel_rfl) (by kernel_rfl) (spec := n2B mulN) Mul_spec)) (pure_ok Try.func81 (by kernel_rfl) (by kernel_rfl) (spec := n2B divN) Div_spec)) (pure_ok Try.func104 (by kernel_rfl) (by kernel_rfl) (spec := n2B subN) Sub_spec)) (pure_ok Try.func97 (by kernel_rfl) (by kernel_rfl) (spec := n2B hypN) Hypot_spec)) (pure_ok Try.func99 (by kernel_rfl) (by kernel_rfl) (spec := n4B dotN) Dot_spec)
theorem ΓV01_ok : ∀ f g, ΓV01 f = some g → g.ok Try.prog f := addCtr_ok (addCtr_ok (addCtr_ok (addCtr_ok (addCtr_ok (addCtr_ok (addCtr_ok (addCtr_ok (ΓV00_ok) (pure_ok Try.func122 (by kernel_rfl) (by kernel_rfl) (spec := n1B sinN) Sin_spec)) (pure_ok Try.func121 (by kernel_rfl) (by kernel_rfl) (spec := n1B cosN) Cos_spec)) (pure_ok Try.func86 (by kernel_rfl) (by kernel_rfl) Of2_spec)) (ro_ok Try.func103 (by kernel_rfl) (by kernel_rfl) Sum_spec)) (pure_ok Try.func91 (by kernel_rfl) (by kernel_rfl) (spec := i1B intN) RInt_spec)) (pure_ok Try.func92 (by kernel_rfl) (by kernel_rfl) (spec := i2B ratN) RRatio_spec)) (pure_ok Try.func102 (by kernel_rfl) (by kernel_rfl) (spec := n1B negN) RNeg_spec)) (pure_ok Try.func112 (by kernel_rfl) (by kernel_rfl) (spec := n2B mulN) RMul_spec)
theorem ΓV02_ok : ∀ f g, ΓV02 f = some g → g.ok Try.prog f := addCtr_ok (addCtr_ok (addCtr_ok (addCtr_ok (addCtr_ok (addCtr_ok (ΓV01_ok) (pure_ok Try.func84 (by kernel_rfl) (by kernel_rfl) (spec := n2B divN) RDiv_spec)) (pure_ok Try.func111 (by kernel_rfl) (by kernel_rfl) (spec := n2B subN) RSub_spec)) (pure_ok Try.func113 (by kernel_rfl) (by kernel_rfl) (spec := n2B hypN) RHypot_spec)) (pure_ok Try.func101 (by kernel_rfl) (by kernel_rfl) (spec := n4B dotN) RDot_spec)) (pure_ok Try.func83 (by kernel_rfl) (by kernel_rfl) ROf_spec)) (ro_ok Try.func107 (by kernel_rfl) (by kernel_rfl) RSum_spec)
theorem ΓV0_ok : ∀ f g, ΓV0 f = some g → g.ok Try.prog f := addCtr_ok (ΓV02_ok) (pure_ok Try.func82 (by kernel_rfl) (by kernel_rfl) (spec := n1B absN) RAbs_spec)
theorem OfV_spec : PureSpec Try.prog 28 sOfV := vc_spec hm ΓV0_ok Try.func28 (Λ := fun _ => noΛ) fun args p x h hp => by
  unfold sOfV at h
  split at h <;> try (cases h; done)
  rename_i a0 a1
  cases h
  obtain ⟨h0, h1⟩ := hp _ rfl
  refine ⟨rfl, rfl, ?_⟩
  refine Eq.mpr (vcOfV a0 a1 _) ?_
  simp only [int_i, rat_i, mul_i, div_i, sub_i, dot_i, hyp_i, sin_i, cos_i, sum1_i, isNI_i, i256, perp_iy, ang_ix, ang_iy, and_true, true_and, and_self, neg_i, perp_ix, h0, h1] <;> first | rfl | exact ⟨by decide, rfl⟩ | exact ⟨⟨rfl, by decide⟩, rfl⟩
theorem LocalV_spec : PureSpec Try.prog 30 sLocalV := vc_spec hm ΓV0_ok Try.func30 (Λ := fun _ => noΛ) fun args p x h hp => by
  unfold sLocalV at h
  split at h <;> try (cases h; done)
  rename_i a0 b0
  cases h
  obtain ⟨h0, k0⟩ := hp _ rfl
  refine ⟨rfl, rfl, ?_⟩
  refine Eq.mpr (vcLocalV (a0, b0) _) ?_
  simp only [int_i, rat_i, mul_i, div_i, sub_i, dot_i, hyp_i, sin_i, cos_i, sum1_i, isNI_i, i256, perp_iy, ang_ix, ang_iy, and_true, true_and, and_self, neg_i, perp_ix, h0, k0] <;> first | rfl | exact ⟨by decide, rfl⟩ | exact ⟨⟨rfl, by decide⟩, rfl⟩
theorem SubV_spec : PureSpec Try.prog 48 sSubV := vc_spec hm ΓV0_ok Try.func48 (Λ := fun _ => noΛ) fun args p x h hp => by
  unfold sSubV at h
  split at h <;> try (cases h; done)
  rename_i a0 f0 b0 g0 a1 f1 b1 g1
  cases h
  obtain ⟨⟨h0, k0⟩, ⟨h1, k1⟩⟩ := hp _ rfl
  refine ⟨rfl, rfl, ?_⟩
  refine Eq.mpr (vcSubV ⟨⟨a0, f0⟩, ⟨b0, g0⟩⟩ ⟨⟨a1, f1⟩, ⟨b1, g1⟩⟩ _) ?_
  simp only [int_i, rat_i, mul_i, div_i, sub_i, dot_i, hyp_i, sin_i, cos_i, sum1_i, isNI_i, i256, perp_iy, ang_ix, ang_iy, and_true, true_and, and_self, neg_i, perp_ix, h0, k0, h1, k1] <;> first | rfl | exact ⟨by decide, rfl⟩ | exact ⟨⟨rfl, by decide⟩, rfl⟩
theorem ScaleV_spec : PureSpec Try.prog 42 sScaleV := vc_spec hm ΓV0_ok Try.func42 (Λ := fun _ => noΛ) fun args p x h hp => by
  unfold sScaleV at h
  split at h <;> try (cases h; done)
  rename_i a0 f0 b0 g0 a1 f1
  cases h
  obtain ⟨⟨h0, k0⟩, h1⟩ := hp _ rfl
  refine ⟨rfl, rfl, ?_⟩
  refine Eq.mpr (vcScaleV ⟨⟨a0, f0⟩, ⟨b0, g0⟩⟩ ⟨a1, f1⟩ _) ?_
  simp only [int_i, rat_i, mul_i, div_i, sub_i, dot_i, hyp_i, sin_i, cos_i, sum1_i, isNI_i, i256, perp_iy, ang_ix, ang_iy, and_true, true_and, and_self, neg_i, perp_ix, h0, k0, h1] <;> first | rfl | exact ⟨by decide, rfl⟩ | exact ⟨⟨rfl, by decide⟩, rfl⟩
theorem DotV_spec : PureSpec Try.prog 46 sDotV := vc_spec hm ΓV0_ok Try.func46 (Λ := fun _ => noΛ) fun args p x h hp => by
  unfold sDotV at h
  split at h <;> try (cases h; done)
  rename_i a0 f0 b0 g0 a1 f1 b1 g1
  cases h
  obtain ⟨⟨h0, k0⟩, ⟨h1, k1⟩⟩ := hp _ rfl
  refine ⟨rfl, rfl, ?_⟩
  refine Eq.mpr (vcDotV ⟨⟨a0, f0⟩, ⟨b0, g0⟩⟩ ⟨⟨a1, f1⟩, ⟨b1, g1⟩⟩ _) ?_
  simp only [int_i, rat_i, mul_i, div_i, sub_i, dot_i, hyp_i, sin_i, cos_i, sum1_i, isNI_i, i256, perp_iy, ang_ix, ang_iy, and_true, true_and, and_self, neg_i, perp_ix, h0, k0, h1, k1] <;> first | rfl | exact ⟨by decide, rfl⟩ | exact ⟨⟨rfl, by decide⟩, rfl⟩
theorem CrossV_spec : PureSpec Try.prog 45 sCrossV := vc_spec hm ΓV0_ok Try.func45 (Λ := fun _ => noΛ) fun args p x h hp => by
  unfold sCrossV at h
  split at h <;> try (cases h; done)
  rename_i a0 f0 b0 g0 a1 f1 b1 g1
  cases h
  obtain ⟨⟨h0, k0⟩, ⟨h1, k1⟩⟩ := hp _ rfl
  refine ⟨rfl, rfl, ?_⟩
  refine Eq.mpr (vcCrossV ⟨⟨a0, f0⟩, ⟨b0, g0⟩⟩ ⟨⟨a1, f1⟩, ⟨b1, g1⟩⟩ _) ?_
  simp only [int_i, rat_i, mul_i, div_i, sub_i, dot_i, hyp_i, sin_i, cos_i, sum1_i, isNI_i, i256, perp_iy, ang_ix, ang_iy, and_true, true_and, and_self, neg_i, perp_ix, h0, k0, h1, k1] <;> first | rfl | exact ⟨by decide, rfl⟩ | exact ⟨⟨rfl, by decide⟩, rfl⟩
theorem PerpV_spec : PureSpec Try.prog 47 sPerpV := vc_spec hm ΓV0_ok Try.func47 (Λ := fun _ => noΛ) fun args p x h hp => by
  unfold sPerpV at h
  split at h <;> try (cases h; done)
  rename_i a0 f0 b0 g0
  cases h
  obtain ⟨h0, k0⟩ := hp _ rfl
  refine ⟨rfl, rfl, ?_⟩
  refine Eq.mpr (vcPerpV ⟨⟨a0, f0⟩, ⟨b0, g0⟩⟩ _) ?_
  simp only [int_i, rat_i, mul_i, div_i, sub_i, dot_i, hyp_i, sin_i, cos_i, sum1_i, isNI_i, i256, perp_iy, ang_ix, ang_iy, and_true, true_and, and_self, neg_i, perp_ix, h0, k0] <;> first | rfl | exact ⟨by decide, rfl⟩ | exact ⟨⟨rfl, by decide⟩, rfl⟩
theorem LenV_spec : PureSpec Try.prog 40 sLenV := vc_spec hm ΓV0_ok Try.func40 (Λ := fun _ => noΛ) fun args p x h hp => by
  unfold sLenV at h
  split at h <;> try (cases h; done)
  rename_i a0 f0 b0 g0
  cases h
  obtain ⟨h0, k0⟩ := hp _ rfl
  refine ⟨rfl, rfl, ?_⟩
  refine Eq.mpr (vcLenV ⟨⟨a0, f0⟩, ⟨b0, g0⟩⟩ _) ?_
  simp only [int_i, rat_i, mul_i, div_i, sub_i, dot_i, hyp_i, sin_i, cos_i, sum1_i, isNI_i, i256, perp_iy, ang_ix, ang_iy, and_true, true_and, and_self, neg_i, perp_ix, h0, k0] <;> first | rfl | exact ⟨by decide, rfl⟩ | exact ⟨⟨rfl, by decide⟩, rfl⟩
theorem AngleV_spec : PureSpec Try.prog 73 sAngleV := vc_spec hm ΓV0_ok Try.func73 (Λ := fun _ => noΛ) fun args p x h hp => by
  unfold sAngleV at h
  split at h <;> try (cases h; done)
  rename_i a0 f0
  cases h
  obtain h0 := hp _ rfl
  refine ⟨rfl, rfl, ?_⟩
  refine Eq.mpr (vcAngleV ⟨a0, f0⟩ _) ?_
  simp only [int_i, rat_i, mul_i, div_i, sub_i, dot_i, hyp_i, sin_i, cos_i, sum1_i, isNI_i, i256, perp_iy, ang_ix, ang_iy, and_true, true_and, and_self, neg_i, perp_ix, h0] <;> first | rfl | exact ⟨by decide, rfl⟩ | exact ⟨⟨rfl, by decide⟩, rfl⟩
theorem ApplyV_spec : PureSpec Try.prog 75 sApplyV := vc_spec hm ΓV0_ok Try.func75 (Λ := fun _ => noΛ) fun args p x h hp => by
  unfold sApplyV at h
  split at h <;> try (cases h; done)
  rename_i a0 f0 b0 g0 a1 f1 b1 g1
  cases h
  obtain ⟨⟨h0, k0⟩, ⟨h1, k1⟩⟩ := hp _ rfl
  refine ⟨rfl, rfl, ?_⟩
  refine Eq.mpr (vcApplyV ⟨⟨a0, f0⟩, ⟨b0, g0⟩⟩ ⟨⟨a1, f1⟩, ⟨b1, g1⟩⟩ _) ?_
  simp only [int_i, rat_i, mul_i, div_i, sub_i, dot_i, hyp_i, sin_i, cos_i, sum1_i, isNI_i, i256, perp_iy, ang_ix, ang_iy, and_true, true_and, and_self, neg_i, perp_ix, h0, k0, h1, k1] <;> first | rfl | exact ⟨by decide, rfl⟩ | exact ⟨⟨rfl, by decide⟩, rfl⟩
theorem BackV_spec : PureSpec Try.prog 76 sBackV := vc_spec hm ΓV0_ok Try.func76 (Λ := fun _ => noΛ) fun args p x h hp => by
  unfold sBackV at h
  split at h <;> try (cases h; done)
  rename_i a0 f0 b0 g0 a1 f1 b1 g1
  cases h
  obtain ⟨⟨h0, k0⟩, ⟨h1, k1⟩⟩ := hp _ rfl
  refine ⟨rfl, rfl, ?_⟩
  refine Eq.mpr (vcBackV ⟨⟨a0, f0⟩, ⟨b0, g0⟩⟩ ⟨⟨a1, f1⟩, ⟨b1, g1⟩⟩ _) ?_
  simp only [int_i, rat_i, mul_i, div_i, sub_i, dot_i, hyp_i, sin_i, cos_i, sum1_i, isNI_i, i256, perp_iy, ang_ix, ang_iy, and_true, true_and, and_self, neg_i, perp_ix, h0, k0, h1, k1] <;> first | rfl | exact ⟨by decide, rfl⟩ | exact ⟨⟨rfl, by decide⟩, rfl⟩
theorem ComposeV_spec : PureSpec Try.prog 124 sComposeV := vc_spec hm ΓV0_ok Try.func124 (Λ := fun _ => noΛ) fun args p x h hp => by
  unfold sComposeV at h
  split at h <;> try (cases h; done)
  rename_i a0 f0 b0 g0 a1 f1 b1 g1
  cases h
  obtain ⟨⟨h0, k0⟩, ⟨h1, k1⟩⟩ := hp _ rfl
  refine ⟨rfl, rfl, ?_⟩
  refine Eq.mpr (vcComposeV ⟨⟨a0, f0⟩, ⟨b0, g0⟩⟩ ⟨⟨a1, f1⟩, ⟨b1, g1⟩⟩ _) ?_
  have hn := neg_i (a := ⟨b0, g0⟩) k0
  simp only [int_i, rat_i, mul_i, div_i, sub_i, dot_i, hyp_i, sin_i, cos_i, sum1_i, isNI_i, i256, perp_iy, ang_ix, ang_iy, and_true, true_and, and_self, h0, k0, h1, k1, hn, neg_i]
  unfold comV
  refine sel_of (fun g => ?_) fun g => ?_
  · rw [beq_eq_false_iff_ne.2 (bne_iff_ne.1 g)]; rfl
  · rw [beq_iff_eq.2 (bne_eq_false_iff_eq.1 g)]; rfl
theorem ROfV_spec : PureSpec Try.prog 29 sOfV := vc_spec hm ΓV0_ok Try.func29 (Λ := fun _ => noΛ) fun args p x h hp => by
  unfold sOfV at h
  split at h <;> try (cases h; done)
  rename_i a0 a1
  cases h
  obtain ⟨h0, h1⟩ := hp _ rfl
  refine ⟨rfl, rfl, ?_⟩
  refine Eq.mpr (vcROfV a0 a1 _) ?_
  simp only [int_i, rat_i, mul_i, div_i, sub_i, dot_i, hyp_i, sin_i, cos_i, sum1_i, isNI_i, i256, perp_iy, ang_ix, ang_iy, and_true, true_and, and_self, neg_i, perp_ix, h0, h1] <;> first | rfl | exact ⟨by decide, rfl⟩ | exact ⟨⟨rfl, by decide⟩, rfl⟩
theorem RLocalV_spec : PureSpec Try.prog 31 sLocalV := vc_spec hm ΓV0_ok Try.func31 (Λ := fun _ => noΛ) fun args p x h hp => by
  unfold sLocalV at h
  split at h <;> try (cases h; done)
  rename_i a0 b0
  cases h
  obtain ⟨h0, k0⟩ := hp _ rfl
  refine ⟨rfl, rfl, ?_⟩
  refine Eq.mpr (vcRLocalV (a0, b0) _) ?_
  simp only [int_i, rat_i, mul_i, div_i, sub_i, dot_i, hyp_i, sin_i, cos_i, sum1_i, isNI_i, i256, perp_iy, ang_ix, ang_iy, and_true, true_and, and_self, neg_i, perp_ix, h0, k0] <;> first | rfl | exact ⟨by decide, rfl⟩ | exact ⟨⟨rfl, by decide⟩, rfl⟩
theorem RSubV_spec : PureSpec Try.prog 57 sSubV := vc_spec hm ΓV0_ok Try.func57 (Λ := fun _ => noΛ) fun args p x h hp => by
  unfold sSubV at h
  split at h <;> try (cases h; done)
  rename_i a0 f0 b0 g0 a1 f1 b1 g1
  cases h
  obtain ⟨⟨h0, k0⟩, ⟨h1, k1⟩⟩ := hp _ rfl
  refine ⟨rfl, rfl, ?_⟩
  refine Eq.mpr (vcRSubV ⟨⟨a0, f0⟩, ⟨b0, g0⟩⟩ ⟨⟨a1, f1⟩, ⟨b1, g1⟩⟩ _) ?_
  simp only [int_i, rat_i, mul_i, div_i, sub_i, dot_i, hyp_i, sin_i, cos_i, sum1_i, isNI_i, i256, perp_iy, ang_ix, ang_iy, and_true, true_and, and_self, neg_i, perp_ix, h0, k0, h1, k1] <;> first | rfl | exact ⟨by decide, rfl⟩ | exact ⟨⟨rfl, by decide⟩, rfl⟩
theorem RScaleV_spec : PureSpec Try.prog 58 sScaleV := vc_spec hm ΓV0_ok Try.func58 (Λ := fun _ => noΛ) fun args p x h hp => by
  unfold sScaleV at h
  split at h <;> try (cases h; done)
  rename_i a0 f0 b0 g0 a1 f1
  cases h
  obtain ⟨⟨h0, k0⟩, h1⟩ := hp _ rfl
  refine ⟨rfl, rfl, ?_⟩
  refine Eq.mpr (vcRScaleV ⟨⟨a0, f0⟩, ⟨b0, g0⟩⟩ ⟨a1, f1⟩ _) ?_
  simp only [int_i, rat_i, mul_i, div_i, sub_i, dot_i, hyp_i, sin_i, cos_i, sum1_i, isNI_i, i256, perp_iy, ang_ix, ang_iy, and_true, true_and, and_self, neg_i, perp_ix, h0, k0, h1] <;> first | rfl | exact ⟨by decide, rfl⟩ | exact ⟨⟨rfl, by decide⟩, rfl⟩
theorem RDotV_spec : PureSpec Try.prog 59 sDotV := vc_spec hm ΓV0_ok Try.func59 (Λ := fun _ => noΛ) fun args p x h hp => by
  unfold sDotV at h
  split at h <;> try (cases h; done)
  rename_i a0 f0 b0 g0 a1 f1 b1 g1
  cases h
  obtain ⟨⟨h0, k0⟩, ⟨h1, k1⟩⟩ := hp _ rfl
  refine ⟨rfl, rfl, ?_⟩
  refine Eq.mpr (vcRDotV ⟨⟨a0, f0⟩, ⟨b0, g0⟩⟩ ⟨⟨a1, f1⟩, ⟨b1, g1⟩⟩ _) ?_
  simp only [int_i, rat_i, mul_i, div_i, sub_i, dot_i, hyp_i, sin_i, cos_i, sum1_i, isNI_i, i256, perp_iy, ang_ix, ang_iy, and_true, true_and, and_self, neg_i, perp_ix, h0, k0, h1, k1] <;> first | rfl | exact ⟨by decide, rfl⟩ | exact ⟨⟨rfl, by decide⟩, rfl⟩
theorem RCrossV_spec : PureSpec Try.prog 60 sCrossV := vc_spec hm ΓV0_ok Try.func60 (Λ := fun _ => noΛ) fun args p x h hp => by
  unfold sCrossV at h
  split at h <;> try (cases h; done)
  rename_i a0 f0 b0 g0 a1 f1 b1 g1
  cases h
  obtain ⟨⟨h0, k0⟩, ⟨h1, k1⟩⟩ := hp _ rfl
  refine ⟨rfl, rfl, ?_⟩
  refine Eq.mpr (vcRCrossV ⟨⟨a0, f0⟩, ⟨b0, g0⟩⟩ ⟨⟨a1, f1⟩, ⟨b1, g1⟩⟩ _) ?_
  simp only [int_i, rat_i, mul_i, div_i, sub_i, dot_i, hyp_i, sin_i, cos_i, sum1_i, isNI_i, i256, perp_iy, ang_ix, ang_iy, and_true, true_and, and_self, neg_i, perp_ix, h0, k0, h1, k1] <;> first | rfl | exact ⟨by decide, rfl⟩ | exact ⟨⟨rfl, by decide⟩, rfl⟩
theorem RPerpV_spec : PureSpec Try.prog 61 sPerpV := vc_spec hm ΓV0_ok Try.func61 (Λ := fun _ => noΛ) fun args p x h hp => by
  unfold sPerpV at h
  split at h <;> try (cases h; done)
  rename_i a0 f0 b0 g0
  cases h
  obtain ⟨h0, k0⟩ := hp _ rfl
  refine ⟨rfl, rfl, ?_⟩
  refine Eq.mpr (vcRPerpV ⟨⟨a0, f0⟩, ⟨b0, g0⟩⟩ _) ?_
  simp only [int_i, rat_i, mul_i, div_i, sub_i, dot_i, hyp_i, sin_i, cos_i, sum1_i, isNI_i, i256, perp_iy, ang_ix, ang_iy, and_true, true_and, and_self, neg_i, perp_ix, h0, k0] <;> first | rfl | exact ⟨by decide, rfl⟩ | exact ⟨⟨rfl, by decide⟩, rfl⟩
theorem RLenV_spec : PureSpec Try.prog 64 sLenV := vc_spec hm ΓV0_ok Try.func64 (Λ := fun _ => noΛ) fun args p x h hp => by
  unfold sLenV at h
  split at h <;> try (cases h; done)
  rename_i a0 f0 b0 g0
  cases h
  obtain ⟨h0, k0⟩ := hp _ rfl
  refine ⟨rfl, rfl, ?_⟩
  refine Eq.mpr (vcRLenV ⟨⟨a0, f0⟩, ⟨b0, g0⟩⟩ _) ?_
  simp only [int_i, rat_i, mul_i, div_i, sub_i, dot_i, hyp_i, sin_i, cos_i, sum1_i, isNI_i, i256, perp_iy, ang_ix, ang_iy, and_true, true_and, and_self, neg_i, perp_ix, h0, k0] <;> first | rfl | exact ⟨by decide, rfl⟩ | exact ⟨⟨rfl, by decide⟩, rfl⟩
theorem RApplyV_spec : PureSpec Try.prog 105 sApplyV := vc_spec hm ΓV0_ok Try.func105 (Λ := fun _ => noΛ) fun args p x h hp => by
  unfold sApplyV at h
  split at h <;> try (cases h; done)
  rename_i a0 f0 b0 g0 a1 f1 b1 g1
  cases h
  obtain ⟨⟨h0, k0⟩, ⟨h1, k1⟩⟩ := hp _ rfl
  refine ⟨rfl, rfl, ?_⟩
  refine Eq.mpr (vcRApplyV ⟨⟨a0, f0⟩, ⟨b0, g0⟩⟩ ⟨⟨a1, f1⟩, ⟨b1, g1⟩⟩ _) ?_
  simp only [int_i, rat_i, mul_i, div_i, sub_i, dot_i, hyp_i, sin_i, cos_i, sum1_i, isNI_i, i256, perp_iy, ang_ix, ang_iy, and_true, true_and, and_self, neg_i, perp_ix, h0, k0, h1, k1] <;> first | rfl | exact ⟨by decide, rfl⟩ | exact ⟨⟨rfl, by decide⟩, rfl⟩
theorem RBackV_spec : PureSpec Try.prog 106 sBackV := vc_spec hm ΓV0_ok Try.func106 (Λ := fun _ => noΛ) fun args p x h hp => by
  unfold sBackV at h
  split at h <;> try (cases h; done)
  rename_i a0 f0 b0 g0 a1 f1 b1 g1
  cases h
  obtain ⟨⟨h0, k0⟩, ⟨h1, k1⟩⟩ := hp _ rfl
  refine ⟨rfl, rfl, ?_⟩
  refine Eq.mpr (vcRBackV ⟨⟨a0, f0⟩, ⟨b0, g0⟩⟩ ⟨⟨a1, f1⟩, ⟨b1, g1⟩⟩ _) ?_
  simp only [int_i, rat_i, mul_i, div_i, sub_i, dot_i, hyp_i, sin_i, cos_i, sum1_i, isNI_i, i256, perp_iy, ang_ix, ang_iy, and_true, true_and, and_self, neg_i, perp_ix, h0, k0, h1, k1] <;> first | rfl | exact ⟨by decide, rfl⟩ | exact ⟨⟨rfl, by decide⟩, rfl⟩
theorem ΓV10_ok : ∀ f g, ΓV10 f = some g → g.ok Try.prog f := addCtr_ok (addCtr_ok (addCtr_ok (addCtr_ok (addCtr_ok (addCtr_ok (addCtr_ok (addCtr_ok (ΓV0_ok) (pure_ok Try.func28 (by kernel_rfl) (by kernel_rfl) OfV_spec)) (pure_ok Try.func30 (by kernel_rfl) (by kernel_rfl) LocalV_spec)) (pure_ok Try.func48 (by kernel_rfl) (by kernel_rfl) SubV_spec)) (pure_ok Try.func42 (by kernel_rfl) (by kernel_rfl) ScaleV_spec)) (pure_ok Try.func46 (by kernel_rfl) (by kernel_rfl) DotV_spec)) (pure_ok Try.func45 (by kernel_rfl) (by kernel_rfl) CrossV_spec)) (pure_ok Try.func47 (by kernel_rfl) (by kernel_rfl) PerpV_spec)) (pure_ok Try.func40 (by kernel_rfl) (by kernel_rfl) LenV_spec)
theorem ΓV11_ok : ∀ f g, ΓV11 f = some g → g.ok Try.prog f := addCtr_ok (addCtr_ok (addCtr_ok (addCtr_ok (addCtr_ok (addCtr_ok (addCtr_ok (addCtr_ok (ΓV10_ok) (pure_ok Try.func73 (by kernel_rfl) (by kernel_rfl) AngleV_spec)) (pure_ok Try.func75 (by kernel_rfl) (by kernel_rfl) ApplyV_spec)) (pure_ok Try.func76 (by kernel_rfl) (by kernel_rfl) BackV_spec)) (pure_ok Try.func124 (by kernel_rfl) (by kernel_rfl) ComposeV_spec)) (pure_ok Try.func29 (by kernel_rfl) (by kernel_rfl) ROfV_spec)) (pure_ok Try.func31 (by kernel_rfl) (by kernel_rfl) RLocalV_spec)) (pure_ok Try.func57 (by kernel_rfl) (by kernel_rfl) RSubV_spec)) (pure_ok Try.func58 (by kernel_rfl) (by kernel_rfl) RScaleV_spec)
theorem ΓV1_ok : ∀ f g, ΓV1 f = some g → g.ok Try.prog f := addCtr_ok (addCtr_ok (addCtr_ok (addCtr_ok (addCtr_ok (addCtr_ok (ΓV11_ok) (pure_ok Try.func59 (by kernel_rfl) (by kernel_rfl) RDotV_spec)) (pure_ok Try.func60 (by kernel_rfl) (by kernel_rfl) RCrossV_spec)) (pure_ok Try.func61 (by kernel_rfl) (by kernel_rfl) RPerpV_spec)) (pure_ok Try.func64 (by kernel_rfl) (by kernel_rfl) RLenV_spec)) (pure_ok Try.func105 (by kernel_rfl) (by kernel_rfl) RApplyV_spec)) (pure_ok Try.func106 (by kernel_rfl) (by kernel_rfl) RBackV_spec)
theorem TurnV_spec : PureSpec Try.prog 62 sTurnV := vc_spec hm ΓV1_ok Try.func62 (Λ := fun _ => noΛ) fun args p x h hp => by
  unfold sTurnV at h
  split at h <;> try (cases h; done)
  rename_i a0 f0 a1 f1 b1 g1
  cases h
  obtain ⟨h0, ⟨h1, k1⟩⟩ := hp _ rfl
  refine ⟨rfl, rfl, ?_⟩
  refine Eq.mpr (vcTurnV ⟨a0, f0⟩ ⟨⟨a1, f1⟩, ⟨b1, g1⟩⟩ _) ?_
  simp only [int_i, rat_i, mul_i, div_i, sub_i, dot_i, hyp_i, sin_i, cos_i, sum1_i, isNI_i, i256, perp_iy, ang_ix, ang_iy, and_true, true_and, and_self, neg_i, perp_ix, h0, h1, k1] <;> first | rfl | exact ⟨by decide, rfl⟩ | exact ⟨⟨rfl, by decide⟩, rfl⟩
theorem SpinV_spec : PureSpec Try.prog 80 sSpinV := vc_spec hm ΓV1_ok Try.func80 (Λ := fun _ => noΛ) fun args p x h hp => by
  unfold sSpinV at h
  split at h <;> try (cases h; done)
  rename_i a0 f0 b0 g0 a1 f1
  cases h
  obtain ⟨⟨h0, k0⟩, h1⟩ := hp _ rfl
  refine ⟨rfl, rfl, ?_⟩
  refine Eq.mpr (vcSpinV ⟨⟨a0, f0⟩, ⟨b0, g0⟩⟩ ⟨a1, f1⟩ _) ?_
  simp only [int_i, rat_i, mul_i, div_i, sub_i, dot_i, hyp_i, sin_i, cos_i, sum1_i, isNI_i, i256, perp_iy, ang_ix, ang_iy, and_true, true_and, and_self, neg_i, perp_ix, h0, k0, h1] <;> first | rfl | exact ⟨by decide, rfl⟩ | exact ⟨⟨rfl, by decide⟩, rfl⟩
theorem RTurnV_spec : PureSpec Try.prog 63 sTurnV := vc_spec hm ΓV1_ok Try.func63 (Λ := fun _ => noΛ) fun args p x h hp => by
  unfold sTurnV at h
  split at h <;> try (cases h; done)
  rename_i a0 f0 a1 f1 b1 g1
  cases h
  obtain ⟨h0, ⟨h1, k1⟩⟩ := hp _ rfl
  refine ⟨rfl, rfl, ?_⟩
  refine Eq.mpr (vcRTurnV ⟨a0, f0⟩ ⟨⟨a1, f1⟩, ⟨b1, g1⟩⟩ _) ?_
  simp only [int_i, rat_i, mul_i, div_i, sub_i, dot_i, hyp_i, sin_i, cos_i, sum1_i, isNI_i, i256, perp_iy, ang_ix, ang_iy, and_true, true_and, and_self, neg_i, perp_ix, h0, h1, k1] <;> first | rfl | exact ⟨by decide, rfl⟩ | exact ⟨⟨rfl, by decide⟩, rfl⟩
theorem ΓV2_ok : ∀ f g, ΓV2 f = some g → g.ok Try.prog f := addCtr_ok (addCtr_ok (addCtr_ok (ΓV1_ok) (pure_ok Try.func62 (by kernel_rfl) (by kernel_rfl) TurnV_spec)) (pure_ok Try.func80 (by kernel_rfl) (by kernel_rfl) SpinV_spec)) (pure_ok Try.func63 (by kernel_rfl) (by kernel_rfl) RTurnV_spec)
end Go.Proofs.Ytheljpebapokjaa
