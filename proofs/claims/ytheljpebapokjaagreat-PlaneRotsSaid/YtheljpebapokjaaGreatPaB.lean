/-
  Contracts of vectors and rotations: of the program, and of the reference.
-/
import Derived.Test.YtheljpebapokjaaGreatPaA
set_option maxRecDepth 100000
set_option linter.unusedSimpArgs false
namespace Go.Proofs.YtheljpebapokjaaGreat
open Go.SE Go.RowKit

def ofV (x y : Int) : VB := ⟨intN x, intN y⟩
def locV (p : Int × Int) : VB := ⟨ratN p.1 256, ratN p.2 256⟩
def subV (a b : VB) : VB := ⟨subN a.x b.x, subN a.y b.y⟩
def scaV (v : VB) (k : NB) : VB := ⟨mulN v.x k, mulN v.y k⟩
def dotV (a b : VB) : NB := dotN a.x b.x a.y b.y
def crsV (a b : VB) : NB := dotN a.x b.y (negN a.y) b.x
def sum1 (a : NB) : NB := fitN (sndV a.v + 0) (sndF a.v a.f || false)
def perpV (v : VB) : VB := ⟨negN v.y, sum1 v.x⟩
def turV (k : NB) (v : VB) : VB := scaV (perpV v) k
def lenV (v : VB) : NB := hypN v.x v.y
def angV (x : NB) : VB := ⟨cosN x, sinN x⟩
def appV (r v : VB) : VB := ⟨dotN r.x v.x (negN r.y) v.y, dotN r.y v.x r.x v.y⟩
def bacV (r v : VB) : VB := ⟨dotN r.x v.x r.y v.y, dotN (negN r.y) v.x r.x v.y⟩
def comV (r s : VB) : VB :=
  bif (hypN (dotN r.x s.x (negN r.y) s.y) (dotN r.y s.x r.x s.y)).v == 0 then ⟨dotN r.x s.x (negN r.y) s.y, dotN r.y s.x r.x s.y⟩
  else ⟨divN (dotN r.x s.x (negN r.y) s.y) (hypN (dotN r.x s.x (negN r.y) s.y) (dotN r.y s.x r.x s.y)), divN (dotN r.y s.x r.x s.y) (hypN (dotN r.x s.x (negN r.y) s.y) (dotN r.y s.x r.x s.y))⟩
def spiV (r : VB) (w : NB) : VB := comV (angV w) r
def sOfV : List SV → Option (Option Prop × SV)
  | [.v (.int .i64 a0), .v (.int .i64 a1)] => some (some (I64 a0 ∧ I64 a1), vS (ofV a0 a1))
  | _ => none
def sLocalV : List SV → Option (Option Prop × SV)
  | [.agg [.v (.int .i64 a0), .v (.int .i64 b0)]] => some (some ((I64 a0 ∧ I64 b0)), vS (locV (a0, b0)))
  | _ => none
def sSubV : List SV → Option (Option Prop × SV)
  | [.agg [.v (.int .i64 a0), .v (.bool f0), .v (.int .i64 b0), .v (.bool g0)], .agg [.v (.int .i64 a1), .v (.bool f1), .v (.int .i64 b1), .v (.bool g1)]] => some (some ((I64 a0 ∧ I64 b0) ∧ (I64 a1 ∧ I64 b1)), vS (subV ⟨⟨a0, f0⟩, ⟨b0, g0⟩⟩ ⟨⟨a1, f1⟩, ⟨b1, g1⟩⟩))
  | _ => none
def sScaleV : List SV → Option (Option Prop × SV)
  | [.agg [.v (.int .i64 a0), .v (.bool f0), .v (.int .i64 b0), .v (.bool g0)], .agg [.v (.int .i64 a1), .v (.bool f1)]] => some (some ((I64 a0 ∧ I64 b0) ∧ I64 a1), vS (scaV ⟨⟨a0, f0⟩, ⟨b0, g0⟩⟩ ⟨a1, f1⟩))
  | _ => none
def sDotV : List SV → Option (Option Prop × SV)
  | [.agg [.v (.int .i64 a0), .v (.bool f0), .v (.int .i64 b0), .v (.bool g0)], .agg [.v (.int .i64 a1), .v (.bool f1), .v (.int .i64 b1), .v (.bool g1)]] => some (some ((I64 a0 ∧ I64 b0) ∧ (I64 a1 ∧ I64 b1)), nS (dotV ⟨⟨a0, f0⟩, ⟨b0, g0⟩⟩ ⟨⟨a1, f1⟩, ⟨b1, g1⟩⟩))
  | _ => none
def sCrossV : List SV → Option (Option Prop × SV)
  | [.agg [.v (.int .i64 a0), .v (.bool f0), .v (.int .i64 b0), .v (.bool g0)], .agg [.v (.int .i64 a1), .v (.bool f1), .v (.int .i64 b1), .v (.bool g1)]] => some (some ((I64 a0 ∧ I64 b0) ∧ (I64 a1 ∧ I64 b1)), nS (crsV ⟨⟨a0, f0⟩, ⟨b0, g0⟩⟩ ⟨⟨a1, f1⟩, ⟨b1, g1⟩⟩))
  | _ => none
def sPerpV : List SV → Option (Option Prop × SV)
  | [.agg [.v (.int .i64 a0), .v (.bool f0), .v (.int .i64 b0), .v (.bool g0)]] => some (some ((I64 a0 ∧ I64 b0)), vS (perpV ⟨⟨a0, f0⟩, ⟨b0, g0⟩⟩))
  | _ => none
def sLenV : List SV → Option (Option Prop × SV)
  | [.agg [.v (.int .i64 a0), .v (.bool f0), .v (.int .i64 b0), .v (.bool g0)]] => some (some ((I64 a0 ∧ I64 b0)), nS (lenV ⟨⟨a0, f0⟩, ⟨b0, g0⟩⟩))
  | _ => none
def sAngleV : List SV → Option (Option Prop × SV)
  | [.agg [.v (.int .i64 a0), .v (.bool f0)]] => some (some (I64 a0), vS (angV ⟨a0, f0⟩))
  | _ => none
def sApplyV : List SV → Option (Option Prop × SV)
  | [.agg [.v (.int .i64 a0), .v (.bool f0), .v (.int .i64 b0), .v (.bool g0)], .agg [.v (.int .i64 a1), .v (.bool f1), .v (.int .i64 b1), .v (.bool g1)]] => some (some ((I64 a0 ∧ I64 b0) ∧ (I64 a1 ∧ I64 b1)), vS (appV ⟨⟨a0, f0⟩, ⟨b0, g0⟩⟩ ⟨⟨a1, f1⟩, ⟨b1, g1⟩⟩))
  | _ => none
def sBackV : List SV → Option (Option Prop × SV)
  | [.agg [.v (.int .i64 a0), .v (.bool f0), .v (.int .i64 b0), .v (.bool g0)], .agg [.v (.int .i64 a1), .v (.bool f1), .v (.int .i64 b1), .v (.bool g1)]] => some (some ((I64 a0 ∧ I64 b0) ∧ (I64 a1 ∧ I64 b1)), vS (bacV ⟨⟨a0, f0⟩, ⟨b0, g0⟩⟩ ⟨⟨a1, f1⟩, ⟨b1, g1⟩⟩))
  | _ => none
def sComposeV : List SV → Option (Option Prop × SV)
  | [.agg [.v (.int .i64 a0), .v (.bool f0), .v (.int .i64 b0), .v (.bool g0)], .agg [.v (.int .i64 a1), .v (.bool f1), .v (.int .i64 b1), .v (.bool g1)]] => some (some ((I64 a0 ∧ I64 b0) ∧ (I64 a1 ∧ I64 b1)), vS (comV ⟨⟨a0, f0⟩, ⟨b0, g0⟩⟩ ⟨⟨a1, f1⟩, ⟨b1, g1⟩⟩))
  | _ => none
def sTurnV : List SV → Option (Option Prop × SV)
  | [.agg [.v (.int .i64 a0), .v (.bool f0)], .agg [.v (.int .i64 a1), .v (.bool f1), .v (.int .i64 b1), .v (.bool g1)]] => some (some (I64 a0 ∧ (I64 a1 ∧ I64 b1)), vS (turV ⟨a0, f0⟩ ⟨⟨a1, f1⟩, ⟨b1, g1⟩⟩))
  | _ => none
def sSpinV : List SV → Option (Option Prop × SV)
  | [.agg [.v (.int .i64 a0), .v (.bool f0), .v (.int .i64 b0), .v (.bool g0)], .agg [.v (.int .i64 a1), .v (.bool f1)]] => some (some ((I64 a0 ∧ I64 b0) ∧ I64 a1), vS (spiV ⟨⟨a0, f0⟩, ⟨b0, g0⟩⟩ ⟨a1, f1⟩))
  | _ => none
def ΓV00 : Ctrs := addCtr (addCtr (addCtr (addCtr (addCtr (addCtr (addCtr (noCtrs) 42 (pureCtr (i1B intN))) 64 (pureCtr (i2B ratN))) 25 (pureCtr (n1B negN))) 41 (pureCtr (n2B mulN))) 28 (pureCtr (n2B divN))) 27 (pureCtr (n2B hypN))) 22 (pureCtr (n4B dotN))
def ΓV01 : Ctrs := addCtr (addCtr (addCtr (addCtr (addCtr (addCtr (addCtr (addCtr (ΓV00) 18 (pureCtr (n1B sinN))) 17 (pureCtr (n1B cosN))) 40 (pureCtr sOfN)) 74 (roCtr sSum)) 47 (pureCtr (i1B intN))) 67 (pureCtr (i2B ratN))) 26 (pureCtr (n1B negN))) 46 (pureCtr (n2B mulN))
def ΓV02 : Ctrs := addCtr (addCtr (addCtr (addCtr (addCtr (addCtr (ΓV01) 30 (pureCtr (n2B divN))) 29 (pureCtr (n2B hypN))) 23 (pureCtr (n4B dotN))) 20 (pureCtr (n1B sinN))) 19 (pureCtr (n1B cosN))) 62 (roCtr sSum)
def ΓV0 : Ctrs := ΓV02
theorem vcOfV (a0 : Int) (a1 : Int) (R : SV → Prop) : (vcPure Tryz.prog ΓV0 noΛ Tryz.f35 [.v (.int .i64 a0), .v (.int .i64 a1)] R) =
((I64 a0) ∧ ((I64 a1) ∧ (R (SV.agg [(SV.v (Value.int IntKind.i64 (NB.v (intN a0)))), (SV.v (Value.bool (NB.f (intN a0)))), (SV.v (Value.int IntKind.i64 (NB.v (intN a1)))), (SV.v (Value.bool (NB.f (intN a1))))])))) := by kernel_rfl
theorem vcLenV (a0 : VB) (R : SV → Prop) : (vcPure Tryz.prog ΓV0 noΛ Tryz.f36 [vS a0] R) =
(((I64 (NB.v (VB.x a0))) ∧ (I64 (NB.v (VB.y a0)))) ∧ (R (SV.agg [(SV.v (Value.int IntKind.i64 (NB.v (hypN (VB.x a0) (VB.y a0))))), (SV.v (Value.bool (NB.f (hypN (VB.x a0) (VB.y a0)))))]))) := by kernel_rfl
theorem vcAngleV (a0 : NB) (R : SV → Prop) : (vcPure Tryz.prog ΓV0 noΛ Tryz.f4 [nS a0] R) =
((I64 (NB.v a0)) ∧ ((I64 (NB.v a0)) ∧ (R (SV.agg [(SV.v (Value.int IntKind.i64 (NB.v (cosN a0)))), (SV.v (Value.bool (NB.f (cosN a0)))), (SV.v (Value.int IntKind.i64 (NB.v (sinN a0)))), (SV.v (Value.bool (NB.f (sinN a0))))])))) := by kernel_rfl
theorem vcApplyV (a0 : VB) (a1 : VB) (R : SV → Prop) : (vcPure Tryz.prog ΓV0 noΛ Tryz.f8 [vS a0, vS a1] R) =
((I64 (NB.v (VB.y a0))) ∧ ((((I64 (NB.v (VB.x a0))) ∧ (I64 (NB.v (VB.x a1)))) ∧ ((I64 (NB.v (negN (VB.y a0)))) ∧ (I64 (NB.v (VB.y a1))))) ∧ ((((I64 (NB.v (VB.y a0))) ∧ (I64 (NB.v (VB.x a1)))) ∧ ((I64 (NB.v (VB.x a0))) ∧ (I64 (NB.v (VB.y a1))))) ∧ (R (SV.agg [(SV.v (Value.int IntKind.i64 (NB.v (dotN (VB.x a0) (VB.x a1) (negN (VB.y a0)) (VB.y a1))))), (SV.v (Value.bool (NB.f (dotN (VB.x a0) (VB.x a1) (negN (VB.y a0)) (VB.y a1))))), (SV.v (Value.int IntKind.i64 (NB.v (dotN (VB.y a0) (VB.x a1) (VB.x a0) (VB.y a1))))), (SV.v (Value.bool (NB.f (dotN (VB.y a0) (VB.x a1) (VB.x a0) (VB.y a1)))))]))))) := by kernel_rfl
theorem vcBackV (a0 : VB) (a1 : VB) (R : SV → Prop) : (vcPure Tryz.prog ΓV0 noΛ Tryz.f10 [vS a0, vS a1] R) =
((((I64 (NB.v (VB.x a0))) ∧ (I64 (NB.v (VB.x a1)))) ∧ ((I64 (NB.v (VB.y a0))) ∧ (I64 (NB.v (VB.y a1))))) ∧ ((I64 (NB.v (VB.y a0))) ∧ ((((I64 (NB.v (negN (VB.y a0)))) ∧ (I64 (NB.v (VB.x a1)))) ∧ ((I64 (NB.v (VB.x a0))) ∧ (I64 (NB.v (VB.y a1))))) ∧ (R (SV.agg [(SV.v (Value.int IntKind.i64 (NB.v (dotN (VB.x a0) (VB.x a1) (VB.y a0) (VB.y a1))))), (SV.v (Value.bool (NB.f (dotN (VB.x a0) (VB.x a1) (VB.y a0) (VB.y a1))))), (SV.v (Value.int IntKind.i64 (NB.v (dotN (negN (VB.y a0)) (VB.x a1) (VB.x a0) (VB.y a1))))), (SV.v (Value.bool (NB.f (dotN (negN (VB.y a0)) (VB.x a1) (VB.x a0) (VB.y a1)))))]))))) := by kernel_rfl
theorem vcComposeV (a0 : VB) (a1 : VB) (R : SV → Prop) : (vcPure Tryz.prog ΓV0 noΛ Tryz.f12 [vS a0, vS a1] R) =
((I64 (NB.v (VB.y a0))) ∧ ((((I64 (NB.v (VB.x a0))) ∧ (I64 (NB.v (VB.x a1)))) ∧ ((I64 (NB.v (negN (VB.y a0)))) ∧ (I64 (NB.v (VB.y a1))))) ∧ ((((I64 (NB.v (VB.y a0))) ∧ (I64 (NB.v (VB.x a1)))) ∧ ((I64 (NB.v (VB.x a0))) ∧ (I64 (NB.v (VB.y a1))))) ∧ (((I64 (NB.v (dotN (VB.x a0) (VB.x a1) (negN (VB.y a0)) (VB.y a1)))) ∧ (I64 (NB.v (dotN (VB.y a0) (VB.x a1) (VB.x a0) (VB.y a1))))) ∧ 
(sel (NB.v (hypN (dotN (VB.x a0) (VB.x a1) (negN (VB.y a0)) (VB.y a1)) (dotN (VB.y a0) (VB.x a1) (VB.x a0) (VB.y a1))) != 0) (((I64 (NB.v (dotN (VB.x a0) (VB.x a1) (negN (VB.y a0)) (VB.y a1)))) ∧ (I64 (NB.v (hypN (dotN (VB.x a0) (VB.x a1) (negN (VB.y a0)) (VB.y a1)) (dotN (VB.y a0) (VB.x a1) (VB.x a0) (VB.y a1)))))) ∧ (((I64 (NB.v (dotN (VB.y a0) (VB.x a1) (VB.x a0) (VB.y a1)))) ∧ (I64 (NB.v (hypN (dotN (VB.x a0) (VB.x a1) (negN (VB.y a0)) (VB.y a1)) (dotN (VB.y a0) (VB.x a1) (VB.x a0) (VB.y a1)))))) ∧ (R (SV.agg [(SV.v (Value.int IntKind.i64 (NB.v (divN (dotN (VB.x a0) (VB.x a1) (negN (VB.y a0)) (VB.y a1)) (hypN (dotN (VB.x a0) (VB.x a1) (negN (VB.y a0)) (VB.y a1)) (dotN (VB.y a0) (VB.x a1) (VB.x a0) (VB.y a1))))))), (SV.v (Value.bool (NB.f (divN (dotN (VB.x a0) (VB.x a1) (negN (VB.y a0)) (VB.y a1)) (hypN (dotN (VB.x a0) (VB.x a1) (negN (VB.y a0)) (VB.y a1)) (dotN (VB.y a0) (VB.x a1) (VB.x a0) (VB.y a1))))))), (SV.v (Value.int IntKind.i64 (NB.v (divN (dotN (VB.y a0) (VB.x a1) (VB.x a0) (VB.y a1)) (hypN (dotN (VB.x a0) (VB.x a1) (negN (VB.y a0)) (VB.y a1)) (dotN (VB.y a0) (VB.x a1) (VB.x a0) (VB.y a1))))))), (SV.v (Value.bool (NB.f (divN (dotN (VB.y a0) (VB.x a1) (VB.x a0) (VB.y a1)) (hypN (dotN (VB.x a0) (VB.x a1) (negN (VB.y a0)) (VB.y a1)) (dotN (VB.y a0) (VB.x a1) (VB.x a0) (VB.y a1)))))))])))) (R (SV.agg [(SV.v (Value.int IntKind.i64 (NB.v (dotN (VB.x a0) (VB.x a1) (negN (VB.y a0)) (VB.y a1))))), (SV.v (Value.bool (NB.f (dotN (VB.x a0) (VB.x a1) (negN (VB.y a0)) (VB.y a1))))), (SV.v (Value.int IntKind.i64 (NB.v (dotN (VB.y a0) (VB.x a1) (VB.x a0) (VB.y a1))))), (SV.v (Value.bool (NB.f (dotN (VB.y a0) (VB.x a1) (VB.x a0) (VB.y a1)))))]))))))) := by kernel_rfl
theorem vcRAngleV (a0 : NB) (R : SV → Prop) : (vcPure Tryz.prog ΓV0 noΛ Tryz.f5 [nS a0] R) =
((I64 (NB.v a0)) ∧ ((I64 (NB.v a0)) ∧ (R (SV.agg [(SV.v (Value.int IntKind.i64 (NB.v (cosN a0)))), (SV.v (Value.bool (NB.f (cosN a0)))), (SV.v (Value.int IntKind.i64 (NB.v (sinN a0)))), (SV.v (Value.bool (NB.f (sinN a0))))])))) := by kernel_rfl
theorem vcRApplyV (a0 : VB) (a1 : VB) (R : SV → Prop) : (vcPure Tryz.prog ΓV0 noΛ Tryz.f9 [vS a0, vS a1] R) =
((I64 (NB.v (VB.y a0))) ∧ ((((I64 (NB.v (VB.x a0))) ∧ (I64 (NB.v (VB.x a1)))) ∧ ((I64 (NB.v (negN (VB.y a0)))) ∧ (I64 (NB.v (VB.y a1))))) ∧ ((((I64 (NB.v (VB.y a0))) ∧ (I64 (NB.v (VB.x a1)))) ∧ ((I64 (NB.v (VB.x a0))) ∧ (I64 (NB.v (VB.y a1))))) ∧ (R (SV.agg [(SV.v (Value.int IntKind.i64 (NB.v (dotN (VB.x a0) (VB.x a1) (negN (VB.y a0)) (VB.y a1))))), (SV.v (Value.bool (NB.f (dotN (VB.x a0) (VB.x a1) (negN (VB.y a0)) (VB.y a1))))), (SV.v (Value.int IntKind.i64 (NB.v (dotN (VB.y a0) (VB.x a1) (VB.x a0) (VB.y a1))))), (SV.v (Value.bool (NB.f (dotN (VB.y a0) (VB.x a1) (VB.x a0) (VB.y a1)))))]))))) := by kernel_rfl
theorem vcRBackV (a0 : VB) (a1 : VB) (R : SV → Prop) : (vcPure Tryz.prog ΓV0 noΛ Tryz.f11 [vS a0, vS a1] R) =
((((I64 (NB.v (VB.x a0))) ∧ (I64 (NB.v (VB.x a1)))) ∧ ((I64 (NB.v (VB.y a0))) ∧ (I64 (NB.v (VB.y a1))))) ∧ ((I64 (NB.v (VB.y a0))) ∧ ((((I64 (NB.v (negN (VB.y a0)))) ∧ (I64 (NB.v (VB.x a1)))) ∧ ((I64 (NB.v (VB.x a0))) ∧ (I64 (NB.v (VB.y a1))))) ∧ (R (SV.agg [(SV.v (Value.int IntKind.i64 (NB.v (dotN (VB.x a0) (VB.x a1) (VB.y a0) (VB.y a1))))), (SV.v (Value.bool (NB.f (dotN (VB.x a0) (VB.x a1) (VB.y a0) (VB.y a1))))), (SV.v (Value.int IntKind.i64 (NB.v (dotN (negN (VB.y a0)) (VB.x a1) (VB.x a0) (VB.y a1))))), (SV.v (Value.bool (NB.f (dotN (negN (VB.y a0)) (VB.x a1) (VB.x a0) (VB.y a1)))))]))))) := by kernel_rfl
theorem vcRComposeV (a0 : VB) (a1 : VB) (R : SV → Prop) : (vcPure Tryz.prog ΓV0 noΛ Tryz.f13 [vS a0, vS a1] R) =
((I64 (NB.v (VB.y a0))) ∧ ((((I64 (NB.v (VB.x a0))) ∧ (I64 (NB.v (VB.x a1)))) ∧ ((I64 (NB.v (negN (VB.y a0)))) ∧ (I64 (NB.v (VB.y a1))))) ∧ ((((I64 (NB.v (VB.y a0))) ∧ (I64 (NB.v (VB.x a1)))) ∧ ((I64 (NB.v (VB.x a0))) ∧ (I64 (NB.v (VB.y a1))))) ∧ (((I64 (NB.v (dotN (VB.x a0) (VB.x a1) (negN (VB.y a0)) (VB.y a1)))) ∧ (I64 (NB.v (dotN (VB.y a0) (VB.x a1) (VB.x a0) (VB.y a1))))) ∧ 
(sel (NB.v (hypN (dotN (VB.x a0) (VB.x a1) (negN (VB.y a0)) (VB.y a1)) (dotN (VB.y a0) (VB.x a1) (VB.x a0) (VB.y a1))) == 0) (R (SV.agg [(SV.v (Value.int IntKind.i64 (NB.v (dotN (VB.x a0) (VB.x a1) (negN (VB.y a0)) (VB.y a1))))), (SV.v (Value.bool (NB.f (dotN (VB.x a0) (VB.x a1) (negN (VB.y a0)) (VB.y a1))))), (SV.v (Value.int IntKind.i64 (NB.v (dotN (VB.y a0) (VB.x a1) (VB.x a0) (VB.y a1))))), (SV.v (Value.bool (NB.f (dotN (VB.y a0) (VB.x a1) (VB.x a0) (VB.y a1)))))])) (((I64 (NB.v (dotN (VB.x a0) (VB.x a1) (negN (VB.y a0)) (VB.y a1)))) ∧ (I64 (NB.v (hypN (dotN (VB.x a0) (VB.x a1) (negN (VB.y a0)) (VB.y a1)) (dotN (VB.y a0) (VB.x a1) (VB.x a0) (VB.y a1)))))) ∧ (((I64 (NB.v (dotN (VB.y a0) (VB.x a1) (VB.x a0) (VB.y a1)))) ∧ (I64 (NB.v (hypN (dotN (VB.x a0) (VB.x a1) (negN (VB.y a0)) (VB.y a1)) (dotN (VB.y a0) (VB.x a1) (VB.x a0) (VB.y a1)))))) ∧ (R (SV.agg [(SV.v (Value.int IntKind.i64 (NB.v (divN (dotN (VB.x a0) (VB.x a1) (negN (VB.y a0)) (VB.y a1)) (hypN (dotN (VB.x a0) (VB.x a1) (negN (VB.y a0)) (VB.y a1)) (dotN (VB.y a0) (VB.x a1) (VB.x a0) (VB.y a1))))))), (SV.v (Value.bool (NB.f (divN (dotN (VB.x a0) (VB.x a1) (negN (VB.y a0)) (VB.y a1)) (hypN (dotN (VB.x a0) (VB.x a1) (negN (VB.y a0)) (VB.y a1)) (dotN (VB.y a0) (VB.x a1) (VB.x a0) (VB.y a1))))))), (SV.v (Value.int IntKind.i64 (NB.v (divN (dotN (VB.y a0) (VB.x a1) (VB.x a0) (VB.y a1)) (hypN (dotN (VB.x a0) (VB.x a1) (negN (VB.y a0)) (VB.y a1)) (dotN (VB.y a0) (VB.x a1) (VB.x a0) (VB.y a1))))))), (SV.v (Value.bool (NB.f (divN (dotN (VB.y a0) (VB.x a1) (VB.x a0) (VB.y a1)) (hypN (dotN (VB.x a0) (VB.x a1) (negN (VB.y a0)) (VB.y a1)) (dotN (VB.y a0) (VB.x a1) (VB.x a0) (VB.y a1)))))))]))))))))) := by kernel_rfl
def ΓV10 : Ctrs := addCtr (addCtr (ΓV0) 35 (pureCtr sOfV)) 36 (pureCtr sLenV)
def ΓV11 : Ctrs := addCtr (addCtr (addCtr (addCtr (ΓV10) 4 (pureCtr sAngleV)) 8 (pureCtr sApplyV)) 10 (pureCtr sBackV)) 12 (pureCtr sComposeV)
def ΓV1 : Ctrs := addCtr (addCtr (addCtr (addCtr (ΓV11) 5 (pureCtr sAngleV)) 9 (pureCtr sApplyV)) 11 (pureCtr sBackV)) 13 (pureCtr sComposeV)
theorem vcSpinV (a0 : VB) (a1 : NB) (R : SV → Prop) : (vcPure Tryz.prog ΓV1 noΛ Tryz.f14 [vS a0, nS a1] R) =
((I64 (NB.v a1)) ∧ ((((I64 (NB.v (VB.x (angV a1)))) ∧ (I64 (NB.v (VB.y (angV a1))))) ∧ ((I64 (NB.v (VB.x a0))) ∧ (I64 (NB.v (VB.y a0))))) ∧ (R (SV.agg [(SV.v (Value.int IntKind.i64 (NB.v (VB.x (comV (angV a1) a0))))), (SV.v (Value.bool (NB.f (VB.x (comV (angV a1) a0))))), (SV.v (Value.int IntKind.i64 (NB.v (VB.y (comV (angV a1) a0))))), (SV.v (Value.bool (NB.f (VB.y (comV (angV a1) a0)))))])))) := by kernel_rfl
theorem vcRSpinV (a0 : VB) (a1 : NB) (R : SV → Prop) : (vcPure Tryz.prog ΓV1 noΛ Tryz.f15 [vS a0, nS a1] R) =
((I64 (NB.v a1)) ∧ ((((I64 (NB.v (VB.x (angV a1)))) ∧ (I64 (NB.v (VB.y (angV a1))))) ∧ ((I64 (NB.v (VB.x a0))) ∧ (I64 (NB.v (VB.y a0))))) ∧ (R (SV.agg [(SV.v (Value.int IntKind.i64 (NB.v (VB.x (comV (angV a1) a0))))), (SV.v (Value.bool (NB.f (VB.x (comV (angV a1) a0))))), (SV.v (Value.int IntKind.i64 (NB.v (VB.y (comV (angV a1) a0))))), (SV.v (Value.bool (NB.f (VB.y (comV (angV a1) a0)))))])))) := by kernel_rfl
def ΓV2 : Ctrs := addCtr (addCtr (ΓV1) 14 (pureCtr sSpinV)) 15 (pureCtr sSpinV)
theorem neg_i {a : NB} (h : I64 a.v) : I64 (negN a).v := (neg_sd (sndV_sd h)).i64
theorem int_i (a : Int) : I64 (intN a).v := (fitE_sd _).i64
theorem rat_i (a b : Int) : I64 (ratN a b).v := (ratV_sd _ _).i64
theorem mul_i (a b : NB) : I64 (mulN a b).v := (fitE_sd _).i64
theorem div_i (a b : NB) : I64 (divN a b).v := (ratV_sd _ _).i64
theorem sub_i (a b : NB) : I64 (subN a b).v := (fitE_sd _).i64
theorem add_i (a b : NB) : I64 (addN a b).v := (fitE_sd _).i64
theorem dot_i (a b c d : NB) : I64 (dotN a b c d).v := (fitE_sd _).i64
theorem hyp_i (a b : NB) : I64 (hypN a b).v := (fitE_sd _).i64
theorem sum1_i (a : NB) : I64 (sum1 a).v := (fitE_sd _).i64
theorem sin_i (a : NB) : I64 (sinN a).v := by have := sinN_in a; exact ⟨by omega, by omega⟩
theorem cos_i (a : NB) : I64 (cosN a).v := sin_i _
theorem isNI_i (v : Int) (f : Bool) : isNI [SV.v (Value.int .i64 v), SV.v (Value.bool f)] = I64 v := rfl
theorem lit_i (n : Int) (h : decide (-9223372036854775808 ≤ n) = true ∧ decide (n < 9223372036854775808) = true) : I64 n := ⟨of_decide_eq_true h.1, of_decide_eq_true h.2⟩
theorem i256 : I64 256 := ⟨by decide, by decide⟩
theorem com_i {r s : VB} : I64 (comV r s).x.v ∧ I64 (comV r s).y.v := by
  unfold comV
  cases ((hypN (dotN r.x s.x (negN r.y) s.y) (dotN r.y s.x r.x s.y)).v == 0)
  · exact ⟨div_i _ _, div_i _ _⟩
  · exact ⟨dot_i _ _ _ _, dot_i _ _ _ _⟩
theorem perp_ix {v : VB} (h : I64 v.y.v) : I64 (perpV v).x.v := neg_i h
theorem perp_iy (v : VB) : I64 (perpV v).y.v := sum1_i _
theorem ang_ix (x : NB) : I64 (angV x).x.v := cos_i _
theorem ang_iy (x : NB) : I64 (angV x).y.v := sin_i _
theorem ΓV00_ok : ∀ f g, ΓV00 f = some g → g.ok Tryz.prog f := addCtr_ok (addCtr_ok (addCtr_ok (addCtr_ok (addCtr_ok (addCtr_ok (addCtr_ok (noCtrs_ok) (pure_ok Tryz.func42 (by kernel_rfl) (by kernel_rfl) (spec := i1B intN) Int_spec)) (pure_ok Tryz.func64 (by kernel_rfl) (by kernel_rfl) (spec := i2B ratN) Ratio_spec)) (pure_ok Tryz.func25 (by kernel_rfl) (by kernel_rfl) (spec := n1B negN) Neg_spec)) (pure_ok Tryz.func41 (by kernel_rfl) (by kernel_rfl) (spec := n2B mulN) Mul_spec)) (pure_ok Tryz.func28 (by kernel_rfl) (by kernel_rfl) (spec := n2B divN) Div_spec)) (pure_ok Tryz.func27 (by kernel_rfl) (by kernel_rfl) (spec := n2B hypN) Hypot_spec)) (pure_ok Tryz.func22 (by kernel_rfl) (by kernel_rfl) (spec := n4B dotN) Dot_spec)
theorem ΓV01_ok : ∀ f g, ΓV01 f = some g → g.ok Tryz.prog f := addCtr_ok (addCtr_ok (addCtr_ok (addCtr_ok (addCtr_ok (addCtr_ok (addCtr_ok (addCtr_ok (ΓV00_ok) (pure_ok Tryz.func18 (by kernel_rfl) (by kernel_rfl) (spec := n1B sinN) Sin_spec)) (pure_ok Tryz.func17 (by kernel_rfl) (by kernel_rfl) (spec := n1B cosN) Cos_spec)) (pure_ok Tryz.func40 (by kernel_rfl) (by kernel_rfl) Of2_spec)) (ro_ok Tryz.func74 (by kernel_rfl) (by kernel_rfl) Sum_spec)) (pure_ok Tryz.func47 (by kernel_rfl) (by kernel_rfl) (spec := i1B intN) RInt_spec)) (pure_ok Tryz.func67 (by kernel_rfl) (by kernel_rfl) (spec := i2B ratN) RRatio_spec)) (pure_ok Tryz.func26 (by kernel_rfl) (by kernel_rfl) (spec := n1B negN) RNeg_spec)) (pure_ok Tryz.func46 (by kernel_rfl) (by kernel_rfl) (spec := n2B mulN) RMul_spec)
theorem ΓV02_ok : ∀ f g, ΓV02 f = some g → g.ok Tryz.prog f := addCtr_ok (addCtr_ok (addCtr_ok (addCtr_ok (addCtr_ok (addCtr_ok (ΓV01_ok) (pure_ok Tryz.func30 (by kernel_rfl) (by kernel_rfl) (spec := n2B divN) RDiv_spec)) (pure_ok Tryz.func29 (by kernel_rfl) (by kernel_rfl) (spec := n2B hypN) RHypot_spec)) (pure_ok Tryz.func23 (by kernel_rfl) (by kernel_rfl) (spec := n4B dotN) RDot_spec)) (pure_ok Tryz.func20 (by kernel_rfl) (by kernel_rfl) (spec := n1B sinN) RSin_spec)) (pure_ok Tryz.func19 (by kernel_rfl) (by kernel_rfl) (spec := n1B cosN) RCos_spec)) (ro_ok Tryz.func62 (by kernel_rfl) (by kernel_rfl) RSum_spec)
theorem ΓV0_ok : ∀ f g, ΓV0 f = some g → g.ok Tryz.prog f := ΓV02_ok
theorem OfV_spec : PureSpec Tryz.prog 35 sOfV := vc_spec hm ΓV0_ok Tryz.func35 (Λ := fun _ => noΛ) fun args p x h hp => by
  unfold sOfV at h
  split at h <;> try (cases h; done)
  rename_i a0 a1
  cases h
  obtain ⟨h0, h1⟩ := hp _ rfl
  refine ⟨rfl, rfl, ?_⟩
  refine Eq.mpr (vcOfV a0 a1 _) ?_
  simp only [int_i, rat_i, mul_i, div_i, sub_i, dot_i, hyp_i, sin_i, cos_i, sum1_i, isNI_i, i256, perp_iy, ang_ix, ang_iy, and_true, true_and, and_self, neg_i, perp_ix, h0, h1] <;> first | rfl | exact ⟨by decide, rfl⟩ | exact ⟨⟨rfl, by decide⟩, rfl⟩
theorem LenV_spec : PureSpec Tryz.prog 36 sLenV := vc_spec hm ΓV0_ok Tryz.func36 (Λ := fun _ => noΛ) fun args p x h hp => by
  unfold sLenV at h
  split at h <;> try (cases h; done)
  rename_i a0 f0 b0 g0
  cases h
  obtain ⟨h0, k0⟩ := hp _ rfl
  refine ⟨rfl, rfl, ?_⟩
  refine Eq.mpr (vcLenV ⟨⟨a0, f0⟩, ⟨b0, g0⟩⟩ _) ?_
  simp only [int_i, rat_i, mul_i, div_i, sub_i, dot_i, hyp_i, sin_i, cos_i, sum1_i, isNI_i, i256, perp_iy, ang_ix, ang_iy, and_true, true_and, and_self, neg_i, perp_ix, h0, k0] <;> first | rfl | exact ⟨by decide, rfl⟩ | exact ⟨⟨rfl, by decide⟩, rfl⟩
theorem AngleV_spec : PureSpec Tryz.prog 4 sAngleV := vc_spec hm ΓV0_ok Tryz.func4 (Λ := fun _ => noΛ) fun args p x h hp => by
  unfold sAngleV at h
  split at h <;> try (cases h; done)
  rename_i a0 f0
  cases h
  obtain h0 := hp _ rfl
  refine ⟨rfl, rfl, ?_⟩
  refine Eq.mpr (vcAngleV ⟨a0, f0⟩ _) ?_
  simp only [int_i, rat_i, mul_i, div_i, sub_i, dot_i, hyp_i, sin_i, cos_i, sum1_i, isNI_i, i256, perp_iy, ang_ix, ang_iy, and_true, true_and, and_self, neg_i, perp_ix, h0] <;> first | rfl | exact ⟨by decide, rfl⟩ | exact ⟨⟨rfl, by decide⟩, rfl⟩
theorem ApplyV_spec : PureSpec Tryz.prog 8 sApplyV := vc_spec hm ΓV0_ok Tryz.func8 (Λ := fun _ => noΛ) fun args p x h hp => by
  unfold sApplyV at h
  split at h <;> try (cases h; done)
  rename_i a0 f0 b0 g0 a1 f1 b1 g1
  cases h
  obtain ⟨⟨h0, k0⟩, ⟨h1, k1⟩⟩ := hp _ rfl
  refine ⟨rfl, rfl, ?_⟩
  refine Eq.mpr (vcApplyV ⟨⟨a0, f0⟩, ⟨b0, g0⟩⟩ ⟨⟨a1, f1⟩, ⟨b1, g1⟩⟩ _) ?_
  simp only [int_i, rat_i, mul_i, div_i, sub_i, dot_i, hyp_i, sin_i, cos_i, sum1_i, isNI_i, i256, perp_iy, ang_ix, ang_iy, and_true, true_and, and_self, neg_i, perp_ix, h0, k0, h1, k1] <;> first | rfl | exact ⟨by decide, rfl⟩ | exact ⟨⟨rfl, by decide⟩, rfl⟩
theorem BackV_spec : PureSpec Tryz.prog 10 sBackV := vc_spec hm ΓV0_ok Tryz.func10 (Λ := fun _ => noΛ) fun args p x h hp => by
  unfold sBackV at h
  split at h <;> try (cases h; done)
  rename_i a0 f0 b0 g0 a1 f1 b1 g1
  cases h
  obtain ⟨⟨h0, k0⟩, ⟨h1, k1⟩⟩ := hp _ rfl
  refine ⟨rfl, rfl, ?_⟩
  refine Eq.mpr (vcBackV ⟨⟨a0, f0⟩, ⟨b0, g0⟩⟩ ⟨⟨a1, f1⟩, ⟨b1, g1⟩⟩ _) ?_
  simp only [int_i, rat_i, mul_i, div_i, sub_i, dot_i, hyp_i, sin_i, cos_i, sum1_i, isNI_i, i256, perp_iy, ang_ix, ang_iy, and_true, true_and, and_self, neg_i, perp_ix, h0, k0, h1, k1] <;> first | rfl | exact ⟨by decide, rfl⟩ | exact ⟨⟨rfl, by decide⟩, rfl⟩
theorem ComposeV_spec : PureSpec Tryz.prog 12 sComposeV := vc_spec hm ΓV0_ok Tryz.func12 (Λ := fun _ => noΛ) fun args p x h hp => by
  unfold sComposeV at h
  split at h <;> try (cases h; done)
  rename_i a0 f0 b0 g0 a1 f1 b1 g1
  cases h
  obtain ⟨⟨h0, k0⟩, ⟨h1, k1⟩⟩ := hp _ rfl
  refine ⟨rfl, rfl, ?_⟩
  refine Eq.mpr (vcComposeV ⟨⟨a0, f0⟩, ⟨b0, g0⟩⟩ ⟨⟨a1, f1⟩, ⟨b1, g1⟩⟩ _) ?_
  have hn := neg_i (a := ⟨b0, g0⟩) k0
  simp only [int_i, rat_i, mul_i, div_i, sub_i, dot_i, hyp_i, sin_i, cos_i, sum1_i, isNI_i, i256, perp_iy, ang_ix, ang_iy, and_true, true_and, and_self, h0, k0, h1, k1, hn, neg_i]
  unfold comV
  refine sel_of (fun g => ?_) fun g => ?_
  · rw [beq_eq_false_iff_ne.2 (bne_iff_ne.1 g)]; rfl
  · rw [beq_iff_eq.2 (bne_eq_false_iff_eq.1 g)]; rfl
theorem RAngleV_spec : PureSpec Tryz.prog 5 sAngleV := vc_spec hm ΓV0_ok Tryz.func5 (Λ := fun _ => noΛ) fun args p x h hp => by
  unfold sAngleV at h
  split at h <;> try (cases h; done)
  rename_i a0 f0
  cases h
  obtain h0 := hp _ rfl
  refine ⟨rfl, rfl, ?_⟩
  refine Eq.mpr (vcRAngleV ⟨a0, f0⟩ _) ?_
  simp only [int_i, rat_i, mul_i, div_i, sub_i, dot_i, hyp_i, sin_i, cos_i, sum1_i, isNI_i, i256, perp_iy, ang_ix, ang_iy, and_true, true_and, and_self, neg_i, perp_ix, h0] <;> first | rfl | exact ⟨by decide, rfl⟩ | exact ⟨⟨rfl, by decide⟩, rfl⟩
theorem RApplyV_spec : PureSpec Tryz.prog 9 sApplyV := vc_spec hm ΓV0_ok Tryz.func9 (Λ := fun _ => noΛ) fun args p x h hp => by
  unfold sApplyV at h
  split at h <;> try (cases h; done)
  rename_i a0 f0 b0 g0 a1 f1 b1 g1
  cases h
  obtain ⟨⟨h0, k0⟩, ⟨h1, k1⟩⟩ := hp _ rfl
  refine ⟨rfl, rfl, ?_⟩
  refine Eq.mpr (vcRApplyV ⟨⟨a0, f0⟩, ⟨b0, g0⟩⟩ ⟨⟨a1, f1⟩, ⟨b1, g1⟩⟩ _) ?_
  simp only [int_i, rat_i, mul_i, div_i, sub_i, dot_i, hyp_i, sin_i, cos_i, sum1_i, isNI_i, i256, perp_iy, ang_ix, ang_iy, and_true, true_and, and_self, neg_i, perp_ix, h0, k0, h1, k1] <;> first | rfl | exact ⟨by decide, rfl⟩ | exact ⟨⟨rfl, by decide⟩, rfl⟩
theorem RBackV_spec : PureSpec Tryz.prog 11 sBackV := vc_spec hm ΓV0_ok Tryz.func11 (Λ := fun _ => noΛ) fun args p x h hp => by
  unfold sBackV at h
  split at h <;> try (cases h; done)
  rename_i a0 f0 b0 g0 a1 f1 b1 g1
  cases h
  obtain ⟨⟨h0, k0⟩, ⟨h1, k1⟩⟩ := hp _ rfl
  refine ⟨rfl, rfl, ?_⟩
  refine Eq.mpr (vcRBackV ⟨⟨a0, f0⟩, ⟨b0, g0⟩⟩ ⟨⟨a1, f1⟩, ⟨b1, g1⟩⟩ _) ?_
  simp only [int_i, rat_i, mul_i, div_i, sub_i, dot_i, hyp_i, sin_i, cos_i, sum1_i, isNI_i, i256, perp_iy, ang_ix, ang_iy, and_true, true_and, and_self, neg_i, perp_ix, h0, k0, h1, k1] <;> first | rfl | exact ⟨by decide, rfl⟩ | exact ⟨⟨rfl, by decide⟩, rfl⟩
theorem RComposeV_spec : PureSpec Tryz.prog 13 sComposeV := vc_spec hm ΓV0_ok Tryz.func13 (Λ := fun _ => noΛ) fun args p x h hp => by
  unfold sComposeV at h
  split at h <;> try (cases h; done)
  rename_i a0 f0 b0 g0 a1 f1 b1 g1
  cases h
  obtain ⟨⟨h0, k0⟩, ⟨h1, k1⟩⟩ := hp _ rfl
  refine ⟨rfl, rfl, ?_⟩
  refine Eq.mpr (vcRComposeV ⟨⟨a0, f0⟩, ⟨b0, g0⟩⟩ ⟨⟨a1, f1⟩, ⟨b1, g1⟩⟩ _) ?_
  have hn := neg_i (a := ⟨b0, g0⟩) k0
  simp only [int_i, rat_i, mul_i, div_i, sub_i, dot_i, hyp_i, sin_i, cos_i, sum1_i, isNI_i, i256, perp_iy, ang_ix, ang_iy, and_true, true_and, and_self, h0, k0, h1, k1, hn, neg_i]
  unfold comV
  refine sel_of (fun g => ?_) fun g => ?_
  · rw [g]; rfl
  · rw [g]; rfl
theorem ΓV10_ok : ∀ f g, ΓV10 f = some g → g.ok Tryz.prog f := addCtr_ok (addCtr_ok (ΓV0_ok) (pure_ok Tryz.func35 (by kernel_rfl) (by kernel_rfl) OfV_spec)) (pure_ok Tryz.func36 (by kernel_rfl) (by kernel_rfl) LenV_spec)
theorem ΓV11_ok : ∀ f g, ΓV11 f = some g → g.ok Tryz.prog f := addCtr_ok (addCtr_ok (addCtr_ok (addCtr_ok (ΓV10_ok) (pure_ok Tryz.func4 (by kernel_rfl) (by kernel_rfl) AngleV_spec)) (pure_ok Tryz.func8 (by kernel_rfl) (by kernel_rfl) ApplyV_spec)) (pure_ok Tryz.func10 (by kernel_rfl) (by kernel_rfl) BackV_spec)) (pure_ok Tryz.func12 (by kernel_rfl) (by kernel_rfl) ComposeV_spec)
theorem ΓV1_ok : ∀ f g, ΓV1 f = some g → g.ok Tryz.prog f := addCtr_ok (addCtr_ok (addCtr_ok (addCtr_ok (ΓV11_ok) (pure_ok Tryz.func5 (by kernel_rfl) (by kernel_rfl) RAngleV_spec)) (pure_ok Tryz.func9 (by kernel_rfl) (by kernel_rfl) RApplyV_spec)) (pure_ok Tryz.func11 (by kernel_rfl) (by kernel_rfl) RBackV_spec)) (pure_ok Tryz.func13 (by kernel_rfl) (by kernel_rfl) RComposeV_spec)
theorem SpinV_spec : PureSpec Tryz.prog 14 sSpinV := vc_spec hm ΓV1_ok Tryz.func14 (Λ := fun _ => noΛ) fun args p x h hp => by
  unfold sSpinV at h
  split at h <;> try (cases h; done)
  rename_i a0 f0 b0 g0 a1 f1
  cases h
  obtain ⟨⟨h0, k0⟩, h1⟩ := hp _ rfl
  refine ⟨rfl, rfl, ?_⟩
  refine Eq.mpr (vcSpinV ⟨⟨a0, f0⟩, ⟨b0, g0⟩⟩ ⟨a1, f1⟩ _) ?_
  simp only [int_i, rat_i, mul_i, div_i, sub_i, dot_i, hyp_i, sin_i, cos_i, sum1_i, isNI_i, i256, perp_iy, ang_ix, ang_iy, and_true, true_and, and_self, neg_i, perp_ix, h0, k0, h1] <;> first | rfl | exact ⟨by decide, rfl⟩ | exact ⟨⟨rfl, by decide⟩, rfl⟩
theorem RSpinV_spec : PureSpec Tryz.prog 15 sSpinV := vc_spec hm ΓV1_ok Tryz.func15 (Λ := fun _ => noΛ) fun args p x h hp => by
  unfold sSpinV at h
  split at h <;> try (cases h; done)
  rename_i a0 f0 b0 g0 a1 f1
  cases h
  obtain ⟨⟨h0, k0⟩, h1⟩ := hp _ rfl
  refine ⟨rfl, rfl, ?_⟩
  refine Eq.mpr (vcRSpinV ⟨⟨a0, f0⟩, ⟨b0, g0⟩⟩ ⟨a1, f1⟩ _) ?_
  simp only [int_i, rat_i, mul_i, div_i, sub_i, dot_i, hyp_i, sin_i, cos_i, sum1_i, isNI_i, i256, perp_iy, ang_ix, ang_iy, and_true, true_and, and_self, neg_i, perp_ix, h0, k0, h1] <;> first | rfl | exact ⟨by decide, rfl⟩ | exact ⟨⟨rfl, by decide⟩, rfl⟩
theorem ΓV2_ok : ∀ f g, ΓV2 f = some g → g.ok Tryz.prog f := addCtr_ok (addCtr_ok (ΓV1_ok) (pure_ok Tryz.func14 (by kernel_rfl) (by kernel_rfl) SpinV_spec)) (pure_ok Tryz.func15 (by kernel_rfl) (by kernel_rfl) RSpinV_spec)
end Go.Proofs.YtheljpebapokjaaGreat
