/-
  The context of the laws: all contracts; the law's own wakefulness.
-/
import Derived.Test.YtnnmfonapfhcaaaFyA
import Derived.Test.YtnnmfonapfhcaaaFxV
set_option maxRecDepth 100000
namespace Go.Proofs.Ytnnmfonapfhcaaa
open Go.SE Go.RowKit

def ΓA0 : Ctrs := addCtr (addCtr (addCtr (addCtr (addCtr (addCtr (addCtr (addCtr (addCtr (ΓU) 21 (pureCtr sOrder)) 17 (pureCtr sFloor)) 19 (pureCtr sRound)) 38 (pureCtr sInt)) 42 (pureCtr sOfN)) 47 (pureCtr sNeg)) 26 (pureCtr sAbs)) 24 (pureCtr sCmpN)) 64 (pureCtr sWrap)
def ΓA1 : Ctrs := addCtr (addCtr (addCtr (addCtr (addCtr (addCtr (addCtr (addCtr (addCtr (ΓA0) 39 (pureCtr sMul)) 40 (pureCtr sDiv)) 45 (pureCtr sRatio)) 25 (pureCtr sAdd)) 41 (pureCtr sSub)) 35 (pureCtr sClamp)) 32 (roCtr sSum)) 28 (roCtr (sMinMax 1))) 30 (roCtr (sMinMax (-1)))
def ΓA2 : Ctrs := addCtr (addCtr (addCtr (addCtr (addCtr (addCtr (addCtr (addCtr (addCtr (ΓA1) 22 (pureCtr sOrder)) 18 (pureCtr sFloor)) 20 (pureCtr sRound)) 44 (pureCtr sInt)) 43 (pureCtr sOfN)) 48 (pureCtr sNeg)) 49 (pureCtr sAbs)) 37 (pureCtr sCmpN)) 65 (pureCtr sWrap)
def ΓA3 : Ctrs := addCtr (addCtr (addCtr (addCtr (addCtr (addCtr (addCtr (addCtr (addCtr (ΓA2) 52 (pureCtr sMul)) 53 (pureCtr sDiv)) 46 (pureCtr sRatio)) 50 (pureCtr sAdd)) 51 (pureCtr sSub)) 36 (pureCtr sClamp)) 33 (roCtr sSum)) 29 (roCtr (sMinMax 1))) 31 (roCtr (sMinMax (-1)))
def ΓA4 : Ctrs := addCtr (ΓA3) 62 (pureCtr sText)
def sAwake : List SV → Option (Option Prop × SV)
  | [] => some (none, .v (.bool true))
  | _ => none
def ΓA : Ctrs := ΓA4
def ΓL : Ctrs := addCtr ΓA 23 (pureCtr sAwake)
theorem vcAwake (R : SV → Prop) : (vcPure Try.prog ΓA noΛ Try.f23 [] R) =
((I64 3) ∧ (((I64 (-1)) ∧ (I64 2)) ∧ ((I64 (-2147483648)) ∧ ((((I64 (-2)) ∧ (I64 3)) ∧ ((I64 1) ∧ (I64 1))) ∧ (R (SV.v (Value.bool true))))))) := by kernel_rfl
theorem ΓA0_ok : ∀ f g, ΓA0 f = some g → g.ok Try.prog f := addCtr_ok (addCtr_ok (addCtr_ok (addCtr_ok (addCtr_ok (addCtr_ok (addCtr_ok (addCtr_ok (addCtr_ok (ΓU_ok) (pure_ok Try.func21 (by kernel_rfl) (by kernel_rfl) Order_spec)) (pure_ok Try.func17 (by kernel_rfl) (by kernel_rfl) Floor_spec)) (pure_ok Try.func19 (by kernel_rfl) (by kernel_rfl) Round_spec)) (pure_ok Try.func38 (by kernel_rfl) (by kernel_rfl) Int_spec)) (pure_ok Try.func42 (by kernel_rfl) (by kernel_rfl) Of2_spec)) (pure_ok Try.func47 (by kernel_rfl) (by kernel_rfl) Neg_spec)) (pure_ok Try.func26 (by kernel_rfl) (by kernel_rfl) Abs_spec)) (pure_ok Try.func24 (by kernel_rfl) (by kernel_rfl) CmpN_spec)) (pure_ok Try.func64 (by kernel_rfl) (by kernel_rfl) Wrap_spec)
theorem ΓA1_ok : ∀ f g, ΓA1 f = some g → g.ok Try.prog f := addCtr_ok (addCtr_ok (addCtr_ok (addCtr_ok (addCtr_ok (addCtr_ok (addCtr_ok (addCtr_ok (addCtr_ok (ΓA0_ok) (pure_ok Try.func39 (by kernel_rfl) (by kernel_rfl) Mul_spec)) (pure_ok Try.func40 (by kernel_rfl) (by kernel_rfl) Div_spec)) (pure_ok Try.func45 (by kernel_rfl) (by kernel_rfl) Ratio_spec)) (pure_ok Try.func25 (by kernel_rfl) (by kernel_rfl) Add_spec)) (pure_ok Try.func41 (by kernel_rfl) (by kernel_rfl) Sub_spec)) (pure_ok Try.func35 (by kernel_rfl) (by kernel_rfl) Clamp_spec)) (ro_ok Try.func32 (by kernel_rfl) (by kernel_rfl) Sum_spec)) (ro_ok Try.func28 (by kernel_rfl) (by kernel_rfl) Min_spec)) (ro_ok Try.func30 (by kernel_rfl) (by kernel_rfl) Max_spec)
theorem ΓA2_ok : ∀ f g, ΓA2 f = some g → g.ok Try.prog f := addCtr_ok (addCtr_ok (addCtr_ok (addCtr_ok (addCtr_ok (addCtr_ok (addCtr_ok (addCtr_ok (addCtr_ok (ΓA1_ok) (pure_ok Try.func22 (by kernel_rfl) (by kernel_rfl) ROrder_spec)) (pure_ok Try.func18 (by kernel_rfl) (by kernel_rfl) RFloor_spec)) (pure_ok Try.func20 (by kernel_rfl) (by kernel_rfl) RRound_spec)) (pure_ok Try.func44 (by kernel_rfl) (by kernel_rfl) RInt_spec)) (pure_ok Try.func43 (by kernel_rfl) (by kernel_rfl) ROf_spec)) (pure_ok Try.func48 (by kernel_rfl) (by kernel_rfl) RNeg_spec)) (pure_ok Try.func49 (by kernel_rfl) (by kernel_rfl) RAbs_spec)) (pure_ok Try.func37 (by kernel_rfl) (by kernel_rfl) RCmpN_spec)) (pure_ok Try.func65 (by kernel_rfl) (by kernel_rfl) RWrap_spec)
theorem ΓA3_ok : ∀ f g, ΓA3 f = some g → g.ok Try.prog f := addCtr_ok (addCtr_ok (addCtr_ok (addCtr_ok (addCtr_ok (addCtr_ok (addCtr_ok (addCtr_ok (addCtr_ok (ΓA2_ok) (pure_ok Try.func52 (by kernel_rfl) (by kernel_rfl) RMul_spec)) (pure_ok Try.func53 (by kernel_rfl) (by kernel_rfl) RDiv_spec)) (pure_ok Try.func46 (by kernel_rfl) (by kernel_rfl) RRatio_spec)) (pure_ok Try.func50 (by kernel_rfl) (by kernel_rfl) RAdd_spec)) (pure_ok Try.func51 (by kernel_rfl) (by kernel_rfl) RSub_spec)) (pure_ok Try.func36 (by kernel_rfl) (by kernel_rfl) RClamp_spec)) (ro_ok Try.func33 (by kernel_rfl) (by kernel_rfl) RSum_spec)) (ro_ok Try.func29 (by kernel_rfl) (by kernel_rfl) RMin_spec)) (ro_ok Try.func31 (by kernel_rfl) (by kernel_rfl) RMax_spec)
theorem ΓA4_ok : ∀ f g, ΓA4 f = some g → g.ok Try.prog f := addCtr_ok (ΓA3_ok) (pure_ok Try.func62 (by kernel_rfl) (by kernel_rfl) Text_spec)
theorem Awake_spec : PureSpec Try.prog 23 sAwake := vc_spec hm ΓA4_ok Try.func23 (Λ := fun _ => noΛ) fun args p x h hp => by
  unfold sAwake at h
  split at h <;> try (cases h; done)
  cases h
  refine ⟨rfl, rfl, ?_⟩
  refine Eq.mpr (vcAwake _) ?_
  refine ⟨⟨by decide, by decide⟩, ⟨⟨by decide, by decide⟩, ⟨by decide, by decide⟩⟩, ⟨by decide, by decide⟩, ⟨⟨⟨by decide, by decide⟩, ⟨by decide, by decide⟩⟩, ⟨by decide, by decide⟩, ⟨by decide, by decide⟩⟩, rfl⟩
theorem ΓL_ok : ∀ f g, ΓL f = some g → g.ok Try.prog f := addCtr_ok ΓA4_ok (pure_ok Try.func23 (by kernel_rfl) (by kernel_rfl) Awake_spec)
end Go.Proofs.Ytnnmfonapfhcaaa
