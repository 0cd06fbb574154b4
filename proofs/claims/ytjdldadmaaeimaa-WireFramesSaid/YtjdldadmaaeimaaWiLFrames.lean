/-
  WireFrames answers true, whatever the input. No condition.
-/
import Derived.Test.YtjdldadmaaeimaaWiLaw
import Derived.Test.YtjdldadmaaeimaaWiX
set_option maxRecDepth 100000
set_option linter.unusedVariables false
namespace Go.Proofs.Ytjdldadmaaeimaa
open Go.ChangeShapes Go.WideShapes Go.ChangeAt Go.RowKit Go.SE

theorem wireFrames_lifted (os : Os) (started : os.Started) (H : Type) (enc : TypeId × Value → H) :
    ReturnsInHanded {} Try.checked os 4 .any (Rows.wireFramesSpec.pre6 enc Try.prog Try.f4 Rows.wireFramesRow.domain false) (Rows.wireFramesSpec.post enc Try.prog Try.f4 false true false false) := by
  refine returnsInHanded_of_change (C := Try.checked) Try.own started (by kernel_rfl) Try.func4
    (ChangeSpec.witness6 (enc := enc) (C := Try.checked) false ⟨#[], #[.string ⟨#[]⟩], []⟩ 8 (by kernel_rfl) (by kernel_rfl) (by kernel_rfl) (by kernel_rfl)) ?_
  intro W base args ds gs before hval hW _ _
  refine law_frame rfl rfl (by kernel_rfl) (fun ds hl => ?_) (fun W base args ds ps hval hA => ?_) W base args ds gs before hval hW
  · match ds, hl with
    | [_], _ => rfl
  · have hA0 : DataW.TrodAll enc Try.prog W 0 (fun _ => true) true [9] args.toList ds ps := hA
    obtain ⟨vs⟩ := args
    obtain ⟨v0, vs, d0, _, p0, _, rfl, rfl, rfl, k0, hA0⟩ := trodAll_cons hA0
    obtain ⟨rfl, rfl, rfl⟩ := trodAll_nil hA0
    obtain ⟨a0, rfl, h0⟩ := str_open (by kernel_rfl) (hval 0 9 _ rfl rfl) k0
    exact (FramesL_spec [.v (.string a0)] _ _ rfl (fun q hq => by cases hq; exact h0)).2.2 W

theorem wireFrames_holds : Rows.WireFramesSaid :=
  OpenClaim.holds_of_wide 4 Try.f4 rfl rfl rfl rfl rfl rfl rfl ⟨rfl, rfl, rfl, rfl, rfl⟩ rfl rfl rfl rfl rfl (by kernel_rfl) Try.func4 (by kernel_rfl)
    (of_decide_eq_true (by kernel_rfl)) (by unfold Func.isWrapper; rw [if_neg (by decide +kernel)]; exact ⟨rfl, rfl⟩)
    (fun os started H enc _ => wireFrames_lifted os started H enc)

#print axioms wireFrames_holds
end Go.Proofs.Ytjdldadmaaeimaa
