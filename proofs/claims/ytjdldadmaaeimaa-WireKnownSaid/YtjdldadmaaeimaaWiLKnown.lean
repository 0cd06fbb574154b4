/-
  WireKnown answers true, whatever the input. No condition.
-/
import Derived.Test.YtjdldadmaaeimaaWiLaw
import Derived.Test.YtjdldadmaaeimaaWiKw
set_option maxRecDepth 100000
set_option linter.unusedVariables false
namespace Go.Proofs.Ytjdldadmaaeimaa
open Go.ChangeShapes Go.WideShapes Go.ChangeAt Go.RowKit Go.SE

theorem wireKnown_lifted (os : Os) (started : os.Started) (H : Type) (enc : TypeId × Value → H) :
    ReturnsInHanded {} Try.checked os 9 .any (Rows.wireKnownSpec.pre6 enc Try.prog Try.f9 Rows.wireKnownRow.domain false) (Rows.wireKnownSpec.post enc Try.prog Try.f9 false true false false) := by
  refine returnsInHanded_of_change (C := Try.checked) Try.own started (by kernel_rfl) Try.func9
    (ChangeSpec.witness6 (enc := enc) (C := Try.checked) false ⟨#[], #[], []⟩ 8 (by kernel_rfl) (by kernel_rfl) (by kernel_rfl) (by kernel_rfl)) ?_
  intro W base args ds gs before hval hW _ _
  refine law_frame rfl rfl (by kernel_rfl) (fun ds hl => ?_) (fun W base args ds ps hval hA => ?_) W base args ds gs before hval hW
  · match ds, hl with
    | [], _ => rfl
  · have hA0 : DataW.TrodAll enc Try.prog W 0 (fun _ => true) true [] args.toList ds ps := hA
    obtain ⟨vs⟩ := args
    obtain ⟨rfl, rfl, rfl⟩ := trodAll_nil hA0
    exact (Known_spec [] _ _ rfl (fun q hq => by cases hq; exact trivial)).2.2 W

theorem wireKnown_holds : Rows.WireKnownSaid :=
  OpenClaim.holds_of_wide 9 Try.f9 rfl rfl rfl rfl rfl rfl rfl ⟨rfl, rfl, rfl, rfl, rfl⟩ rfl rfl rfl rfl rfl (by kernel_rfl) Try.func9 (by kernel_rfl)
    (of_decide_eq_true (by kernel_rfl)) (by unfold Func.isWrapper; rw [if_neg (by decide +kernel)]; exact ⟨rfl, rfl⟩)
    (fun os started H enc _ => wireKnown_lifted os started H enc)

#print axioms wireKnown_holds
end Go.Proofs.Ytjdldadmaaeimaa
