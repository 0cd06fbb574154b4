/-
  FixedCircle answers true, whatever the input. No condition.
-/
import Derived.Test.YtnnmfonapfhcaaaFxLaw
import Derived.Test.YtnnmfonapfhcaaaFyO
set_option maxRecDepth 100000
namespace Go.Proofs.Ytnnmfonapfhcaaa
open Go.ChangeShapes Go.WideShapes Go.ChangeAt Go.RowKit

theorem fixedCircle_lifted (os : Os) (started : os.Started) (H : Type) (enc : TypeId × Value → H) :
    ReturnsInHanded {} Try.checked os 14 .any (Rows.fixedCircleSpec.pre6 enc Try.prog Try.f14 Rows.fixedCircleRow.domain false) (Rows.fixedCircleSpec.post enc Try.prog Try.f14 false true false false) := by
  refine returnsInHanded_of_change (C := Try.checked) Try.own started (by kernel_rfl) Try.func14
    (ChangeSpec.witness6 (enc := enc) (C := Try.checked) false ⟨#[], #[.agg #[.int .i64 0, .bool false]], []⟩ 8 (by kernel_rfl) (by kernel_rfl) (by kernel_rfl) (by kernel_rfl)) ?_
  intro W base args ds gs before hval hW _ _
  refine law_frame rfl rfl (by kernel_rfl) (fun ds hl => ?_) (fun W base args ds ps hval hA => ?_) W base args ds gs before hval hW
  · match ds, hl with
    | [_], _ => rfl
  · have hA0 : DataW.TrodAll enc Try.prog W 0 (fun _ => true) true [23] args.toList ds ps := hA
    obtain ⟨vs⟩ := args
    obtain ⟨v0, vs, d0, _, p0, _, rfl, rfl, rfl, k0, hA0⟩ := trodAll_cons hA0
    obtain ⟨rfl, rfl, rfl⟩ := trodAll_nil hA0
    obtain ⟨x0, f0, rfl, h0⟩ := num_open (hval 0 23 _ rfl rfl) k0
    exact (CircleLaw_spec [numS x0 f0] _ _ rfl (fun q hq => by cases hq; exact h0)).2.2 W

theorem fixedCircle_holds : Rows.FixedCircleSaid :=
  OpenClaim.holds_of_wide 14 Try.f14 rfl rfl rfl rfl rfl rfl rfl ⟨rfl, rfl, rfl, rfl, rfl⟩ rfl rfl rfl rfl rfl (by kernel_rfl) Try.func14 (by kernel_rfl)
    (of_decide_eq_true (by kernel_rfl)) (by unfold Func.isWrapper; rw [if_neg (by decide +kernel)]; exact ⟨rfl, rfl⟩)
    (fun os started H enc _ => fixedCircle_lifted os started H enc)

#print axioms fixedCircle_holds
end Go.Proofs.Ytnnmfonapfhcaaa
