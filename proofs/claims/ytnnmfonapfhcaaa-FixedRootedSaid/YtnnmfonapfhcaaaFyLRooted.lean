/-
  FixedRooted answers true, whatever the input. No condition.
-/
import Derived.Test.YtnnmfonapfhcaaaFxLaw
import Derived.Test.YtnnmfonapfhcaaaFyO
set_option maxRecDepth 100000
namespace Go.Proofs.Ytnnmfonapfhcaaa
open Go.ChangeShapes Go.WideShapes Go.ChangeAt Go.RowKit

theorem fixedRooted_lifted (os : Os) (started : os.Started) (H : Type) (enc : TypeId × Value → H) :
    ReturnsInHanded {} Try.checked os 12 .any (Rows.fixedRootedSpec.pre6 enc Try.prog Try.f12 Rows.fixedRootedRow.domain false) (Rows.fixedRootedSpec.post enc Try.prog Try.f12 false true false false) := by
  refine returnsInHanded_of_change (C := Try.checked) Try.own started (by kernel_rfl) Try.func12
    (ChangeSpec.witness6 (enc := enc) (C := Try.checked) false ⟨#[], #[.agg #[.int .i64 0, .bool false], .agg #[.int .i64 0, .bool false]], []⟩ 8 (by kernel_rfl) (by kernel_rfl) (by kernel_rfl) (by kernel_rfl)) ?_
  intro W base args ds gs before hval hW _ _
  refine law_frame rfl rfl (by kernel_rfl) (fun ds hl => ?_) (fun W base args ds ps hval hA => ?_) W base args ds gs before hval hW
  · match ds, hl with
    | [_, _], _ => rfl
  · have hA0 : DataW.TrodAll enc Try.prog W 0 (fun _ => true) true [23, 23] args.toList ds ps := hA
    obtain ⟨vs⟩ := args
    obtain ⟨v0, vs, d0, _, p0, _, rfl, rfl, rfl, k0, hA0⟩ := trodAll_cons hA0
    obtain ⟨v1, vs, d1, _, p1, _, rfl, rfl, rfl, k1, hA0⟩ := trodAll_cons hA0
    obtain ⟨rfl, rfl, rfl⟩ := trodAll_nil hA0
    obtain ⟨x0, f0, rfl, h0⟩ := num_open (hval 0 23 _ rfl rfl) k0
    obtain ⟨x1, f1, rfl, h1⟩ := num_open (hval 1 23 _ rfl rfl) k1
    exact (RootedLaw_spec [numS x0 f0, numS x1 f1] _ _ rfl (fun q hq => by cases hq; exact ⟨h0, h1⟩)).2.2 W

theorem fixedRooted_holds : Rows.FixedRootedSaid :=
  OpenClaim.holds_of_wide 12 Try.f12 rfl rfl rfl rfl rfl rfl rfl ⟨rfl, rfl, rfl, rfl, rfl⟩ rfl rfl rfl rfl rfl (by kernel_rfl) Try.func12 (by kernel_rfl)
    (of_decide_eq_true (by kernel_rfl)) (by unfold Func.isWrapper; rw [if_neg (by decide +kernel)]; exact ⟨rfl, rfl⟩)
    (fun os started H enc _ => fixedRooted_lifted os started H enc)

#print axioms fixedRooted_holds
end Go.Proofs.Ytnnmfonapfhcaaa
