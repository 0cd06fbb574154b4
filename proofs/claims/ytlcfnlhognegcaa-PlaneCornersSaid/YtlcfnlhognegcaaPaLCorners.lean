/-
  PlaneCorners answers true, whatever the input. No condition.
-/
import Derived.Test.YtlcfnlhognegcaaZc13


set_option maxRecDepth 100000
set_option linter.unusedVariables false
namespace Go.Proofs.Ytlcfnlhognegcaa
open Go.ChangeShapes Go.WideShapes Go.ChangeAt Go.RowKit Go.SE

theorem planeCorners_lifted (os : Os) (started : os.Started) (H : Type) (enc : TypeId × Value → H) :
    ReturnsInHanded {} Try.checked os 3 .any (Rows.planeCornersSpec.pre6 enc Try.prog Try.f3 Rows.planeCornersRow.domain false) (Rows.planeCornersSpec.post enc Try.prog Try.f3 false true false false) := by
  refine returnsInHanded_of_change (C := Try.checked) Try.own started (by kernel_rfl) Try.func3
    (ChangeSpec.witness6 (enc := enc) (C := Try.checked) false ⟨#[], #[.int .i64 0, .int .i64 0, .int .i64 0], []⟩ 8 (by kernel_rfl) (by kernel_rfl) (by kernel_rfl) (by kernel_rfl)) ?_
  intro W base args ds gs before hval hW _ _
  refine law_frame rfl rfl (by kernel_rfl) (fun ds hl => ?_) (fun W base args ds ps hval hA => ?_) W base args ds gs before hval hW
  · match ds, hl with
    | [_, _, _], _ => rfl
  · have hA0 : DataW.TrodAll enc Try.prog W 0 (fun _ => true) true [3, 3, 2] args.toList ds ps := hA
    obtain ⟨vs⟩ := args
    obtain ⟨v0, vs, d0, _, p0, _, rfl, rfl, rfl, k0, hA0⟩ := trodAll_cons hA0
    obtain ⟨v1, vs, d1, _, p1, _, rfl, rfl, rfl, k1, hA0⟩ := trodAll_cons hA0
    obtain ⟨v2, vs, d2, _, p2, _, rfl, rfl, rfl, k2, hA0⟩ := trodAll_cons hA0
    obtain ⟨rfl, rfl, rfl⟩ := trodAll_nil hA0
    obtain ⟨a0, rfl, h0⟩ := int_open (by kernel_rfl) (hval 0 3 _ rfl rfl) k0
    obtain ⟨a1, rfl, h1⟩ := int_open (by kernel_rfl) (hval 1 3 _ rfl rfl) k1
    obtain ⟨a2, rfl, h2⟩ := int_open (by kernel_rfl) (hval 2 2 _ rfl rfl) k2
    exact ro_calls CorL_spec (args := [.v (.int .i64 a0), .v (.int .i64 a1), .v (.int .i64 a2)]) (ls := []) (bs := []) (by simp only [absL]; exact ⟨(absV_plain _ _ rfl).2 rfl, (absV_plain _ _ rfl).2 rfl, (absV_plain _ _ rfl).2 rfl, trivial⟩) (fun k b hk => by simp at hk) rfl (by simp) rfl ⟨h0, h1, h2⟩

theorem planeCorners_holds : Rows.PlaneCornersSaid :=
  OpenClaim.holds_of_wide 3 Try.f3 rfl rfl rfl rfl rfl rfl rfl ⟨rfl, rfl, rfl, rfl, rfl⟩ rfl rfl rfl rfl rfl (by kernel_rfl) Try.func3 (by kernel_rfl)
    (of_decide_eq_true (by kernel_rfl)) (by unfold Func.isWrapper; rw [if_neg (by decide +kernel)]; exact ⟨rfl, rfl⟩)
    (fun os started H enc _ => planeCorners_lifted os started H enc)

#print axioms planeCorners_holds
end Go.Proofs.Ytlcfnlhognegcaa
