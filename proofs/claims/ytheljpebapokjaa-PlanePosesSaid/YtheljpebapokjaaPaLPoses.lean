/-
  PlanePoses answers true, whatever the input. No condition.
-/
import Derived.Test.YtheljpebapokjaaPmL
import Derived.Test.YtheljpebapokjaaPaO
set_option maxRecDepth 100000
set_option linter.unusedVariables false
namespace Go.Proofs.Ytheljpebapokjaa
open Go.ChangeShapes Go.WideShapes Go.ChangeAt Go.RowKit Go.SE

theorem planePoses_lifted (os : Os) (started : os.Started) (H : Type) (enc : TypeId × Value → H) :
    ReturnsInHanded {} Try.checked os 11 .any (Rows.planePosesSpec.pre6 enc Try.prog Try.f11 Rows.planePosesRow.domain false) (Rows.planePosesSpec.post enc Try.prog Try.f11 false true false false) := by
  refine returnsInHanded_of_change (C := Try.checked) Try.own started (by kernel_rfl) Try.func11
    (ChangeSpec.witness6 (enc := enc) (C := Try.checked) false ⟨#[], #[.agg #[.int .i64 0, .bool false, .int .i64 0, .bool false, .int .i64 0, .bool false, .int .i64 0, .bool false], .agg #[.int .i64 0, .bool false, .int .i64 0, .bool false]], []⟩ 8 (by kernel_rfl) (by kernel_rfl) (by kernel_rfl) (by kernel_rfl)) ?_
  intro W base args ds gs before hval hW _ _
  refine law_frame rfl rfl (by kernel_rfl) (fun ds hl => ?_) (fun W base args ds ps hval hA => ?_) W base args ds gs before hval hW
  · match ds, hl with
    | [_, _], _ => rfl
  · have hA0 : DataW.TrodAll enc Try.prog W 0 (fun _ => true) true [72, 25] args.toList ds ps := hA
    obtain ⟨vs⟩ := args
    obtain ⟨v0, vs, d0, _, p0, _, rfl, rfl, rfl, k0, hA0⟩ := trodAll_cons hA0
    obtain ⟨v1, vs, d1, _, p1, _, rfl, rfl, rfl, k1, hA0⟩ := trodAll_cons hA0
    obtain ⟨rfl, rfl, rfl⟩ := trodAll_nil hA0
    obtain ⟨a0, f0, b0, g0, c0, k0', e0, l0, rfl, h0⟩ := pose_open (hval 0 72 _ rfl rfl) k0
    obtain ⟨a1, f1, b1, g1, rfl, h1⟩ := vec_open (hval 1 25 _ rfl rfl) k1
    exact (PosesL_spec [.agg [.v (.int .i64 a0), .v (.bool f0), .v (.int .i64 b0), .v (.bool g0), .v (.int .i64 c0), .v (.bool k0'), .v (.int .i64 e0), .v (.bool l0)], .agg [.v (.int .i64 a1), .v (.bool f1), .v (.int .i64 b1), .v (.bool g1)]] _ _ rfl (fun q hq => by cases hq; exact ⟨h0.1, h0.2, h1⟩)).2.2 W

theorem planePoses_holds : Rows.PlanePosesSaid :=
  OpenClaim.holds_of_wide 11 Try.f11 rfl rfl rfl rfl rfl rfl rfl ⟨rfl, rfl, rfl, rfl, rfl⟩ rfl rfl rfl rfl rfl (by kernel_rfl) Try.func11 (by kernel_rfl)
    (of_decide_eq_true (by kernel_rfl)) (by unfold Func.isWrapper; rw [if_neg (by decide +kernel)]; exact ⟨rfl, rfl⟩)
    (fun os started H enc _ => planePoses_lifted os started H enc)

#print axioms planePoses_holds
end Go.Proofs.Ytheljpebapokjaa
