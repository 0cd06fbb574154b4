/-
  PlaneRots answers true, whatever the input. No condition.
-/
import Derived.Test.YtheljpebapokjaaGreatPmL
import Derived.Test.YtheljpebapokjaaGreatPaRo
set_option maxRecDepth 100000
set_option linter.unusedVariables false
namespace Go.Proofs.YtheljpebapokjaaGreat
open Go.ChangeShapes Go.WideShapes Go.ChangeAt Go.RowKit Go.SE

theorem planeRots_lifted (os : Os) (started : os.Started) (H : Type) (enc : TypeId × Value → H) :
    ReturnsInHanded {} Tryz.checked os 3 .any (Rows.planeRotsSpec.pre6 enc Tryz.prog Tryz.f3 Rows.planeRotsRow.domain false) (Rows.planeRotsSpec.post enc Tryz.prog Tryz.f3 false true false false) := by
  refine returnsInHanded_of_change (C := Tryz.checked) Tryz.own started (by kernel_rfl) Tryz.func3
    (ChangeSpec.witness6 (enc := enc) (C := Tryz.checked) false ⟨#[], #[.agg #[.int .i64 0, .bool false], .agg #[.int .i64 0, .bool false, .int .i64 0, .bool false], .agg #[.int .i64 0, .bool false, .int .i64 0, .bool false], .agg #[.int .i64 0, .bool false, .int .i64 0, .bool false]], []⟩ 8 (by kernel_rfl) (by kernel_rfl) (by kernel_rfl) (by kernel_rfl)) ?_
  intro W base args ds gs before hval hW _ _
  refine law_frame rfl rfl (by kernel_rfl) (fun ds hl => ?_) (fun W base args ds ps hval hA => ?_) W base args ds gs before hval hW
  · match ds, hl with
    | [_, _, _, _], _ => rfl
  · have hA0 : DataW.TrodAll enc Tryz.prog W 0 (fun _ => true) true [23, 25, 25, 27] args.toList ds ps := hA
    obtain ⟨vs⟩ := args
    obtain ⟨v0, vs, d0, _, p0, _, rfl, rfl, rfl, k0, hA0⟩ := trodAll_cons hA0
    obtain ⟨v1, vs, d1, _, p1, _, rfl, rfl, rfl, k1, hA0⟩ := trodAll_cons hA0
    obtain ⟨v2, vs, d2, _, p2, _, rfl, rfl, rfl, k2, hA0⟩ := trodAll_cons hA0
    obtain ⟨v3, vs, d3, _, p3, _, rfl, rfl, rfl, k3, hA0⟩ := trodAll_cons hA0
    obtain ⟨rfl, rfl, rfl⟩ := trodAll_nil hA0
    obtain ⟨a0, f0, rfl, h0⟩ := num_open (hval 0 23 _ rfl rfl) k0
    obtain ⟨a1, f1, b1, g1, rfl, h1⟩ := rot_open (hval 1 25 _ rfl rfl) k1
    obtain ⟨a2, f2, b2, g2, rfl, h2⟩ := rot_open (hval 2 25 _ rfl rfl) k2
    obtain ⟨a3, f3, b3, g3, rfl, h3⟩ := vec_open (hval 3 27 _ rfl rfl) k3
    exact (RotsL_spec [.agg [.v (.int .i64 a0), .v (.bool f0)], .agg [.v (.int .i64 a1), .v (.bool f1), .v (.int .i64 b1), .v (.bool g1)], .agg [.v (.int .i64 a2), .v (.bool f2), .v (.int .i64 b2), .v (.bool g2)], .agg [.v (.int .i64 a3), .v (.bool f3), .v (.int .i64 b3), .v (.bool g3)]] _ _ rfl (fun q hq => by cases hq; exact ⟨h0, h1, h2, h3⟩)).2.2 W

theorem planeRots_holds : Rows.PlaneRotsSaid :=
  OpenClaim.holds_of_wide 3 Tryz.f3 rfl rfl rfl rfl rfl rfl rfl ⟨rfl, rfl, rfl, rfl, rfl⟩ rfl rfl rfl rfl rfl (by kernel_rfl) Tryz.func3 (by kernel_rfl)
    (of_decide_eq_true (by kernel_rfl)) (by unfold Func.isWrapper; rw [if_neg (by decide +kernel)]; exact ⟨rfl, rfl⟩)
    (fun os started H enc _ => planeRots_lifted os started H enc)

#print axioms planeRots_holds
end Go.Proofs.YtheljpebapokjaaGreat
