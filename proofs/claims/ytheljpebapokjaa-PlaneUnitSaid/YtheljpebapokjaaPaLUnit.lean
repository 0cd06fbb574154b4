/-
  PlaneUnit answers true, whatever the input. No condition.
-/
import Derived.Test.YtheljpebapokjaaPmL
import Derived.Test.YtheljpebapokjaaPaO
set_option maxRecDepth 100000
set_option linter.unusedVariables false
namespace Go.Proofs.Ytheljpebapokjaa
open Go.ChangeShapes Go.WideShapes Go.ChangeAt Go.RowKit Go.SE

theorem planeUnit_lifted (os : Os) (started : os.Started) (H : Type) (enc : TypeId × Value → H) :
    ReturnsInHanded {} Try.checked os 3 .any (Rows.planeUnitSpec.pre6 enc Try.prog Try.f3 Rows.planeUnitRow.domain false) (Rows.planeUnitSpec.post enc Try.prog Try.f3 false true false false) := by
  refine returnsInHanded_of_change (C := Try.checked) Try.own started (by kernel_rfl) Try.func3
    (ChangeSpec.witness6 (enc := enc) (C := Try.checked) false ⟨#[], #[.agg #[.int .i64 0, .bool false, .int .i64 0, .bool false]], []⟩ 8 (by kernel_rfl) (by kernel_rfl) (by kernel_rfl) (by kernel_rfl)) ?_
  intro W base args ds gs before hval hW _ _
  refine law_frame rfl rfl (by kernel_rfl) (fun ds hl => ?_) (fun W base args ds ps hval hA => ?_) W base args ds gs before hval hW
  · match ds, hl with
    | [_], _ => rfl
  · have hA0 : DataW.TrodAll enc Try.prog W 0 (fun _ => true) true [25] args.toList ds ps := hA
    obtain ⟨vs⟩ := args
    obtain ⟨v0, vs, d0, _, p0, _, rfl, rfl, rfl, k0, hA0⟩ := trodAll_cons hA0
    obtain ⟨rfl, rfl, rfl⟩ := trodAll_nil hA0
    obtain ⟨a0, f0, b0, g0, rfl, h0⟩ := vec_open (hval 0 25 _ rfl rfl) k0
    exact (UnitL_spec [.agg [.v (.int .i64 a0), .v (.bool f0), .v (.int .i64 b0), .v (.bool g0)]] _ _ rfl (fun q hq => by cases hq; exact h0)).2.2 W

theorem planeUnit_holds : Rows.PlaneUnitSaid :=
  OpenClaim.holds_of_wide 3 Try.f3 rfl rfl rfl rfl rfl rfl rfl ⟨rfl, rfl, rfl, rfl, rfl⟩ rfl rfl rfl rfl rfl (by kernel_rfl) Try.func3 (by kernel_rfl)
    (of_decide_eq_true (by kernel_rfl)) (by unfold Func.isWrapper; rw [if_neg (by decide +kernel)]; exact ⟨rfl, rfl⟩)
    (fun os started H enc _ => planeUnit_lifted os started H enc)

#print axioms planeUnit_holds
end Go.Proofs.Ytheljpebapokjaa
