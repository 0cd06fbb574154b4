/-
  PlaneShapes answers true, whatever the input. No condition.
-/
import Derived.Test.YtheljpebapokjaaPaLaw2
import Derived.Test.YtheljpebapokjaaPaU
set_option maxRecDepth 100000
set_option linter.unusedVariables false
namespace Go.Proofs.Ytheljpebapokjaa
open Go.ChangeShapes Go.WideShapes Go.ChangeAt Go.RowKit Go.SE

theorem planeShapes_lifted (os : Os) (started : os.Started) (H : Type) (enc : TypeId × Value → H) :
    ReturnsInHanded {} Try.checked os 13 .any (Rows.planeShapesSpec.pre6 enc Try.prog Try.f13 Rows.planeShapesRow.domain false) (Rows.planeShapesSpec.post enc Try.prog Try.f13 false true false false) := by
  refine returnsInHanded_of_change (C := Try.checked) Try.own started (by kernel_rfl) Try.func13
    (ChangeSpec.witness6 (enc := enc) (C := Try.checked) false ⟨#[], #[.agg #[.int .i64 0, .int .i64 0, .int .i64 0, .int .i64 0, .slice none 0 0], .agg #[.int .i64 0, .int .i64 0, .int .i64 0, .int .i64 0, .slice none 0 0]], []⟩ 8 (by kernel_rfl) (by kernel_rfl) (by kernel_rfl) (by kernel_rfl)) ?_
  intro W base args ds gs before hval hW _ _
  refine law_frame rfl rfl (by kernel_rfl) (fun ds hl => ?_) (fun W base args ds ps hval hA => ?_) W base args ds gs before hval hW
  · match ds, hl with
    | [_, _], _ => rfl
  · have hA0 : DataW.TrodAll enc Try.prog W 0 (fun _ => true) true [32, 32] args.toList ds ps := hA
    obtain ⟨vs⟩ := args
    obtain ⟨v0, vs, d0, _, p0, _, rfl, rfl, rfl, k0, hA0⟩ := trodAll_cons hA0
    obtain ⟨v1, vs, d1, _, p1, _, rfl, rfl, rfl, k1, hA0⟩ := trodAll_cons hA0
    obtain ⟨rfl, rfl, rfl⟩ := trodAll_nil hA0
    obtain ⟨s0, n0, c0, row0, l0, h0, hA0, hR0⟩ := shape_open (hval 0 32 _ rfl rfl) k0
    obtain ⟨s1, n1, c1, row1, l1, h1, hA1, hR1⟩ := shape_open (hval 1 32 _ rfl rfl) k1
    exact ro_calls ShapesL_spec (args := [shS s0 (.sl 0 2 0 n0 c0), shS s1 (.sl 1 2 0 n1 c1)]) (ls := [l0, l1]) (bs := [⟨2, n0, row0⟩, ⟨2, n1, row1⟩]) (by simp only [absL]; exact ⟨(hA0 _ 0 rfl).1, (hA1 _ 1 rfl).1, trivial⟩) (fun k b hk => by match k, hk with | 0, hk => cases hk; exact ⟨l0, rfl, (hA0 _ 0 rfl).2⟩ | 1, hk => cases hk; exact ⟨l1, rfl, (hA1 _ 1 rfl).2⟩ | _ + 2, hk => simp at hk) rfl (by simp) rfl ⟨⟨h0, okAll_rows.2 hR0, rfl⟩, h1, okAll_rows.2 hR1, rfl⟩

theorem planeShapes_holds : Rows.PlaneShapesSaid :=
  OpenClaim.holds_of_wide 13 Try.f13 rfl rfl rfl rfl rfl rfl rfl ⟨rfl, rfl, rfl, rfl, rfl⟩ rfl rfl rfl rfl rfl (by kernel_rfl) Try.func13 (by kernel_rfl)
    (of_decide_eq_true (by kernel_rfl)) (by unfold Func.isWrapper; rw [if_neg (by decide +kernel)]; exact ⟨rfl, rfl⟩)
    (fun os started H enc _ => planeShapes_lifted os started H enc)

#print axioms planeShapes_holds
end Go.Proofs.Ytheljpebapokjaa
