/-
  PlaneWeighs answers true, whatever the input. No condition.
-/
import Derived.Test.YtheljpebapokjaaPaLaw2
import Derived.Test.YtheljpebapokjaaPaR
set_option maxRecDepth 100000
set_option linter.unusedVariables false
namespace Go.Proofs.Ytheljpebapokjaa
open Go.ChangeShapes Go.WideShapes Go.ChangeAt Go.RowKit Go.SE

theorem planeWeighs_lifted (os : Os) (started : os.Started) (H : Type) (enc : TypeId × Value → H) :
    ReturnsInHanded {} Try.checked os 4 .any (Rows.planeWeighsSpec.pre6 enc Try.prog Try.f4 Rows.planeWeighsRow.domain false) (Rows.planeWeighsSpec.post enc Try.prog Try.f4 false true false false) := by
  refine returnsInHanded_of_change (C := Try.checked) Try.own started (by kernel_rfl) Try.func4
    (ChangeSpec.witness6 (enc := enc) (C := Try.checked) false ⟨#[], #[.agg #[.int .i64 0, .int .i64 0, .int .i64 0, .int .i64 0, .slice none 0 0], .int .i64 0], []⟩ 8 (by kernel_rfl) (by kernel_rfl) (by kernel_rfl) (by kernel_rfl)) ?_
  intro W base args ds gs before hval hW _ _
  refine law_frame rfl rfl (by kernel_rfl) (fun ds hl => ?_) (fun W base args ds ps hval hA => ?_) W base args ds gs before hval hW
  · match ds, hl with
    | [_, _], _ => rfl
  · have hA0 : DataW.TrodAll enc Try.prog W 0 (fun _ => true) true [32, 2] args.toList ds ps := hA
    obtain ⟨vs⟩ := args
    obtain ⟨v0, vs, d0, _, p0, _, rfl, rfl, rfl, k0, hA0⟩ := trodAll_cons hA0
    obtain ⟨v1, vs, d1, _, p1, _, rfl, rfl, rfl, k1, hA0⟩ := trodAll_cons hA0
    obtain ⟨rfl, rfl, rfl⟩ := trodAll_nil hA0
    obtain ⟨s0, n0, c0, row0, l0, h0, hA0, hR0⟩ := shape_open (hval 0 32 _ rfl rfl) k0
    obtain ⟨a1, rfl, h1⟩ := int_open (by kernel_rfl) (hval 1 2 _ rfl rfl) k1
    exact ro_calls WeighsL_spec (args := [shS s0 (.sl 0 2 0 n0 c0), .v (.int .i64 a1)]) (ls := [l0]) (bs := [⟨2, n0, row0⟩]) (by simp only [absL]; exact ⟨(hA0 _ 0 rfl).1, (absV_plain _ _ rfl).2 rfl, trivial⟩) (fun k b hk => by match k, hk with | 0, hk => cases hk; exact ⟨l0, rfl, (hA0 _ 0 rfl).2⟩ | _ + 1, hk => simp at hk) rfl (by simp) rfl ⟨h0, okAll_rows.2 hR0, rfl, h1⟩

theorem planeWeighs_holds : Rows.PlaneWeighsSaid :=
  OpenClaim.holds_of_wide 4 Try.f4 rfl rfl rfl rfl rfl rfl rfl ⟨rfl, rfl, rfl, rfl, rfl⟩ rfl rfl rfl rfl rfl (by kernel_rfl) Try.func4 (by kernel_rfl)
    (of_decide_eq_true (by kernel_rfl)) (by unfold Func.isWrapper; rw [if_neg (by decide +kernel)]; exact ⟨rfl, rfl⟩)
    (fun os started H enc _ => planeWeighs_lifted os started H enc)

#print axioms planeWeighs_holds
end Go.Proofs.Ytheljpebapokjaa
