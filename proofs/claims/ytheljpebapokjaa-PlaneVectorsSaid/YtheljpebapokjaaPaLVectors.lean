/-
  PlaneVectors answers true, whatever the input. No condition.
-/
import Derived.Test.YtheljpebapokjaaPaLaw2
import Derived.Test.YtheljpebapokjaaPaP
set_option maxRecDepth 100000
set_option linter.unusedVariables false
namespace Go.Proofs.Ytheljpebapokjaa
open Go.ChangeShapes Go.WideShapes Go.ChangeAt Go.RowKit Go.SE

theorem planeVectors_lifted (os : Os) (started : os.Started) (H : Type) (enc : TypeId × Value → H) :
    ReturnsInHanded {} Try.checked os 12 .any (Rows.planeVectorsSpec.pre6 enc Try.prog Try.f12 Rows.planeVectorsRow.domain false) (Rows.planeVectorsSpec.post enc Try.prog Try.f12 false true false false) := by
  refine returnsInHanded_of_change (C := Try.checked) Try.own started (by kernel_rfl) Try.func12
    (ChangeSpec.witness6 (enc := enc) (C := Try.checked) false ⟨#[], #[.slice none 0 0, .agg #[.int .i64 0, .bool false, .int .i64 0, .bool false], .agg #[.int .i64 0, .bool false, .int .i64 0, .bool false], .agg #[.int .i64 0, .bool false]], []⟩ 8 (by kernel_rfl) (by kernel_rfl) (by kernel_rfl) (by kernel_rfl)) ?_
  intro W base args ds gs before hval hW _ _
  refine law_frame rfl rfl (by kernel_rfl) (fun ds hl => ?_) (fun W base args ds ps hval hA => ?_) W base args ds gs before hval hW
  · match ds, hl with
    | [_, _, _, _], _ => rfl
  · have hA0 : DataW.TrodAll enc Try.prog W 0 (fun _ => true) true [63, 25, 25, 23] args.toList ds ps := hA
    obtain ⟨vs⟩ := args
    obtain ⟨v0, vs, d0, _, p0, _, rfl, rfl, rfl, k0, hA0⟩ := trodAll_cons hA0
    obtain ⟨v1, vs, d1, _, p1, _, rfl, rfl, rfl, k1, hA0⟩ := trodAll_cons hA0
    obtain ⟨v2, vs, d2, _, p2, _, rfl, rfl, rfl, k2, hA0⟩ := trodAll_cons hA0
    obtain ⟨v3, vs, d3, _, p3, _, rfl, rfl, rfl, k3, hA0⟩ := trodAll_cons hA0
    obtain ⟨rfl, rfl, rfl⟩ := trodAll_nil hA0
    obtain ⟨n0, c0, row0, l0, hA0, hR0⟩ := vecs_open (hval 0 63 _ rfl rfl) k0
    obtain ⟨a1, f1, b1, g1, rfl, h1⟩ := vec_open (hval 1 25 _ rfl rfl) k1
    obtain ⟨a2, f2, b2, g2, rfl, h2⟩ := vec_open (hval 2 25 _ rfl rfl) k2
    obtain ⟨a3, f3, rfl, h3⟩ := num_open (hval 3 23 _ rfl rfl) k3
    exact ro_calls VectorsL_spec (args := [.sl 0 4 0 n0 c0, .agg [.v (.int .i64 a1), .v (.bool f1), .v (.int .i64 b1), .v (.bool g1)], .agg [.v (.int .i64 a2), .v (.bool f2), .v (.int .i64 b2), .v (.bool g2)], .agg [.v (.int .i64 a3), .v (.bool f3)]]) (ls := [l0]) (bs := [⟨4, n0, row0⟩]) (by simp only [absL]; exact ⟨(hA0 _ 0 rfl).1, (absV_plain _ _ rfl).2 rfl, (absV_plain _ _ rfl).2 rfl, (absV_plain _ _ rfl).2 rfl, trivial⟩) (fun k b hk => by match k, hk with | 0, hk => cases hk; exact ⟨l0, rfl, (hA0 _ 0 rfl).2⟩ | _ + 1, hk => simp at hk) rfl (by simp) rfl ⟨okAll_rows.2 hR0, rfl, h1, h2, h3⟩

theorem planeVectors_holds : Rows.PlaneVectorsSaid :=
  OpenClaim.holds_of_wide 12 Try.f12 rfl rfl rfl rfl rfl rfl rfl ⟨rfl, rfl, rfl, rfl, rfl⟩ rfl rfl rfl rfl rfl (by kernel_rfl) Try.func12 (by kernel_rfl)
    (of_decide_eq_true (by kernel_rfl)) (by unfold Func.isWrapper; rw [if_neg (by decide +kernel)]; exact ⟨rfl, rfl⟩)
    (fun os started H enc _ => planeVectors_lifted os started H enc)

#print axioms planeVectors_holds
end Go.Proofs.Ytheljpebapokjaa
