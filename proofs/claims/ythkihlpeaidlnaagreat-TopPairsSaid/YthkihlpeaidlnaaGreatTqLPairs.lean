/-
  TopPairs answers true, whatever the input. No condition.
-/
import Derived.Test.YthkihlpeaidlnaaGreatZr20


set_option maxRecDepth 100000
set_option linter.unusedVariables false
namespace Go.Proofs.YthkihlpeaidlnaaGreat
open Go.ChangeShapes Go.WideShapes Go.ChangeAt Go.RowKit Go.SE

theorem topPairs_lifted (os : Os) (started : os.Started) (H : Type) (enc : TypeId × Value → H) :
    ReturnsInHanded {} Tryz.checked os 3 .any (Rows.topPairsSpec.pre6 enc Tryz.prog Tryz.f3 Rows.topPairsRow.domain false) (Rows.topPairsSpec.post enc Tryz.prog Tryz.f3 false true false false) := by
  refine returnsInHanded_of_change (C := Tryz.checked) Tryz.own started (by kernel_rfl) Tryz.func3
    (ChangeSpec.witness6 (enc := enc) (C := Tryz.checked) false ⟨#[], #[.slice none 0 0, .slice none 0 0], []⟩ 8 (by kernel_rfl) (by kernel_rfl) (by kernel_rfl) (by kernel_rfl)) ?_
  intro W base args ds gs before hval hW _ _
  refine Q2n rfl rfl (by kernel_rfl) (fun ds hl => ?_) (fun W base args ds ps hval hA => ?_) W base args ds gs before hval hW
  · match ds, hl with
    | [_, _], _ => rfl
  · have hA0 : DataW.TrodAll enc Tryz.prog W 0 (fun _ => true) true [22, 23] args.toList ds ps := hA
    obtain ⟨vs⟩ := args
    obtain ⟨v0, vs, d0, _, p0, _, rfl, rfl, rfl, k0, hA0⟩ := trodAll_cons hA0
    obtain ⟨v1, vs, d1, _, p1, _, rfl, rfl, rfl, k1, hA0⟩ := trodAll_cons hA0
    obtain ⟨rfl, rfl, rfl⟩ := trodAll_nil hA0
    obtain ⟨n0, c0, row0, l0, hA0, hR0⟩ := Qxn (hval 0 22 _ rfl rfl) k0
    obtain ⟨n1, c1, row1, l1, hA1, hR1⟩ := Q2o (hval 1 23 _ rfl rfl) k1
    exact Q6m Q8k (args := [.sl 0 6 0 n0 c0, .sl 1 1 0 n1 c1]) (ls := [l0, l1]) (bs := [⟨6, n0, row0⟩, ⟨1, n1, row1⟩]) (by simp only [Qaw]; exact ⟨(hA0 _ 0 rfl).1, (hA1 _ 1 rfl).1, trivial⟩)
      (fun k b hk => by match k, hk with | 0, hk => cases hk; exact ⟨l0, rfl, (hA0 _ 0 rfl).2⟩ | 1, hk => cases hk; exact ⟨l1, rfl, (hA1 _ 1 rfl).2⟩ | _ + 2, hk => simp at hk) rfl (by simp) rfl ⟨⟨rfl, hR0⟩, rfl, hR1⟩

theorem topPairs_holds : Rows.TopPairsSaid :=
  OpenClaim.holds_of_wide 3 Tryz.f3 rfl rfl rfl rfl rfl rfl rfl ⟨rfl, rfl, rfl, rfl, rfl⟩ rfl rfl rfl rfl rfl (by kernel_rfl) Tryz.func3 (by kernel_rfl)
    (of_decide_eq_true (by kernel_rfl)) (by unfold Func.isWrapper; rw [if_neg (by decide +kernel)]; exact ⟨rfl, rfl⟩)
    (fun os started H enc _ => topPairs_lifted os started H enc)

#print axioms topPairs_holds
end Go.Proofs.YthkihlpeaidlnaaGreat
