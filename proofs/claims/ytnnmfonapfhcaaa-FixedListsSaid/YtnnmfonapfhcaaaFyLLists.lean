/-
  FixedLists answers true, whatever the input. No condition.
-/
import Derived.Test.YtnnmfonapfhcaaaFxLaw2
import Derived.Test.YtnnmfonapfhcaaaFyH
set_option maxRecDepth 100000
namespace Go.Proofs.Ytnnmfonapfhcaaa
open Go.ChangeShapes Go.WideShapes Go.ChangeAt Go.RowKit

theorem fixedLists_lifted (os : Os) (started : os.Started) (H : Type) (enc : TypeId × Value → H) :
    ReturnsInHanded {} Try.checked os 5 .any (Rows.fixedListsSpec.pre6 enc Try.prog Try.f5 Rows.fixedListsRow.domain false) (Rows.fixedListsSpec.post enc Try.prog Try.f5 false true false false) := by
  refine returnsInHanded_of_change (C := Try.checked) Try.own started (by kernel_rfl) Try.func5
    (ChangeSpec.witness6 (enc := enc) (C := Try.checked) false ⟨#[], #[.slice none 0 0, .agg #[.int .i64 0, .bool false], .agg #[.int .i64 0, .bool false], .agg #[.int .i64 0, .bool false]], []⟩ 8 (by kernel_rfl) (by kernel_rfl) (by kernel_rfl) (by kernel_rfl)) ?_
  intro W base args ds gs before hval hW _ _
  refine law_frame rfl rfl (by kernel_rfl) (fun ds hl => ?_) (fun W base args ds ps hval hA => ?_) W base args ds gs before hval hW
  · match ds, hl with
    | [_, _, _, _], _ => rfl
  · have hA0 : DataW.TrodAll enc Try.prog W 0 (fun _ => true) true [33, 23, 23, 23] args.toList ds ps := hA
    obtain ⟨vs⟩ := args
    obtain ⟨v0, vs, d0, _, p0, _, rfl, rfl, rfl, k0, hA0⟩ := trodAll_cons hA0
    obtain ⟨v1, vs, d1, _, p1, _, rfl, rfl, rfl, k1, hA0⟩ := trodAll_cons hA0
    obtain ⟨v2, vs, d2, _, p2, _, rfl, rfl, rfl, k2, hA0⟩ := trodAll_cons hA0
    obtain ⟨v3, vs, d3, _, p3, _, rfl, rfl, rfl, k3, hA0⟩ := trodAll_cons hA0
    obtain ⟨rfl, rfl, rfl⟩ := trodAll_nil hA0
    obtain ⟨n, c, row, l, ha, hl, hr⟩ := nums_open (hval 0 33 _ rfl rfl) k0
    obtain ⟨x1, f1, rfl, h1⟩ := num_open (hval 1 23 _ rfl rfl) k1
    obtain ⟨x2, f2, rfl, h2⟩ := num_open (hval 2 23 _ rfl rfl) k2
    obtain ⟨x3, f3, rfl, h3⟩ := num_open (hval 3 23 _ rfl rfl) k3
    exact list_calls (rest := [numS x1 f1, numS x2 f2, numS x3 f3]) ListsLaw_spec rfl ha hl rfl ⟨Go.SE.okAll_rows.2 fun i hi => by obtain ⟨a, f, e, h⟩ := hr i hi; rw [e]; exact h, rfl, h1, h2, h3⟩

theorem fixedLists_holds : Rows.FixedListsSaid :=
  OpenClaim.holds_of_wide 5 Try.f5 rfl rfl rfl rfl rfl rfl rfl ⟨rfl, rfl, rfl, rfl, rfl⟩ rfl rfl rfl rfl rfl (by kernel_rfl) Try.func5 (by kernel_rfl)
    (of_decide_eq_true (by kernel_rfl)) (by unfold Func.isWrapper; rw [if_neg (by decide +kernel)]; exact ⟨rfl, rfl⟩)
    (fun os started H enc _ => fixedLists_lifted os started H enc)

#print axioms fixedLists_holds
end Go.Proofs.Ytnnmfonapfhcaaa
