/-
  FixedBack answers true, whatever the input. No condition.
-/
import Derived.Test.YtnnmfonapfhcaaaFxLaw
import Derived.Test.YtnnmfonapfhcaaaFyU
import Derived.ChangeMaps5
set_option maxRecDepth 100000
set_option linter.unusedVariables false
namespace Go.Proofs.Ytnnmfonapfhcaaa
open Go.ChangeShapes Go.WideShapes Go.ChangeAt Go.RowKit

theorem fixedBack_lifted (os : Os) (started : os.Started) (H : Type) (enc : TypeId × Value → H) :
    ReturnsInHanded {} Try.checked os 11 .any (Rows.fixedBackSpec.pre6 enc Try.prog Try.f11 Rows.fixedBackRow.domain false) (Rows.fixedBackSpec.post enc Try.prog Try.f11 false true false false) := by
  refine returnsInHanded_of_change (C := Try.checked) Try.own started (by kernel_rfl) Try.func11
    (ChangeSpec.witness6 (enc := enc) (C := Try.checked) false ⟨#[], #[.agg #[.int .i64 0, .bool false], .agg #[.int .i64 0, .bool false], .string ⟨#[]⟩], []⟩ 8 (by kernel_rfl) (by kernel_rfl) (by kernel_rfl) (by kernel_rfl)) ?_
  intro W base args ds gs before hval hW _ _
  refine law_frame rfl rfl (by kernel_rfl) (fun ds hl => ?_) (fun W base args ds ps hval hA => ?_) W base args ds gs before hval hW
  · match ds, hl with
    | [_, _, _], _ => rfl
  · have hA0 : DataW.TrodAll enc Try.prog W 0 (fun _ => true) true [23, 23, 9] args.toList ds ps := hA
    obtain ⟨vs⟩ := args
    obtain ⟨v0, vs, d0, _, p0, _, rfl, rfl, rfl, k0, hA0⟩ := trodAll_cons hA0
    obtain ⟨v1, vs, d1, _, p1, _, rfl, rfl, rfl, k1, hA0⟩ := trodAll_cons hA0
    obtain ⟨v2, vs, d2, _, p2, _, rfl, rfl, rfl, k2, hA0⟩ := trodAll_cons hA0
    obtain ⟨rfl, rfl, rfl⟩ := trodAll_nil hA0
    obtain ⟨x0, f0, rfl, h0⟩ := num_open (hval 0 23 _ rfl rfl) k0
    obtain ⟨x1, f1, rfl, h1⟩ := num_open (hval 1 23 _ rfl rfl) k1
    obtain ⟨x2, rfl, _⟩ := Go.ChangeMaps.open_string (P := Try.prog) (t := 9) (by kernel_rfl) (hval 2 9 _ rfl rfl) k2
    exact (BackLaw_spec [numS x0 f0, numS x1 f1, .v (.string x2)] _ _ rfl (fun q hq => by cases hq; exact ⟨h0, h1⟩)).2.2 W

theorem fixedBack_holds : Rows.FixedBackSaid :=
  OpenClaim.holds_of_wide 11 Try.f11 rfl rfl rfl rfl rfl rfl rfl ⟨rfl, rfl, rfl, rfl, rfl⟩ rfl rfl rfl rfl rfl (by kernel_rfl) Try.func11 (by kernel_rfl)
    (of_decide_eq_true (by kernel_rfl)) (by unfold Func.isWrapper; rw [if_neg (by decide +kernel)]; exact ⟨rfl, rfl⟩)
    (fun os started H enc _ => fixedBack_lifted os started H enc)

#print axioms fixedBack_holds
end Go.Proofs.Ytnnmfonapfhcaaa
