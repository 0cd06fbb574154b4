/-
  FixedWhole answers true, whatever the input. No condition.
-/
import Derived.Test.YtnnmfonapfhcaaaFxLaw
import Derived.Test.YtnnmfonapfhcaaaFxW
set_option maxRecDepth 100000
namespace Go.Proofs.Ytnnmfonapfhcaaa
open Go.ChangeShapes Go.WideShapes Go.ChangeAt Go.RowKit

theorem fixedWhole_lifted (os : Os) (started : os.Started) (H : Type) (enc : TypeId × Value → H) :
    ReturnsInHanded {} Try.checked os 3 .any (Rows.fixedWholeSpec.pre6 enc Try.prog Try.f3 Rows.fixedWholeRow.domain false) (Rows.fixedWholeSpec.post enc Try.prog Try.f3 false true false false) := by
  refine returnsInHanded_of_change (C := Try.checked) Try.own started (by kernel_rfl) Try.func3
    (ChangeSpec.witness6 (enc := enc) (C := Try.checked) false ⟨#[], #[.agg #[.int .i64 0, .bool false], .int .i64 0, .int .i64 0, .int .i64 0, .int .i64 0], []⟩ 8 (by kernel_rfl) (by kernel_rfl) (by kernel_rfl) (by kernel_rfl)) ?_
  intro W base args ds gs before hval hW _ _
  refine law_frame rfl rfl (by kernel_rfl) (fun ds hl => ?_) (fun W base args ds ps hval hA => ?_) W base args ds gs before hval hW
  · match ds, hl with
    | [_, _, _, _, _], _ => rfl
  · have hA0 : DataW.TrodAll enc Try.prog W 0 (fun _ => true) true [23, 2, 2, 2, 2] args.toList ds ps := hA
    obtain ⟨vs⟩ := args
    obtain ⟨v0, vs, d0, _, p0, _, rfl, rfl, rfl, h0, hA0⟩ := trodAll_cons hA0
    obtain ⟨v1, vs, d1, _, p1, _, rfl, rfl, rfl, h1, hA0⟩ := trodAll_cons hA0
    obtain ⟨v2, vs, d2, _, p2, _, rfl, rfl, rfl, h2, hA0⟩ := trodAll_cons hA0
    obtain ⟨v3, vs, d3, _, p3, _, rfl, rfl, rfl, h3, hA0⟩ := trodAll_cons hA0
    obtain ⟨v4, vs, d4, _, p4, _, rfl, rfl, rfl, h4, hA0⟩ := trodAll_cons hA0
    obtain ⟨rfl, rfl, rfl⟩ := trodAll_nil hA0
    obtain ⟨x, f, rfl, hx⟩ := num_open (hval 0 23 _ rfl rfl) h0
    obtain ⟨a, rfl, ha⟩ := int_open Try.underlying2 (hval 1 2 _ rfl rfl) h1
    obtain ⟨b, rfl, hb⟩ := int_open Try.underlying2 (hval 2 2 _ rfl rfl) h2
    obtain ⟨c, rfl, hc⟩ := int_open Try.underlying2 (hval 3 2 _ rfl rfl) h3
    obtain ⟨d, rfl, hd⟩ := int_open Try.underlying2 (hval 4 2 _ rfl rfl) h4
    exact (WholeLaw_spec [numS x f, .v (.int .i64 a), .v (.int .i64 b), .v (.int .i64 c), .v (.int .i64 d)] _ _ rfl (fun q hq => by cases hq; exact ⟨hx, ⟨ha, hb⟩, hc, hd⟩)).2.2 W

theorem fixedWhole_holds : Rows.FixedWholeSaid :=
  OpenClaim.holds_of_wide 3 Try.f3 rfl rfl rfl rfl rfl rfl rfl ⟨rfl, rfl, rfl, rfl, rfl⟩ rfl rfl rfl rfl rfl (by kernel_rfl) Try.func3 (by kernel_rfl)
    (of_decide_eq_true (by kernel_rfl)) (by unfold Func.isWrapper; rw [if_neg (by decide +kernel)]; exact ⟨rfl, rfl⟩)
    (fun os started H enc _ => fixedWhole_lifted os started H enc)

#print axioms fixedWhole_holds
end Go.Proofs.Ytnnmfonapfhcaaa
