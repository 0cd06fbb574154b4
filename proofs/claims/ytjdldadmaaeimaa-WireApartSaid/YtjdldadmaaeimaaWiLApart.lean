/-
  WireApart answers true, whatever the input. No condition.
-/
import Derived.Test.YtjdldadmaaeimaaZa15


set_option maxRecDepth 100000
set_option linter.unusedVariables false
namespace Go.Proofs.Ytjdldadmaaeimaa
open Go.ChangeShapes Go.WideShapes Go.ChangeAt Go.RowKit Go.SE

theorem wireApart_lifted (os : Os) (started : os.Started) (H : Type) (enc : TypeId × Value → H) :
    ReturnsInHanded {} Try.checked os 5 .any (Rows.wireApartSpec.pre6 enc Try.prog Try.f5 Rows.wireApartRow.domain false) (Rows.wireApartSpec.post enc Try.prog Try.f5 false true false false) := by
  refine returnsInHanded_of_change (C := Try.checked) Try.own started (by kernel_rfl) Try.func5
    (ChangeSpec.witness6 (enc := enc) (C := Try.checked) false ⟨#[], #[.int .i64 0, .int .i64 0, .slice none 0 0, .slice none 0 0], []⟩ 8 (by kernel_rfl) (by kernel_rfl) (by kernel_rfl) (by kernel_rfl)) ?_
  intro W base args ds gs before hval hW _ _
  refine law_frame rfl rfl (by kernel_rfl) (fun ds hl => ?_) (fun W base args ds ps hval hA => ?_) W base args ds gs before hval hW
  · match ds, hl with
    | [_, _, _, _], _ => rfl
  · have hA0 : DataW.TrodAll enc Try.prog W 0 (fun _ => true) true [3, 3, 30, 30] args.toList ds ps := hA
    obtain ⟨vs⟩ := args
    obtain ⟨v0, vs, d0, _, p0, _, rfl, rfl, rfl, k0, hA0⟩ := trodAll_cons hA0
    obtain ⟨v1, vs, d1, _, p1, _, rfl, rfl, rfl, k1, hA0⟩ := trodAll_cons hA0
    obtain ⟨v2, vs, d2, _, p2, _, rfl, rfl, rfl, k2, hA0⟩ := trodAll_cons hA0
    obtain ⟨v3, vs, d3, _, p3, _, rfl, rfl, rfl, k3, hA0⟩ := trodAll_cons hA0
    obtain ⟨rfl, rfl, rfl⟩ := trodAll_nil hA0
    obtain ⟨a0, rfl, h0⟩ := int_open (by kernel_rfl) (hval 0 3 _ rfl rfl) k0
    obtain ⟨a1, rfl, h1⟩ := int_open (by kernel_rfl) (hval 1 3 _ rfl rfl) k1
    obtain ⟨n2, c2, row2, l2, hA2, hR2⟩ := ints_open (hval 2 30 _ rfl rfl) k2
    obtain ⟨n3, c3, row3, l3, hA3, hR3⟩ := ints_open (hval 3 30 _ rfl rfl) k3
    exact ro_calls ApartL_spec (args := [.v (.int .i64 a0), .v (.int .i64 a1), .sl 0 1 0 n2 c2, .sl 1 1 0 n3 c3]) (ls := [l2, l3]) (bs := [⟨1, n2, row2⟩, ⟨1, n3, row3⟩]) (by simp only [absL]; exact ⟨(absV_plain _ _ rfl).2 rfl, (absV_plain _ _ rfl).2 rfl, (hA2 _ 0 rfl).1, (hA3 _ 1 rfl).1, trivial⟩) (fun k b hk => by match k, hk with | 0, hk => cases hk; exact ⟨l2, rfl, (hA2 _ 0 rfl).2⟩ | 1, hk => cases hk; exact ⟨l3, rfl, (hA3 _ 1 rfl).2⟩ | _ + 2, hk => simp at hk) rfl (by simp) rfl ⟨⟨⟨okAll_rows.2 (fun i hi => by obtain ⟨x, e, w⟩ := hR2 i hi; rw [e]; exact w), rfl⟩, h0⟩, ⟨okAll_rows.2 (fun i hi => by obtain ⟨x, e, w⟩ := hR3 i hi; rw [e]; exact w), rfl⟩, h1⟩

theorem wireApart_holds : Rows.WireApartSaid :=
  OpenClaim.holds_of_wide 5 Try.f5 rfl rfl rfl rfl rfl rfl rfl ⟨rfl, rfl, rfl, rfl, rfl⟩ rfl rfl rfl rfl rfl (by kernel_rfl) Try.func5 (by kernel_rfl)
    (of_decide_eq_true (by kernel_rfl)) (by unfold Func.isWrapper; rw [if_neg (by decide +kernel)]; exact ⟨rfl, rfl⟩)
    (fun os started H enc _ => wireApart_lifted os started H enc)

#print axioms wireApart_holds
end Go.Proofs.Ytjdldadmaaeimaa
