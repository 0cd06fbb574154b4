/-
  WireReplyBack answers true, whatever the input. No condition.
-/
import Derived.Test.YtjdldadmaaeimaaZs15


set_option maxRecDepth 100000
set_option linter.unusedVariables false
namespace Go.Proofs.Ytjdldadmaaeimaa
open Go.ChangeShapes Go.WideShapes Go.ChangeAt Go.RowKit Go.SE

theorem wireReplyBack_lifted (os : Os) (started : os.Started) (H : Type) (enc : TypeId × Value → H) :
    ReturnsInHanded {} Try.checked os 14 .any (Rows.wireReplyBackSpec.pre6 enc Try.prog Try.f14 Rows.wireReplyBackRow.domain false) (Rows.wireReplyBackSpec.post enc Try.prog Try.f14 false true false false) := by
  refine returnsInHanded_of_change (C := Try.checked) Try.own started (by kernel_rfl) Try.func14
    (ChangeSpec.witness6 (enc := enc) (C := Try.checked) false ⟨#[], #[.int .i64 0, .int .i64 0, .slice none 0 0, .int .i64 0, .int .u8 0], []⟩ 8 (by kernel_rfl) (by kernel_rfl) (by kernel_rfl) (by kernel_rfl)) ?_
  intro W base args ds gs before hval hW _ _
  refine law_frame rfl rfl (by kernel_rfl) (fun ds hl => ?_) (fun W base args ds ps hval hA => ?_) W base args ds gs before hval hW
  · match ds, hl with
    | [_, _, _, _, _], _ => rfl
  · have hA0 : DataW.TrodAll enc Try.prog W 0 (fun _ => true) true [3, 3, 30, 3, 5] args.toList ds ps := hA
    obtain ⟨vs⟩ := args
    obtain ⟨v0, vs, d0, _, p0, _, rfl, rfl, rfl, k0, hA0⟩ := trodAll_cons hA0
    obtain ⟨v1, vs, d1, _, p1, _, rfl, rfl, rfl, k1, hA0⟩ := trodAll_cons hA0
    obtain ⟨v2, vs, d2, _, p2, _, rfl, rfl, rfl, k2, hA0⟩ := trodAll_cons hA0
    obtain ⟨v3, vs, d3, _, p3, _, rfl, rfl, rfl, k3, hA0⟩ := trodAll_cons hA0
    obtain ⟨v4, vs, d4, _, p4, _, rfl, rfl, rfl, k4, hA0⟩ := trodAll_cons hA0
    obtain ⟨rfl, rfl, rfl⟩ := trodAll_nil hA0
    obtain ⟨a0, rfl, h0⟩ := int_open (by kernel_rfl) (hval 0 3 _ rfl rfl) k0
    obtain ⟨a1, rfl, h1⟩ := int_open (by kernel_rfl) (hval 1 3 _ rfl rfl) k1
    obtain ⟨n1, c1, row1, l1, hA1, hR1⟩ := ints_open (hval 2 30 _ rfl rfl) k2
    obtain ⟨a2, rfl, h2⟩ := int_open (by kernel_rfl) (hval 3 3 _ rfl rfl) k3
    obtain ⟨a3, rfl, h3⟩ := u8_open (by kernel_rfl) (hval 4 5 _ rfl rfl) k4
    exact ro_calls RBackL_spec (args := [.v (.int .i64 a0), .v (.int .i64 a1), .sl 0 1 0 n1 c1, .v (.int .i64 a2), .v (.int .u8 a3)]) (ls := [l1]) (bs := [⟨1, n1, row1⟩]) (by simp only [absL]; exact ⟨(absV_plain _ _ rfl).2 rfl, (absV_plain _ _ rfl).2 rfl, (hA1 _ 0 rfl).1, (absV_plain _ _ rfl).2 rfl, (absV_plain _ _ rfl).2 rfl, trivial⟩) (fun k b hk => by match k, hk with | 0, hk => cases hk; exact ⟨l1, rfl, (hA1 _ 0 rfl).2⟩ | _ + 1, hk => simp at hk) rfl (by simp) rfl ⟨⟨⟨okAll_rows.2 (fun i hi => by obtain ⟨x, e, w⟩ := hR1 i hi; rw [e]; exact w), rfl⟩, h0, h1⟩, h2, h3⟩

theorem wireReplyBack_holds : Rows.WireReplyBackSaid :=
  OpenClaim.holds_of_wide 14 Try.f14 rfl rfl rfl rfl rfl rfl rfl ⟨rfl, rfl, rfl, rfl, rfl⟩ rfl rfl rfl rfl rfl (by kernel_rfl) Try.func14 (by kernel_rfl)
    (of_decide_eq_true (by kernel_rfl)) (by unfold Func.isWrapper; rw [if_neg (by decide +kernel)]; exact ⟨rfl, rfl⟩)
    (fun os started H enc _ => wireReplyBack_lifted os started H enc)

#print axioms wireReplyBack_holds
end Go.Proofs.Ytjdldadmaaeimaa
