/-
  WireReplies answers true, whatever the input. No condition.
-/
import Derived.Test.YtjdldadmaaeimaaZr14


set_option maxRecDepth 100000
set_option linter.unusedVariables false
namespace Go.Proofs.Ytjdldadmaaeimaa
open Go.ChangeShapes Go.WideShapes Go.ChangeAt Go.RowKit Go.SE

theorem wireReplies_lifted (os : Os) (started : os.Started) (H : Type) (enc : TypeId × Value → H) :
    ReturnsInHanded {} Try.checked os 7 .any (Rows.wireRepliesSpec.pre6 enc Try.prog Try.f7 Rows.wireRepliesRow.domain false) (Rows.wireRepliesSpec.post enc Try.prog Try.f7 false true false false) := by
  refine returnsInHanded_of_change (C := Try.checked) Try.own started (by kernel_rfl) Try.func7
    (ChangeSpec.witness6 (enc := enc) (C := Try.checked) false ⟨#[], #[.agg #[.int .i64 0, .int .i64 0, .int .i64 0, .int .i64 0, .int .i64 0, .int .i64 0, .int .i64 0, .int .i64 0, .int .i64 0, .int .i64 0, .int .i64 0, .slice none 0 0, .int .i64 0, .bool false, .int .i64 0, .bool false, .int .i64 0, .bool false, .int .i64 0, .bool false, .int .i64 0, .bool false, .int .i64 0, .bool false, .int .i64 0, .bool false, .int .i64 0, .bool false, .int .i64 0, .bool false, .int .i64 0, .bool false, .bool false, .int .i64 0, .slice none 0 0, .bool false, .int .i64 0, .bool false, .int .i64 0, .bool false, .int .i64 0, .bool false, .int .i64 0], .agg #[.int .i64 0, .int .i64 0, .int .i64 0, .int .i64 0, .int .i64 0, .int .i64 0, .int .i64 0, .int .i64 0, .int .i64 0, .int .i64 0, .int .i64 0, .slice none 0 0, .int .i64 0, .bool false, .int .i64 0, .bool false, .int .i64 0, .bool false, .int .i64 0, .bool false, .int .i64 0, .bool false, .int .i64 0, .bool false, .int .i64 0, .bool false, .int .i64 0, .bool false, .int .i64 0, .bool false, .int .i64 0, .bool false, .bool false, .int .i64 0, .slice none 0 0, .bool false, .int .i64 0, .bool false, .int .i64 0, .bool false, .int .i64 0, .bool false, .int .i64 0]], []⟩ 8 (by kernel_rfl) (by kernel_rfl) (by kernel_rfl) (by kernel_rfl)) ?_
  intro W base args ds gs before hval hW _ _
  refine law_frame rfl rfl (by kernel_rfl) (fun ds hl => ?_) (fun W base args ds ps hval hA => ?_) W base args ds gs before hval hW
  · match ds, hl with
    | [_, _], _ => rfl
  · have hA0 : DataW.TrodAll enc Try.prog W 0 (fun _ => true) true [64, 64] args.toList ds ps := hA
    obtain ⟨vs⟩ := args
    obtain ⟨v0, vs, d0, _, p0, _, rfl, rfl, rfl, k0, hA0⟩ := trodAll_cons hA0
    obtain ⟨v1, vs, d1, _, p1, _, rfl, rfl, rfl, k1, hA0⟩ := trodAll_cons hA0
    obtain ⟨rfl, rfl, rfl⟩ := trodAll_nil hA0
    obtain ⟨a0, e0, s0, n0, c0, row0, l0, m0, d0, rw0, q0, hk0, ho0, hB0, hR0, hS0⟩ := reply_open (hval 0 64 _ rfl rfl) k0
    obtain ⟨a1, e1, s1, n1, c1, row1, l1, m1, d1, rw1, q1, hk1, ho1, hB1, hR1, hS1⟩ := reply_open (hval 1 64 _ rfl rfl) k1
    exact ro_calls RepliesL_spec (args := [reS a0 e0 s0 (.sl 0 2 0 n0 c0) (.sl 1 2 0 m0 d0), reS a1 e1 s1 (.sl 2 2 0 n1 c1) (.sl 3 2 0 m1 d1)]) (ls := [l0, q0, l1, q1]) (bs := [⟨2, n0, row0⟩, ⟨2, m0, rw0⟩, ⟨2, n1, row1⟩, ⟨2, m1, rw1⟩]) (by simp only [absL]; exact ⟨(hB0 _ 0 1 rfl rfl).1, (hB1 _ 2 3 rfl rfl).1, trivial⟩) (fun k b hk => by match k, hk with | 0, hk => cases hk; exact ⟨l0, rfl, (hB0 _ 0 1 rfl rfl).2.1⟩ | 1, hk => cases hk; exact ⟨q0, rfl, (hB0 _ 0 1 rfl rfl).2.2⟩ | 2, hk => cases hk; exact ⟨l1, rfl, (hB1 _ 2 3 rfl rfl).2.1⟩ | 3, hk => cases hk; exact ⟨q1, rfl, (hB1 _ 2 3 rfl rfl).2.2⟩ | _ + 4, hk => simp at hk) rfl (by simp) rfl ⟨⟨⟨⟨okAll_rows.2 hR0, rfl⟩, okAll_rows.2 hS0, rfl⟩, ho0, hk0⟩, ⟨⟨okAll_rows.2 hR1, rfl⟩, okAll_rows.2 hS1, rfl⟩, ho1, hk1⟩

theorem wireReplies_holds : Rows.WireRepliesSaid :=
  OpenClaim.holds_of_wide 7 Try.f7 rfl rfl rfl rfl rfl rfl rfl ⟨rfl, rfl, rfl, rfl, rfl⟩ rfl rfl rfl rfl rfl (by kernel_rfl) Try.func7 (by kernel_rfl)
    (of_decide_eq_true (by kernel_rfl)) (by unfold Func.isWrapper; rw [if_neg (by decide +kernel)]; exact ⟨rfl, rfl⟩)
    (fun os started H enc _ => wireReplies_lifted os started H enc)

#print axioms wireReplies_holds
end Go.Proofs.Ytjdldadmaaeimaa
