/-
  WireCalls answers true, whatever the input. No condition.
-/
import Derived.Test.YtjdldadmaaeimaaWiLaw3
import Derived.Test.YtjdldadmaaeimaaWmC
set_option maxRecDepth 100000
set_option linter.unusedVariables false
namespace Go.Proofs.Ytjdldadmaaeimaa
open Go.ChangeShapes Go.WideShapes Go.ChangeAt Go.RowKit Go.SE

theorem wireCalls_lifted (os : Os) (started : os.Started) (H : Type) (enc : TypeId × Value → H) :
    ReturnsInHanded {} Try.checked os 6 .any (Rows.wireCallsSpec.pre6 enc Try.prog Try.f6 Rows.wireCallsRow.domain false) (Rows.wireCallsSpec.post enc Try.prog Try.f6 false true false false) := by
  refine returnsInHanded_of_change (C := Try.checked) Try.own started (by kernel_rfl) Try.func6
    (ChangeSpec.witness6 (enc := enc) (C := Try.checked) false ⟨#[], #[.agg #[.int .i64 0, .int .i64 0, .int .i64 0, .int .i64 0, .int .i64 0, .int .i64 0, .int .i64 0, .int .i64 0, .int .i64 0, .slice none 0 0, .int .i64 0, .bool false, .int .i64 0, .bool false, .int .i64 0, .bool false, .int .i64 0, .bool false, .int .i64 0, .bool false, .int .i64 0, .bool false, .int .i64 0, .bool false, .int .i64 0, .bool false, .int .i64 0, .bool false, .int .i64 0, .bool false, .int .i64 0, .bool false, .int .i64 0, .bool false, .int .i64 0, .int .i64 0, .int .i64 0, .int .i64 0, .int .i64 0, .int .i64 0, .int .i64 0, .int .i64 0, .int .i64 0], .agg #[.int .i64 0, .int .i64 0, .int .i64 0, .int .i64 0, .int .i64 0, .int .i64 0, .int .i64 0, .int .i64 0, .int .i64 0, .slice none 0 0, .int .i64 0, .bool false, .int .i64 0, .bool false, .int .i64 0, .bool false, .int .i64 0, .bool false, .int .i64 0, .bool false, .int .i64 0, .bool false, .int .i64 0, .bool false, .int .i64 0, .bool false, .int .i64 0, .bool false, .int .i64 0, .bool false, .int .i64 0, .bool false, .int .i64 0, .bool false, .int .i64 0, .int .i64 0, .int .i64 0, .int .i64 0, .int .i64 0, .int .i64 0, .int .i64 0, .int .i64 0, .int .i64 0]], []⟩ 8 (by kernel_rfl) (by kernel_rfl) (by kernel_rfl) (by kernel_rfl)) ?_
  intro W base args ds gs before hval hW _ _
  refine law_frame rfl rfl (by kernel_rfl) (fun ds hl => ?_) (fun W base args ds ps hval hA => ?_) W base args ds gs before hval hW
  · match ds, hl with
    | [_, _], _ => rfl
  · have hA0 : DataW.TrodAll enc Try.prog W 0 (fun _ => true) true [49, 49] args.toList ds ps := hA
    obtain ⟨vs⟩ := args
    obtain ⟨v0, vs, d0, _, p0, _, rfl, rfl, rfl, k0, hA0⟩ := trodAll_cons hA0
    obtain ⟨v1, vs, d1, _, p1, _, rfl, rfl, rfl, k1, hA0⟩ := trodAll_cons hA0
    obtain ⟨rfl, rfl, rfl⟩ := trodAll_nil hA0
    obtain ⟨a0, s0, n0, c0, row0, l0, hk0, ho0, hB0, hR0⟩ := call_open (hval 0 49 _ rfl rfl) k0
    obtain ⟨a1, s1, n1, c1, row1, l1, hk1, ho1, hB1, hR1⟩ := call_open (hval 1 49 _ rfl rfl) k1
    exact ro_calls CallsL_spec (args := [caS a0 s0 (.sl 0 2 0 n0 c0), caS a1 s1 (.sl 1 2 0 n1 c1)]) (ls := [l0, l1]) (bs := [⟨2, n0, row0⟩, ⟨2, n1, row1⟩]) (by simp only [absL]; exact ⟨(hB0 _ 0 rfl).1, (hB1 _ 1 rfl).1, trivial⟩) (fun k b hk => by match k, hk with | 0, hk => cases hk; exact ⟨l0, rfl, (hB0 _ 0 rfl).2⟩ | 1, hk => cases hk; exact ⟨l1, rfl, (hB1 _ 1 rfl).2⟩ | _ + 2, hk => simp at hk) rfl (by simp) rfl ⟨⟨⟨okAll_rows.2 hR0, rfl⟩, ho0, hk0⟩, ⟨okAll_rows.2 hR1, rfl⟩, ho1, hk1⟩

theorem wireCalls_holds : Rows.WireCallsSaid :=
  OpenClaim.holds_of_wide 6 Try.f6 rfl rfl rfl rfl rfl rfl rfl ⟨rfl, rfl, rfl, rfl, rfl⟩ rfl rfl rfl rfl rfl (by kernel_rfl) Try.func6 (by kernel_rfl)
    (of_decide_eq_true (by kernel_rfl)) (by unfold Func.isWrapper; rw [if_neg (by decide +kernel)]; exact ⟨rfl, rfl⟩)
    (fun os started H enc _ => wireCalls_lifted os started H enc)

#print axioms wireCalls_holds
end Go.Proofs.Ytjdldadmaaeimaa
