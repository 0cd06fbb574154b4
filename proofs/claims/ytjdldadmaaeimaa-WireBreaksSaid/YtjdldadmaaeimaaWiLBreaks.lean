/-
  WireBreaks answers true, whatever the input. No condition.
-/
import Derived.Test.YtjdldadmaaeimaaWiLaw2
import Derived.Test.YtjdldadmaaeimaaWiBk
set_option maxRecDepth 100000
set_option linter.unusedVariables false
namespace Go.Proofs.Ytjdldadmaaeimaa
open Go.ChangeShapes Go.WideShapes Go.ChangeAt Go.RowKit Go.SE

theorem wireBreaks_lifted (os : Os) (started : os.Started) (H : Type) (enc : TypeId × Value → H) :
    ReturnsInHanded {} Try.checked os 13 .any (Rows.wireBreaksSpec.pre6 enc Try.prog Try.f13 Rows.wireBreaksRow.domain false) (Rows.wireBreaksSpec.post enc Try.prog Try.f13 false true false false) := by
  refine returnsInHanded_of_change (C := Try.checked) Try.own started (by kernel_rfl) Try.func13
    (ChangeSpec.witness6 (enc := enc) (C := Try.checked) false ⟨#[], #[.string ⟨#[]⟩, .int .u32 0, .slice none 0 0], []⟩ 8 (by kernel_rfl) (by kernel_rfl) (by kernel_rfl) (by kernel_rfl)) ?_
  intro W base args ds gs before hval hW _ _
  refine law_frame rfl rfl (by kernel_rfl) (fun ds hl => ?_) (fun W base args ds ps hval hA => ?_) W base args ds gs before hval hW
  · match ds, hl with
    | [_, _, _], _ => rfl
  · have hA0 : DataW.TrodAll enc Try.prog W 0 (fun _ => true) true [9, 91, 71] args.toList ds ps := hA
    obtain ⟨vs⟩ := args
    obtain ⟨v0, vs, d0, _, p0, _, rfl, rfl, rfl, k0, hA0⟩ := trodAll_cons hA0
    obtain ⟨v1, vs, d1, _, p1, _, rfl, rfl, rfl, k1, hA0⟩ := trodAll_cons hA0
    obtain ⟨v2, vs, d2, _, p2, _, rfl, rfl, rfl, k2, hA0⟩ := trodAll_cons hA0
    obtain ⟨rfl, rfl, rfl⟩ := trodAll_nil hA0
    obtain ⟨a0, rfl, h0⟩ := str_open (by kernel_rfl) (hval 0 9 _ rfl rfl) k0
    obtain ⟨a1, rfl, h1⟩ := u32_open (by kernel_rfl) (hval 1 91 _ rfl rfl) k1
    obtain ⟨n2, c2, row2, l2, hA2, hR2⟩ := bytes_open (hval 2 71 _ rfl rfl) k2
    by_cases hb : 1 ≤ a1 ∧ a1 ≤ 2048
    · exact ro_calls (BreaksL_spec false) (args := [.v (.string a0), .v (.int .u32 a1), .sl 0 1 0 n2 c2]) (ls := [l2]) (bs := [⟨1, n2, row2⟩]) (by simp only [absL]; exact ⟨(absV_plain _ _ rfl).2 rfl, (absV_plain _ _ rfl).2 rfl, (hA2 _ 0 rfl).1, trivial⟩) (fun k b hk => by match k, hk with | 0, hk => cases hk; exact ⟨l2, rfl, (hA2 _ 0 rfl).2⟩ | _ + 1, hk => simp at hk) rfl (by simp) rfl ⟨⟨rfl, h1, fun i hi => by obtain ⟨a, ha, _⟩ := hR2 i hi; show isByte (row2 i); rw [ha]; trivial⟩, hb⟩
    · exact ro_calls (BreaksL_spec true) (args := [.v (.string a0), .v (.int .u32 a1), .sl 0 1 0 n2 c2]) (ls := [l2]) (bs := [⟨1, n2, row2⟩]) (by simp only [absL]; exact ⟨(absV_plain _ _ rfl).2 rfl, (absV_plain _ _ rfl).2 rfl, (hA2 _ 0 rfl).1, trivial⟩) (fun k b hk => by match k, hk with | 0, hk => cases hk; exact ⟨l2, rfl, (hA2 _ 0 rfl).2⟩ | _ + 1, hk => simp at hk) rfl (by simp) rfl ⟨⟨rfl, h1, fun i hi => by obtain ⟨a, ha, _⟩ := hR2 i hi; show isByte (row2 i); rw [ha]; trivial⟩, hb⟩

theorem wireBreaks_holds : Rows.WireBreaksSaid :=
  OpenClaim.holds_of_wide 13 Try.f13 rfl rfl rfl rfl rfl rfl rfl ⟨rfl, rfl, rfl, rfl, rfl⟩ rfl rfl rfl rfl rfl (by kernel_rfl) Try.func13 (by kernel_rfl)
    (of_decide_eq_true (by kernel_rfl)) (by unfold Func.isWrapper; rw [if_neg (by decide +kernel)]; exact ⟨rfl, rfl⟩)
    (fun os started H enc _ => wireBreaks_lifted os started H enc)

#print axioms wireBreaks_holds
end Go.Proofs.Ytjdldadmaaeimaa
