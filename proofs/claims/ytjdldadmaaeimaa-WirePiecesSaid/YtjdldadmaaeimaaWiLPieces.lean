/-
  WirePieces answers true, whatever the input. No condition.
-/
import Derived.Test.YtjdldadmaaeimaaWiLaw2
import Derived.Test.YtjdldadmaaeimaaWiPd
set_option maxRecDepth 100000
set_option linter.unusedVariables false
namespace Go.Proofs.Ytjdldadmaaeimaa
open Go.ChangeShapes Go.WideShapes Go.ChangeAt Go.RowKit Go.SE

theorem wirePieces_lifted (os : Os) (started : os.Started) (H : Type) (enc : TypeId × Value → H) :
    ReturnsInHanded {} Try.checked os 10 .any (Rows.wirePiecesSpec.pre6 enc Try.prog Try.f10 Rows.wirePiecesRow.domain false) (Rows.wirePiecesSpec.post enc Try.prog Try.f10 false true false false) := by
  refine returnsInHanded_of_change (C := Try.checked) Try.own started (by kernel_rfl) Try.func10
    (ChangeSpec.witness6 (enc := enc) (C := Try.checked) false ⟨#[], #[.slice none 0 0, .slice none 0 0, .slice none 0 0], []⟩ 8 (by kernel_rfl) (by kernel_rfl) (by kernel_rfl) (by kernel_rfl)) ?_
  intro W base args ds gs before hval hW _ _
  refine law_frame rfl rfl (by kernel_rfl) (fun ds hl => ?_) (fun W base args ds ps hval hA => ?_) W base args ds gs before hval hW
  · match ds, hl with
    | [_, _, _], _ => rfl
  · have hA0 : DataW.TrodAll enc Try.prog W 0 (fun _ => true) true [76, 71, 81] args.toList ds ps := hA
    obtain ⟨vs⟩ := args
    obtain ⟨v0, vs, d0, _, p0, _, rfl, rfl, rfl, k0, hA0⟩ := trodAll_cons hA0
    obtain ⟨v1, vs, d1, _, p1, _, rfl, rfl, rfl, k1, hA0⟩ := trodAll_cons hA0
    obtain ⟨v2, vs, d2, _, p2, _, rfl, rfl, rfl, k2, hA0⟩ := trodAll_cons hA0
    obtain ⟨rfl, rfl, rfl⟩ := trodAll_nil hA0
    obtain ⟨n0, c0, row0, l0, hA0, hR0⟩ := strs_open (hval 0 76 _ rfl rfl) k0
    obtain ⟨n1, c1, row1, l1, hA1, hC1, hR1⟩ := bytes_open (hval 1 71 _ rfl rfl) k1
    obtain ⟨n2, c2, row2, l2, hA2, hR2⟩ := jnts_open (hval 2 81 _ rfl rfl) k2
    exact ro_calls PiecesL_spec (args := [.sl 0 1 0 n0 c0, .sl 1 1 0 n1 c1, .sl 2 1 0 n2 c2]) (ls := [l0, l1, l2]) (bs := [⟨1, n0, row0⟩, ⟨1, n1, row1⟩, ⟨1, n2, row2⟩]) (by simp only [absL]; exact ⟨(hA0 _ 0 rfl).1, (hA1 _ 1 rfl).1, (hA2 _ 2 rfl).1, trivial⟩) (fun k b hk => by match k, hk with | 0, hk => cases hk; exact ⟨l0, rfl, (hA0 _ 0 rfl).2⟩ | 1, hk => cases hk; exact ⟨l1, rfl, (hA1 _ 1 rfl).2⟩ | 2, hk => cases hk; exact ⟨l2, rfl, (hA2 _ 2 rfl).2⟩ | _ + 3, hk => simp at hk) rfl (by simp) rfl ⟨⟨rfl, rfl, rfl⟩, hC1, fun i hi => by obtain ⟨a, ha⟩ := hR0 i hi; show isStrR (row0 i); rw [ha]; trivial, fun i hi => by obtain ⟨a, ha, hw⟩ := hR1 i hi; show isByte (row1 i) ∧ _; rw [ha]; exact ⟨trivial, hw⟩, fun i hi => by obtain ⟨a, ha, hw⟩ := hR2 i hi; show isIntR (row2 i); rw [ha]; exact hw⟩

theorem wirePieces_holds : Rows.WirePiecesSaid :=
  OpenClaim.holds_of_wide 10 Try.f10 rfl rfl rfl rfl rfl rfl rfl ⟨rfl, rfl, rfl, rfl, rfl⟩ rfl rfl rfl rfl rfl (by kernel_rfl) Try.func10 (by kernel_rfl)
    (of_decide_eq_true (by kernel_rfl)) (by unfold Func.isWrapper; rw [if_neg (by decide +kernel)]; exact ⟨rfl, rfl⟩)
    (fun os started H enc _ => wirePieces_lifted os started H enc)

#print axioms wirePieces_holds
end Go.Proofs.Ytjdldadmaaeimaa
