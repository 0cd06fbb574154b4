/-
  WireNone answers true, whatever the input. No condition.
-/
import Derived.Test.YtjdldadmaaeimaaWiLaw2
import Derived.Test.YtjdldadmaaeimaaWiNo
set_option maxRecDepth 100000
set_option linter.unusedVariables false
namespace Go.Proofs.Ytjdldadmaaeimaa
open Go.ChangeShapes Go.WideShapes Go.ChangeAt Go.RowKit Go.SE

theorem wireNone_lifted (os : Os) (started : os.Started) (H : Type) (enc : TypeId × Value → H) :
    ReturnsInHanded {} Try.checked os 11 .any (Rows.wireNoneSpec.pre6 enc Try.prog Try.f11 Rows.wireNoneRow.domain false) (Rows.wireNoneSpec.post enc Try.prog Try.f11 false true false false) := by
  refine returnsInHanded_of_change (C := Try.checked) Try.own started (by kernel_rfl) Try.func11
    (ChangeSpec.witness6 (enc := enc) (C := Try.checked) false ⟨#[], #[.slice none 0 0], []⟩ 8 (by kernel_rfl) (by kernel_rfl) (by kernel_rfl) (by kernel_rfl)) ?_
  intro W base args ds gs before hval hW _ _
  refine law_frame rfl rfl (by kernel_rfl) (fun ds hl => ?_) (fun W base args ds ps hval hA => ?_) W base args ds gs before hval hW
  · match ds, hl with
    | [_], _ => rfl
  · have hA0 : DataW.TrodAll enc Try.prog W 0 (fun _ => true) true [71] args.toList ds ps := hA
    obtain ⟨vs⟩ := args
    obtain ⟨v0, vs, d0, _, p0, _, rfl, rfl, rfl, k0, hA0⟩ := trodAll_cons hA0
    obtain ⟨rfl, rfl, rfl⟩ := trodAll_nil hA0
    obtain ⟨n0, c0, row0, l0, hA0, hR0⟩ := bytes_open (hval 0 71 _ rfl rfl) k0
    exact ro_calls NoneL_spec (args := [.sl 0 1 0 n0 c0]) (ls := [l0]) (bs := [⟨1, n0, row0⟩]) (by simp only [absL]; exact ⟨(hA0 _ 0 rfl).1, trivial⟩) (fun k b hk => by match k, hk with | 0, hk => cases hk; exact ⟨l0, rfl, (hA0 _ 0 rfl).2⟩ | _ + 1, hk => simp at hk) rfl (by simp) rfl rfl

theorem wireNone_holds : Rows.WireNoneSaid :=
  OpenClaim.holds_of_wide 11 Try.f11 rfl rfl rfl rfl rfl rfl rfl ⟨rfl, rfl, rfl, rfl, rfl⟩ rfl rfl rfl rfl rfl (by kernel_rfl) Try.func11 (by kernel_rfl)
    (of_decide_eq_true (by kernel_rfl)) (by unfold Func.isWrapper; rw [if_neg (by decide +kernel)]; exact ⟨rfl, rfl⟩)
    (fun os started H enc _ => wireNone_lifted os started H enc)

#print axioms wireNone_holds
end Go.Proofs.Ytjdldadmaaeimaa
