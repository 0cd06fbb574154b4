/-
  WireRead answers true, whatever the input. No condition.
-/
import Derived.Test.YtjdldadmaaeimaaZd16


set_option maxRecDepth 100000
set_option linter.unusedVariables false
namespace Go.Proofs.Ytjdldadmaaeimaa
open Go.ChangeShapes Go.WideShapes Go.ChangeAt Go.RowKit Go.SE

theorem wireRead_lifted (os : Os) (started : os.Started) (H : Type) (enc : TypeId × Value → H) :
    ReturnsInHanded {} Try.checked os 15 .any (Rows.wireReadSpec.pre6 enc Try.prog Try.f15 Rows.wireReadRow.domain false) (Rows.wireReadSpec.post enc Try.prog Try.f15 false true false false) := by
  refine returnsInHanded_of_change (C := Try.checked) Try.own started (by kernel_rfl) Try.func15
    (ChangeSpec.witness6 (enc := enc) (C := Try.checked) false ⟨#[], #[.string ⟨#[]⟩], []⟩ 8 (by kernel_rfl) (by kernel_rfl) (by kernel_rfl) (by kernel_rfl)) ?_
  intro W base args ds gs before hval hW _ _
  refine Q0h rfl rfl (by kernel_rfl) (fun ds hl => ?_) (fun W base args ds ps hval hA => ?_) W base args ds gs before hval hW
  · match ds, hl with
    | [_], _ => rfl
  · have hA0 : DataW.TrodAll enc Try.prog W 0 (fun _ => true) true [9] args.toList ds ps := hA
    obtain ⟨vs⟩ := args
    obtain ⟨v0, vs, d0, _, p0, _, rfl, rfl, rfl, k0, hA0⟩ := trodAll_cons hA0
    obtain ⟨rfl, rfl, rfl⟩ := trodAll_nil hA0
    obtain ⟨a0, rfl, h0⟩ := Q32 (by kernel_rfl) (hval 0 9 _ rfl rfl) k0
    exact Q4i Qxl (args := [.v (.string a0)]) (ls := []) (bs := []) (by simp only [Qa7]; exact ⟨(Qgk _ _ rfl).2 rfl, trivial⟩) (fun k b hk => by simp at hk) rfl (by simp) rfl trivial

theorem wireRead_holds : Rows.WireReadSaid :=
  OpenClaim.holds_of_wide 15 Try.f15 rfl rfl rfl rfl rfl rfl rfl ⟨rfl, rfl, rfl, rfl, rfl⟩ rfl rfl rfl rfl rfl (by kernel_rfl) Try.func15 (by kernel_rfl)
    (of_decide_eq_true (by kernel_rfl)) (by unfold Func.isWrapper; rw [if_neg (by decide +kernel)]; exact ⟨rfl, rfl⟩)
    (fun os started H enc _ => wireRead_lifted os started H enc)

#print axioms wireRead_holds
end Go.Proofs.Ytjdldadmaaeimaa
