/-
  Laws of names and frames: the plain part.
-/
import Derived.Test.YtjdldadmaaeimaaWiW
set_option maxRecDepth 100000
set_option linter.unusedSimpArgs false
set_option linter.unusedVariables false
namespace Go.Proofs.Ytjdldadmaaeimaa
open Go.SE Go.RowKit

def ΓX0 : Ctrs := addCtr (addCtr (addCtr (addCtr (addCtr (addCtr (addCtr noCtrs 16 (pureCtr sName)) 18 (pureCtr sKind)) 17 (pureCtr sName)) 19 (pureCtr sKind)) 20 (pureCtr sAwake)) 21 (pureCtr sFrame2)) 22 (pureCtr sFrame2)
def sNamesL : List SV → Option (Option Prop × SV)
  | [.v (.int .i64 k), .v (.string s)] => some (some (I64 k), bV true)
  | _ => none
def sFramesL : List SV → Option (Option Prop × SV)
  | [.v (.string s)] => some (some (s.size ≤ maxLen), bV true)
  | _ => none
theorem vcNamesL (k : Int) (s : ByteArray) (R : SV → Prop) : (vcPure Try.prog ΓX0 noΛ Try.f3 [.v (.int .i64 k), .v (.string s)] R) =
(((((-9223372036854775808) : Int) ≤ k) ∧ ((k : Int) < 9223372036854775808)) ∧ (((((-9223372036854775808) : Int) ≤ k) ∧ ((k : Int) < 9223372036854775808)) ∧ 
(sel (nameK k == nameK k) 
(sel (kindS s == kindS s) (((((-9223372036854775808) : Int) ≤ k) ∧ ((k : Int) < 9223372036854775808)) ∧ (((((-9223372036854775808) : Int) ≤ k) ∧ ((k : Int) < 9223372036854775808)) ∧ 
(sel (kindS (nameK k) == kindS (nameK k)) (R (SV.v (Value.bool true))) (R (SV.v (Value.bool false)))))) (R (SV.v (Value.bool false)))) (R (SV.v (Value.bool false)))))) := by kernel_rfl
theorem vcFramesL (s : ByteArray) (R : SV → Prop) : (vcPure Try.prog ΓX0 noΛ Try.f4 [.v (.string s)] R) =

(sel (decide ((↑(ByteArray.size s) : Int) > 5000)) (R (SV.v (Value.bool true))) ((((ByteArray.size s) : Nat) < 4294967296) ∧ ((((ByteArray.size s) : Nat) < 4294967296) ∧ 
(sel (frT s == frT s) 
(sel (frE s == frE s) (R (SV.v (Value.bool true))) (R (SV.v (Value.bool false)))) (R (SV.v (Value.bool false))))))) := by kernel_rfl
theorem selT {b : Bool} {x y : Prop} (h : b = true) (hx : x) : sel b x y := by subst h; exact hx
theorem selF {b : Bool} {x y : Prop} (h : b = false) (hy : y) : sel b x y := by subst h; exact hy
theorem ΓX0_ok : ∀ f g, ΓX0 f = some g → g.ok Try.prog f := addCtr_ok (addCtr_ok (addCtr_ok (addCtr_ok (addCtr_ok (addCtr_ok (addCtr_ok noCtrs_ok (pure_ok Try.func16 (by kernel_rfl) (by kernel_rfl) Name_spec)) (pure_ok Try.func18 (by kernel_rfl) (by kernel_rfl) Kind_spec)) (pure_ok Try.func17 (by kernel_rfl) (by kernel_rfl) RName_spec)) (pure_ok Try.func19 (by kernel_rfl) (by kernel_rfl) RKind_spec)) (pure_ok Try.func20 (by kernel_rfl) (by kernel_rfl) Awake0_spec)) (pure_ok Try.func21 (by kernel_rfl) (by kernel_rfl) (frame2_of Frame_spec))) (pure_ok Try.func22 (by kernel_rfl) (by kernel_rfl) (frame2_of RFrame_spec))
theorem ba_self (s : ByteArray) : (s == s) = true := (ba_beq _ _).2 rfl
theorem NamesL_spec : PureSpec Try.prog 3 sNamesL := vc_spec hm ΓX0_ok Try.func3 (Λ := fun _ => noΛ) fun args p x h hp => by
  unfold sNamesL at h
  split at h <;> try (cases h; done)
  rename_i k s
  cases h
  have hk : I64 k := hp _ rfl
  have hk' : -9223372036854775808 ≤ k ∧ k < 9223372036854775808 := by obtain ⟨a, b⟩ := hk; exact ⟨by omega, by omega⟩
  refine ⟨rfl, rfl, ?_⟩
  rw [vcNamesL]
  exact ⟨hk', hk', selT (ba_self _) (selT (beq_self_eq_true _) ⟨hk', hk', selT (beq_self_eq_true _) rfl⟩)⟩
theorem FramesL_spec : PureSpec Try.prog 4 sFramesL := vc_spec hm ΓX0_ok Try.func4 (Λ := fun _ => noΛ) fun args p x h hp => by
  unfold sFramesL at h
  split at h <;> try (cases h; done)
  rename_i s
  cases h
  refine ⟨rfl, rfl, ?_⟩
  rw [vcFramesL]
  refine sel_of (fun _ => rfl) fun h => ?_
  have h := of_decide_eq_false h
  exact ⟨by omega, by omega, selT (ba_self _) (selT (beq_self_eq_true _) rfl)⟩
end Go.Proofs.Ytjdldadmaaeimaa
