/-
  FixedTexts, FixedBack: the plain part.
-/
import Derived.Test.YtnnmfonapfhcaaaFyT2
import Derived.Test.YtnnmfonapfhcaaaFyB
set_option maxRecDepth 100000
set_option linter.unusedSimpArgs false
set_option linter.unusedVariables false
namespace Go.Proofs.Ytnnmfonapfhcaaa
open Go.SE Go.RowKit

noncomputable def ΓX : Ctrs := addCtr (addCtr (addCtr (addCtr (addCtr (addCtr noCtrs 23 (pureCtr sAwake)) 62 (pureCtr sTextH)) 63 (pureCtr sTextH)) 60 (pureCtr sParse)) 61 (pureCtr sParse)) 47 (pureCtr sNeg)
def sTextsLaw : List SV → Option (Option Prop × SV)
  | [.agg [.v (.int .i64 a), .v (.bool _)], .v (.string _)] => some (some (I64 a), .v (.bool true))
  | _ => none
def sBackLaw : List SV → Option (Option Prop × SV)
  | [.agg [.v (.int .i64 a), .v (.bool _)], .agg [.v (.int .i64 b), .v (.bool _)], .v (.string _)] => some (some (I64 a ∧ I64 b), .v (.bool true))
  | _ => none
theorem vcTextsLaw (a : Int) (f : Bool) (s : ByteArray) (R : SV → Prop) : (vcPure Try.prog ΓX noΛ Try.f10 [numS a f, .v (.string s)] R) =

(sel (decide ((↑(ByteArray.size s) : Int) > 200)) (R (SV.v (Value.bool true))) ((((ByteArray.size s) : Nat) < 1099511627776) ∧ ((((ByteArray.size s) : Nat) < 1099511627776) ∧ ((I64 a) ∧ ((I64 a) ∧ 
(sel (textS a f == textS a f) 
(sel (parV (byt s) == parV (byt s) && parF (byt s) == parF (byt s)) 
(sel (parE (byt s) == parE (byt s)) (R (SV.v (Value.bool true))) (R (SV.v (Value.bool false)))) (R (SV.v (Value.bool false)))) (R (SV.v (Value.bool false))))))))) := by kernel_rfl
theorem vcBackLaw (a : Int) (f : Bool) (b : Int) (g : Bool) (s : ByteArray) (R : SV → Prop) : (vcPure Try.prog ΓX noΛ Try.f11 [numS a f, numS b g, .v (.string s)] R) =

(sel (decide ((↑(ByteArray.size s) : Int) > 200)) (R (SV.v (Value.bool true))) ((I64 a) ∧ ((I64 (-sndV a)) ∧ ((I64 b) ∧ ((I64 (-sndV b)) ∧ ((I64 (-sndV (-sndV a))) ∧ ((((ByteArray.size (textS (-sndV (-sndV a)) (sndF (-sndV a) (sndF a f)))) : Nat) < 1099511627776) ∧ ((((ByteArray.size s) : Nat) < 1099511627776) ∧ 
(sel (parV (byt (textS (-sndV (-sndV a)) (sndF (-sndV a) (sndF a f)))) == -sndV (-sndV a) && parF (byt (textS (-sndV (-sndV a)) (sndF (-sndV a) (sndF a f)))) == sndF (-sndV a) (sndF a f)) 
(sel (parE (byt (textS (-sndV (-sndV a)) (sndF (-sndV a) (sndF a f)))) == 0) ((I64 (-sndV (-sndV b))) ∧ 
(sel ((textS (-sndV (-sndV a)) (sndF (-sndV a) (sndF a f)) == textS (-sndV (-sndV b)) (sndF (-sndV b) (sndF b g))) == (-sndV (-sndV a) == -sndV (-sndV b) && sndF (-sndV a) (sndF a f) == sndF (-sndV b) (sndF b g))) 
(sel (parE (byt s) != 0) (R (SV.v (Value.bool true))) ((I64 (parV (byt s))) ∧ 
(sel (textS (parV (byt s)) (parF (byt s)) == s) (R (SV.v (Value.bool true))) (R (SV.v (Value.bool false)))))) (R (SV.v (Value.bool false))))) (R (SV.v (Value.bool false)))) (R (SV.v (Value.bool false)))))))))))) := by kernel_rfl
theorem ΓX_ok : ∀ f g, ΓX f = some g → g.ok Try.prog f := addCtr_ok (addCtr_ok (addCtr_ok (addCtr_ok (addCtr_ok (addCtr_ok noCtrs_ok (pure_ok Try.func23 (by kernel_rfl) (by kernel_rfl) Awake_spec)) (pure_ok Try.func62 (by kernel_rfl) (by kernel_rfl) TextH_spec)) (pure_ok Try.func63 (by kernel_rfl) (by kernel_rfl) RText_spec)) (pure_ok Try.func60 (by kernel_rfl) (by kernel_rfl) Parse_spec)) (pure_ok Try.func61 (by kernel_rfl) (by kernel_rfl) RParse_spec)) (pure_ok Try.func47 (by kernel_rfl) (by kernel_rfl) Neg_spec)
theorem par_cases (s : List Int) : (∃ v f, IsText s v f ∧ parV s = v ∧ parF s = f ∧ parE s = 0) ∨ (parV s = 0 ∧ parF s = false ∧ parE s = 4) := by
  rcases Classical.em (∃ v f, IsText s v f) with ⟨v, f, h⟩ | h
  · exact .inl ⟨v, f, h, par_yes h⟩
  · exact .inr (par_no fun v f hv => h ⟨v, f, hv⟩)
theorem textS_is {v : Int} {f : Bool} (h0 : -9223372036854775807 ≤ v) : textS v f = strOfNums (textB v f) := by unfold textS; rw [hid_eq, sndV_self h0, sndF_self h0]
theorem byt_textS {v : Int} {f : Bool} (h0 : -9223372036854775807 ≤ v) (h1 : v ≤ 9223372036854775807) : byt (textS v f) = textB v f := by rw [textS_is h0, byt_str (text_range h0 h1)]
theorem textS_inj {v w : Int} {f g : Bool} (h0 : -9223372036854775807 ≤ v) (h1 : v ≤ 9223372036854775807) (k0 : -9223372036854775807 ≤ w) (k1 : w ≤ 9223372036854775807) : (textS v f == textS w g) = (v == w && f == g) := by
  refine Bool.eq_iff_iff.2 ?_
  rw [ba_beq, Bool.and_eq_true, beq_iff_eq, beq_iff_eq]
  constructor
  · intro e
    have e : textB v f = textB w g := by rw [← byt_textS h0 h1, ← byt_textS k0 k1, e]
    have a := cand_text (f := f) h0 h1
    have b := cand_text (f := g) k0 k1
    rw [e] at a
    exact ⟨a.1.symm.trans b.1, a.2.symm.trans b.2⟩
  · rintro ⟨rfl, rfl⟩; rfl
theorem TextsLaw_spec : PureSpec Try.prog 10 sTextsLaw := vc_spec hm ΓX_ok Try.func10 (Λ := fun _ => noΛ) fun args p x h hp => by
  unfold sTextsLaw at h
  split at h <;> try (cases h; done)
  rename_i a f s
  cases h
  have h0 : I64 a := hp _ rfl
  refine ⟨rfl, rfl, ?_⟩
  refine Eq.mpr (vcTextsLaw a f s _) ?_
  refine sel_of (fun _ => rfl) fun hs => ?_
  have hs := of_decide_eq_false hs
  exact ⟨by omega, by omega, h0, h0, selT' ((ba_beq _ _).2 rfl) (selT' (by rw [beq_self_eq_true, beq_self_eq_true]; rfl) (selT' (beq_self_eq_true _) rfl))⟩
theorem BackLaw_spec : PureSpec Try.prog 11 sBackLaw := vc_spec hm ΓX_ok Try.func11 (Λ := fun _ => noΛ) fun args p x h hp => by
  unfold sBackLaw at h
  split at h <;> try (cases h; done)
  rename_i a f b g s
  cases h
  obtain ⟨h0, k0⟩ := hp _ rfl
  refine ⟨rfl, rfl, ?_⟩
  refine Eq.mpr (vcBackLaw a f b g s _) ?_
  refine sel_of (fun _ => rfl) fun hs => ?_
  have hs := of_decide_eq_false hs
  have ha := sndV_in h0
  have hb := sndV_in k0
  have e1 : -sndV (-sndV a) = sndV a := by rw [sndV_self (by omega)]; omega
  have e2 : sndF (-sndV a) (sndF a f) = sndF a f := sndF_self (by omega)
  have e3 : -sndV (-sndV b) = sndV b := by rw [sndV_self (by omega)]; omega
  have e4 : sndF (-sndV b) (sndF b g) = sndF b g := sndF_self (by omega)
  rw [e1, e2, e3, e4]
  have hx := byt_textS (f := sndF a f) ha.1 ha.2
  obtain ⟨p1, p2, p3⟩ := par_yes (s := byt (textS (sndV a) (sndF a f))) ⟨ha.1, ha.2, hx.symm⟩
  rw [p1, p2, p3, textS_inj ha.1 ha.2 hb.1 hb.2]
  have hl : (textS (sndV a) (sndF a f)).size < 1099511627776 := by
    rw [← byt_len, hx]
    have := text_len (f := sndF a f) ha.1 ha.2
    omega
  refine ⟨h0, ⟨by omega, by omega⟩, k0, ⟨by omega, by omega⟩, ⟨by omega, by omega⟩, hl, by omega, selT' (by rw [beq_self_eq_true, beq_self_eq_true]; rfl) (selT' rfl ⟨⟨by omega, by omega⟩, selT' (beq_self_eq_true _) ?_⟩)⟩
  rcases par_cases (byt s) with ⟨v, f', ⟨v0, v1, ht⟩, q1, q2, q3⟩ | ⟨q1, q2, q3⟩
  · rw [q1, q2, q3]
    refine selF' rfl ⟨⟨by omega, by omega⟩, selT' ((ba_beq _ _).2 ?_) rfl⟩
    rw [textS_is v0, ht, str_byt]
  · rw [q3]
    exact selT' rfl rfl
end Go.Proofs.Ytnnmfonapfhcaaa
