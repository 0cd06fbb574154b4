/-
  PlaneRots: what the law reckons.
-/
import Derived.Test.YtheljpebapokjaaGreatPmN
set_option maxRecDepth 100000
set_option linter.unusedSimpArgs false
set_option linter.unusedVariables false
namespace Go.Proofs.YtheljpebapokjaaGreat
open Go.SE Go.RowKit

noncomputable def ΓRo : Ctrs := addCtr ΓG 7 (pureCtr sChk)
def sRotsL : List SV → Option (Option Prop × SV)
  | [.agg [.v (.int .i64 n), .v (.bool _)], .agg [.v (.int .i64 a), .v (.bool _), .v (.int .i64 b), .v (.bool _)], .agg [.v (.int .i64 c), .v (.bool _), .v (.int .i64 d), .v (.bool _)], .agg [.v (.int .i64 x), .v (.bool _), .v (.int .i64 y), .v (.bool _)]] => some (some (I64 n ∧ (I64 a ∧ I64 b) ∧ (I64 c ∧ I64 d) ∧ I64 x ∧ I64 y), .v (.bool true))
  | _ => none
theorem vcRotsL (x : NB) (r s v : VB) (R : SV → Prop) : (vcPure Tryz.prog ΓRo noΛ Tryz.f3 [nS x, vS r, vS s, vS v] R) =
((I64 (NB.v x)) ∧ ((I64 (NB.v x)) ∧ 
(sel (NB.v (VB.x (angV x)) == NB.v (VB.x (angV x)) && NB.f (VB.x (angV x)) == NB.f (VB.x (angV x)) && (NB.v (VB.y (angV x)) == NB.v (VB.y (angV x)) && NB.f (VB.y (angV x)) == NB.f (VB.y (angV x)))) (((I64 (NB.v (VB.x r))) ∧ (I64 (NB.v (VB.y r)))) ∧ (((I64 (NB.v (VB.x r))) ∧ (I64 (NB.v (VB.y r)))) ∧ 
(sel (chkV r == chkV r) ((((I64 (NB.v (VB.x r))) ∧ (I64 (NB.v (VB.y r)))) ∧ ((I64 (NB.v (VB.x v))) ∧ (I64 (NB.v (VB.y v))))) ∧ ((((I64 (NB.v (VB.x r))) ∧ (I64 (NB.v (VB.y r)))) ∧ ((I64 (NB.v (VB.x v))) ∧ (I64 (NB.v (VB.y v))))) ∧ 
(sel (NB.v (VB.x (appV r v)) == NB.v (VB.x (appV r v)) && NB.f (VB.x (appV r v)) == NB.f (VB.x (appV r v)) && (NB.v (VB.y (appV r v)) == NB.v (VB.y (appV r v)) && NB.f (VB.y (appV r v)) == NB.f (VB.y (appV r v)))) ((((I64 (NB.v (VB.x r))) ∧ (I64 (NB.v (VB.y r)))) ∧ ((I64 (NB.v (VB.x v))) ∧ (I64 (NB.v (VB.y v))))) ∧ ((((I64 (NB.v (VB.x r))) ∧ (I64 (NB.v (VB.y r)))) ∧ ((I64 (NB.v (VB.x v))) ∧ (I64 (NB.v (VB.y v))))) ∧ 
(sel (NB.v (VB.x (bacV r v)) == NB.v (VB.x (bacV r v)) && NB.f (VB.x (bacV r v)) == NB.f (VB.x (bacV r v)) && (NB.v (VB.y (bacV r v)) == NB.v (VB.y (bacV r v)) && NB.f (VB.y (bacV r v)) == NB.f (VB.y (bacV r v)))) ((((I64 (NB.v (VB.x r))) ∧ (I64 (NB.v (VB.y r)))) ∧ ((I64 (NB.v (VB.x s))) ∧ (I64 (NB.v (VB.y s))))) ∧ ((((I64 (NB.v (VB.x r))) ∧ (I64 (NB.v (VB.y r)))) ∧ ((I64 (NB.v (VB.x s))) ∧ (I64 (NB.v (VB.y s))))) ∧ 
(sel (NB.v (VB.x (comV r s)) == NB.v (VB.x (comV r s)) && NB.f (VB.x (comV r s)) == NB.f (VB.x (comV r s)) && (NB.v (VB.y (comV r s)) == NB.v (VB.y (comV r s)) && NB.f (VB.y (comV r s)) == NB.f (VB.y (comV r s)))) ((((I64 (NB.v (VB.x r))) ∧ (I64 (NB.v (VB.y r)))) ∧ (I64 (NB.v x))) ∧ ((((I64 (NB.v (VB.x r))) ∧ (I64 (NB.v (VB.y r)))) ∧ (I64 (NB.v x))) ∧ 
(sel (NB.v (VB.x (spiV r x)) == NB.v (VB.x (spiV r x)) && NB.f (VB.x (spiV r x)) == NB.f (VB.x (spiV r x)) && (NB.v (VB.y (spiV r x)) == NB.v (VB.y (spiV r x)) && NB.f (VB.y (spiV r x)) == NB.f (VB.y (spiV r x)))) (R (SV.v (Value.bool true))) (R (SV.v (Value.bool false)))))) (R (SV.v (Value.bool false)))))) (R (SV.v (Value.bool false)))))) (R (SV.v (Value.bool false)))))) (R (SV.v (Value.bool false)))))) (R (SV.v (Value.bool false)))))) := by kernel_rfl
theorem selR {b : Bool} {x y : Prop} (h : b = true) (hx : x) : sel b x y := by subst h; exact hx
theorem RChk_spec : PureSpec Tryz.prog 7 sChk := vc_spec hm ΓV6_ok Tryz.func7 (Λ := fun _ => noΛ) fun args p x h hp => by
  unfold sChk at h
  split at h <;> try (cases h; done)
  rename_i a f b g
  cases h
  obtain ⟨h0, k0⟩ := hp _ rfl
  refine ⟨rfl, rfl, ?_⟩
  refine Eq.mpr (vcRChk ⟨⟨a, f⟩, ⟨b, g⟩⟩ _) ?_
  have hd := dotsq_i ⟨⟨a, f⟩, ⟨b, g⟩⟩
  have bx : ∀ t, badV ⟨⟨a, f⟩, ⟨b, g⟩⟩ = t → (sndF a f || sndF b g) = t := fun t h => h
  refine ⟨⟨⟨h0, h0⟩, k0, k0⟩, h0, sel_of (fun e => int_mk ?_) fun e => ⟨k0, sel_of (fun e' => int_mk ?_) fun e' => ?_⟩⟩
  · have e : sndF a f = true := e
    unfold chkV badV; rw [show sndF (⟨⟨a, f⟩, ⟨b, g⟩⟩ : VB).x.v (⟨⟨a, f⟩, ⟨b, g⟩⟩ : VB).x.f = true from e]; rfl
  · have e' : sndF b g = true := e'
    unfold chkV badV; rw [show sndF (⟨⟨a, f⟩, ⟨b, g⟩⟩ : VB).y.v (⟨⟨a, f⟩, ⟨b, g⟩⟩ : VB).y.f = true from e', Bool.or_true]; rfl
  · have e0 : badV ⟨⟨a, f⟩, ⟨b, g⟩⟩ = false := by
      show (sndF a f || sndF b g) = false
      rw [show sndF a f = false from e, show sndF b g = false from e']; rfl
    unfold chkV; rw [e0, cond_false]
    generalize (dotN (⟨⟨a, f⟩, ⟨b, g⟩⟩ : VB).x (⟨⟨a, f⟩, ⟨b, g⟩⟩ : VB).x (⟨⟨a, f⟩, ⟨b, g⟩⟩ : VB).y (⟨⟨a, f⟩, ⟨b, g⟩⟩ : VB).y).v = n at *
    rw [wrap_i64 (n := n - 4294967296) ⟨by omega, by omega⟩, wrap_i64 (n := 4294967296 - n) ⟨by omega, by omega⟩]
    refine sel_of (fun e1 => int_mk ?_) fun e1 => sel_of (fun e2 => int_mk ?_) fun e2 => int_mk ?_
    · rw [show decide (n - 4294967296 > 65536) = true from e1]; rfl
    · rw [show decide (4294967296 - n > 65536) = true from e2, Bool.or_true]; rfl
    · rw [show decide (n - 4294967296 > 65536) = false from e1, show decide (4294967296 - n > 65536) = false from e2]; rfl
theorem ΓRo_ok : ∀ f g, ΓRo f = some g → g.ok Tryz.prog f := addCtr_ok ΓG_ok (pure_ok Tryz.func7 (by kernel_rfl) (by kernel_rfl) RChk_spec)
theorem RotsL_spec : PureSpec Tryz.prog 3 sRotsL := vc_spec hm ΓRo_ok Tryz.func3 (Λ := fun _ => noΛ) fun args p x h hp => by
  unfold sRotsL at h
  split at h <;> try (cases h; done)
  rename_i n fn a fa b fb c fc d fd x fx y fy
  cases h
  obtain ⟨hn, hr, hs, hv⟩ := hp _ rfl
  refine ⟨rfl, rfl, Eq.mpr (vcRotsL ⟨n, fn⟩ ⟨⟨a, fa⟩, ⟨b, fb⟩⟩ ⟨⟨c, fc⟩, ⟨d, fd⟩⟩ ⟨⟨x, fx⟩, ⟨y, fy⟩⟩ _) ?_⟩
  refine ⟨hn, hn, selR (by simp only [beq_self_eq_true, Bool.and_self]) ⟨hr, hr, selR (beq_self_eq_true _) ⟨⟨hr, hv⟩, ⟨hr, hv⟩, selR (by simp only [beq_self_eq_true, Bool.and_self]) ⟨⟨hr, hv⟩, ⟨hr, hv⟩, selR (by simp only [beq_self_eq_true, Bool.and_self]) ⟨⟨hr, hs⟩, ⟨hr, hs⟩, selR (by simp only [beq_self_eq_true, Bool.and_self]) ⟨⟨hr, hn⟩, ⟨hr, hn⟩, selR (by simp only [beq_self_eq_true, Bool.and_self]) rfl⟩⟩⟩⟩⟩⟩
end Go.Proofs.YtheljpebapokjaaGreat
