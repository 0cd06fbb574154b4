/-
  Laws that compare: the plain part.
-/
import Derived.Test.YtheljpebapokjaaPmN
set_option maxRecDepth 100000
set_option linter.unusedSimpArgs false
set_option linter.unusedVariables false
namespace Go.Proofs.Ytheljpebapokjaa
open Go.SE Go.RowKit

def sUnitL : List SV → Option (Option Prop × SV)
  | [.agg [.v (.int .i64 a), .v (.bool _), .v (.int .i64 b), .v (.bool _)]] => some (some (I64 a ∧ I64 b), .v (.bool true))
  | _ => none
def sPlacesL : List SV → Option (Option Prop × SV)
  | [.v (.int .i64 a), .v (.int .i64 b)] => some (some (I64 a ∧ I64 b), .v (.bool true))
  | _ => none
def sSolvesL : List SV → Option (Option Prop × SV)
  | [.agg [.v (.int .i64 a), .v (.bool _)], .agg [.v (.int .i64 b), .v (.bool _)], .agg [.v (.int .i64 c), .v (.bool _)], .agg [.v (.int .i64 d), .v (.bool _)], .agg [.v (.int .i64 x), .v (.bool _), .v (.int .i64 y), .v (.bool _)]] => some (some ((I64 a ∧ I64 b) ∧ (I64 c ∧ I64 d) ∧ I64 x ∧ I64 y), .v (.bool true))
  | _ => none
def sPosesL : List SV → Option (Option Prop × SV)
  | [.agg [.v (.int .i64 p), .v (.bool _), .v (.int .i64 q), .v (.bool _), .v (.int .i64 c), .v (.bool _), .v (.int .i64 s), .v (.bool _)], .agg [.v (.int .i64 x), .v (.bool _), .v (.int .i64 y), .v (.bool _)]] => some (some ((I64 p ∧ I64 q) ∧ (I64 c ∧ I64 s) ∧ I64 x ∧ I64 y), .v (.bool true))
  | _ => none
theorem vcUnitL (v : VB) (R : SV → Prop) : (vcPure Try.prog ΓG noΛ Try.f3 [vS v] R) =
(((I64 (NB.v (VB.x v))) ∧ (I64 (NB.v (VB.y v)))) ∧ (((I64 (NB.v (VB.x v))) ∧ (I64 (NB.v (VB.y v)))) ∧ 
(sel (NB.v (VB.x (Prod.fst (unitV v))) == NB.v (VB.x (Prod.fst (unitV v))) && NB.f (VB.x (Prod.fst (unitV v))) == NB.f (VB.x (Prod.fst (unitV v))) && (NB.v (VB.y (Prod.fst (unitV v))) == NB.v (VB.y (Prod.fst (unitV v))) && NB.f (VB.y (Prod.fst (unitV v))) == NB.f (VB.y (Prod.fst (unitV v))))) 
(sel (Prod.snd (unitV v) == Prod.snd (unitV v)) (R (SV.v (Value.bool true))) (R (SV.v (Value.bool false)))) (R (SV.v (Value.bool false)))))) := by kernel_rfl
theorem vcPlacesL (x y : Int) (R : SV → Prop) : (vcPure Try.prog ΓG noΛ Try.f6 [.v (.int .i64 x), .v (.int .i64 y)] R) =
(((I64 x) ∧ (I64 y)) ∧ (((I64 x) ∧ (I64 y)) ∧ 
(sel (NB.v (VB.x (ofV x y)) == NB.v (VB.x (ofV x y)) && NB.f (VB.x (ofV x y)) == NB.f (VB.x (ofV x y)) && (NB.v (VB.y (ofV x y)) == NB.v (VB.y (ofV x y)) && NB.f (VB.y (ofV x y)) == NB.f (VB.y (ofV x y)))) (((I64 x) ∧ (I64 y)) ∧ (((I64 x) ∧ (I64 y)) ∧ 
(sel (NB.v (VB.x (locV (x, y))) == NB.v (VB.x (locV (x, y))) && NB.f (VB.x (locV (x, y))) == NB.f (VB.x (locV (x, y))) && (NB.v (VB.y (locV (x, y))) == NB.v (VB.y (locV (x, y))) && NB.f (VB.y (locV (x, y))) == NB.f (VB.y (locV (x, y))))) (R (SV.v (Value.bool true))) (R (SV.v (Value.bool false)))))) (R (SV.v (Value.bool false)))))) := by kernel_rfl
theorem vcSolvesL (a b c d : NB) (v : VB) (R : SV → Prop) : (vcPure Try.prog ΓG noΛ Try.f9 [nS a, nS b, nS c, nS d, vS v] R) =
((((I64 (NB.v a)) ∧ (I64 (NB.v b))) ∧ (((I64 (NB.v c)) ∧ (I64 (NB.v d))) ∧ ((I64 (NB.v (VB.x v))) ∧ (I64 (NB.v (VB.y v)))))) ∧ ((((I64 (NB.v a)) ∧ (I64 (NB.v b))) ∧ (((I64 (NB.v c)) ∧ (I64 (NB.v d))) ∧ ((I64 (NB.v (VB.x v))) ∧ (I64 (NB.v (VB.y v)))))) ∧ 
(sel (NB.v (VB.x (Prod.fst (solV a b c d v))) == NB.v (VB.x (Prod.fst (solV a b c d v))) && NB.f (VB.x (Prod.fst (solV a b c d v))) == NB.f (VB.x (Prod.fst (solV a b c d v))) && (NB.v (VB.y (Prod.fst (solV a b c d v))) == NB.v (VB.y (Prod.fst (solV a b c d v))) && NB.f (VB.y (Prod.fst (solV a b c d v))) == NB.f (VB.y (Prod.fst (solV a b c d v))))) 
(sel (Prod.snd (solV a b c d v) == Prod.snd (solV a b c d v)) (R (SV.v (Value.bool true))) (R (SV.v (Value.bool false)))) (R (SV.v (Value.bool false)))))) := by kernel_rfl
theorem vcPosesL (a r v : VB) (R : SV → Prop) : (vcPure Try.prog ΓG noΛ Try.f11 [pS a r, vS v] R) =
((((I64 (NB.v (VB.x a))) ∧ (I64 (NB.v (VB.y a)))) ∧ (((I64 (NB.v (VB.x r))) ∧ (I64 (NB.v (VB.y r)))) ∧ ((I64 (NB.v (VB.x v))) ∧ (I64 (NB.v (VB.y v)))))) ∧ ((((I64 (NB.v (VB.x a))) ∧ (I64 (NB.v (VB.y a)))) ∧ (((I64 (NB.v (VB.x r))) ∧ (I64 (NB.v (VB.y r)))) ∧ ((I64 (NB.v (VB.x v))) ∧ (I64 (NB.v (VB.y v)))))) ∧ 
(sel (NB.v (VB.x (add2V a (appV r v))) == NB.v (VB.x (add2V a (appV r v))) && NB.f (VB.x (add2V a (appV r v))) == NB.f (VB.x (add2V a (appV r v))) && (NB.v (VB.y (add2V a (appV r v))) == NB.v (VB.y (add2V a (appV r v))) && NB.f (VB.y (add2V a (appV r v))) == NB.f (VB.y (add2V a (appV r v))))) ((((I64 (NB.v (VB.x a))) ∧ (I64 (NB.v (VB.y a)))) ∧ (((I64 (NB.v (VB.x r))) ∧ (I64 (NB.v (VB.y r)))) ∧ ((I64 (NB.v (VB.x v))) ∧ (I64 (NB.v (VB.y v)))))) ∧ ((((I64 (NB.v (VB.x a))) ∧ (I64 (NB.v (VB.y a)))) ∧ (((I64 (NB.v (VB.x r))) ∧ (I64 (NB.v (VB.y r)))) ∧ ((I64 (NB.v (VB.x v))) ∧ (I64 (NB.v (VB.y v)))))) ∧ 
(sel (NB.v (VB.x (bacV r (subV v a))) == NB.v (VB.x (bacV r (subV v a))) && NB.f (VB.x (bacV r (subV v a))) == NB.f (VB.x (bacV r (subV v a))) && (NB.v (VB.y (bacV r (subV v a))) == NB.v (VB.y (bacV r (subV v a))) && NB.f (VB.y (bacV r (subV v a))) == NB.f (VB.y (bacV r (subV v a))))) (R (SV.v (Value.bool true))) (R (SV.v (Value.bool false)))))) (R (SV.v (Value.bool false)))))) := by kernel_rfl
theorem selT {b : Bool} {x y : Prop} (h : b = true) (hx : x) : sel b x y := by subst h; exact hx
theorem selF {b : Bool} {x y : Prop} (h : b = false) (hy : y) : sel b x y := by subst h; exact hy
theorem UnitL_spec : PureSpec Try.prog 3 sUnitL := vc_spec hm ΓG_ok Try.func3 (Λ := fun _ => noΛ) fun args p x h hp => by
  unfold sUnitL at h
  split at h <;> try (cases h; done)
  rename_i a f b g
  cases h
  have h0 := hp _ rfl
  refine ⟨rfl, rfl, Eq.mpr (vcUnitL ⟨⟨a, f⟩, ⟨b, g⟩⟩ _) ?_⟩
  exact ⟨h0, h0, selT (by simp only [beq_self_eq_true, Bool.and_self]) (selT (beq_self_eq_true _) rfl)⟩
theorem PlacesL_spec : PureSpec Try.prog 6 sPlacesL := vc_spec hm ΓG_ok Try.func6 (Λ := fun _ => noΛ) fun args p x h hp => by
  unfold sPlacesL at h
  split at h <;> try (cases h; done)
  rename_i a b
  cases h
  have h0 := hp _ rfl
  refine ⟨rfl, rfl, Eq.mpr (vcPlacesL a b _) ?_⟩
  exact ⟨h0, h0, selT (by simp only [beq_self_eq_true, Bool.and_self]) ⟨h0, h0, selT (by simp only [beq_self_eq_true, Bool.and_self]) rfl⟩⟩
theorem SolvesL_spec : PureSpec Try.prog 9 sSolvesL := vc_spec hm ΓG_ok Try.func9 (Λ := fun _ => noΛ) fun args p x h hp => by
  unfold sSolvesL at h
  split at h <;> try (cases h; done)
  rename_i a fa b fb c fc d fd x f y g
  cases h
  have h0 := hp _ rfl
  refine ⟨rfl, rfl, Eq.mpr (vcSolvesL ⟨a, fa⟩ ⟨b, fb⟩ ⟨c, fc⟩ ⟨d, fd⟩ ⟨⟨x, f⟩, ⟨y, g⟩⟩ _) ?_⟩
  exact ⟨h0, h0, selT (by simp only [beq_self_eq_true, Bool.and_self]) (selT (beq_self_eq_true _) rfl)⟩
theorem PosesL_spec : PureSpec Try.prog 11 sPosesL := vc_spec hm ΓG_ok Try.func11 (Λ := fun _ => noΛ) fun args p x h hp => by
  unfold sPosesL at h
  split at h <;> try (cases h; done)
  rename_i p fp q fq c fc s fs x f y g
  cases h
  have h0 := hp _ rfl
  refine ⟨rfl, rfl, Eq.mpr (vcPosesL ⟨⟨p, fp⟩, ⟨q, fq⟩⟩ ⟨⟨c, fc⟩, ⟨s, fs⟩⟩ ⟨⟨x, f⟩, ⟨y, g⟩⟩ _) ?_⟩
  exact ⟨h0, h0, selT (by simp only [beq_self_eq_true, Bool.and_self]) ⟨h0, h0, selT (by simp only [beq_self_eq_true, Bool.and_self]) rfl⟩⟩
end Go.Proofs.Ytheljpebapokjaa
