/-
  Contracts: equal shapes, one of them without corners (a literal nil).
-/
import Derived.Test.YtjdldadmaaeimaaWiM
set_option maxRecDepth 100000
set_option linter.unusedSimpArgs false
set_option linter.unusedVariables false
namespace Go.Proofs.Ytjdldadmaaeimaa
open Go.SE Go.RowKit

def sEqualN : List SV → List Ro → Option (Option Prop × SV)
  | [.v (.slice none 0 0), .sl 0 2 0 m _], [⟨2, m', row⟩] => some (some (rowsPre m m' row), .v (.bool (Nat.beq m 0)))
  | _, _ => none
def sSameN : List SV → List Ro → Option (Option Prop × SV)
  | [.agg [.v (.int .i64 k), .v (.int .i64 r), .v (.int .i64 w), .v (.int .i64 h), .v (.slice none 0 0)], .agg [.v (.int .i64 k2), .v (.int .i64 r2), .v (.int .i64 w2), .v (.int .i64 h2), .sl 0 2 0 m _]], [⟨2, m', row⟩] => some (some (rowsPre m m' row), .v (.bool (eqSh ⟨k, r, w, h⟩ ⟨k2, r2, w2, h2⟩ && Nat.beq m 0)))
  | _, _ => none
def sRSameN : List SV → List Ro → Option (Option Prop × SV)
  | [.agg [.v (.int .i64 k), .v (.int .i64 r), .v (.int .i64 w), .v (.int .i64 h), .sl 0 2 0 m _], .agg [.v (.int .i64 k2), .v (.int .i64 r2), .v (.int .i64 w2), .v (.int .i64 h2), .v (.slice none 0 0)]], [⟨2, m', row⟩] => some (some (rowsPre m m' row), .v (.bool (eqSh ⟨k, r, w, h⟩ ⟨k2, r2, w2, h2⟩ && Nat.beq m 0)))
  | _, _ => none
theorem vcEqualN (m m' d : Nat) (g : Nat → Int × Int) (R : SV → Prop) : (vcFn Try.prog noCtrs (ΛZ Try.f106 13) Try.f106 [nilS, .sl 0 2 0 m d] (roHeap [⟨2, m', rowsP g⟩]) 64 (fun y _ => R y)) =

(sel (0 != (↑m : Int)) (R (SV.v (Value.bool false))) ((∃ x : Nat, (((x : Nat) = 0) ∧ (((SV.v (Value.int IntKind.i64 0)) = (SV.v (Value.int IntKind.i64 ((↑x : Int))))) ∧ True))) ∧ (∀ x : Nat, (((x : Nat) = 0) → (R (SV.v (Value.bool true))))))) := by kernel_rfl
def ΓMN : Ctrs := addCtr noCtrs 106 (roCtr sEqualN)
theorem vcSameN (a b : ShB) (m m' d : Nat) (g : Nat → Int × Int) (R : SV → Prop) : (vcFn Try.prog ΓMN noΛ Try.f72 [shS a nilS, shS b (.sl 0 2 0 m d)] (roHeap [⟨2, m', rowsP g⟩]) 64 (fun y _ => R y)) =

(sel (ShB.k a == ShB.k b && (ShB.r a == ShB.r b && (ShB.w a == ShB.w b && ShB.h a == ShB.h b))) ((rowsPre m m fun y => [SV.v (Value.int IntKind.i64 (Prod.fst (g (0 + y)))), SV.v (Value.int IntKind.i64 (Prod.snd (g (0 + y))))]) ∧ (R (SV.v (Value.bool (Nat.beq m 0))))) (R (SV.v (Value.bool false)))) := by kernel_rfl
theorem vcRSameN (a b : ShB) (m m' d : Nat) (g : Nat → Int × Int) (R : SV → Prop) : (vcFn Try.prog noCtrs (addLoop noΛ Try.f76 0 Nat (fun z => z = 0) (fun z => z) [(5, fun z => .v (.int .i64 z))] []) Try.f76 [shS a (.sl 0 2 0 m d), shS b nilS] (roHeap [⟨2, m', rowsP g⟩]) 64 (fun y _ => R y)) =

(sel (ShB.k a != ShB.k b) (R (SV.v (Value.bool false))) 
(sel (ShB.r a != ShB.r b) (R (SV.v (Value.bool false))) 
(sel (ShB.w a != ShB.w b) (R (SV.v (Value.bool false))) 
(sel (ShB.h a != ShB.h b) (R (SV.v (Value.bool false))) 
(sel ((↑m : Int) != 0) (R (SV.v (Value.bool false))) ((∃ x : Nat, (((x : Nat) = 0) ∧ (((SV.v (Value.int IntKind.i64 0)) = (SV.v (Value.int IntKind.i64 ((↑x : Int))))) ∧ True))) ∧ (∀ x : Nat, (((x : Nat) = 0) → 
(sel (decide ((↑x : Int) < (↑m : Int))) ((((0 : Int) ≤ ((↑x : Int))) ∧ ((((↑x : Int)) : Int) < ((↑m : Int)))) ∧ False) (R (SV.v (Value.bool true)))))))))))) := by kernel_rfl
theorem beq_zero {m : Nat} (h : ((m : Int) != 0) = true) : Nat.beq m 0 = false := Go.SE.beq_false fun e => by rw [e] at h; cases h
theorem beq_zero' {m : Nat} (h : ((m : Int) != 0) = false) : m = 0 := by simpa using h
theorem EqualN_spec : RoSpec Try.prog 106 sEqualN := ro_spec hm noCtrs_ok Try.func106 (Λ := fun _ _ => ΛZ Try.f106 13) fun args bs p x h hp => by
  unfold sEqualN at h
  split at h <;> try (cases h; done)
  rename_i m d m' row
  cases h
  obtain ⟨h0, rfl, hn⟩ := hp _ rfl
  have h0 := okAll_rows.1 h0
  refine ⟨rfl, [⟨2, m', rowsP fun i => gi (row i)⟩], ⟨⟨rfl, rfl, fun i hi => (isPI_row (h0 i hi)).1⟩, trivial⟩, ?_⟩
  refine Eq.mpr (vcEqualN m' m' d (fun i => gi (row i)) _) (sel_of (fun e => bool_mk ?_) fun e => ⟨⟨0, rfl, rfl, trivial⟩, fun _ _ => bool_mk ?_⟩)
  · refine (Go.SE.beq_false fun e0 => ?_).symm
    rw [e0] at e; cases e
  · have : m' = 0 := by
      have : ((0 : Int) != (m' : Int)) = false := e
      simp at this; omega
    rw [this]; rfl
theorem ΓMN_ok : ∀ f g, ΓMN f = some g → g.ok Try.prog f := addCtr_ok noCtrs_ok (ro_ok Try.func106 (by kernel_rfl) (by kernel_rfl) EqualN_spec)
theorem SameN_spec : RoSpec Try.prog 72 sSameN := ro_spec hm ΓMN_ok Try.func72 (Λ := fun _ _ => noΛ) fun args bs p x h hp => by
  unfold sSameN at h
  split at h <;> try (cases h; done)
  rename_i k r w hh k2 r2 w2 h2 m d m' row
  cases h
  obtain ⟨h0, rfl, hn⟩ := hp _ rfl
  have h0 := okAll_rows.1 h0
  refine ⟨rfl, [⟨2, m', rowsP fun i => gi (row i)⟩], ⟨⟨rfl, rfl, fun i hi => (isPI_row (h0 i hi)).1⟩, trivial⟩, ?_⟩
  refine Eq.mpr (vcSameN ⟨k, r, w, hh⟩ ⟨k2, r2, w2, h2⟩ m' m' d (fun i => gi (row i)) _) (sel_of (fun e => ⟨⟨okAll_rows.2 fun i hi => ?_, rfl, hn⟩, bool_mk ?_⟩) fun e => bool_mk ?_)
  · rw [Nat.zero_add]; exact (isPI_row (h0 i hi)).2
  · unfold eqSh; rw [e]; rfl
  · unfold eqSh; rw [e]; rfl
theorem RSameN_spec : RoSpec Try.prog 76 sRSameN := ro_spec hm noCtrs_ok Try.func76 (Λ := fun _ _ => addLoop noΛ Try.f76 0 Nat (fun z => z = 0) (fun z => z) [(5, fun z => .v (.int .i64 z))] []) fun args bs p x h hp => by
  unfold sRSameN at h
  split at h <;> try (cases h; done)
  rename_i k r w hh m d k2 r2 w2 h2 m' row
  cases h
  obtain ⟨h0, rfl, hn⟩ := hp _ rfl
  have h0 := okAll_rows.1 h0
  refine ⟨rfl, [⟨2, m', rowsP fun i => gi (row i)⟩], ⟨⟨rfl, rfl, fun i hi => (isPI_row (h0 i hi)).1⟩, trivial⟩, ?_⟩
  have bn : ∀ {a b : Int}, (a != b) = true → (a == b) = false := fun {a b} h => by unfold bne at h; simpa using h
  have by' : ∀ {a b : Int}, (a != b) = false → (a == b) = true := fun {a b} h => by unfold bne at h; simpa using h
  refine Eq.mpr (vcRSameN ⟨k, r, w, hh⟩ ⟨k2, r2, w2, h2⟩ m' m' d (fun i => gi (row i)) _) ?_
  refine sel_of (fun e => bool_mk ?_) fun e1 => sel_of (fun e => bool_mk ?_) fun e2 => sel_of (fun e => bool_mk ?_) fun e3 => sel_of (fun e => bool_mk ?_) fun e4 => sel_of (fun e => bool_mk ?_) fun e5 => ⟨⟨0, rfl, rfl, trivial⟩, fun x hx => sel_of (fun hlt => ?_) fun _ => bool_mk ?_⟩
  · unfold eqSh; rw [bn e]; rfl
  · unfold eqSh; rw [by' e1, bn e]; rfl
  · unfold eqSh; rw [by' e1, by' e2, bn e]; rfl
  · unfold eqSh; rw [by' e1, by' e2, by' e3, bn e]; rfl
  · rw [beq_zero e, Bool.and_false]
  · have hlt := of_decide_eq_true hlt
    have := beq_zero' e5
    omega
  · unfold eqSh; rw [by' e1, by' e2, by' e3, by' e4, beq_zero' e5]; rfl
end Go.Proofs.Ytjdldadmaaeimaa
