/-
  Contracts of functions over slices of numbers.
-/
import Derived.Test.YtheljpebapokjaaFxD
set_option maxRecDepth 100000
namespace Go.Proofs.Ytheljpebapokjaa
open Go.SE Go.RowKit

/-- A row that is a number. -/
def isN : List SV → Prop
  | [.v (.int .i64 _), .v (.bool _)] => True
  | _ => False
def rowV (l : List SV) : Int := match l with | [.v (.int _ v), _] => v | _ => 0
def rowF (l : List SV) : Bool := match l with | [_, .v (.bool f)] => f | _ => false
def anyF : List (List SV) → Bool
  | [] => false
  | r :: t => rowF r || anyF t
/-- Is one of them flagged, once they are made sound? -/
def anyG : List (List SV) → Bool
  | [] => false
  | r :: t => sndF (rowV r) (rowF r) || anyG t
def rowsN (v : Nat → Int) (f : Nat → Bool) : Nat → List SV := fun i => [.v (.int .i64 (v i)), .v (.bool (f i))]
def sFlags : List SV → List Ro → Option (Option Prop × SV)
  | [.sl 0 2 0 n _], [⟨2, n', row⟩] => some (some (okAll isN (rowsOf n' row) ∧ n' = n ∧ n < 4611686018427387904), .v (.bool (anyF (rowsOf n row))))
  | _, _ => none
noncomputable def ΛFlags (n : Nat) (f : Nat → Bool) : Nat → Option LoopSpec := addLoop noΛ Try.f126 0 Nat (fun i => i ≤ n ∧ ∀ j, j < i → f j = false) (fun i => n - i) [(7, fun i => .v (.int .i64 i))] []
theorem vcFlags (n n' c : Nat) (v : Nat → Int) (f : Nat → Bool) (R : SV → Prop) : (vcFn Try.prog noCtrs (ΛFlags n f) Try.f126 [.sl 0 2 0 n c] (roHeap [⟨2, n', rowsN v f⟩]) 64 (fun y _ => R y)) =
((∃ x : Nat, ((((x : Nat) ≤ n) ∧ (∀ j : Nat, (((j : Nat) < x) → (f j = false)))) ∧ (((SV.v (Value.int IntKind.i64 0)) = (SV.v (Value.int IntKind.i64 ((↑x : Int))))) ∧ True))) ∧ (∀ x : Nat, ((((x : Nat) ≤ n) ∧ (∀ j : Nat, (((j : Nat) < x) → (f j = false)))) → 
(sel (decide ((↑x : Int) < (↑n : Int))) ((((0 : Int) ≤ ((↑x : Int))) ∧ ((((↑x : Int)) : Int) < ((↑n : Int)))) ∧ 
(sel (f (0 + Int.toNat (↑x : Int))) (R (SV.v (Value.bool true))) (∃ x' : Nat, (((((x' : Nat) ≤ n) ∧ (∀ j : Nat, (((j : Nat) < x') → (f j = false)))) ∧ (((SV.v (Value.int IntKind.i64 (IntKind.wrap IntKind.i64 ((↑x : Int) + 1)))) = (SV.v (Value.int IntKind.i64 ((↑x' : Int))))) ∧ True)) ∧ (((n - x') : Nat) < (n - x)))))) (R (SV.v (Value.bool false))))))) := by kernel_rfl
def sFlagged : List SV → List Ro → Option (Option Prop × SV)
  | [.sl 0 2 0 n _], [⟨2, n', row⟩] => some (some (okAll isN (rowsOf n' row) ∧ n' = n ∧ n < 4611686018427387904), .v (.bool (anyG (rowsOf n row))))
  | _, _ => none
noncomputable def ΛFlagged (n : Nat) (g : Nat → Bool) : Nat → Option LoopSpec := addLoop noΛ Try.f148 0 Nat (fun i => i ≤ n ∧ ∀ j, j < i → g j = false) (fun i => n - i) [(3, fun i => .v (.int .i64 i))] []
theorem vcFlagged (n n' c : Nat) (v : Nat → Int) (f g : Nat → Bool) (R : SV → Prop) : (vcFn Try.prog ΓC (ΛFlagged n g) Try.f148 [.sl 0 2 0 n c] (roHeap [⟨2, n', rowsN v f⟩]) 64 (fun y _ => R y)) =
((∃ x : Nat, ((((x : Nat) ≤ n) ∧ (∀ j : Nat, (((j : Nat) < x) → (g j = false)))) ∧ (((SV.v (Value.int IntKind.i64 0)) = (SV.v (Value.int IntKind.i64 ((↑x : Int))))) ∧ True))) ∧ (∀ x : Nat, ((((x : Nat) ≤ n) ∧ (∀ j : Nat, (((j : Nat) < x) → (g j = false)))) → 
(sel (decide ((↑x : Int) < (↑n : Int))) ((((0 : Int) ≤ ((↑x : Int))) ∧ ((((↑x : Int)) : Int) < ((↑n : Int)))) ∧ 
(sel (sndF (v (0 + Int.toNat (↑x : Int))) (f (0 + Int.toNat (↑x : Int)))) (R (SV.v (Value.bool true))) (∃ x' : Nat, (((((x' : Nat) ≤ n) ∧ (∀ j : Nat, (((j : Nat) < x') → (g j = false)))) ∧ (((SV.v (Value.int IntKind.i64 (IntKind.wrap IntKind.i64 ((↑x : Int) + 1)))) = (SV.v (Value.int IntKind.i64 ((↑x' : Int))))) ∧ True)) ∧ (((n - x') : Nat) < (n - x)))))) (R (SV.v (Value.bool false))))))) := by kernel_rfl
theorem isN_row {r : List SV} (h : isN r) : r = [.v (.int .i64 (rowV r)), .v (.bool (rowF r))] := by
  unfold isN at h
  split at h
  · rfl
  · exact h.elim
theorem anyF_append (a b : List (List SV)) : anyF (a ++ b) = (anyF a || anyF b) := by
  induction a with
  | nil => rfl
  | cons r t ih => simp [anyF, ih, Bool.or_assoc]
theorem anyF_false {row : Nat → List SV} : ∀ {i : Nat}, (∀ j, j < i → rowF (row j) = false) → anyF (rowsOf i row) = false
  | 0, _ => rfl
  | i + 1, h => by
    rw [rowsOf_succ, anyF_append, anyF_false fun j hj => h j (by omega)]
    simp [anyF, h i (by omega)]
theorem anyF_hit {n i : Nat} {row : Nat → List SV} (hi : i < n) (h : rowF (row i) = true) : anyF (rowsOf n row) = true := by
  obtain ⟨t, ht⟩ := rowsOf_split row hi
  rw [ht, anyF_append]
  simp [anyF, h]
theorem Flags_spec : RoSpec Try.prog 126 sFlags := ro_spec hm noCtrs_ok Try.func126 (Λ := fun args bs => match args, bs with | [.sl 0 2 0 n _], [⟨2, _, row⟩] => ΛFlags n (fun i => rowF (row i)) | _, _ => noΛ) fun args bs p x h hp => by
  unfold sFlags at h
  split at h <;> try (cases h; done)
  rename_i n c n' row
  cases h
  obtain ⟨h1, rfl, h3⟩ := hp _ rfl
  have h1 := okAll_rows.1 h1
  refine ⟨rfl, [⟨2, n', rowsN (fun i => rowV (row i)) fun i => rowF (row i)⟩], ⟨⟨rfl, rfl, fun i hi => isN_row (h1 i hi)⟩, trivial⟩, ?_⟩
  show vcFn _ _ (ΛFlags n' fun i => rowF (row i)) _ _ _ _ _
  rw [vcFlags]
  refine ⟨⟨0, ⟨by omega, fun j hj => by omega⟩, rfl, trivial⟩, fun i hi => ?_⟩
  refine sel_of (fun h => ?_) fun h => ?_
  · have h' : i < n' := by have := of_decide_eq_true h; omega
    simp only [Int.toNat_natCast, Nat.zero_add]
    refine ⟨⟨by omega, by omega⟩, sel_of (fun h'' => bool_mk (anyF_hit h' h'').symm) fun h'' => ⟨i + 1, ⟨⟨by omega, fun j hj => ?_⟩, int_mk ?_, trivial⟩, by omega⟩⟩
    · rcases Nat.lt_or_eq_of_le (Nat.le_of_lt_succ hj) with hj | rfl
      · exact hi.2 j hj
      · exact h''
    · rw [wrap_i64 ⟨by omega, by omega⟩]; omega
  · have h' : ¬ i < n' := by have := of_decide_eq_false h; omega
    have : i = n' := by omega
    subst this
    exact bool_mk (anyF_false hi.2).symm
theorem anyG_append (a b : List (List SV)) : anyG (a ++ b) = (anyG a || anyG b) := by
  induction a with
  | nil => rfl
  | cons r t ih => simp [anyG, ih, Bool.or_assoc]
theorem anyG_false {row : Nat → List SV} : ∀ {i : Nat}, (∀ j, j < i → sndF (rowV (row j)) (rowF (row j)) = false) → anyG (rowsOf i row) = false
  | 0, _ => rfl
  | i + 1, h => by
    rw [rowsOf_succ, anyG_append, anyG_false fun j hj => h j (by omega)]
    simp [anyG, h i (by omega)]
theorem anyG_hit {n i : Nat} {row : Nat → List SV} (hi : i < n) (h : sndF (rowV (row i)) (rowF (row i)) = true) : anyG (rowsOf n row) = true := by
  obtain ⟨t, ht⟩ := rowsOf_split row hi
  rw [ht, anyG_append]
  simp [anyG, h]
theorem Flagged_spec : RoSpec Try.prog 148 sFlagged := ro_spec hm ΓC_ok Try.func148 (Λ := fun args bs => match args, bs with | [.sl 0 2 0 n _], [⟨2, _, row⟩] => ΛFlagged n (fun i => sndF (rowV (row i)) (rowF (row i))) | _, _ => noΛ) fun args bs p x h hp => by
  unfold sFlagged at h
  split at h <;> try (cases h; done)
  rename_i n c n' row
  cases h
  obtain ⟨h1, rfl, h3⟩ := hp _ rfl
  have h1 := okAll_rows.1 h1
  refine ⟨rfl, [⟨2, n', rowsN (fun i => rowV (row i)) fun i => rowF (row i)⟩], ⟨⟨rfl, rfl, fun i hi => isN_row (h1 i hi)⟩, trivial⟩, ?_⟩
  show vcFn _ _ (ΛFlagged n' fun i => sndF (rowV (row i)) (rowF (row i))) _ _ _ _ _
  rw [vcFlagged]
  refine ⟨⟨0, ⟨by omega, fun j hj => by omega⟩, rfl, trivial⟩, fun i hi => ?_⟩
  refine sel_of (fun h => ?_) fun h => ?_
  · have h' : i < n' := by have := of_decide_eq_true h; omega
    simp only [Int.toNat_natCast, Nat.zero_add]
    refine ⟨⟨by omega, by omega⟩, sel_of (fun h'' => bool_mk (anyG_hit h' h'').symm) fun h'' => ⟨i + 1, ⟨⟨by omega, fun j hj => ?_⟩, int_mk ?_, trivial⟩, by omega⟩⟩
    · rcases Nat.lt_or_eq_of_le (Nat.le_of_lt_succ hj) with hj | rfl
      · exact hi.2 j hj
      · exact h''
    · rw [wrap_i64 ⟨by omega, by omega⟩]; omega
  · have h' : ¬ i < n' := by have := of_decide_eq_false h; omega
    have : i = n' := by omega
    subst this
    exact bool_mk (anyG_false hi.2).symm
end Go.Proofs.Ytheljpebapokjaa
