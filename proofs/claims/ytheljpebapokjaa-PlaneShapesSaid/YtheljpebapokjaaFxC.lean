/-
  Contracts: products, sums of exact integers, comparisons.
-/
import Derived.Test.YtheljpebapokjaaSeRo
import Derived.Test.YtheljpebapokjaaFxB
set_option maxRecDepth 100000
namespace Go.Proofs.Ytheljpebapokjaa
open Go.SE Go.RowKit

/-! ### cmp.Or -/
/-- A row of one whole number. -/
def isI : List SV → Prop
  | [.v (.int .i64 _)] => True
  | _ => False
def rowI (l : List SV) : Int := match l with | [.v (.int _ v)] => v | _ => 0
def orL : List (List SV) → Int
  | [] => 0
  | r :: t => if rowI r ≠ 0 then rowI r else orL t
def sOr : List SV → List Ro → Option (Option Prop × SV)
  | [.sl 0 1 0 n _], [⟨1, n', row⟩] => some (some (okAll isI (rowsOf n' row) ∧ n' = n ∧ n < 4611686018427387904), .v (.int .i64 (orL (rowsOf n row))))
  | _, _ => none
noncomputable def ΛOr (n : Nat) (f : Nat → Int) : Nat → Option LoopSpec := addLoop noΛ Try.f168 0 Nat (fun i => i ≤ n ∧ ∀ j, j < i → f j = 0) (fun i => n - i) [(8, fun i => .v (.int .i64 i))] []
def rowsI (f : Nat → Int) : Nat → List SV := fun i => [.v (.int .i64 (f i))]
theorem vcOr (n n' c : Nat) (f : Nat → Int) (R : SV → Prop) : (vcFn Try.prog noCtrs (ΛOr n f) Try.f168 [.sl 0 1 0 n c] (roHeap [⟨1, n', rowsI f⟩]) 64 (fun y _ => R y)) =
((∃ x : Nat, ((((x : Nat) ≤ n) ∧ (∀ j : Nat, (((j : Nat) < x) → (((f j) : Int) = 0)))) ∧ (((SV.v (Value.int IntKind.i64 0)) = (SV.v (Value.int IntKind.i64 ((↑x : Int))))) ∧ True))) ∧ (∀ x : Nat, ((((x : Nat) ≤ n) ∧ (∀ j : Nat, (((j : Nat) < x) → (((f j) : Int) = 0)))) → 
(sel (decide ((↑x : Int) < (↑n : Int))) ((((0 : Int) ≤ ((↑x : Int))) ∧ ((((↑x : Int)) : Int) < ((↑n : Int)))) ∧ 
(sel (f (0 + Int.toNat (↑x : Int)) != 0) (R (SV.v (Value.int IntKind.i64 (f (0 + Int.toNat (↑x : Int)))))) (∃ x' : Nat, (((((x' : Nat) ≤ n) ∧ (∀ j : Nat, (((j : Nat) < x') → (((f j) : Int) = 0)))) ∧ (((SV.v (Value.int IntKind.i64 (IntKind.wrap IntKind.i64 ((↑x : Int) + 1)))) = (SV.v (Value.int IntKind.i64 ((↑x' : Int))))) ∧ True)) ∧ (((n - x') : Nat) < (n - x)))))) (R (SV.v (Value.int IntKind.i64 0))))))) := by kernel_rfl

def sProduct : List SV → Option (Option Prop × SV)
  | [.v (.int .i64 a), .v (.int .i64 b)] => some (some (I64 a ∧ I64 b), exM (!(decide (a < 0) == decide (b < 0))) (iabs a * iabs b))
  | _ => none
def sTimes : List SV → Option (Option Prop × SV)
  | [.v (.int .i64 a), .v (.int .i64 b)] => some (some (I64 a ∧ I64 b), wiM ((!(decide (a < 0) == decide (b < 0))) && a != 0 && b != 0) (iabs a * iabs b))
  | _ => none
def sRExact : List SV → Option (Option Prop × SV)
  | [.v (.int .i64 v)] => some (some (I64 v), wiS (decide (v < 0)) 0 (iabs v))
  | _ => none
def plZ (n1 : Bool) (m1 : Int) (n2 : Bool) (m2 : Int) : Bool := if n1 = n2 then n1 else if m1 < m2 then n2 else n1 && m1 != m2
def sRPlus : List SV → Option (Option Prop × SV)
  | [.agg [.v (.bool n1), .v (.int .u64 h1), .v (.int .u64 l1)], .agg [.v (.bool n2), .v (.int .u64 h2), .v (.int .u64 l2)]] =>
    some (some ((U64 l1 ∧ U64 h1) ∧ (U64 l2 ∧ U64 h2) ∧ MM l1 h1 + MM l2 h2 < 340282366920938463463374607431768211456), wiM (plZ n1 (MM l1 h1) n2 (MM l2 h2)) (plM n1 (MM l1 h1) n2 (MM l2 h2)))
  | _ => none
def sPlus : List SV → Option (Option Prop × SV)
  | [.agg [.v (.bool n1), .v (.int .u64 l1), .v (.int .u64 h1)], .agg [.v (.bool n2), .v (.int .u64 l2), .v (.int .u64 h2)]] =>
    some (some ((U64 l1 ∧ U64 h1) ∧ (U64 l2 ∧ U64 h2) ∧ MM l1 h1 + MM l2 h2 < 340282366920938463463374607431768211456), exM (plN n1 (MM l1 h1) n2 (MM l2 h2)) (plM n1 (MM l1 h1) n2 (MM l2 h2)))
  | _ => none
def sWCmp : List SV → Option (Option Prop × SV)
  | [.agg [.v (.int .u64 l1), .v (.int .u64 h1)], .agg [.v (.int .u64 l2), .v (.int .u64 h2)]] => some (some ((U64 l1 ∧ U64 h1) ∧ (U64 l2 ∧ U64 h2)), .v (.int .i64 (cmpI (MM l1 h1) (MM l2 h2))))
  | _ => none
def ΓC0 : Ctrs := addCtr ΓB 168 (roCtr sOr)
def ΓC1 : Ctrs := addCtr ΓC0 162 (pureCtr sWCmp)
def ΓC : Ctrs := addCtr (addCtr (addCtr (addCtr (addCtr ΓC1 140 (pureCtr sProduct)) 141 (pureCtr sPlus)) 146 (pureCtr sTimes)) 137 (pureCtr sRExact)) 145 (pureCtr sRPlus)
theorem vcProduct (a b : Int) (R : SV → Prop) : (vcPure Try.prog ΓB noΛ Try.f140 [.v (.int .i64 a), .v (.int .i64 b)] R) =
((I64 a) ∧ ((I64 b) ∧ (((U64 (iabs a)) ∧ (U64 (iabs b))) ∧ (R (SV.agg [(SV.v (Value.bool (!decide (a < 0) == decide (b < 0)))), (SV.v (Value.int IntKind.u64 (iabs a * iabs b % 18446744073709551616))), (SV.v (Value.int IntKind.u64 (iabs a * iabs b / 18446744073709551616)))]))))) := by kernel_rfl
theorem vcTimes (a b : Int) (R : SV → Prop) : (vcPure Try.prog ΓB noΛ Try.f146 [.v (.int .i64 a), .v (.int .i64 b)] R) =
((I64 a) ∧ ((I64 b) ∧ (((U64 (iabs a)) ∧ (U64 (iabs b))) ∧ 
(sel (!decide (a < 0) == decide (b < 0)) 
(sel (a != 0) (R (SV.agg [(SV.v (Value.bool (b != 0))), (SV.v (Value.int IntKind.u64 (iabs a * iabs b / 18446744073709551616))), (SV.v (Value.int IntKind.u64 (iabs a * iabs b % 18446744073709551616)))])) (R (SV.agg [(SV.v (Value.bool false)), (SV.v (Value.int IntKind.u64 (iabs a * iabs b / 18446744073709551616))), (SV.v (Value.int IntKind.u64 (iabs a * iabs b % 18446744073709551616)))]))) (R (SV.agg [(SV.v (Value.bool false)), (SV.v (Value.int IntKind.u64 (iabs a * iabs b / 18446744073709551616))), (SV.v (Value.int IntKind.u64 (iabs a * iabs b % 18446744073709551616)))])))))) := by kernel_rfl
theorem vcRExact (v : Int) (R : SV → Prop) : (vcPure Try.prog ΓB noΛ Try.f137 [.v (.int .i64 v)] R) =
((I64 v) ∧ (R (SV.agg [(SV.v (Value.bool (decide (v < 0)))), (SV.v (Value.int IntKind.u64 0)), (SV.v (Value.int IntKind.u64 (iabs v)))]))) := by kernel_rfl
theorem vcRPlus (n1 : Bool) (h1 l1 : Int) (n2 : Bool) (h2 l2 : Int) (R : SV → Prop) : (vcPure Try.prog ΓB noΛ Try.f145 [wiS n1 h1 l1, wiS n2 h2 l2] R) =

(sel (n1 == n2) (((U64 l1) ∧ ((U64 l2) ∧ (((0 : Int) ≤ 0) ∧ ((0 : Int) ≤ 1)))) ∧ (((U64 h1) ∧ ((U64 h2) ∧ (((0 : Int) ≤ ((l1 + l2 + 0) / 18446744073709551616)) ∧ ((((l1 + l2 + 0) / 18446744073709551616) : Int) ≤ 1)))) ∧ (R (SV.agg [(SV.v (Value.bool n1)), (SV.v (Value.int IntKind.u64 ((h1 + h2 + (l1 + l2 + 0) / 18446744073709551616) % 18446744073709551616))), (SV.v (Value.int IntKind.u64 ((l1 + l2 + 0) % 18446744073709551616)))])))) (((U64 l1) ∧ (U64 l2)) ∧ 
(sel (decide (MM l1 h1 < MM l2 h2)) (((U64 l2) ∧ ((U64 l1) ∧ (((0 : Int) ≤ 0) ∧ ((0 : Int) ≤ 1)))) ∧ (((U64 h2) ∧ ((U64 h1) ∧ (((0 : Int) ≤ (bor l2 (l1 + 0))) ∧ (((bor l2 (l1 + 0)) : Int) ≤ 1)))) ∧ 
(sel n2 
(sel ((h2 - h1 - bor l2 (l1 + 0)) % 18446744073709551616 != 0) (R (SV.agg [(SV.v (Value.bool true)), (SV.v (Value.int IntKind.u64 ((h2 - h1 - bor l2 (l1 + 0)) % 18446744073709551616))), (SV.v (Value.int IntKind.u64 ((l2 - l1 - 0) % 18446744073709551616)))])) (R (SV.agg [(SV.v (Value.bool ((l2 - l1 - 0) % 18446744073709551616 != 0))), (SV.v (Value.int IntKind.u64 ((h2 - h1 - bor l2 (l1 + 0)) % 18446744073709551616))), (SV.v (Value.int IntKind.u64 ((l2 - l1 - 0) % 18446744073709551616)))]))) (R (SV.agg [(SV.v (Value.bool false)), (SV.v (Value.int IntKind.u64 ((h2 - h1 - bor l2 (l1 + 0)) % 18446744073709551616))), (SV.v (Value.int IntKind.u64 ((l2 - l1 - 0) % 18446744073709551616)))]))))) (((U64 l1) ∧ ((U64 l2) ∧ (((0 : Int) ≤ 0) ∧ ((0 : Int) ≤ 1)))) ∧ (((U64 h1) ∧ ((U64 h2) ∧ (((0 : Int) ≤ (bor l1 (l2 + 0))) ∧ (((bor l1 (l2 + 0)) : Int) ≤ 1)))) ∧ 
(sel n1 
(sel ((h1 - h2 - bor l1 (l2 + 0)) % 18446744073709551616 != 0) (R (SV.agg [(SV.v (Value.bool true)), (SV.v (Value.int IntKind.u64 ((h1 - h2 - bor l1 (l2 + 0)) % 18446744073709551616))), (SV.v (Value.int IntKind.u64 ((l1 - l2 - 0) % 18446744073709551616)))])) (R (SV.agg [(SV.v (Value.bool ((l1 - l2 - 0) % 18446744073709551616 != 0))), (SV.v (Value.int IntKind.u64 ((h1 - h2 - bor l1 (l2 + 0)) % 18446744073709551616))), (SV.v (Value.int IntKind.u64 ((l1 - l2 - 0) % 18446744073709551616)))]))) (R (SV.agg [(SV.v (Value.bool false)), (SV.v (Value.int IntKind.u64 ((h1 - h2 - bor l1 (l2 + 0)) % 18446744073709551616))), (SV.v (Value.int IntKind.u64 ((l1 - l2 - 0) % 18446744073709551616)))])))))))) := by kernel_rfl
theorem vcWCmp (l1 h1 l2 h2 : Int) (R : SV → Prop) : (vcPure Try.prog ΓC0 noΛ Try.f162 [woS l1 h1, woS l2 h2] R) =
((((isI [SV.v (Value.int IntKind.i64 (cmpI h1 h2))]) ∧ ((isI [SV.v (Value.int IntKind.i64 (cmpI l1 l2))]) ∧ True)) ∧ (((2 : Nat) = 2) ∧ ((2 : Nat) < 4611686018427387904))) ∧ (R (SV.v (Value.int IntKind.i64 (orL [[SV.v (Value.int IntKind.i64 (cmpI h1 h2))], [SV.v (Value.int IntKind.i64 (cmpI l1 l2))]]))))) := by kernel_rfl
theorem vcPlus (n1 : Bool) (l1 h1 : Int) (n2 : Bool) (l2 h2 : Int) (R : SV → Prop) : (vcPure Try.prog ΓC1 noΛ Try.f141 [exS n1 l1 h1, exS n2 l2 h2] R) =

(sel (n1 == n2) (((U64 l1) ∧ ((U64 l2) ∧ (((0 : Int) ≤ 0) ∧ ((0 : Int) ≤ 1)))) ∧ (((U64 h1) ∧ ((U64 h2) ∧ (((0 : Int) ≤ ((l1 + l2 + 0) / 18446744073709551616)) ∧ ((((l1 + l2 + 0) / 18446744073709551616) : Int) ≤ 1)))) ∧ (R (SV.agg [(SV.v (Value.bool n1)), (SV.v (Value.int IntKind.u64 ((l1 + l2 + 0) % 18446744073709551616))), (SV.v (Value.int IntKind.u64 ((h1 + h2 + (l1 + l2 + 0) / 18446744073709551616) % 18446744073709551616)))])))) ((((U64 l1) ∧ (U64 h1)) ∧ ((U64 l2) ∧ (U64 h2))) ∧ 
(sel (decide (cmpI (MM l1 h1) (MM l2 h2) < 0)) (((U64 l2) ∧ ((U64 l1) ∧ (((0 : Int) ≤ 0) ∧ ((0 : Int) ≤ 1)))) ∧ (((U64 h2) ∧ ((U64 h1) ∧ (((0 : Int) ≤ (bor l2 (l1 + 0))) ∧ (((bor l2 (l1 + 0)) : Int) ≤ 1)))) ∧ (R (SV.agg [(SV.v (Value.bool n2)), (SV.v (Value.int IntKind.u64 ((l2 - l1 - 0) % 18446744073709551616))), (SV.v (Value.int IntKind.u64 ((h2 - h1 - bor l2 (l1 + 0)) % 18446744073709551616)))])))) (((U64 l1) ∧ ((U64 l2) ∧ (((0 : Int) ≤ 0) ∧ ((0 : Int) ≤ 1)))) ∧ (((U64 h1) ∧ ((U64 h2) ∧ (((0 : Int) ≤ (bor l1 (l2 + 0))) ∧ (((bor l1 (l2 + 0)) : Int) ≤ 1)))) ∧ (R (SV.agg [(SV.v (Value.bool n1)), (SV.v (Value.int IntKind.u64 ((l1 - l2 - 0) % 18446744073709551616))), (SV.v (Value.int IntKind.u64 ((h1 - h2 - bor l1 (l2 + 0)) % 18446744073709551616)))]))))))) := by kernel_rfl
theorem isI_row {r : List SV} (h : isI r) : r = [.v (.int .i64 (rowI r))] := by
  unfold isI at h
  split at h
  · rfl
  · exact h.elim
theorem orL_zeros {row : Nat → List SV} : ∀ {i : Nat}, (∀ j, j < i → rowI (row j) = 0) → ∀ l, orL (rowsOf i row ++ l) = orL l
  | 0, _, l => rfl
  | i + 1, h, l => by
    rw [rowsOf_succ, List.append_assoc, orL_zeros (fun j hj => h j (by omega))]
    simp [orL, h i (by omega)]
theorem rowsOf_split {n i : Nat} (row : Nat → List SV) (h : i < n) : ∃ t, rowsOf n row = rowsOf i row ++ row i :: t := by
  refine ⟨(List.range' (i + 1) (n - i - 1)).map row, ?_⟩
  unfold rowsOf
  rw [show n = i + (1 + (n - i - 1)) by omega, ← List.range'_append_1, List.map_append, ← List.range'_append_1]
  simp [List.range'_succ]
theorem Or_spec : RoSpec Try.prog 168 sOr := ro_spec hm noCtrs_ok Try.func168 (Λ := fun args bs => match args, bs with | [.sl 0 1 0 n _], [⟨1, _, row⟩] => ΛOr n (fun i => rowI (row i)) | _, _ => noΛ) fun args bs p x h hp => by
  unfold sOr at h
  split at h <;> try (cases h; done)
  rename_i n c n' row
  cases h
  obtain ⟨h1, rfl, h3⟩ := hp _ rfl
  have h1 := okAll_rows.1 h1
  refine ⟨rfl, [⟨1, n', rowsI fun i => rowI (row i)⟩], ⟨⟨rfl, rfl, fun i hi => isI_row (h1 i hi)⟩, trivial⟩, ?_⟩
  show vcFn _ _ (ΛOr n' fun i => rowI (row i)) _ _ _ _ _
  rw [vcOr]
  refine ⟨⟨0, ⟨by omega, fun j hj => by omega⟩, rfl, trivial⟩, fun i hi => ?_⟩
  refine sel_of (fun h => ?_) fun h => ?_
  · have h' : i < n' := by have := of_decide_eq_true h; omega
    refine ⟨⟨by omega, by omega⟩, sel_of (fun h'' => ?_) fun h'' => ?_⟩
    · have h'' : rowI (row (0 + Int.toNat (i : Int))) ≠ 0 := by simpa using h''
      simp only [Int.toNat_natCast, Nat.zero_add] at h'' ⊢
      obtain ⟨t, ht⟩ := rowsOf_split row h'
      rw [ht, orL_zeros hi.2]
      simp [orL, h'']
    · have h'' : rowI (row (0 + Int.toNat (i : Int))) = 0 := by simpa using h''
      simp only [Int.toNat_natCast, Nat.zero_add] at h''
      refine ⟨i + 1, ⟨⟨by omega, fun j hj => ?_⟩, int_mk ?_, trivial⟩, by omega⟩
      · rcases Nat.lt_or_eq_of_le (Nat.le_of_lt_succ hj) with hj | rfl
        · exact hi.2 j hj
        · exact h''
      · rw [wrap_i64 ⟨by omega, by omega⟩]; omega
  · have h' : ¬ i < n' := by have := of_decide_eq_false h; omega
    have : i = n' := by omega
    subst this
    have := orL_zeros hi.2 []
    rw [List.append_nil] at this
    rw [this]; rfl
theorem ΓC0_ok : ∀ f g, ΓC0 f = some g → g.ok Try.prog f := addCtr_ok ΓB_ok (ro_ok Try.func168 (by kernel_rfl) (by kernel_rfl) Or_spec)
theorem orL_two (a b : Int) : orL [[.v (.int .i64 a)], [.v (.int .i64 b)]] = if a = 0 then b else a := by
  show (if a ≠ 0 then a else if b ≠ 0 then b else 0) = _
  by_cases ha : a = 0 <;> by_cases hb : b = 0 <;> simp [ha, hb]
theorem cmpI_lt {a b : Int} (h : a < b) : cmpI a b = -1 := if_pos h
theorem cmpI_gt {a b : Int} (h : b < a) : cmpI a b = 1 := by unfold cmpI; rw [if_neg (by omega), if_pos h]
theorem cmpI_eq (a : Int) : cmpI a a = 0 := by unfold cmpI; rw [if_neg (by omega), if_neg (by omega)]
theorem cmp_words {l1 h1 l2 h2 : Int} (p1 : U64 l1) (p3 : U64 l2) : (if cmpI h1 h2 = 0 then cmpI l1 l2 else cmpI h1 h2) = cmpI (MM l1 h1) (MM l2 h2) := by
  obtain ⟨_, _⟩ := p1; obtain ⟨_, _⟩ := p3
  rcases Int.lt_trichotomy h1 h2 with h | h | h
  · rw [cmpI_lt h, if_neg (by decide), cmpI_lt (by unfold MM; omega)]
  · subst h
    rw [cmpI_eq, if_pos rfl]
    rcases Int.lt_trichotomy l1 l2 with h | h | h
    · rw [cmpI_lt h, cmpI_lt (by unfold MM; omega)]
    · subst h; rw [cmpI_eq, cmpI_eq]
    · rw [cmpI_gt h, cmpI_gt (by unfold MM; omega)]
  · rw [cmpI_gt h, if_neg (by decide), cmpI_gt (by unfold MM; omega)]
theorem WCmp_spec : PureSpec Try.prog 162 sWCmp := vc_spec hm ΓC0_ok Try.func162 (Λ := fun _ => noΛ) fun args p x h hp => by
  unfold sWCmp at h
  split at h <;> try (cases h; done)
  rename_i l1 h1 l2 h2
  cases h
  obtain ⟨⟨p1, p2⟩, p3, p4⟩ := hp _ rfl
  refine ⟨rfl, rfl, ?_⟩
  rw [show ∀ a b, SV.agg [.v (.int .u64 a), .v (.int .u64 b)] = woS a b from fun _ _ => rfl, show ∀ a b, SV.agg [.v (.int .u64 a), .v (.int .u64 b)] = woS a b from fun _ _ => rfl, vcWCmp]
  refine ⟨⟨⟨trivial, trivial, trivial⟩, rfl, by decide⟩, int_mk ?_⟩
  rw [orL_two, cmp_words p1 p3]
theorem ΓC1_ok : ∀ f g, ΓC1 f = some g → g.ok Try.prog f := addCtr_ok ΓC0_ok (pure_ok Try.func162 (by kernel_rfl) (by kernel_rfl) WCmp_spec)
theorem iabs_mul {a b : Int} : 0 ≤ iabs a * iabs b := Int.mul_nonneg (iabs_nonneg a) (iabs_nonneg b)
theorem Product_spec : PureSpec Try.prog 140 sProduct := vc_spec hm ΓB_ok Try.func140 (Λ := fun _ => noΛ) fun args p x h hp => by
  unfold sProduct at h
  split at h <;> try (cases h; done)
  cases h
  obtain ⟨h1, h2⟩ := hp _ rfl
  refine ⟨rfl, rfl, ?_⟩
  rw [vcProduct]
  exact ⟨h1, h2, ⟨iabs_u64 h1, iabs_u64 h2⟩, ex_mk rfl rfl rfl⟩
theorem Times_spec : PureSpec Try.prog 146 sTimes := vc_spec hm ΓB_ok Try.func146 (Λ := fun _ => noΛ) fun args p x h hp => by
  unfold sTimes at h
  split at h <;> try (cases h; done)
  cases h
  obtain ⟨h1, h2⟩ := hp _ rfl
  refine ⟨rfl, rfl, ?_⟩
  rw [vcTimes]
  refine ⟨h1, h2, ⟨iabs_u64 h1, iabs_u64 h2⟩, sel_of (fun h => sel_of (fun h' => ?_) fun h' => ?_) fun h => ?_⟩
  · exact wi_mk (by rw [h, h']; rfl) rfl rfl
  · exact wi_mk (by rw [h, h']; rfl) rfl rfl
  · exact wi_mk (by rw [h]; rfl) rfl rfl
theorem RExact_spec : PureSpec Try.prog 137 sRExact := vc_spec hm ΓB_ok Try.func137 (Λ := fun _ => noΛ) fun args p x h hp => by
  unfold sRExact at h
  split at h <;> try (cases h; done)
  cases h
  have h1 := hp _ rfl
  refine ⟨rfl, rfl, ?_⟩
  rw [vcRExact]
  exact ⟨h1, rfl⟩
theorem bor_01 (x y : Int) : 0 ≤ bor x y ∧ bor x y ≤ 1 := by unfold bor; split <;> omega
/-- The two words of a sum. -/
theorem add_words {l1 h1 l2 h2 : Int} (p1 : U64 l1) (p2 : U64 h1) (p3 : U64 l2) (p4 : U64 h2) (hs : MM l1 h1 + MM l2 h2 < 340282366920938463463374607431768211456) :
    (l1 + l2 + 0) % 18446744073709551616 = (MM l1 h1 + MM l2 h2) % 18446744073709551616 ∧ (h1 + h2 + (l1 + l2 + 0) / 18446744073709551616) % 18446744073709551616 = (MM l1 h1 + MM l2 h2) / 18446744073709551616 := by
  obtain ⟨_, _⟩ := p1; obtain ⟨_, _⟩ := p2; obtain ⟨_, _⟩ := p3; obtain ⟨_, _⟩ := p4
  unfold MM at *
  constructor <;> omega
/-- The two words of a difference. -/
theorem sub_words {l1 h1 l2 h2 : Int} (p1 : U64 l1) (p2 : U64 h1) (p3 : U64 l2) (p4 : U64 h2) (hs : MM l2 h2 ≤ MM l1 h1) :
    (l1 - l2 - 0) % 18446744073709551616 = iabs (MM l1 h1 - MM l2 h2) % 18446744073709551616 ∧ (h1 - h2 - bor l1 (l2 + 0)) % 18446744073709551616 = iabs (MM l1 h1 - MM l2 h2) / 18446744073709551616 := by
  have e : iabs (MM l1 h1 - MM l2 h2) = MM l1 h1 - MM l2 h2 := by unfold iabs; rw [if_neg (by omega)]
  rw [e]
  obtain ⟨_, _⟩ := p1; obtain ⟨_, _⟩ := p2; obtain ⟨_, _⟩ := p3; obtain ⟨_, _⟩ := p4
  unfold MM bor at *
  constructor
  · omega
  · split <;> omega
theorem iabs_comm (a b : Int) : iabs (a - b) = iabs (b - a) := by unfold iabs; split <;> split <;> omega
theorem Plus_spec : PureSpec Try.prog 141 sPlus := vc_spec hm ΓC1_ok Try.func141 (Λ := fun _ => noΛ) fun args p x h hp => by
  unfold sPlus at h
  split at h <;> try (cases h; done)
  rename_i n1 l1 h1 n2 l2 h2
  cases h
  obtain ⟨⟨p1, p2⟩, ⟨p3, p4⟩, hs⟩ := hp _ rfl
  refine ⟨rfl, rfl, ?_⟩
  rw [show ∀ n lo hi, SV.agg [.v (.bool n), .v (.int .u64 lo), .v (.int .u64 hi)] = exS n lo hi from fun _ _ _ => rfl, show ∀ n lo hi, SV.agg [.v (.bool n), .v (.int .u64 lo), .v (.int .u64 hi)] = exS n lo hi from fun _ _ _ => rfl, vcPlus]
  have b1 := bor_01 l1 (l2 + 0)
  have b2 := bor_01 l2 (l1 + 0)
  refine sel_of (fun h => ?_) fun h => ?_
  · have h : n1 = n2 := by simpa using h
    obtain ⟨e1, e2⟩ := add_words p1 p2 p3 p4 hs
    refine ⟨⟨p1, p3, by decide, by decide⟩, ⟨p2, p4, by obtain ⟨_, _⟩ := p1; obtain ⟨_, _⟩ := p3; omega, by obtain ⟨_, _⟩ := p1; obtain ⟨_, _⟩ := p3; omega⟩, ex_mk ?_ ?_ ?_⟩
    · unfold plN; rw [if_pos h]
    · unfold plM; rw [if_pos h, e1]
    · unfold plM; rw [if_pos h, e2]
  · have h : ¬ n1 = n2 := fun e => by rw [e] at h; simp at h
    refine ⟨⟨⟨p1, p2⟩, p3, p4⟩, sel_of (fun h' => ?_) fun h' => ?_⟩
    · have h' : MM l1 h1 < MM l2 h2 := by
        have h' := of_decide_eq_true h'
        unfold cmpI at h'
        by_cases c : MM l1 h1 < MM l2 h2
        · exact c
        · rw [if_neg c] at h'; split at h' <;> omega
      obtain ⟨e1, e2⟩ := sub_words p3 p4 p1 p2 (Int.le_of_lt h')
      refine ⟨⟨p3, p1, by decide, by decide⟩, ⟨p4, p2, b2.1, b2.2⟩, ex_mk ?_ ?_ ?_⟩
      · unfold plN; rw [if_neg h, if_pos h']
      · unfold plM; rw [if_neg h, e1, iabs_comm]
      · unfold plM; rw [if_neg h, e2, iabs_comm]
    · have h' : ¬ MM l1 h1 < MM l2 h2 := fun c => by
        have h' := of_decide_eq_false h'
        unfold cmpI at h'
        rw [if_pos c] at h'
        omega
      obtain ⟨e1, e2⟩ := sub_words p1 p2 p3 p4 (by omega)
      refine ⟨⟨p1, p3, by decide, by decide⟩, ⟨p2, p4, b1.1, b1.2⟩, ex_mk ?_ ?_ ?_⟩
      · unfold plN; rw [if_neg h, if_neg h']
      · unfold plM; rw [if_neg h, e1]
      · unfold plM; rw [if_neg h, e2]
theorem wi_mk' {n n' : Bool} {lo lo' hi hi' : Int} (h1 : n = n') (h3 : hi = hi') (h2 : lo = lo') : SV.agg [.v (.bool n), .v (.int .u64 hi), .v (.int .u64 lo)] = wiS n' hi' lo' := wi_mk h1 h2 h3
theorem zero_words {m : Int} : (m / 18446744073709551616 = 0 ∧ m % 18446744073709551616 = 0) ↔ m = 0 := by omega
theorem RPlus_spec : PureSpec Try.prog 145 sRPlus := vc_spec hm ΓB_ok Try.func145 (Λ := fun _ => noΛ) fun args p x h hp => by
  unfold sRPlus at h
  split at h <;> try (cases h; done)
  rename_i n1 h1 l1 n2 h2 l2
  cases h
  obtain ⟨⟨p1, p2⟩, ⟨p3, p4⟩, hs⟩ := hp _ rfl
  refine ⟨rfl, rfl, ?_⟩
  rw [show ∀ n lo hi, SV.agg [.v (.bool n), .v (.int .u64 hi), .v (.int .u64 lo)] = wiS n hi lo from fun _ _ _ => rfl, show ∀ n lo hi, SV.agg [.v (.bool n), .v (.int .u64 hi), .v (.int .u64 lo)] = wiS n hi lo from fun _ _ _ => rfl, vcRPlus]
  have b1 := bor_01 l1 (l2 + 0)
  have b2 := bor_01 l2 (l1 + 0)
  refine sel_of (fun h => ?_) fun h => ⟨⟨p1, p3⟩, sel_of (fun h' => ?_) fun h' => ?_⟩
  · have h : n1 = n2 := by simpa using h
    obtain ⟨e1, e2⟩ := add_words p1 p2 p3 p4 hs
    refine ⟨⟨p1, p3, by decide, by decide⟩, ⟨p2, p4, by obtain ⟨_, _⟩ := p1; obtain ⟨_, _⟩ := p3; omega, by obtain ⟨_, _⟩ := p1; obtain ⟨_, _⟩ := p3; omega⟩, wi_mk' ?_ ?_ ?_⟩
    · unfold plZ; rw [if_pos h]
    · unfold plM; rw [if_pos h, e2]
    · unfold plM; rw [if_pos h, e1]
  · have h : ¬ n1 = n2 := fun e => by rw [e] at h; simp at h
    have h' : MM l1 h1 < MM l2 h2 := of_decide_eq_true h'
    obtain ⟨e1, e2⟩ := sub_words p3 p4 p1 p2 (Int.le_of_lt h')
    have hz := zero_words (m := iabs (MM l2 h2 - MM l1 h1))
    have hz' : iabs (MM l2 h2 - MM l1 h1) ≠ 0 := by unfold iabs; split <;> omega
    have s1 : plZ n1 (MM l1 h1) n2 (MM l2 h2) = n2 := by unfold plZ; rw [if_neg h, if_pos h']
    have s2 : plM n1 (MM l1 h1) n2 (MM l2 h2) = iabs (MM l2 h2 - MM l1 h1) := by unfold plM; rw [if_neg h, iabs_comm]
    refine ⟨⟨p3, p1, by decide, by decide⟩, ⟨p4, p2, b2.1, b2.2⟩, sel_of (fun g => sel_of (fun g' => ?_) fun g' => ?_) fun g => ?_⟩
    · exact wi_mk' (by rw [s1, g]) (by rw [s2, e2]) (by rw [s2, e1])
    · refine wi_mk' ?_ (by rw [s2, e2]) (by rw [s2, e1])
      rw [s1, g, e1]
      have g' : (h2 - h1 - bor l2 (l1 + 0)) % 18446744073709551616 = 0 := by simpa using g'
      rw [e2] at g'
      simp only [bne_iff_ne, ne_eq]
      exact fun e => hz' (hz.1 ⟨g', e⟩)
    · exact wi_mk' (by rw [s1, g]) (by rw [s2, e2]) (by rw [s2, e1])
  · have h : ¬ n1 = n2 := fun e => by rw [e] at h; simp at h
    have h' : ¬ MM l1 h1 < MM l2 h2 := of_decide_eq_false h'
    obtain ⟨e1, e2⟩ := sub_words p1 p2 p3 p4 (by omega)
    have hz := zero_words (m := iabs (MM l1 h1 - MM l2 h2))
    have hz' : iabs (MM l1 h1 - MM l2 h2) = 0 ↔ MM l1 h1 = MM l2 h2 := by unfold iabs; split <;> omega
    have s1 : plZ n1 (MM l1 h1) n2 (MM l2 h2) = (n1 && MM l1 h1 != MM l2 h2) := by unfold plZ; rw [if_neg h, if_neg h']
    have s2 : plM n1 (MM l1 h1) n2 (MM l2 h2) = iabs (MM l1 h1 - MM l2 h2) := by unfold plM; rw [if_neg h]
    refine ⟨⟨p1, p3, by decide, by decide⟩, ⟨p2, p4, b1.1, b1.2⟩, sel_of (fun g => sel_of (fun g' => ?_) fun g' => ?_) fun g => ?_⟩
    · refine wi_mk' ?_ (by rw [s2, e2]) (by rw [s2, e1])
      have g' : (h1 - h2 - bor l1 (l2 + 0)) % 18446744073709551616 ≠ 0 := by simpa using g'
      rw [e2] at g'
      rw [s1, g]
      exact (bne_iff_ne.2 fun e => g' (hz.2 (hz'.2 e)).1).symm
    · refine wi_mk' ?_ (by rw [s2, e2]) (by rw [s2, e1])
      have g' : (h1 - h2 - bor l1 (l2 + 0)) % 18446744073709551616 = 0 := by simpa using g'
      rw [e2] at g'
      rw [s1, g, e1]
      rw [Bool.true_and]
      by_cases c : MM l1 h1 = MM l2 h2
      · have := (hz.2 (hz'.2 c)).2
        rw [this, c, bne_self_eq_false, bne_self_eq_false]
      · have : iabs (MM l1 h1 - MM l2 h2) % 18446744073709551616 ≠ 0 := fun e => c (hz'.1 (hz.1 ⟨g', e⟩))
        rw [bne_iff_ne.2 this, bne_iff_ne.2 c]
    · exact wi_mk' (by rw [s1, g]; rfl) (by rw [s2, e2]) (by rw [s2, e1])
theorem ΓC_ok : ∀ f g, ΓC f = some g → g.ok Try.prog f := addCtr_ok (addCtr_ok (addCtr_ok (addCtr_ok (addCtr_ok ΓC1_ok (pure_ok Try.func140 (by kernel_rfl) (by kernel_rfl) Product_spec))
  (pure_ok Try.func141 (by kernel_rfl) (by kernel_rfl) Plus_spec)) (pure_ok Try.func146 (by kernel_rfl) (by kernel_rfl) Times_spec))
  (pure_ok Try.func137 (by kernel_rfl) (by kernel_rfl) RExact_spec)) (pure_ok Try.func145 (by kernel_rfl) (by kernel_rfl) RPlus_spec)
end Go.Proofs.Ytheljpebapokjaa
