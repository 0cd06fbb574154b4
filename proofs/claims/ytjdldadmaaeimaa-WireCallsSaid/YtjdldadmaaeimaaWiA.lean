/-
  Contracts: the names of the kinds.
-/
import Derived.Test.YtjdldadmaaeimaaRows
import Derived.Test.YtjdldadmaaeimaaSeRec
import Derived.Test.YtjdldadmaaeimaaFxA
set_option maxRecDepth 100000
set_option linter.unusedSimpArgs false
set_option linter.unusedVariables false
namespace Go.Proofs.Ytjdldadmaaeimaa
open Go.SE Go.RowKit

/-- The names, from kind 1 on. -/
def nmA : List ByteArray := [⟨#[115, 112, 97, 119, 110]⟩, ⟨#[100, 101, 115, 116, 114, 111, 121]⟩, ⟨#[112, 117, 115, 104]⟩, ⟨#[103, 114, 97, 98]⟩, ⟨#[100, 114, 97, 103]⟩, ⟨#[114, 101, 108, 101, 97, 115, 101]⟩, ⟨#[108, 111, 111, 107]⟩, ⟨#[110, 101, 97, 114]⟩, ⟨#[114, 97, 121]⟩, ⟨#[99, 111, 117, 110, 116]⟩]
def emp : ByteArray := ⟨#[]⟩
def nmG (i : Nat) : ByteArray := nmA.getD i emp
/-- The name of a kind. -/
def nameK (k : Int) : ByteArray := bif decide (1 ≤ k) && decide (k ≤ 10) then nmG (k.toNat - 1) else emp
/-- The kind with a name, from the names behind the first i on. -/
def kindFrom (s : ByteArray) : List ByteArray → Int → Int
  | [], _ => 0
  | x :: rest, i => bif x == s then i else kindFrom s rest (i + 1)
def kindS (s : ByteArray) : Int := kindFrom s nmA 1

def strS (s : ByteArray) : SV := .v (.string s)
def sNames : List SV → Option (Option Prop × SV)
  | [] => some (none, .agg (nmA.map strS))
  | _ => none
def sName : List SV → Option (Option Prop × SV)
  | [.v (.int .i64 k)] => some (some (-9223372036854775808 ≤ k ∧ k < 9223372036854775808), strS (nameK k))
  | _ => none
def sKind : List SV → Option (Option Prop × SV)
  | [.v (.string s)] => some (none, .v (.int .i64 (kindS s)))
  | _ => none
def nmB : Blk := { elem := 9, size := 1, rw := true, lock := false, lit := false, flat := true, n := 11, row := fun i => [strS ((emp :: nmA).getD i emp)], ext := 11 }
def sRNames : List SV → List Blk → Option Eff
  | [], [] => some (.det none (.sl 1000 1 0 11 11) [(1000, nmB)])
  | _, _ => none
def ΓW0 : Ctrs := addCtr (addCtr noCtrs 57 (pureCtr sNames)) 58 (hpCtr true sRNames)
theorem vcNames (R : SV → Prop) : (vcPure Try.prog noCtrs noΛ Try.f57 [] R) =
(R (SV.agg [(SV.v (Value.string ({ data := #[115, 112, 97, 119, 110] }))), (SV.v (Value.string ({ data := #[100, 101, 115, 116, 114, 111, 121] }))), (SV.v (Value.string ({ data := #[112, 117, 115, 104] }))), (SV.v (Value.string ({ data := #[103, 114, 97, 98] }))), (SV.v (Value.string ({ data := #[100, 114, 97, 103] }))), (SV.v (Value.string ({ data := #[114, 101, 108, 101, 97, 115, 101] }))), (SV.v (Value.string ({ data := #[108, 111, 111, 107] }))), (SV.v (Value.string ({ data := #[110, 101, 97, 114] }))), (SV.v (Value.string ({ data := #[114, 97, 121] }))), (SV.v (Value.string ({ data := #[99, 111, 117, 110, 116] })))])) := by kernel_rfl
theorem vcRNames  : (vcFn Try.prog noCtrs noΛ Try.f58 [] (heapOf []) 64 (fun y h' => FinE [] (.det none (.sl 1000 1 0 11 11) [(1000, nmB)]) y h')) =
(((SV.sl 72 1 0 11 11) = (SV.sl 72 1 0 11 11)) ∧ (((11 : Nat) = 11) ∧ (((11 : Nat) ≤ 11) ∧ (∀ i : Nat, (((i : Nat) < 11) → ([(SV.v (Value.string (bop (Nat.beq i 0) { data := #[] } (bop (Nat.beq i 1) { data := #[115, 112, 97, 119, 110] } (bop (Nat.beq i 2) { data := #[100, 101, 115, 116, 114, 111, 121] } (bop (Nat.beq i 3) { data := #[112, 117, 115, 104] } (bop (Nat.beq i 4) { data := #[103, 114, 97, 98] } (bop (Nat.beq i 5) { data := #[100, 114, 97, 103] } (bop (Nat.beq i 6) { data := #[114, 101, 108, 101, 97, 115, 101] } (bop (Nat.beq i 7) { data := #[108, 111, 111, 107] } (bop (Nat.beq i 8) { data := #[110, 101, 97, 114] } (bop (Nat.beq i 9) { data := #[114, 97, 121] } { data := #[99, 111, 117, 110, 116] }))))))))))))] = [(SV.v (Value.string (List.getD (emp :: nmA) i emp)))])))))) := by kernel_rfl
noncomputable def ΛName (k : Int) : Nat → Option LoopSpec := addLoop noΛ Try.f16 0 Nat (fun i => i ≤ 10 ∧ ∀ j : Nat, j < i → (j : Int) + 1 ≠ k) (fun i => 10 - i) [(6, fun i => .v (.int .i64 i))] []
theorem vcName (k : Int) (R : SV → Prop) : (vcPure Try.prog ΓW0 (ΛName k) Try.f16 [.v (.int .i64 k)] R) =
((∃ x : Nat, ((((x : Nat) ≤ 10) ∧ (∀ j : Nat, (((j : Nat) < x) → ((((↑j : Int) + 1) : Int) ≠ k)))) ∧ (((SV.v (Value.int IntKind.i64 0)) = (SV.v (Value.int IntKind.i64 ((↑x : Int))))) ∧ True))) ∧ (∀ x : Nat, ((((x : Nat) ≤ 10) ∧ (∀ j : Nat, (((j : Nat) < x) → ((((↑j : Int) + 1) : Int) ≠ k)))) → 
(sel (decide ((↑x : Int) < 10)) ((((0 : Int) ≤ ((↑x : Int))) ∧ ((((↑x : Int)) : Int) < 10)) ∧ 
(sel (IntKind.wrap IntKind.i64 ((↑x : Int) + 1) == k) (R (SV.v (Value.string (bop (Nat.beq (Int.toNat (↑x : Int)) 0) { data := #[115, 112, 97, 119, 110] } (bop (Nat.beq (Int.toNat (↑x : Int)) 1) { data := #[100, 101, 115, 116, 114, 111, 121] } (bop (Nat.beq (Int.toNat (↑x : Int)) 2) { data := #[112, 117, 115, 104] } (bop (Nat.beq (Int.toNat (↑x : Int)) 3) { data := #[103, 114, 97, 98] } (bop (Nat.beq (Int.toNat (↑x : Int)) 4) { data := #[100, 114, 97, 103] } (bop (Nat.beq (Int.toNat (↑x : Int)) 5) { data := #[114, 101, 108, 101, 97, 115, 101] } (bop (Nat.beq (Int.toNat (↑x : Int)) 6) { data := #[108, 111, 111, 107] } (bop (Nat.beq (Int.toNat (↑x : Int)) 7) { data := #[110, 101, 97, 114] } (bop (Nat.beq (Int.toNat (↑x : Int)) 8) { data := #[114, 97, 121] } { data := #[99, 111, 117, 110, 116] })))))))))))) (∃ x' : Nat, (((((x' : Nat) ≤ 10) ∧ (∀ j : Nat, (((j : Nat) < x') → ((((↑j : Int) + 1) : Int) ≠ k)))) ∧ (((SV.v (Value.int IntKind.i64 (IntKind.wrap IntKind.i64 ((↑x : Int) + 1)))) = (SV.v (Value.int IntKind.i64 ((↑x' : Int))))) ∧ True)) ∧ (((10 - x') : Nat) < (10 - x)))))) (R (SV.v (Value.string ({ data := #[] })))))))) := by kernel_rfl
theorem vcRName (k : Int) (R : SV → Prop) : (vcPure Try.prog ΓW0 noΛ Try.f17 [.v (.int .i64 k)] R) =

(sel (decide (k < 0)) (R (SV.v (Value.string ({ data := #[] })))) 
(sel (decide (k ≥ 11)) (R (SV.v (Value.string ({ data := #[] })))) ((((0 : Int) ≤ k) ∧ ((k : Int) < 11)) ∧ (R (SV.v (Value.string (List.getD (emp :: nmA) (0 + Int.toNat k) emp))))))) := by kernel_rfl
noncomputable def ΛKind (s : ByteArray) : Nat → Option LoopSpec := addLoop noΛ Try.f18 0 Nat (fun i => i ≤ 10 ∧ ∀ j, j < i → (nmG j == s) = false) (fun i => 10 - i) [(6, fun i => .v (.int .i64 i))] []
theorem vcKind (s : ByteArray) (R : SV → Prop) : (vcPure Try.prog ΓW0 (ΛKind s) Try.f18 [.v (.string s)] R) =
((∃ x : Nat, ((((x : Nat) ≤ 10) ∧ (∀ j : Nat, (((j : Nat) < x) → ((nmG j == s) = false)))) ∧ (((SV.v (Value.int IntKind.i64 0)) = (SV.v (Value.int IntKind.i64 ((↑x : Int))))) ∧ True))) ∧ (∀ x : Nat, ((((x : Nat) ≤ 10) ∧ (∀ j : Nat, (((j : Nat) < x) → ((nmG j == s) = false)))) → 
(sel (decide ((↑x : Int) < 10)) ((((0 : Int) ≤ ((↑x : Int))) ∧ ((((↑x : Int)) : Int) < 10)) ∧ 
(sel (bop (Nat.beq (Int.toNat (↑x : Int)) 0) { data := #[115, 112, 97, 119, 110] } (bop (Nat.beq (Int.toNat (↑x : Int)) 1) { data := #[100, 101, 115, 116, 114, 111, 121] } (bop (Nat.beq (Int.toNat (↑x : Int)) 2) { data := #[112, 117, 115, 104] } (bop (Nat.beq (Int.toNat (↑x : Int)) 3) { data := #[103, 114, 97, 98] } (bop (Nat.beq (Int.toNat (↑x : Int)) 4) { data := #[100, 114, 97, 103] } (bop (Nat.beq (Int.toNat (↑x : Int)) 5) { data := #[114, 101, 108, 101, 97, 115, 101] } (bop (Nat.beq (Int.toNat (↑x : Int)) 6) { data := #[108, 111, 111, 107] } (bop (Nat.beq (Int.toNat (↑x : Int)) 7) { data := #[110, 101, 97, 114] } (bop (Nat.beq (Int.toNat (↑x : Int)) 8) { data := #[114, 97, 121] } { data := #[99, 111, 117, 110, 116] })))))))) == s) (R (SV.v (Value.int IntKind.i64 (IntKind.wrap IntKind.i64 ((↑x : Int) + 1))))) (∃ x' : Nat, (((((x' : Nat) ≤ 10) ∧ (∀ j : Nat, (((j : Nat) < x') → ((nmG j == s) = false)))) ∧ (((SV.v (Value.int IntKind.i64 (IntKind.wrap IntKind.i64 ((↑x : Int) + 1)))) = (SV.v (Value.int IntKind.i64 ((↑x' : Int))))) ∧ True)) ∧ (((10 - x') : Nat) < (10 - x)))))) (R (SV.v (Value.int IntKind.i64 0))))))) := by kernel_rfl
noncomputable def ΛRKind (s : ByteArray) : Nat → Option LoopSpec := addLoop noΛ Try.f19 0 Nat (fun i => (1 ≤ i ∧ i ≤ 11) ∧ ∀ j, j + 1 < i → (nmG j == s) = false) (fun i => 11 - i) [(4, fun i => .v (.int .i64 i))] []
theorem vcRKind (s : ByteArray) (R : SV → Prop) : (vcPure Try.prog ΓW0 (ΛRKind s) Try.f19 [.v (.string s)] R) =
((∃ x : Nat, (((((1 : Nat) ≤ x) ∧ ((x : Nat) ≤ 11)) ∧ (∀ j : Nat, ((((j + 1) : Nat) < x) → ((nmG j == s) = false)))) ∧ (((SV.v (Value.int IntKind.i64 1)) = (SV.v (Value.int IntKind.i64 ((↑x : Int))))) ∧ True))) ∧ (∀ x : Nat, (((((1 : Nat) ≤ x) ∧ ((x : Nat) ≤ 11)) ∧ (∀ j : Nat, ((((j + 1) : Nat) < x) → ((nmG j == s) = false)))) → 
(sel (decide ((↑x : Int) < 11)) ((((0 : Int) ≤ ((↑x : Int))) ∧ ((((↑x : Int)) : Int) < 11)) ∧ 
(sel (List.getD (emp :: nmA) (0 + Int.toNat (↑x : Int)) emp == s) (R (SV.v (Value.int IntKind.i64 ((↑x : Int))))) (∃ x' : Nat, ((((((1 : Nat) ≤ x') ∧ ((x' : Nat) ≤ 11)) ∧ (∀ j : Nat, ((((j + 1) : Nat) < x') → ((nmG j == s) = false)))) ∧ (((SV.v (Value.int IntKind.i64 (IntKind.wrap IntKind.i64 ((↑x : Int) + 1)))) = (SV.v (Value.int IntKind.i64 ((↑x' : Int))))) ∧ True)) ∧ (((11 - x') : Nat) < (11 - x)))))) (R (SV.v (Value.int IntKind.i64 0))))))) := by kernel_rfl
def pk (x : Nat) : ByteArray := (bop (Nat.beq x 0) ⟨#[115, 112, 97, 119, 110]⟩ (bop (Nat.beq x 1) ⟨#[100, 101, 115, 116, 114, 111, 121]⟩ (bop (Nat.beq x 2) ⟨#[112, 117, 115, 104]⟩ (bop (Nat.beq x 3) ⟨#[103, 114, 97, 98]⟩ (bop (Nat.beq x 4) ⟨#[100, 114, 97, 103]⟩ (bop (Nat.beq x 5) ⟨#[114, 101, 108, 101, 97, 115, 101]⟩ (bop (Nat.beq x 6) ⟨#[108, 111, 111, 107]⟩ (bop (Nat.beq x 7) ⟨#[110, 101, 97, 114]⟩ (bop (Nat.beq x 8) ⟨#[114, 97, 121]⟩ ⟨#[99, 111, 117, 110, 116]⟩)))))))))
theorem pick_nm {x : Nat} (h : x < 10) : pk x = nmG x := by
  have : x = 0 ∨ x = 1 ∨ x = 2 ∨ x = 3 ∨ x = 4 ∨ x = 5 ∨ x = 6 ∨ x = 7 ∨ x = 8 ∨ x = 9 := by omega
  rcases this with rfl | rfl | rfl | rfl | rfl | rfl | rfl | rfl | rfl | rfl <;> rfl
def pk1 (x : Nat) : ByteArray := (bop (Nat.beq x 0) ⟨#[]⟩ (bop (Nat.beq x 1) ⟨#[115, 112, 97, 119, 110]⟩ (bop (Nat.beq x 2) ⟨#[100, 101, 115, 116, 114, 111, 121]⟩ (bop (Nat.beq x 3) ⟨#[112, 117, 115, 104]⟩ (bop (Nat.beq x 4) ⟨#[103, 114, 97, 98]⟩ (bop (Nat.beq x 5) ⟨#[100, 114, 97, 103]⟩ (bop (Nat.beq x 6) ⟨#[114, 101, 108, 101, 97, 115, 101]⟩ (bop (Nat.beq x 7) ⟨#[108, 111, 111, 107]⟩ (bop (Nat.beq x 8) ⟨#[110, 101, 97, 114]⟩ (bop (Nat.beq x 9) ⟨#[114, 97, 121]⟩ ⟨#[99, 111, 117, 110, 116]⟩))))))))))
theorem pick_nm1 {x : Nat} (h : x < 11) : pk1 x = (emp :: nmA).getD x emp := by
  have : x = 0 ∨ x = 1 ∨ x = 2 ∨ x = 3 ∨ x = 4 ∨ x = 5 ∨ x = 6 ∨ x = 7 ∨ x = 8 ∨ x = 9 ∨ x = 10 := by omega
  rcases this with rfl | rfl | rfl | rfl | rfl | rfl | rfl | rfl | rfl | rfl | rfl <;> rfl
theorem kindFrom_get {s : ByteArray} : ∀ {l : List ByteArray} {x : Nat} (i : Int), x < l.length → (∀ j, j < x → (l.getD j emp == s) = false) → (l.getD x emp == s) = true → kindFrom s l i = i + x
  | [], x, i, h, _, _ => by simp at h
  | b :: l, 0, i, _, _, h => by
    have h : (b == s) = true := by simpa using h
    simp [kindFrom, h]
  | b :: l, x + 1, i, hx, hn, h => by
    have h0 : (b == s) = false := by simpa using hn 0 (by omega)
    have := kindFrom_get (s := s) (l := l) (x := x) (i + 1) (by simpa using hx) (fun j hj => by simpa using hn (j + 1) (by omega)) (by simpa using h)
    simp only [kindFrom, h0, cond_false, this]
    omega
theorem kindFrom_none {s : ByteArray} : ∀ {l : List ByteArray} (i : Int), (∀ j, j < l.length → (l.getD j emp == s) = false) → kindFrom s l i = 0
  | [], i, _ => rfl
  | b :: l, i, hn => by
    have h0 : (b == s) = false := by simpa using hn 0 (by simp)
    simp only [kindFrom, h0, cond_false]
    exact kindFrom_none (i + 1) fun j hj => by simpa using hn (j + 1) (by simpa using hj)
theorem Names_spec : PureSpec Try.prog 57 sNames := vc_spec hm noCtrs_ok Try.func57 (Λ := fun _ => noΛ) fun args p x h hp => by
  unfold sNames at h
  split at h <;> try (cases h; done)
  cases h
  refine ⟨rfl, rfl, ?_⟩
  exact Eq.mpr (vcNames _) rfl
theorem RNames_spec : HpSpec Try.prog 58 sRNames := hp_spec hm noCtrs_ok Try.func58 (Λ := fun _ _ => noΛ) fun args bs e hs hp => by
  unfold sRNames at hs
  split at hs <;> try (cases hs; done)
  cases hs
  refine ⟨[], trivial, Eq.mpr vcRNames ?_⟩
  refine ⟨rfl, rfl, Nat.le_refl _, fun i hi => ?_⟩
  exact congrArg (fun b => [SV.v (.string b)]) (pick_nm1 hi)
theorem ΓW0_ok : ∀ f g, ΓW0 f = some g → g.ok Try.prog f := addCtr_ok (addCtr_ok noCtrs_ok (pure_ok Try.func57 (by kernel_rfl) (by kernel_rfl) Names_spec)) (hp_ok Try.func58 (by kernel_rfl) (by kernel_rfl) RNames_spec)
theorem nameK_in {k : Int} {x : Nat} (hx : x < 10) (h : (x : Int) + 1 = k) : nameK k = nmG x := by
  subst h
  unfold nameK
  rw [show (decide (1 ≤ (x : Int) + 1) && decide ((x : Int) + 1 ≤ 10)) = true by simp; omega, cond_true, show ((x : Int) + 1).toNat - 1 = x by omega]
theorem nameK_out {k : Int} (h : k < 1 ∨ 10 < k) : nameK k = emp := by
  unfold nameK
  rw [show (decide (1 ≤ k) && decide (k ≤ 10)) = false by simp; omega]
  rfl
theorem Name_spec : PureSpec Try.prog 16 sName := vc_spec hm ΓW0_ok Try.func16 (Λ := fun args => match args with | [.v (.int _ k)] => ΛName k | _ => noΛ) fun args p x h hp => by
  unfold sName at h
  split at h <;> try (cases h; done)
  rename_i k
  cases h
  have hk := hp _ rfl
  refine ⟨rfl, rfl, ?_⟩
  refine Eq.mpr (vcName k _) ⟨⟨0, ⟨by omega, fun j hj => by omega⟩, rfl, trivial⟩, fun x ⟨hx, hn⟩ => sel_of (fun hlt => ?_) fun hge => ?_⟩
  · have hlt : x < 10 := by have := of_decide_eq_true hlt; omega
    have hw : IntKind.i64.wrap ((x : Int) + 1) = x + 1 := wrap_i64 ⟨by omega, by omega⟩
    rw [hw]
    refine ⟨⟨by omega, by omega⟩, sel_of (fun he => ?_) fun he => ?_⟩
    · have he : (x : Int) + 1 = k := by simpa using he
      rw [nameK_in hlt he]
      exact congrArg (fun b => SV.v (.string b)) (pick_nm (x := Int.toNat (x : Int)) (by omega))
    · have he : (x : Int) + 1 ≠ k := by simpa using he
      refine ⟨x + 1, ⟨⟨hlt, fun j hj => ?_⟩, rfl, trivial⟩, by omega⟩
      by_cases h : j = x
      · rw [h]; exact he
      · exact hn j (by omega)
  · have hge : ¬ x < 10 := by have := of_decide_eq_false hge; omega
    rw [nameK_out]
    · rfl
    · have : x = 10 := by omega
      subst this
      by_cases h : 1 ≤ k ∧ k ≤ 10
      · exact absurd (show ((k.toNat - 1 : Nat) : Int) + 1 = k by omega) (hn (k.toNat - 1) (by omega))
      · omega
theorem RName_spec : PureSpec Try.prog 17 sName := vc_spec hm ΓW0_ok Try.func17 (Λ := fun _ => noΛ) fun args p x h hp => by
  unfold sName at h
  split at h <;> try (cases h; done)
  rename_i k
  cases h
  refine ⟨rfl, rfl, ?_⟩
  refine Eq.mpr (vcRName k _) (sel_of (fun h => ?_) fun h => sel_of (fun h' => ?_) fun h' => ?_)
  · have h : k < 0 := by simpa using h
    rw [nameK_out (by omega)]; rfl
  · have h : 11 ≤ k := by simpa using h'
    rw [nameK_out (by omega)]; rfl
  · have h : 0 ≤ k := by simpa using h
    have h' : k < 11 := by simpa using h'
    refine ⟨⟨h, h'⟩, ?_⟩
    rw [Nat.zero_add]
    by_cases h0 : k = 0
    · subst h0; rfl
    · obtain ⟨x, rfl⟩ : ∃ x : Nat, k = (x : Int) + 1 := ⟨(k - 1).toNat, by omega⟩
      rw [nameK_in (by omega) rfl, show ((x : Int) + 1).toNat = x + 1 by omega]
      rfl
theorem Kind_spec : PureSpec Try.prog 18 sKind := vc_spec hm ΓW0_ok Try.func18 (Λ := fun args => match args with | [.v (.string s)] => ΛKind s | _ => noΛ) fun args p x h hp => by
  unfold sKind at h
  split at h <;> try (cases h; done)
  rename_i s
  cases h
  refine ⟨rfl, rfl, ?_⟩
  refine Eq.mpr (vcKind s _) ⟨⟨0, ⟨by omega, fun j hj => by omega⟩, rfl, trivial⟩, fun x ⟨hx, hn⟩ => sel_of (fun hlt => ?_) fun hge => ?_⟩
  · have hlt : x < 10 := by have := of_decide_eq_true hlt; omega
    have hw : IntKind.i64.wrap ((x : Int) + 1) = x + 1 := wrap_i64 ⟨by omega, by omega⟩
    rw [hw]
    have hp : pk (Int.toNat (x : Int)) = nmG x := pick_nm hlt
    refine ⟨⟨by omega, by omega⟩, sel_of (fun he => ?_) fun he => ?_⟩
    · have he : (pk (Int.toNat (x : Int)) == s) = true := he
      rw [hp] at he
      rw [show kindS s = 1 + (x : Int) from kindFrom_get (l := nmA) 1 hlt hn he, Int.add_comm]
    · have he : (pk (Int.toNat (x : Int)) == s) = false := he
      rw [hp] at he
      refine ⟨x + 1, ⟨⟨hlt, fun j hj => ?_⟩, rfl, trivial⟩, by omega⟩
      by_cases h : j = x
      · rw [h]; exact he
      · exact hn j (by omega)
  · have hge : ¬ x < 10 := by have := of_decide_eq_false hge; omega
    have : x = 10 := by omega
    subst this
    rw [show kindS s = 0 from kindFrom_none (l := nmA) 1 hn]
theorem RKind_spec : PureSpec Try.prog 19 sKind := vc_spec hm ΓW0_ok Try.func19 (Λ := fun args => match args with | [.v (.string s)] => ΛRKind s | _ => noΛ) fun args p x h hp => by
  unfold sKind at h
  split at h <;> try (cases h; done)
  rename_i s
  cases h
  refine ⟨rfl, rfl, ?_⟩
  refine Eq.mpr (vcRKind s _) ⟨⟨1, ⟨⟨by omega, by omega⟩, fun j hj => by omega⟩, rfl, trivial⟩, fun x ⟨⟨h1, hx⟩, hn⟩ => sel_of (fun hlt => ?_) fun hge => ?_⟩
  · have hlt : x < 11 := by have := of_decide_eq_true hlt; omega
    have hw : IntKind.i64.wrap ((x : Int) + 1) = x + 1 := wrap_i64 ⟨by omega, by omega⟩
    rw [hw]
    obtain ⟨y, rfl⟩ : ∃ y, x = y + 1 := ⟨x - 1, by omega⟩
    have hp : (emp :: nmA).getD (0 + Int.toNat ((y + 1 : Nat) : Int)) emp = nmG y := by
      rw [Int.toNat_natCast, Nat.zero_add]; rfl
    rw [hp]
    refine ⟨⟨by omega, by omega⟩, sel_of (fun he => ?_) fun he => ?_⟩
    · rw [show kindS s = 1 + (y : Int) from kindFrom_get (l := nmA) 1 (by simp [nmA]; omega) (fun j hj => hn j (by omega)) he]
      exact congrArg (fun k => SV.v (.int .i64 k)) (by omega)
    · refine ⟨y + 1 + 1, ⟨⟨⟨by omega, hlt⟩, fun j hj => ?_⟩, rfl, trivial⟩, by omega⟩
      by_cases h : j = y
      · rw [h]; exact he
      · exact hn j (by omega)
  · have hge : ¬ x < 11 := by have := of_decide_eq_false hge; omega
    have : x = 11 := by omega
    subst this
    rw [show kindS s = 0 from kindFrom_none (l := nmA) 1 fun j hj => hn j (by simp [nmA] at hj; omega)]
end Go.Proofs.Ytjdldadmaaeimaa
