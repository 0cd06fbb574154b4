/-
  WireNone: the plain part.
-/
import Derived.Test.YtjdldadmaaeimaaWiN
set_option maxRecDepth 100000
set_option linter.unusedSimpArgs false
set_option linter.unusedVariables false
namespace Go.Proofs.Ytjdldadmaaeimaa
open Go.SE Go.RowKit

def zfB : Blk := fdB false false true nilS
def sGiveN (args : List SV) (bs : List Blk) : Option Eff := match args with
  | [.v (.pointer none), .sl 0 1 0 n c] => match roOf bs with
    | some [r] => bif Nat.beq r.s 1 then some (.det none (.tup [nilS, iV 1]) []) else none
    | _ => none
  | [.vp 0 0, .sl 1 1 0 n c] => match bs with
    | [B, D] => match fdOf [B] with
      | some (.fresh false false true) => match roOf [D] with
        | some [r] => bif Nat.beq r.s 1 then some (.det none (.tup [nilS, iV 1]) [(0, zfB)]) else none
        | _ => none
      | _ => none
    | _ => none
  | _ => none
def sCopyN (args : List SV) (bs : List Blk) : Option Eff := match args with
  | [.v (.pointer none)] => match bs with
    | [] => some (.det none nilP [])
    | _ => none
  | [.vp 0 0] => match fdOf bs with
    | some (.fresh false false true) => some (.det none nilP [(0, zfB)])
    | _ => none
  | _ => none
def rowB (e n : Nat) (row : Nat → List SV) (x : Nat) (wh : Bool) : Blk := { elem := e, size := 1, rw := false, lock := false, lit := false, flat := true, n := n, row := row, ext := x, whole := wh }
theorem vcGiveN0 (q : Option Prop) (e m n c x : Nat) (row : Nat → List SV) (wh : Bool) : (vcFn Try.prog ΓN0 noΛ Try.f41 [nilP, .sl 0 1 0 n c] (heapOf [rowB e m row x wh]) 64 (fun y h' => FinE [rowB e m row x wh] (.det q (.tup [nilS, iV 1]) []) y h')) =
((((SV.v (Value.slice none 0 0)) = (SV.v (Value.slice none 0 0))) ∧ ((SV.v (Value.int IntKind.i64 1)) = (SV.v (Value.int IntKind.i64 1)))) ∧ True) := by kernel_rfl
theorem vcGiveN1 (q : Option Prop) (e m n c x : Nat) (row : Nat → List SV) (wh : Bool) : (vcFn Try.prog ΓN0 noΛ Try.f41 [.vp 0 0, .sl 1 1 0 n c] (heapOf [zfB, rowB e m row x wh]) 64 (fun y h' => FinE [zfB, rowB e m row x wh] (.det q (.tup [nilS, iV 1]) [(0, zfB)]) y h')) =
((fdP (FdS.fresh false false true)) ∧ ((((SV.v (Value.slice none 0 0)) = (SV.v (Value.slice none 0 0))) ∧ ((SV.v (Value.int IntKind.i64 1)) = (SV.v (Value.int IntKind.i64 1)))) ∧ (((1 : Nat) = 1) ∧ (((1 : Nat) ≤ 1) ∧ (∀ i : Nat, (((i : Nat) < 1) → ([(SV.v (Value.bool false)), (SV.v (Value.bool false)), (SV.v (Value.slice none 0 0))] = [(SV.v (Value.bool false)), (SV.v (Value.bool false)), (SV.v (Value.slice none 0 0))]))))))) := by kernel_rfl
theorem vcCopyN0 (q : Option Prop) : (vcFn Try.prog ΓN0 noΛ Try.f47 [nilP] (heapOf []) 64 (fun y h' => FinE [] (.det q nilP []) y h')) =
(((SV.v (Value.pointer none)) = (SV.v (Value.pointer none))) ∧ True) := by kernel_rfl
theorem vcCopyN1 (q : Option Prop) : (vcFn Try.prog ΓN0 noΛ Try.f47 [.vp 0 0] (heapOf [zfB]) 64 (fun y h' => FinE [zfB] (.det q nilP [(0, zfB)]) y h')) =
((fdP (FdS.fresh false false true)) ∧ (((SV.v (Value.pointer none)) = (SV.v (Value.pointer none))) ∧ (((1 : Nat) = 1) ∧ (((1 : Nat) ≤ 1) ∧ (∀ i : Nat, (((i : Nat) < 1) → ([(SV.v (Value.bool false)), (SV.v (Value.bool false)), (SV.v (Value.slice none 0 0))] = [(SV.v (Value.bool false)), (SV.v (Value.bool false)), (SV.v (Value.slice none 0 0))]))))))) := by kernel_rfl
def ΓP0 : Ctrs := addCtr (addCtr (addCtr (addCtr (addCtr noCtrs 41 (hpCtr true sGiveN)) 47 (hpCtr true sCopyN)) 42 (hpCtr true (sFd (iV 0) vHeld))) 44 (hpCtr true (sFd (bV false) vBroken))) 20 (pureCtr sAwake)
noncomputable def ΛNoneL : Nat → Option LoopSpec := addLoop noΛ Try.f11 0 Nat (fun i => i ≤ 2) (fun i => 2 - i) [(3, fun i => .v (.int .i64 i))] []
def sNoneL : List SV → List Ro → Option (Option Prop × SV)
  | [.sl 0 1 0 n c], [⟨1, m, row⟩] => some (some (m = n), bV true)
  | _, _ => none
theorem vcNoneL (n c : Nat) (row : Nat → List SV) (R : SV → Prop) : (vcFn Try.prog ΓP0 ΛNoneL Try.f11 [.sl 0 1 0 n c] (roHeap [⟨1, n, row⟩]) 64 (fun y _ => R y)) =
((∃ x : Nat, ((Nat.le x 2) ∧ (((SV.v (Value.int IntKind.i64 0)) = (SV.v (Value.int IntKind.i64 ((↑x : Int))))) ∧ True))) ∧ (∀ x : Nat, ((Nat.le x 2) → 
(sel (decide ((↑x : Int) < 2)) 
(sel ((↑x : Int) == 1) ((fdP (FdS.fresh false false true)) ∧ ((fdP (FdS.fresh false false true)) ∧ (∃ x' : Nat, (((Nat.le x' 2) ∧ (((SV.v (Value.int IntKind.i64 (IntKind.wrap IntKind.i64 ((↑x : Int) + 1)))) = (SV.v (Value.int IntKind.i64 ((↑x' : Int))))) ∧ True)) ∧ (((2 - x') : Nat) < (2 - x)))))) (∃ x' : Nat, (((Nat.le x' 2) ∧ (((SV.v (Value.int IntKind.i64 (IntKind.wrap IntKind.i64 ((↑x : Int) + 1)))) = (SV.v (Value.int IntKind.i64 ((↑x' : Int))))) ∧ True)) ∧ (((2 - x') : Nat) < (2 - x))))) (R (SV.v (Value.bool true))))))) := by kernel_rfl
theorem ro_same {D : Blk} {r : Ro} (h : roOf [D] = some [r]) (hs : Nat.beq r.s 1 = true) : BlkSame D (rowB D.elem D.n D.row D.ext D.whole) := by
  simp only [roOf] at h
  cases hb : (D.rw || D.dead || !D.flat) with
  | true => rw [hb] at h; cases h
  | false =>
    rw [hb] at h
    cases h
    simp only [Bool.or_eq_false_iff, Bool.not_eq_false'] at hb
    exact ⟨Nat.eq_of_beq_eq_true hs, hb.1.1, hb.2, rfl, rfl, hb.1.2, rfl, rfl, fun _ _ => rfl⟩
theorem ro_one {bs : List Blk} {r : Ro} (h : roOf bs = some [r]) : ∃ D, bs = [D] := by
  cases bs with
  | nil => cases h
  | cons D bs =>
    cases bs with
    | nil => exact ⟨D, rfl⟩
    | cons E bs =>
      simp only [roOf] at h
      cases hb : (D.rw || D.dead || !D.flat) with
      | true => rw [hb] at h; cases h
      | false =>
        rw [hb] at h
        cases hc : (E.rw || E.dead || !E.flat) with
        | true => rw [hc] at h; cases h
        | false =>
          rw [hc] at h
          cases hr : roOf bs with
          | none => rw [hr] at h; cases h
          | some l => rw [hr] at h; cases h
theorem GiveN_spec : HpSpec Try.prog 41 sGiveN := hp_spec hm ΓN0_ok Try.func41 (Λ := fun _ _ => noΛ) fun args bs e hs hp => by
  unfold sGiveN at hs
  split at hs
  · split at hs
    · rename_i r hr
      obtain ⟨D, rfl⟩ := ro_one hr
      obtain ⟨h1, h2⟩ := bif_some hs
      subst h2
      refine ⟨[rowB D.elem D.n D.row D.ext D.whole], ⟨ro_same hr h1, trivial⟩, ?_⟩
      rw [vcGiveN0]
      exact ⟨⟨rfl, rfl⟩, trivial⟩
    · cases hs
  · split at hs
    · rename_i B D
      split at hs
      · rename_i hB
        split at hs
        · rename_i r hr
          obtain ⟨h1, h2⟩ := bif_some hs
          subst h2
          refine ⟨[zfB, rowB D.elem D.n D.row D.ext D.whole], ⟨(fdOf_same hB trivial).1, ro_same hr h1, trivial⟩, ?_⟩
          rw [vcGiveN1]
          exact ⟨trivial, ⟨rfl, rfl⟩, rfl, Nat.le_refl _, fun _ _ => rfl⟩
        · cases hs
      · cases hs
    · cases hs
  · cases hs
theorem CopyN_spec : HpSpec Try.prog 47 sCopyN := hp_spec hm ΓN0_ok Try.func47 (Λ := fun _ _ => noΛ) fun args bs e hs hp => by
  unfold sCopyN at hs
  split at hs
  · split at hs
    · have he := Option.some.inj hs
      subst he
      refine ⟨[], trivial, ?_⟩
      rw [vcCopyN0]
      exact ⟨rfl, trivial⟩
    · cases hs
  · split at hs
    · rename_i hB
      have he := Option.some.inj hs
      subst he
      refine ⟨[zfB], fdOf_same hB trivial, ?_⟩
      rw [vcCopyN1]
      exact ⟨trivial, rfl, rfl, Nat.le_refl _, fun _ _ => rfl⟩
    · cases hs
  · cases hs
theorem ΓP0_ok : ∀ f g, ΓP0 f = some g → g.ok Try.prog f := addCtr_ok (addCtr_ok (addCtr_ok (addCtr_ok (addCtr_ok noCtrs_ok (hp_ok Try.func41 (by kernel_rfl) (by kernel_rfl) GiveN_spec)) (hp_ok Try.func47 (by kernel_rfl) (by kernel_rfl) CopyN_spec)) (hp_ok Try.func42 (by kernel_rfl) (by kernel_rfl) Held_spec)) (hp_ok Try.func44 (by kernel_rfl) (by kernel_rfl) Broken_spec)) (pure_ok Try.func20 (by kernel_rfl) (by kernel_rfl) Awake0_spec)
theorem NoneL_spec : RoSpec Try.prog 11 sNoneL := ro_spec hm ΓP0_ok Try.func11 (Λ := fun _ _ => ΛNoneL) fun args bs p x hs hp => by
  unfold sNoneL at hs
  split at hs
  · rename_i n c m row
    cases hs
    have hm : m = n := hp _ rfl
    subst hm
    refine ⟨rfl, [⟨1, m, row⟩], roSame_refl _, ?_⟩
    rw [vcNoneL]
    refine ⟨⟨0, Nat.zero_le _, rfl, trivial⟩, fun x hx => sel_of (fun hlt => ?_) fun _ => rfl⟩
    have hlt : x < 2 := by have := of_decide_eq_true hlt; omega
    have hw : IntKind.i64.wrap ((x : Int) + 1) = ((x + 1 : Nat) : Int) := wrap_i64 ⟨by omega, by omega⟩
    have nxt : ∃ x' : Nat, (((Nat.le x' 2) ∧ (((SV.v (Value.int IntKind.i64 (IntKind.i64.wrap ((x : Int) + 1)))) = (SV.v (Value.int IntKind.i64 ((x' : Int))))) ∧ True)) ∧ (((2 - x') : Nat) < (2 - x))) := ⟨x + 1, ⟨hlt, by rw [hw], trivial⟩, by omega⟩
    exact sel_of (fun _ => ⟨trivial, trivial, nxt⟩) fun _ => nxt
  · cases hs
end Go.Proofs.Ytjdldadmaaeimaa
