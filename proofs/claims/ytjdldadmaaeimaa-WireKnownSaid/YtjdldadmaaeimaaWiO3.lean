/-
  Contracts: Give, NewFeed, Copy, sameStrings.
-/
import Derived.Test.YtjdldadmaaeimaaWiO2
set_option maxRecDepth 100000
set_option linter.unusedSimpArgs false
set_option linter.unusedVariables false
namespace Go.Proofs.Ytjdldadmaaeimaa
open Go.SE Go.RowKit

def sNewFeed (args : List SV) (bs : List Blk) : Option Eff := match args, bs with
  | [], [] => some (.det none (.vp 1000 0) [(1000, fdB true false true nilS)])
  | _, _ => none
def copyE (q : Prop) : Eff := .nd q Nat 0 (fun _ => .vp 1000 0) fun c => [(0, fdB true false true nilS), (1000, fdB true false false (.sl 1001 1 0 0 c)), (1001, bG 0 (fun _ => 0) c)]
def sCopyV (args : List SV) (bs : List Blk) : Option Eff := match args with
  | [.vp 0 0] => match fdOf bs with
    | some (.fresh true false true) => some (copyE True)
    | _ => none
  | _ => none
def strRow (r : List SV) : ByteArray := match r with
  | [.v (.string s)] => s
  | _ => emp
def isStrR (r : List SV) : Prop := match r with
  | [.v (.string _)] => True
  | _ => False
def sameStr (n m : Nat) (S S' : Nat → ByteArray) : Bool := Nat.beq n m && (List.range n).all fun i => S i == S' i
def sSameStr : List SV → List Ro → Option (Option Prop × SV)
  | [.sl 0 1 0 n _, .sl 1 1 0 m _], [⟨1, n', ra⟩, ⟨1, m', rb⟩] => some (some ((n' = n ∧ m' = m ∧ n < 4611686018427387904) ∧ (∀ i, i < n → isStrR (ra i)) ∧ ∀ i, i < m → isStrR (rb i)), bV (sameStr n m (fun i => strRow (ra i)) (fun i => strRow (rb i))))
  | _, _ => none
def stR (n : Nat) (S : Nat → ByteArray) : Ro := ⟨1, n, fun i => [.v (.string (S i))]⟩
noncomputable def ΛSame (n m : Nat) (S S' : Nat → ByteArray) : Nat → Option LoopSpec := addLoop noΛ Try.f43 0 Nat (fun i => i ≤ n ∧ ∀ j, j < i → (S j == S' j) = true) (fun i => n - i) [(5, fun i => .v (.int .i64 i))] []
noncomputable def ΛCopyV : Nat → Option LoopSpec := addPr noΛ 3 [(8, fun nx => nx + 64), (10, fun nx => nx + 80)]
theorem vcNewFeed (q : Option Prop) : (vcFn Try.prog noCtrs noΛ Try.f40 [] (heapOf []) 64 (fun y h' => FinE [] (.det q (.vp 1000 0) [(1000, fdB true false true nilS)]) y h')) =
(((SV.vp 80 0) = (SV.vp 80 0)) ∧ (((1 : Nat) = 1) ∧ (((1 : Nat) ≤ 1) ∧ (∀ i : Nat, (((i : Nat) < 1) → ([(SV.v (Value.bool true)), (SV.v (Value.bool false)), (SV.v (Value.slice none 0 0))] = [(SV.v (Value.bool true)), (SV.v (Value.bool false)), (SV.v (Value.slice none 0 0))])))))) := by kernel_rfl
theorem vcCopyV (q : Prop) : (vcFn Try.prog ΓN0 ΛCopyV Try.f47 [.vp 0 0] (heapOf [fdB true false true nilS]) 64 (fun y h' => FinE [fdB true false true nilS] (copyE q) y h')) =
((fdP (FdS.fresh true false true)) ∧ (((0 : Nat) ≤ 140737488355328) ∧ (∀ c : Nat, (∃ c_1 : Nat, (((SV.vp 176 0) = (SV.vp 176 0)) ∧ ((((1 : Nat) = 1) ∧ (((1 : Nat) ≤ 1) ∧ (∀ i : Nat, (((i : Nat) < 1) → ([(SV.v (Value.bool true)), (SV.v (Value.bool false)), (SV.v (Value.slice none 0 0))] = [(SV.v (Value.bool true)), (SV.v (Value.bool false)), (SV.v (Value.slice none 0 0))]))))) ∧ ((((1 : Nat) = 1) ∧ (((1 : Nat) ≤ 1) ∧ (((SV.v (Value.bool true)) = (SV.v (Value.bool true))) ∧ (((SV.v (Value.bool false)) = (SV.v (Value.bool false))) ∧ ((SV.sl 160 1 0 0 (0 + c)) = (SV.sl 160 1 0 0 c_1)))))) ∧ (((0 : Nat) = 0) ∧ (((c_1 : Nat) ≤ (0 + c)) ∧ (∀ i : Nat, (((i : Nat) < 0) → ([] = [(SV.v (Value.int IntKind.u8 0))])))))))))))) := by kernel_rfl
theorem vcSameStr (n m c d : Nat) (S S' : Nat → ByteArray) (R : SV → Prop) : (vcFn Try.prog noCtrs (ΛSame n m S S') Try.f43 [.sl 0 1 0 n c, .sl 1 1 0 m d] (roHeap [stR n S, stR m S']) 64 (fun y _ => R y)) =

(sel ((↑n : Int) != (↑m : Int)) (R (SV.v (Value.bool false))) ((∃ x : Nat, ((((x : Nat) ≤ n) ∧ (∀ j : Nat, (((j : Nat) < x) → ((S j == S' j) = true)))) ∧ (((SV.v (Value.int IntKind.i64 0)) = (SV.v (Value.int IntKind.i64 ((↑x : Int))))) ∧ True))) ∧ (∀ x : Nat, ((((x : Nat) ≤ n) ∧ (∀ j : Nat, (((j : Nat) < x) → ((S j == S' j) = true)))) → 
(sel (decide ((↑x : Int) < (↑n : Int))) ((((0 : Int) ≤ ((↑x : Int))) ∧ ((((↑x : Int)) : Int) < ((↑n : Int)))) ∧ ((((0 : Int) ≤ ((↑x : Int))) ∧ ((((↑x : Int)) : Int) < ((↑m : Int)))) ∧ 
(sel (!S (0 + Int.toNat (↑x : Int)) == S' (0 + Int.toNat (↑x : Int))) (R (SV.v (Value.bool false))) (∃ x' : Nat, (((((x' : Nat) ≤ n) ∧ (∀ j : Nat, (((j : Nat) < x') → ((S j == S' j) = true)))) ∧ (((SV.v (Value.int IntKind.i64 (IntKind.wrap IntKind.i64 ((↑x : Int) + 1)))) = (SV.v (Value.int IntKind.i64 ((↑x' : Int))))) ∧ True)) ∧ (((n - x') : Nat) < (n - x))))))) (R (SV.v (Value.bool true)))))))) := by kernel_rfl
theorem ΓO0_ok : ∀ f g, ΓO0 f = some g → g.ok Try.prog f := addCtr_ok (addCtr_ok noCtrs_ok (hp_ok Try.func86 (by kernel_rfl) (by kernel_rfl) FNone_spec)) (hp_ok Try.func87 (by kernel_rfl) (by kernel_rfl) Take_spec)
theorem byB_same {D : Blk} {m : Nat} (h : dOk D = true) (hr : rowsOk m D) : BlkSame D (byB D.elem m (fun i => SE.byteOf (D.row i)) D.ext D.whole) := by
  simp only [dOk, Bool.and_eq_true, Bool.not_eq_true'] at h
  obtain ⟨⟨⟨a1, a2⟩, a3⟩, a4⟩ := h
  exact ⟨Nat.eq_of_beq_eq_true a1, a2, a4, hr.1, rfl, a3, rfl, rfl, fun i hi => isByte_row (hr.2 i (by rw [← hr.1]; exact hi))⟩
noncomputable def ΛGiveA (args : List SV) (bs : List Blk) : Nat → Option LoopSpec := match args with
  | [.vp 0 0, .sl 1 1 0 m _] => match bs with
    | [B, D] => match fdOf [B] with
      | some (.fresh true false true) => ΛGive (fun i => SE.byteOf (D.row i)) m
      | _ => noΛ
    | _ => noΛ
  | [.vp 0 0, .sl 2 1 0 m _] => match bs with
    | [B, H, D] => match fdOf [B, H] with
      | some (.used true false o n c N g e p) => ΛGive (jnG n o g (fun i => SE.byteOf (D.row i))) (n + m)
      | _ => noΛ
    | _ => noΛ
  | _ => noΛ
theorem rowB_same {D : Blk} (h : dOk D = true) : BlkSame D (rowB D.elem D.n D.row D.ext D.whole) := by
  simp only [dOk, Bool.and_eq_true, Bool.not_eq_true'] at h
  obtain ⟨⟨⟨a1, a2⟩, a3⟩, a4⟩ := h
  exact ⟨Nat.eq_of_beq_eq_true a1, a2, a4, rfl, rfl, a3, rfl, rfl, fun _ _ => rfl⟩
theorem bif_some' {b : Bool} {α : Type _} {x : Option α} {y : α} (h : (bif b then x else none) = some y) : b = true ∧ x = some y := by
  cases b with
  | true => exact ⟨rfl, h⟩
  | false => cases h
theorem fdOf_one {B : Blk} {s : FdS} (h : fdOf [B] = some s) : ∃ m br fl, s = .fresh m br fl := by
  simp only [fdOf] at h
  split at h
  · obtain ⟨_, h2⟩ := bif_some h
    exact ⟨_, _, _, h2.symm⟩
  · cases h
theorem fdOf_two {B H : Blk} {s : FdS} (h : fdOf [B, H] = some s) : ∃ m br o n c N g e p, s = .used m br o n c N g e p := by
  simp only [fdOf] at h
  split at h
  · obtain ⟨_, h2⟩ := bif_some h
    exact ⟨_, _, _, _, _, _, _, _, _, h2.symm⟩
  · cases h
theorem fdOf_p {bs : List Blk} {m br : Bool} {o n c N : Nat} {g : Nat → Int} {e : Nat} {p : Prop} (h : fdOf bs = some (.used m br o n c N g e p)) (hp : p) : blksSame bs [fdB m br false (.sl 1 1 o n c), bG N g e] ∧ N < 70368744177664 := ⟨fdOf_same h hp, fdOf_lt h hp⟩
theorem Give_spec (bad : Bool) : HpSpec Try.prog 41 (sGive bad) := hp_spec hm ΓO0_ok Try.func41 (Λ := ΛGiveA) fun args bs e hs hp => by
  unfold sGive at hs
  split at hs
  · rename_i m cb
    split at hs
    · rename_i B D
      split at hs
      · rename_i s hw
        obtain ⟨hd, he⟩ := bif_some' hs
        unfold giveE at he
        split at he
        · rename_i fl
          have he := Option.some.inj he
          subst he
          refine ⟨[fdB true true fl nilS, rowB D.elem D.n D.row D.ext D.whole], ⟨(fdOf_same hw trivial).1, rowB_same hd, trivial⟩, ?_⟩
          have hD : D.n = m := (hp _ rfl).1
          unfold ΛGiveA
          simp only [hw]
          rw [hD]
          cases fl with
          | true => rw [vcGiveBr]; exact ⟨trivial, ⟨rfl, rfl⟩, rfl, Nat.le_refl _, fun _ _ => rfl⟩
          | false => rw [vcGiveBs]; exact ⟨trivial, ⟨rfl, rfl⟩, rfl, Nat.le_refl _, rfl, rfl, rfl⟩
        · have hF := (fdOf_same hw trivial).1
          cases bad with
          | true =>
            have he := Option.some.inj he
            subst he
            obtain ⟨h1, h2, h3⟩ := hp
            refine ⟨[fdB true false true nilS, byB D.elem m (fun i => SE.byteOf (D.row i)) D.ext D.whole], ⟨hF, byB_same hd h1, trivial⟩, ?_⟩
            unfold ΛGiveA
            simp only [hw]
            exact give_Fb _ _ _ _ _ _ _ h2 h3
          | false =>
            have he := Option.some.inj he
            subst he
            obtain ⟨h1, h2, h3⟩ := hp
            refine ⟨[fdB true false true nilS, byB D.elem m (fun i => SE.byteOf (D.row i)) D.ext D.whole], ⟨hF, byB_same hd h1, trivial⟩, ?_⟩
            unfold ΛGiveA
            simp only [hw]
            exact give_F _ _ _ _ _ _ _ h2 h3
        · obtain ⟨_, _, _, hc⟩ := fdOf_one hw
          cases hc
        · cases he
      · cases hs
    · cases hs
  · rename_i m cb
    split at hs
    · rename_i B H D
      split at hs
      · rename_i s hw
        obtain ⟨hd, he⟩ := bif_some' hs
        unfold giveE at he
        split at he
        · obtain ⟨_, _, _, _, _, _, _, _, _, hc⟩ := fdOf_two hw
          cases hc
        · obtain ⟨_, _, _, _, _, _, _, _, _, hc⟩ := fdOf_two hw
          cases hc
        · rename_i o n c N g e0 p
          cases bad with
          | true =>
            have he := Option.some.inj he
            subst he
            obtain ⟨⟨h1, hpp, hoc⟩, h2, h3⟩ := hp
            obtain ⟨hF, hN⟩ := fdOf_p hw hpp
            refine ⟨[fdB true false false (.sl 1 1 o n c), bG N g e0, byB D.elem m (fun i => SE.byteOf (D.row i)) D.ext D.whole], ⟨hF.1, hF.2.1, byB_same hd h1, trivial⟩, ?_⟩
            unfold ΛGiveA
            simp only [hw]
            exact give_Ub _ _ _ _ _ _ _ _ _ _ _ _ _ hN hoc h2 h3
          | false =>
            have he := Option.some.inj he
            subst he
            obtain ⟨⟨h1, hpp, hoc⟩, h2, h3⟩ := hp
            obtain ⟨hF, hN⟩ := fdOf_p hw hpp
            refine ⟨[fdB true false false (.sl 1 1 o n c), bG N g e0, byB D.elem m (fun i => SE.byteOf (D.row i)) D.ext D.whole], ⟨hF.1, hF.2.1, byB_same hd h1, trivial⟩, ?_⟩
            unfold ΛGiveA
            simp only [hw]
            exact give_U _ _ _ _ _ _ _ _ _ _ _ _ _ hN hoc h2 h3
        · cases he
      · cases hs
    · cases hs
  · cases hs
theorem NewFeed_spec : HpSpec Try.prog 40 sNewFeed := hp_spec hm noCtrs_ok Try.func40 (Λ := fun _ _ => noΛ) fun args bs e hs hp => by
  unfold sNewFeed at hs
  split at hs
  · have he := Option.some.inj hs
    subst he
    refine ⟨[], trivial, ?_⟩
    rw [vcNewFeed]
    exact ⟨rfl, rfl, Nat.le_refl _, fun _ _ => rfl⟩
  · cases hs
theorem CopyV_spec : HpSpec Try.prog 47 sCopyV := hp_spec hm ΓN0_ok Try.func47 (Λ := fun _ _ => ΛCopyV) fun args bs e hs hp => by
  unfold sCopyV at hs
  split at hs
  · split at hs
    · rename_i hw
      have he := Option.some.inj hs
      subst he
      refine ⟨[fdB true false true nilS], fdOf_same hw trivial, ?_⟩
      rw [vcCopyV]
      exact ⟨trivial, by omega, fun c => ⟨c, rfl, ⟨rfl, Nat.le_refl _, fun _ _ => rfl⟩, ⟨rfl, Nat.le_refl _, rfl, rfl, sl_eq rfl rfl (by omega)⟩, rfl, by omega, fun i hi => absurd hi (Nat.not_lt_zero _)⟩⟩
    · cases hs
  · cases hs
theorem isStr_row {r : List SV} (h : isStrR r) : r = [.v (.string (strRow r))] := by
  unfold isStrR at h
  split at h
  · rfl
  · exact h.elim
theorem sameStr_no {n m : Nat} {S S' : Nat → ByteArray} (h : n ≠ m) : sameStr n m S S' = false := by
  unfold sameStr
  rw [Go.SE.beq_false h, Bool.false_and]
theorem sameStr_at {n : Nat} {S S' : Nat → ByteArray} {x : Nat} (hx : x < n) (h : (S x == S' x) = false) : sameStr n n S S' = false := by
  unfold sameStr
  rw [Bool.and_eq_false_iff]
  right
  rw [List.all_eq_false]
  exact ⟨x, List.mem_range.2 hx, by rw [h]; exact Bool.false_ne_true⟩
theorem sameStr_yes {n : Nat} {S S' : Nat → ByteArray} (h : ∀ j, j < n → (S j == S' j) = true) : sameStr n n S S' = true := by
  unfold sameStr
  rw [Bool.and_eq_true]
  exact ⟨Nat.beq_refl n, List.all_eq_true.2 fun x hx => h x (List.mem_range.1 hx)⟩
theorem SameStr_spec : RoSpec Try.prog 43 sSameStr := ro_spec hm noCtrs_ok Try.func43 (Λ := fun args bs => match args, bs with
    | [.sl _ _ _ n _, .sl _ _ _ m _], [a, b] => ΛSame n m (fun i => strRow (a.row i)) (fun i => strRow (b.row i))
    | _, _ => noΛ) fun args bs p x hs hp => by
  unfold sSameStr at hs
  split at hs
  · rename_i n c m d n' ra m' rb
    cases hs
    obtain ⟨⟨rfl, rfl, hn⟩, h1, h2⟩ := hp _ rfl
    refine ⟨rfl, [stR n' fun i => strRow (ra i), stR m' fun i => strRow (rb i)], ⟨⟨rfl, rfl, fun i hi => isStr_row (h1 i hi)⟩, ⟨rfl, rfl, fun i hi => isStr_row (h2 i hi)⟩, trivial⟩, ?_⟩
    refine Eq.mpr (vcSameStr n' m' c d _ _ _) (sel_of (fun hne => ?_) fun heq => ?_)
    · rw [sameStr_no fun hc => by rw [hc] at hne; simp at hne]; rfl
    · have heq : n' = m' := by have : ((n' : Int) != (m' : Int)) = false := heq; simp at this; omega
      subst heq
      refine ⟨⟨0, ⟨Nat.zero_le _, fun j hj => absurd hj (Nat.not_lt_zero _)⟩, rfl, trivial⟩, fun x ⟨hx, hall⟩ => sel_of (fun hlt => ?_) fun hge => ?_⟩
      · have hlt := of_decide_eq_true hlt
        have hlt : x < n' := by omega
        refine ⟨⟨by omega, by omega⟩, ⟨by omega, by omega⟩, ?_⟩
        rw [show 0 + Int.toNat (x : Int) = x by omega]
        refine sel_of (fun hd => ?_) fun hd => ⟨x + 1, ⟨⟨hlt, fun j hj => ?_⟩, ?_, trivial⟩, by omega⟩
        · rw [sameStr_at hlt (by simpa using hd)]; rfl
        · by_cases hjx : j = x
          · subst hjx; simpa using hd
          · exact hall j (by omega)
        · exact int_mk (wrap_i64 ⟨by omega, by omega⟩)
      · have hge := of_decide_eq_false hge
        have : x = n' := by omega
        subst this
        rw [sameStr_yes hall]; rfl
  · cases hs
end Go.Proofs.Ytjdldadmaaeimaa
