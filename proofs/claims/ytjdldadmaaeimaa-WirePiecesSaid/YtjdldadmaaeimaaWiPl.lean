/-
  Frames in pieces: the plain law.
-/
import Derived.Test.YtjdldadmaaeimaaWiBk
set_option maxRecDepth 100000
set_option linter.unusedSimpArgs false
set_option linter.unusedVariables false
namespace Go.Proofs.Ytjdldadmaaeimaa
open Go.SE Go.RowKit

/-- The contents that are not empty, of the first i. -/
def wl (S : Nat → ByteArray) : Nat → List ByteArray
  | 0 => []
  | i + 1 => wl S i ++ (bif Nat.beq (S i).size 0 then [] else [S i])
/-- Their frames, one behind the other. -/
def al (S : Nat → ByteArray) : Nat → ByteArray
  | 0 => emp
  | i + 1 => al S i ++ frT (S i)
/-- All bytes: the frames, and the rest. -/
def allG (A : ByteArray) (r : Nat → Int) : Nat → Int := fun y => bop (Nat.blt y A.size) ((A.data.toList.getD y 0).toNat : Int) (r (y - A.size))
def flF (L : List ByteArray) : List Int := L.flatMap fun s => be (s.size : Int) 4 ++ byt s
theorem kFrom_spec {G : Nat → Int} {T : Nat} : ∀ f i, (∀ j, j < i → frOk G T j = true) → (∀ j, j < kFrom G T f i → frOk G T j = true) ∧ (kFrom G T f i = i + f ∨ frOk G T (kFrom G T f i) = false)
  | 0, i, h => ⟨h, .inl rfl⟩
  | f + 1, i, h => by
    unfold kFrom
    cases hf : frOk G T i with
    | false => exact ⟨h, .inr hf⟩
    | true =>
      rw [cond_true]
      have := kFrom_spec f (i + 1) fun j hj => by
        by_cases hji : j = i
        · rw [hji]; exact hf
        · exact h j (by omega)
      refine ⟨this.1, this.2.imp (fun h => by rw [h]; omega) id⟩
theorem kOf_spec (G : Nat → Int) (T : Nat) : (∀ j, j < kOf G T → frOk G T j = true) ∧ frOk G T (kOf G T) = false := by
  have := kFrom_spec (G := G) (T := T) (T + 1) 0 fun j hj => absurd hj (Nat.not_lt_zero _)
  refine ⟨this.1, this.2.resolve_left fun h => ?_⟩
  have h1 := oAt_le this.1
  have h2 := le_oAt G (kFrom G T (T + 1) 0)
  rw [h] at h1 h2
  omega
theorem oAt_mono (G : Nat → Int) (i : Nat) : ∀ k, oAt G i ≤ oAt G (i + k)
  | 0 => Nat.le_refl _
  | k + 1 => by
    have := oAt_mono G i k
    show oAt G i ≤ oAt G (i + k) + 4 + _
    omega
theorem oAt_mono' (G : Nat → Int) {i j : Nat} (h : i ≤ j) : oAt G i ≤ oAt G j := by
  have := oAt_mono G i (j - i)
  rwa [show i + (j - i) = j by omega] at this
theorem frOk_more {G : Nat → Int} {p q i : Nat} (hpq : p ≤ q) (h : frOk G p i = true) : frOk G q i = true := by
  have := frOk_iff.1 h
  exact frOk_iff.2 ⟨by omega, this.2.1, by omega⟩
/-- What the bytes of whole frames and a rest of at most three bytes are. -/
structure PcF (G : Nat → Int) (T : Nat) (L : List ByteArray) : Prop where
  num : ∀ j, j < L.length → 1 ≤ numAt G (oAt G j) ∧ numAt G (oAt G j) ≤ 200
  pos : oAt G L.length ≤ T ∧ T < oAt G L.length + 4
  fr : ∀ j, j < L.length → frS G j = L.getD j emp
  gv : gvP G T
theorem PcF.ok {G : Nat → Int} {T : Nat} {L : List ByteArray} (F : PcF G T L) {j : Nat} (hj : j < L.length) : frOk G T j = true := by
  have h := F.num j hj
  have h1 := oAt_mono' G (show j + 1 ≤ L.length by omega)
  have h2 := F.pos
  have h3 : oAt G (j + 1) = oAt G j + 4 + numAt G (oAt G j) := rfl
  exact frOk_iff.2 ⟨by omega, ⟨h.1, by omega⟩, by omega⟩
theorem PcF.k {G : Nat → Int} {T : Nat} {L : List ByteArray} (F : PcF G T L) : kOf G T = L.length :=
  kOf_eq (fun j hj => F.ok hj) (frOk_no fun h => by have := h.1; have := F.pos; omega)
theorem PcF.le {G : Nat → Int} {T q : Nat} {L : List ByteArray} (F : PcF G T L) (hq : q ≤ T) : kOf G q ≤ L.length := by
  refine Nat.le_of_not_lt fun hlt => ?_
  have := frOk_iff.1 ((kOf_spec G q).1 _ hlt)
  have := F.pos
  omega
theorem PcF.err {G : Nat → Int} {T q : Nat} {L : List ByteArray} (F : PcF G T L) (hq : q ≤ T) : errAt G q (kOf G q) = 0 := by
  by_cases h : q < oAt G (kOf G q) + 4
  · exact err_none h
  · have hk : kOf G q < L.length := by
      refine Nat.lt_of_le_of_ne (F.le hq) fun he => ?_
      have := F.pos
      rw [he] at h
      omega
    have := F.num _ hk
    exact err_part (by omega) (by omega) (by omega)
/-- A further piece. -/
structure Piece (G : Nat → Int) (p m : Nat) (G' : Nat → Int) : Prop where
  eq : ∀ y, y < p - oAt G (kOf G p) + m → G' y = G (oAt G (kOf G p) + y)
theorem at_le (G : Nat → Int) (p : Nat) : oAt G (kOf G p) ≤ p := oAt_le (kOf_spec G p).1
theorem Piece.num {G G' : Nat → Int} {p m : Nat} (P : Piece G p m G') {o : Nat} (h : o + 4 ≤ p - oAt G (kOf G p) + m) : numAt G' o = numAt G (oAt G (kOf G p) + o) := by
  unfold numAt
  rw [P.eq o (by omega), P.eq (o + 1) (by omega), P.eq (o + 2) (by omega), P.eq (o + 3) (by omega)]
  rfl
theorem Piece.at {G G' : Nat → Int} {p m : Nat} (P : Piece G p m G') : ∀ j, (∀ i, i < j → frOk G' (p - oAt G (kOf G p) + m) i = true) → oAt G (kOf G p + j) = oAt G (kOf G p) + oAt G' j
  | 0, _ => rfl
  | j + 1, h => by
    have ih := P.at j fun i hi => h i (by omega)
    have h1 := (frOk_iff.1 (h j (by omega))).1
    show oAt G (kOf G p + j) + 4 + numAt G (oAt G (kOf G p + j)) = oAt G (kOf G p) + (oAt G' j + 4 + numAt G' (oAt G' j))
    rw [P.num h1, ih]
    omega
theorem Piece.ok {G G' : Nat → Int} {p m j : Nat} (P : Piece G p m G') (h : ∀ i, i < j → frOk G' (p - oAt G (kOf G p) + m) i = true) : frOk G' (p - oAt G (kOf G p) + m) j = frOk G (p + m) (kOf G p + j) := by
  have h0 := at_le G p
  have h1 := P.at j h
  have key : frOk G' (p - oAt G (kOf G p) + m) j = true ↔ frOk G (p + m) (kOf G p + j) = true := by
    rw [frOk_iff, frOk_iff]
    by_cases h2 : oAt G' j + 4 ≤ p - oAt G (kOf G p) + m
    · have e := P.num h2
      have e1 : oAt G (kOf G p + j + 1) = oAt G (kOf G p + j) + 4 + numAt G (oAt G (kOf G p + j)) := rfl
      have e2 : oAt G' (j + 1) = oAt G' j + 4 + numAt G' (oAt G' j) := rfl
      rw [e1, e2, e, h1]
      constructor <;> (intro ⟨a, b, c⟩; exact ⟨by omega, b, by omega⟩)
    · constructor
      · intro ⟨a, _, _⟩; exact absurd a h2
      · intro ⟨a, _, _⟩; exact absurd (by omega) h2
  cases ha : frOk G' (p - oAt G (kOf G p) + m) j <;> cases hb : frOk G (p + m) (kOf G p + j) <;> simp_all
theorem Piece.k {G G' : Nat → Int} {p m : Nat} (P : Piece G p m G') : kOf G (p + m) = kOf G p + kOf G' (p - oAt G (kOf G p) + m) := by
  have hs := kOf_spec G' (p - oAt G (kOf G p) + m)
  refine kOf_eq (fun i hi => ?_) ?_
  · by_cases hlt : i < kOf G p
    · exact frOk_more (by omega) ((kOf_spec G p).1 i hlt)
    · have := P.ok (j := i - kOf G p) fun i' hi' => hs.1 i' (by omega)
      rw [show kOf G p + (i - kOf G p) = i by omega] at this
      rw [← this]
      exact hs.1 _ (by omega)
  · rw [← P.ok hs.1]; exact hs.2
theorem Piece.o {G G' : Nat → Int} {p m : Nat} (P : Piece G p m G') : oAt G (kOf G (p + m)) = oAt G (kOf G p) + oAt G' (kOf G' (p - oAt G (kOf G p) + m)) := by
  rw [P.k]
  exact P.at _ (kOf_spec G' _).1
theorem Piece.fr {G G' : Nat → Int} {p m j : Nat} (P : Piece G p m G') (hj : j < kOf G' (p - oAt G (kOf G p) + m)) : frS G' j = frS G (kOf G p + j) := by
  have hs := (kOf_spec G' (p - oAt G (kOf G p) + m)).1
  have h1 := P.at j fun i hi => hs i (by omega)
  have h2 := frOk_iff.1 (hs j hj)
  have e := P.num h2.1
  have e2 : oAt G' (j + 1) = oAt G' j + 4 + numAt G' (oAt G' j) := rfl
  unfold frS
  rw [h1, ← e, strOf_lst, strOf_lst]
  congr 1
  refine lstG_congr fun y hy => ?_
  rw [P.eq _ (by omega)]
  congr 1
  omega
theorem Piece.err {G G' : Nat → Int} {p m T : Nat} {L : List ByteArray} (P : Piece G p m G') (F : PcF G T L) (hq : p + m ≤ T) : errAt G' (p - oAt G (kOf G p) + m) (kOf G' (p - oAt G (kOf G p) + m)) = 0 := by
  have h0 := at_le G p
  have h := F.err hq
  have ho := P.o
  by_cases h1 : p - oAt G (kOf G p) + m < oAt G' (kOf G' (p - oAt G (kOf G p) + m)) + 4
  · exact err_none h1
  · have e := P.num (o := oAt G' (kOf G' (p - oAt G (kOf G p) + m))) (by omega)
    rw [← ho] at e
    have hk : kOf G (p + m) < L.length := by
      refine Nat.lt_of_le_of_ne (F.le hq) fun he => ?_
      have := F.pos
      rw [← he] at this
      omega
    have := F.num _ hk
    exact err_part (by omega) (by omega) (by omega)
theorem Piece.gv {G G' : Nat → Int} {p m T : Nat} {L : List ByteArray} (P : Piece G p m G') (F : PcF G T L) (hq : p + m ≤ T) : gvP G' (p - oAt G (kOf G p) + m) := by
  have h0 := at_le G p
  refine ⟨fun y hy => ?_, ?_⟩
  · rw [P.eq y hy]
    exact F.gv.1 _ (by omega)
  · have := F.gv.2
    omega
theorem frT_zero {s : ByteArray} (h : s.size = 0) : frT s = emp := by
  unfold frT
  rw [h]
  rfl
theorem wl_mem {S : Nat → ByteArray} : ∀ {n : Nat}, (∀ j, j < n → (S j).size ≤ 200) → ∀ s ∈ wl S n, s.size ≠ 0 ∧ s.size ≤ 200
  | 0, _, s, hs => by cases hs
  | n + 1, h, s, hs => by
    rcases List.mem_append.1 hs with h1 | h1
    · exact wl_mem (fun j hj => h j (by omega)) s h1
    · by_cases h0 : (S n).size = 0
      · rw [h0] at h1
        cases h1
      · rw [Go.SE.beq_false h0] at h1
        have : s = S n := List.mem_singleton.1 h1
        subst this
        exact ⟨h0, h n (by omega)⟩
theorem byt_al {S : Nat → ByteArray} : ∀ {n : Nat}, (∀ j, j < n → (S j).size ≤ 200) → byt (al S n) = flF (wl S n)
  | 0, _ => rfl
  | n + 1, h => by
    have ih := byt_al (S := S) (n := n) fun j hj => h j (by omega)
    show byt (al S n ++ frT (S n)) = flF (wl S n ++ _)
    rw [byt_append, ih]
    unfold flF
    rw [List.flatMap_append]
    congr 1
    by_cases h0 : (S n).size = 0
    · rw [frT_zero h0, h0]
      rfl
    · rw [Go.SE.beq_false h0, byt_frT h0 (by have := h n (by omega); omega)]
      simp
theorem al_size {S : Nat → ByteArray} : ∀ {n : Nat}, (∀ j, j < n → (S j).size ≤ 200) → (al S n).size ≤ 204 * n
  | 0, _ => Nat.le_refl _
  | n + 1, h => by
    have ih := al_size (S := S) (n := n) fun j hj => h j (by omega)
    have hn := h n (by omega)
    show (al S n ++ frT (S n)).size ≤ _
    rw [size_app]
    by_cases h0 : (S n).size = 0
    · rw [frT_zero h0]
      show _ + 0 ≤ _
      omega
    · rw [size_frT h0 (by omega)]
      omega
theorem getD_mid {l m r : List Int} {i : Nat} (h : i < m.length) : (l ++ (m ++ r)).getD (l.length + i) 0 = m.getD i 0 := by
  simp only [List.getD]
  rw [List.getElem?_append_right (by omega), Nat.add_sub_cancel_left, List.getElem?_append_left h]
theorem flF_at {L : List ByteArray} {j : Nat} (hj : j < L.length) : flF L = flF (L.take j) ++ ((be (L[j].size : Int) 4 ++ byt L[j]) ++ flF (L.drop (j + 1))) := by
  have e : L = L.take j ++ (L[j] :: L.drop (j + 1)) := by
    rw [List.getElem_cons_drop hj, List.take_append_drop]
  have : flF L = flF (L.take j ++ (L[j] :: L.drop (j + 1))) := congrArg flF e
  rw [this]
  unfold flF
  rw [List.flatMap_append, List.flatMap_cons]
theorem flF_take {L : List ByteArray} {j : Nat} (hj : j < L.length) : (flF (L.take (j + 1))).length = (flF (L.take j)).length + (4 + L[j].size) := by
  have : L.take (j + 1) = L.take j ++ [L[j]] := List.take_succ_eq_append_getElem hj
  rw [this]
  unfold flF
  rw [List.flatMap_append, List.length_append]
  simp [be_len, byt_len]
theorem allG_lo {A : ByteArray} {r : Nat → Int} {y : Nat} (h : y < A.size) : allG A r y = (byt A).getD y 0 := by
  unfold allG
  rw [blt_true h, ← byt_get]
  rfl
theorem allG_hi {A : ByteArray} {r : Nat → Int} {y : Nat} (h : ¬ y < A.size) : allG A r y = r (y - A.size) := by
  unfold allG
  rw [blt_false h]
  rfl
theorem pcF_at {S : Nat → ByteArray} {n : Nat} {r : Nat → Int} (hS : ∀ j, j < n → (S j).size ≤ 200) : (∀ j (hj : j < (wl S n).length), numAt (allG (al S n) r) (oAt (allG (al S n) r) j) = ((wl S n)[j]).size ∧ ∀ y, y < ((wl S n)[j]).size → allG (al S n) r (oAt (allG (al S n) r) j + 4 + y) = (byt ((wl S n)[j])).getD y 0) ∧ oAt (allG (al S n) r) (wl S n).length = (al S n).size := by
  have hA := byt_al hS
  have hL := wl_mem hS
  have hlen : (al S n).size = (flF (wl S n)).length := by rw [← hA, byt_len]
  generalize al S n = A at hA hlen ⊢
  generalize wl S n = L at hA hL hlen ⊢
  -- one frame
  have one : ∀ j (hj : j < L.length), oAt (allG A r) j = (flF (L.take j)).length → numAt (allG A r) (oAt (allG A r) j) = L[j].size ∧ (flF (L.take j)).length + (4 + L[j].size) ≤ A.size ∧ ∀ y, y < L[j].size → allG A r (oAt (allG A r) j + 4 + y) = (byt L[j]).getD y 0 := by
    intro j hj ho
    have hle : (flF (L.take j)).length + (4 + L[j].size) ≤ A.size := by
      rw [hlen, flF_at hj]
      simp only [List.length_append, be_len, byt_len]
      omega
    have hg : ∀ i, i < 4 + L[j].size → allG A r ((flF (L.take j)).length + i) = (be (L[j].size : Int) 4 ++ byt L[j]).getD i 0 := fun i hi => by
      rw [allG_lo (by omega), hA, flF_at hj]
      exact getD_mid (by simp only [List.length_append, be_len, byt_len]; omega)
    have hm := hL _ (List.getElem_mem hj)
    refine ⟨?_, hle, fun y hy => ?_⟩
    · rw [ho, num_be (v := (L[j].size : Int)) ⟨by omega, by omega⟩ fun i hi => ?_, Int.toNat_natCast]
      rw [hg i (by omega), ← be4_get _ _ hi]
      simp only [List.getD, List.getElem?_append_left (show i < (be (L[j].size : Int) 4).length by rw [be_len]; exact hi)]
    · rw [ho, show (flF (L.take j)).length + 4 + y = (flF (L.take j)).length + (4 + y) by omega, hg (4 + y) (by omega)]
      simp only [List.getD, List.getElem?_append_right (show (be (L[j].size : Int) 4).length ≤ 4 + y by rw [be_len]; omega), be_len, show 4 + y - 4 = y by omega]
  have pos : ∀ j, j ≤ L.length → oAt (allG A r) j = (flF (L.take j)).length := by
    intro j
    induction j with
    | zero => intro _; rfl
    | succ j ih =>
      intro hj
      have ho := ih (by omega)
      have h1 := one j (by omega) ho
      show oAt (allG A r) j + 4 + numAt (allG A r) (oAt (allG A r) j) = _
      rw [h1.1, flF_take (by omega), ho]
      omega
  refine ⟨fun j hj => ⟨(one j hj (pos j (by omega))).1, (one j hj (pos j (by omega))).2.2⟩, ?_⟩
  rw [pos _ (Nat.le_refl _), List.take_length, hlen]
theorem pcF_last {S : Nat → ByteArray} {n : Nat} {r : Nat → Int} (hS : ∀ j, j < n → (S j).size ≤ 200) : oAt (allG (al S n) r) (wl S n).length = (al S n).size := (pcF_at hS).2
theorem pcF {S : Nat → ByteArray} {n ρ : Nat} {r : Nat → Int} (hS : ∀ j, j < n → (S j).size ≤ 200) (hn : n ≤ 10) (hρ : ρ ≤ 3) (hr : ∀ y, y < ρ → 0 ≤ r y ∧ r y < 256) : PcF (allG (al S n) r) ((al S n).size + ρ) (wl S n) := by
  have hA := byt_al hS
  have hs := al_size hS
  have hL := wl_mem hS
  have hlen : (al S n).size = (flF (wl S n)).length := by rw [← hA, byt_len]
  generalize al S n = A at hA hs hlen ⊢
  generalize wl S n = L at hA hL hlen ⊢
  -- one frame
  have one : ∀ j (hj : j < L.length), oAt (allG A r) j = (flF (L.take j)).length → numAt (allG A r) (oAt (allG A r) j) = L[j].size ∧ (flF (L.take j)).length + (4 + L[j].size) ≤ A.size ∧ ∀ y, y < L[j].size → allG A r (oAt (allG A r) j + 4 + y) = (byt L[j]).getD y 0 := by
    intro j hj ho
    have hle : (flF (L.take j)).length + (4 + L[j].size) ≤ A.size := by
      rw [hlen, flF_at hj]
      simp only [List.length_append, be_len, byt_len]
      omega
    have hg : ∀ i, i < 4 + L[j].size → allG A r ((flF (L.take j)).length + i) = (be (L[j].size : Int) 4 ++ byt L[j]).getD i 0 := fun i hi => by
      rw [allG_lo (by omega), hA, flF_at hj]
      exact getD_mid (by simp only [List.length_append, be_len, byt_len]; omega)
    have hm := hL _ (List.getElem_mem hj)
    refine ⟨?_, hle, fun y hy => ?_⟩
    · rw [ho, num_be (v := (L[j].size : Int)) ⟨by omega, by omega⟩ fun i hi => ?_, Int.toNat_natCast]
      rw [hg i (by omega), ← be4_get _ _ hi]
      simp only [List.getD, List.getElem?_append_left (show i < (be (L[j].size : Int) 4).length by rw [be_len]; exact hi)]
    · rw [ho, show (flF (L.take j)).length + 4 + y = (flF (L.take j)).length + (4 + y) by omega, hg (4 + y) (by omega)]
      simp only [List.getD, List.getElem?_append_right (show (be (L[j].size : Int) 4).length ≤ 4 + y by rw [be_len]; omega), be_len, show 4 + y - 4 = y by omega]
  have pos : ∀ j, j ≤ L.length → oAt (allG A r) j = (flF (L.take j)).length := by
    intro j
    induction j with
    | zero => intro _; rfl
    | succ j ih =>
      intro hj
      have ho := ih (by omega)
      have h1 := one j (by omega) ho
      show oAt (allG A r) j + 4 + numAt (allG A r) (oAt (allG A r) j) = _
      rw [h1.1, flF_take (by omega), ho]
      omega
  have last : oAt (allG A r) L.length = A.size := by rw [pos _ (Nat.le_refl _), List.take_length, hlen]
  refine ⟨fun j hj => ?_, ⟨by omega, by omega⟩, fun j hj => ?_, fun y hy => ?_, by omega⟩
  · have h1 := (one j hj (pos j (by omega))).1
    have hm := hL _ (List.getElem_mem hj)
    rw [h1]
    omega
  · obtain ⟨h1, _, h3⟩ := one j hj (pos j (by omega))
    unfold frS
    rw [h1, strOf_lst]
    have : lstG L[j].size (fun y => allG A r (oAt (allG A r) j + 4 + y)) = byt L[j] := by
      have e := lstG_list (byt L[j])
      rw [byt_len] at e
      rw [← e]
      exact lstG_congr fun i hi => h3 i hi
    rw [this, str_byt]
    simp [List.getD, List.getElem?_eq_getElem hj]
  · by_cases h : y < A.size
    · rw [allG_lo h]
      exact getD_rng (byt_range _) y
    · rw [allG_hi h]
      exact hr _ (by omega)
end Go.Proofs.Ytjdldadmaaeimaa
