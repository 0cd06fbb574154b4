/-
  The symbolic executor, whole: the conditions of a function's body, once proved, say what every call of it does.
-/
import Derived.Test.YtjdldadmaaeimaaSeCode
namespace Go.SE

/-! ### names at the head and elsewhere -/
theorem reqP_iff {b : Bool} {p : Prop} : reqP b p ↔ b = true ∧ p := by
  cases b <;> simp [reqP]

section
variable {m : List (Nat × Cur)} {h : Heap} {δ' δ'' : Dict}

mutual
theorem mtS_abs (hat : ∀ N k, curOf m N = some (.at k) → ∀ p, δ' k = some p → δ'' N = some p) (hnil : ∀ N sz, curOf m N = some (.nil sz) → δ'' N = some ⟨0, sz, 0, 0, true⟩)
    (hold : ∀ k, curOf m k = none → (h k).isSome = true → ∀ p, δ' k = some p → δ'' k = some p) : ∀ (x y : SV) (r : Value), mtS m h x y → absV δ' y r → absV δ'' x r
  | .unk, _, _, _, _ => by simp only [absV]
  | .v x, y, r, hm, hr => by
    simp only [mtS] at hm
    subst hm
    simp only [absV] at *
    exact hr
  | .sl k s i l c, y, r, hm, hr => by
    simp only [mtS] at hm
    cases hc : curOf m k with
    | none =>
      rw [hc] at hm
      simp only [reqP_iff] at hm
      obtain ⟨hh, rfl⟩ := hm
      simp only [absV] at *
      obtain ⟨p, h1, h2⟩ := hr
      exact ⟨p, hold k hc hh p h1, h2⟩
    | some cu =>
      rw [hc] at hm
      cases cu with
      | «at» k' =>
        simp only at hm
        subst hm
        simp only [absV] at *
        obtain ⟨p, h1, h2⟩ := hr
        exact ⟨p, hat k k' hc p h1, h2⟩
      | nil sz =>
        simp only [reqP_iff] at hm
        obtain ⟨hh, rfl, rfl, rfl, rfl⟩ := hm
        have := Nat.eq_of_beq_eq_true hh
        subst this
        simp only [absV] at *
        subst hr
        exact ⟨_, hnil k sz hc, rfl, Nat.le_refl _, .inr ⟨trivial, trivial, _, rfl⟩⟩
  | .vp k j, y, r, hm, hr => by
    simp only [mtS] at hm
    cases hc : curOf m k with
    | none =>
      rw [hc] at hm
      simp only [reqP_iff] at hm
      obtain ⟨hh, rfl⟩ := hm
      simp only [absV] at *
      obtain ⟨p, h1, h2⟩ := hr
      exact ⟨p, hold k hc hh p h1, h2⟩
    | some cu =>
      rw [hc] at hm
      cases cu with
      | «at» k' =>
        simp only at hm
        subst hm
        simp only [absV] at *
        obtain ⟨p, h1, h2⟩ := hr
        exact ⟨p, hat k k' hc p h1, h2⟩
      | nil sz => exact hm.elim
  | .ptr k i j, y, r, hm, hr => by
    simp only [mtS] at hm
    cases hc : curOf m k with
    | none =>
      rw [hc] at hm
      simp only [reqP_iff] at hm
      obtain ⟨hh, rfl⟩ := hm
      simp only [absV] at *
      obtain ⟨p, h1, h2⟩ := hr
      exact ⟨p, hold k hc hh p h1, h2⟩
    | some cu =>
      rw [hc] at hm
      cases cu with
      | «at» k' =>
        simp only at hm
        subst hm
        simp only [absV] at *
        obtain ⟨p, h1, h2⟩ := hr
        exact ⟨p, hat k k' hc p h1, h2⟩
      | nil sz => exact hm.elim
  | .ap k n l, y, r, hm, hr => by
    simp only [mtS] at hm
    cases hc : curOf m k with
    | none =>
      rw [hc] at hm
      simp only [reqP_iff] at hm
      obtain ⟨hh, rfl⟩ := hm
      simp only [absV] at *
      obtain ⟨p, h1, h2⟩ := hr
      exact ⟨p, hold k hc hh p h1, h2⟩
    | some cu =>
      rw [hc] at hm
      cases cu with
      | «at» k' =>
        simp only at hm
        subst hm
        simp only [absV] at *
        obtain ⟨p, h1, h2⟩ := hr
        exact ⟨p, hat k k' hc p h1, h2⟩
      | nil sz => exact hm.elim
  | .fn f cs, y, r, hm, hr => by
    simp only [mtS] at hm
    split at hm
    · rename_i f' ds
      obtain ⟨rfl, hm⟩ := hm
      simp only [absV] at *
      obtain ⟨xs, h1, h2⟩ := hr
      exact ⟨xs, h1, mtL_abs hat hnil hold cs ds xs hm h2⟩
    · exact hm.elim
  | .agg cs, y, r, hm, hr => by
    simp only [mtS] at hm
    split at hm
    · rename_i ds
      simp only [absV] at *
      obtain ⟨xs, h1, h2⟩ := hr
      exact ⟨xs, h1, mtL_abs hat hnil hold cs ds xs hm h2⟩
    · exact hm.elim
  | .tup cs, y, r, hm, hr => by
    simp only [mtS] at hm
    split at hm
    · rename_i ds
      simp only [absV] at *
      obtain ⟨xs, h1, h2⟩ := hr
      exact ⟨xs, h1, mtL_abs hat hnil hold cs ds xs hm h2⟩
    · exact hm.elim
theorem mtL_abs (hat : ∀ N k, curOf m N = some (.at k) → ∀ p, δ' k = some p → δ'' N = some p) (hnil : ∀ N sz, curOf m N = some (.nil sz) → δ'' N = some ⟨0, sz, 0, 0, true⟩)
    (hold : ∀ k, curOf m k = none → (h k).isSome = true → ∀ p, δ' k = some p → δ'' k = some p) : ∀ (xs ys : List SV) (rs : List Value), mtL m h xs ys → absL δ' ys rs → absL δ'' xs rs
  | [], ys, rs, hm, hr => by
    simp only [mtL] at hm
    split at hm
    · exact absL_mono (δ := δ'') (fun _ _ h => h) _ _ (by cases rs <;> simp only [absL] at *)
    · exact hm.elim
  | x :: xs, ys, rs, hm, hr => by
    match ys, rs, hr with
    | y :: ys', r :: rs', hr =>
      simp only [absL] at hr ⊢
      simp only [mtL] at hm
      match xs, hm with
      | [], hm =>
        simp only at hm
        match ys', hm with
        | [], hm =>
          refine ⟨mtS_abs hat hnil hold x y r hm hr.1, ?_⟩
          cases rs' with
          | nil => simp only [absL]
          | cons _ _ => simp only [absL] at hr; exact hr.2.elim
        | _ :: _, hm => exact hm.elim
      | x' :: xs', hm =>
        simp only at hm
        exact ⟨mtS_abs hat hnil hold x y r hm.1 hr.1, mtL_abs hat hnil hold (x' :: xs') ys' rs' hm.2 hr.2⟩
    | [], [], hr => simp only [mtL] at hm
    | [], _ :: _, hr => simp only [absL] at hr
    | _ :: _, [], hr => simp only [absL] at hr
end

theorem mtL_len : ∀ (xs ys : List SV), mtL m h xs ys → xs.length = ys.length
  | [], ys, hm => by
    simp only [mtL] at hm
    split at hm
    · rfl
    · exact hm.elim
  | x :: xs, [], hm => by simp only [mtL] at hm
  | [x], [y], _ => rfl
  | [x], _ :: _ :: _, hm => by simp only [mtL] at hm
  | x :: x' :: xs, y :: ys, hm => by
    simp only [mtL] at hm
    have := mtL_len (x' :: xs) ys hm.2
    simp only [List.length_cons] at this ⊢
    omega
end

mutual
/-- What stands for something under δ0 names δ0's names alone. -/
theorem absV_same {δ0 δ' : Dict} (hle : δ0.le δ') : ∀ (x : SV) (r r' : Value), absV δ0 x r → absV δ' x r' → absV δ0 x r'
  | .unk, _, _, _, _ => by simp only [absV]
  | .v x, _, r', _, h' => by simp only [absV] at *; exact h'
  | .vp k j, _, r', h0, h' => by
    simp only [absV] at *
    obtain ⟨p0, g1, _⟩ := h0
    obtain ⟨p, h1, h2⟩ := h'
    have := hle _ _ g1; rw [h1] at this; cases this
    exact ⟨_, g1, h2⟩
  | .ptr k i j, _, r', h0, h' => by
    simp only [absV] at *
    obtain ⟨p0, g1, _⟩ := h0
    obtain ⟨p, h1, h2⟩ := h'
    have := hle _ _ g1; rw [h1] at this; cases this
    exact ⟨_, g1, h2⟩
  | .sl k s i l c, _, r', h0, h' => by
    simp only [absV] at *
    obtain ⟨p0, g1, _⟩ := h0
    obtain ⟨p, h1, h2⟩ := h'
    have := hle _ _ g1; rw [h1] at this; cases this
    exact ⟨_, g1, h2⟩
  | .ap k n l, _, r', h0, h' => by
    simp only [absV] at *
    obtain ⟨p0, g1, _⟩ := h0
    obtain ⟨p, h1, h2⟩ := h'
    have := hle _ _ g1; rw [h1] at this; cases this
    exact ⟨_, g1, h2⟩
  | .fn f caps, _, r', h0, h' => by
    simp only [absV] at *
    obtain ⟨xs0, _, g2⟩ := h0
    obtain ⟨xs, h1, h2⟩ := h'
    exact ⟨xs, h1, absL_same hle caps xs0 xs g2 h2⟩
  | .agg cs, _, r', h0, h' => by
    simp only [absV] at *
    obtain ⟨xs0, _, g2⟩ := h0
    obtain ⟨xs, h1, h2⟩ := h'
    exact ⟨xs, h1, absL_same hle cs xs0 xs g2 h2⟩
  | .tup vs, _, r', h0, h' => by
    simp only [absV] at *
    obtain ⟨xs0, _, g2⟩ := h0
    obtain ⟨xs, h1, h2⟩ := h'
    exact ⟨xs, h1, absL_same hle vs xs0 xs g2 h2⟩
theorem absL_same {δ0 δ' : Dict} (hle : δ0.le δ') : ∀ (xs : List SV) (rs rs' : List Value), absL δ0 xs rs → absL δ' xs rs' → absL δ0 xs rs'
  | [], _, [], _, _ => by simp only [absL]
  | x :: xs, r :: rs, r' :: rs', h0, h' => by
    simp only [absL] at *
    exact ⟨absV_same hle x r r' h0.1 h'.1, absL_same hle xs rs rs' h0.2 h'.2⟩
  | _ :: _, [], _, h0, _ => by simp only [absL] at h0
  | [], _, _ :: _, _, h' => by simp only [absL] at h'
  | _ :: _, _ :: _, [], _, h' => by simp only [absL] at h'
end

/-! ### a loop's head -/
section
variable {P : Program} {Γ : Ctrs} {own : Nat → Prop} {w0 : World} {L : LoopSpec}

theorem getD_set {l : List SV} {t t' : Nat} {x : SV} : (l.set t x).getD t' .unk = if t = t' ∧ t < l.length then x else l.getD t' .unk := by
  simp only [List.getD, List.getElem?_set]
  by_cases h : t = t'
  · subst h
    by_cases hl : t < l.length
    · simp [hl]
    · simp [hl]
  · simp [h]

/-- Slots that are set to what a state has, or forgotten. -/
theorem absL_slots {δ : Dict} {rs : List Value} : ∀ (ps : List (Nat × SV)) {l : List SV}, absL δ l rs → (∀ t v, (t, v) ∈ ps → ∀ r, rs[t]? = some r → absV δ v r) → absL δ (setSlots l ps) rs
  | [], l, h, _ => h
  | (t, v) :: ps, l, h, hp => by
    simp only [setSlots]
    refine absL_slots ps ?_ fun t' v' hm r hr => hp t' v' (List.mem_cons_of_mem _ hm) r hr
    refine absL_of_get (by simpa using absL_length h) fun i x hx => ?_
    rw [List.getElem?_set] at hx
    by_cases hi : t = i
    · subst hi
      rw [if_pos rfl] at hx
      split at hx
      · cases hx
        rename_i hlt
        have hlt' : t < rs.length := by rw [← absL_length h]; exact hlt
        exact ⟨rs[t], List.getElem?_eq_getElem hlt', hp t _ List.mem_cons_self _ (List.getElem?_eq_getElem hlt')⟩
      · cases hx
    · rw [if_neg hi] at hx
      exact absL_get h hx

theorem atX_names {X α : Type} (x : X) (k : Nat) : ∀ l : List (Nat × (X → α)), inNames k (atX x l) = inNames k l
  | [] => rfl
  | (k', f) :: rest => by simp only [atX, inNames, atX_names x k rest]

theorem slotsEq_spec {m : List (Nat × Cur)} {h : Heap} {s : St} : ∀ {ps : List (Nat × SV)}, slotsEq m h s ps → ∀ t v, (t, v) ∈ ps → mtS m h v (s.tmps.getD t .unk)
  | [], _, t, v, h => by cases h
  | [(t', v')], h, t, v, hm => by
    simp only [List.mem_singleton, Prod.mk.injEq] at hm
    obtain ⟨rfl, rfl⟩ := hm
    exact h
  | (t', v') :: p :: rest, h, t, v, hm => by
    simp only [slotsEq] at h
    rcases List.mem_cons.1 hm with he | hm
    · cases he; exact h.1
    · exact slotsEq_spec h.2 t v hm

structure BlkFits (m : List (Nat × Cur)) (h : Heap) (b p : Blk) : Prop where
  size : b.size = p.size
  rw : b.rw = p.rw
  lock : b.lock = false
  lock' : p.lock = false
  flat : p.flat = true → b.flat = true
  dead : b.dead = false
  dead' : p.dead = false
  elem : p.elem ≠ 0 → b.elem = p.elem
  whole : p.whole = true → b.whole = true
  n : b.n = p.n
  ext : p.ext ≤ b.ext
  row : ∀ i, i < p.n → (p.flat = true ∧ b.row i = p.row i) ∨ (p.flat = false ∧ mtL m h (p.row i) (b.row i))

theorem blkEq_spec {m : List (Nat × Cur)} {h : Heap} {b p : Blk} (he : blkEq m h b p) : BlkFits m h b p := by
  unfold blkEq at he
  rw [reqP_iff] at he
  obtain ⟨hc, h1, h2, h3⟩ := he
  simp only [Bool.and_eq_true, Bool.not_eq_true', Bool.or_eq_true, beq_iff_eq] at hc
  obtain ⟨⟨⟨⟨⟨⟨⟨⟨c1, c2⟩, c3⟩, c4⟩, c5⟩, c6⟩, c7⟩, c8⟩, c9⟩ := hc
  refine ⟨Nat.eq_of_beq_eq_true c1, c2, c3, c4, fun hp => ?_, c6, c7, fun hp => ?_, fun hp => ?_, h1, h2, fun i hi => ?_⟩
  · rcases c5 with c5 | c5
    · exact c5
    · rw [hp] at c5; cases c5
  · rcases c8 with c8 | c8
    · exact absurd (Nat.eq_of_beq_eq_true c8) hp
    · exact Nat.eq_of_beq_eq_true c8
  · rcases c9 with c9 | c9
    · rw [hp] at c9; cases c9
    · exact c9
  · cases hf : p.flat with
    | true => rw [hf] at h3; exact .inl ⟨rfl, h3 i hi⟩
    | false =>
      rw [hf] at h3
      simp only at h3
      cases hl : p.lit with
      | true =>
        rw [hl] at h3
        simp only [reqP_iff] at h3
        have := Nat.eq_of_beq_eq_true h3.1
        have : i = 0 := by omega
        subst this
        exact .inr ⟨rfl, h3.2⟩
      | false => rw [hl] at h3; exact .inr ⟨rfl, h3 i hi⟩

theorem blksEq_spec {m : List (Nat × Cur)} {h : Heap} {s : St} : ∀ {ps : List (Nat × Blk)}, blksEq m h s ps → ∀ k p, (k, p) ∈ ps →
    (∃ k' b, curOf m k = some (.at k') ∧ s.heap k' = some b ∧ BlkFits m h b p) ∨ (∃ sz, curOf m k = some (.nil sz) ∧ p.n = 0 ∧ p.ext = 0 ∧ sz = p.size) ∨ (∃ b, curOf m k = none ∧ s.heap k = some b ∧ BlkFits m h b p)
  | [], _, k, p, hm => by cases hm
  | (k', p') :: rest, he, k, p, hm => by
    simp only [blksEq] at he
    -- the first and the rest
    have both : ((∃ k'' b, curOf m k' = some (.at k'') ∧ s.heap k'' = some b ∧ BlkFits m h b p') ∨ (∃ sz, curOf m k' = some (.nil sz) ∧ p'.n = 0 ∧ p'.ext = 0 ∧ sz = p'.size) ∨ (∃ b, curOf m k' = none ∧ s.heap k' = some b ∧ BlkFits m h b p')) ∧ blksEq m h s rest := by
      cases hc : curOf m k' with
      | none =>
        rw [hc] at he
        simp only at he
        cases hs : s.heap k' with
        | none => rw [hs] at he; exact he.elim
        | some b =>
          rw [hs] at he
          cases rest with
          | nil => exact ⟨.inr (.inr ⟨b, rfl, rfl, blkEq_spec he⟩), trivial⟩
          | cons q rest => exact ⟨.inr (.inr ⟨b, rfl, rfl, blkEq_spec he.1⟩), he.2⟩
      | some cu =>
        rw [hc] at he
        cases cu with
        | «at» k'' =>
          simp only at he
          cases hs : s.heap k'' with
          | none => rw [hs] at he; exact he.elim
          | some b =>
            rw [hs] at he
            cases rest with
            | nil => exact ⟨.inl ⟨k'', b, rfl, hs, blkEq_spec he⟩, trivial⟩
            | cons q rest => exact ⟨.inl ⟨k'', b, rfl, hs, blkEq_spec he.1⟩, he.2⟩
        | nil sz =>
          simp only [reqP_iff, Bool.and_eq_true, Bool.not_eq_true'] at he
          exact ⟨.inr (.inl ⟨sz, rfl, he.1.1, he.1.2.1, Nat.eq_of_beq_eq_true he.1.2.2.1.2⟩), he.2⟩
    rcases List.mem_cons.1 hm with e | hm
    · cases e; exact both.1
    · exact blksEq_spec both.2 k p hm

theorem happ_mem {k : Nat} : ∀ (u : List (Nat × Blk)) (h : Heap), inNames k u = true → ∃ b, (k, b) ∈ u ∧ happ h u k = some b
  | [], _, hn => by simp [inNames] at hn
  | (k', b) :: rest, h, hn => by
    simp only [happ]
    cases hr : inNames k rest with
    | true =>
      obtain ⟨b', h1, h2⟩ := happ_mem rest (hset h k' b) hr
      exact ⟨b', List.mem_cons_of_mem _ h1, h2⟩
    | false =>
      rw [happ_other rest _ hr]
      simp only [inNames, hr, Bool.or_false] at hn
      have : k = k' := Nat.eq_of_beq_eq_true hn
      subst this
      exact ⟨b, List.mem_cons_self, by simp [hset]⟩


theorem curOf_names {X : Type} {s : St} {x : X} : ∀ {l : List (Nat × (X → Blk) × (St → SV))} {k : Nat}, (curOf (curs s x l) k ≠ none ↔ inNames k (atNews x l) = true)
  | [], k => by simp [curs, curOf, atNews, inNames]
  | (k', p, f) :: l, k => by
    simp only [curs, curOf, atNews, inNames]
    cases h : Nat.beq k k' with
    | true => simp
    | false => simpa using curOf_names (l := l)

theorem curOf_mem {k : Nat} {c : Cur} : ∀ {m : List (Nat × Cur)}, curOf m k = some c → (k, c) ∈ m
  | [], h => by cases h
  | (k', c') :: m, h => by
    simp only [curOf] at h
    cases hb : Nat.beq k k' with
    | true =>
      rw [hb, cond_true] at h
      cases h
      rw [Nat.eq_of_beq_eq_true hb]
      exact List.mem_cons_self
    | false => rw [hb, cond_false] at h; exact List.mem_cons_of_mem _ (curOf_mem h)

theorem cursOk_spec {h : Heap} {kills : List Nat} : ∀ {m : List (Nat × Cur)}, cursOk h kills m = true → (∀ N k, curOf m N = some (.at k) → h k = none ∨ k ∈ kills) ∧ (∀ N N' k, curOf m N = some (.at k) → curOf m N' = some (.at k) → N = N')
  | [], _ => ⟨fun N k h => (by cases h), fun N N' k h _ => (by cases h)⟩
  | (K, c) :: m, ho => by
    have hrest : cursOk h kills m = true := by
      cases c with
      | «at» k => simp only [cursOk, Bool.and_eq_true] at ho; exact ho.2
      | nil sz => exact ho
    obtain ⟨g1, g2⟩ := cursOk_spec hrest
    have hd : ∀ k, c = .at k → (h k = none ∨ k ∈ kills) ∧ ∀ N, curOf m N ≠ some (.at k) := fun k e => by
      subst e
      simp only [cursOk, Bool.and_eq_true, Bool.or_eq_true] at ho
      refine ⟨ho.1.1.imp (fun hh => by simpa using hh) (fun hh => by simpa using hh), fun N hN => ?_⟩
      have := List.all_eq_true.1 ho.1.2 _ (curOf_mem hN)
      simp at this
    constructor
    · intro N k hN
      simp only [curOf] at hN
      cases hb : Nat.beq N K with
      | true => rw [hb, cond_true] at hN; cases hN; exact (hd k rfl).1
      | false => rw [hb, cond_false] at hN; exact g1 N k hN
    · intro N N' k hN hN'
      simp only [curOf] at hN hN'
      cases hb : Nat.beq N K with
      | true =>
        rw [hb, cond_true] at hN
        cases hN
        cases hb' : Nat.beq N' K with
        | true => rw [Nat.eq_of_beq_eq_true hb, Nat.eq_of_beq_eq_true hb']
        | false => rw [hb', cond_false] at hN'; exact absurd hN' ((hd k rfl).2 N')
      | false =>
        rw [hb, cond_false] at hN
        cases hb' : Nat.beq N' K with
        | true => rw [hb', cond_true] at hN'; cases hN'; exact absurd hN ((hd k rfl).2 N)
        | false => rw [hb', cond_false] at hN'; exact g2 N N' k hN hN'

theorem inNames_append {α : Type} {k : Nat} : ∀ {a b : List (Nat × α)}, inNames k (a ++ b) = (inNames k a || inNames k b)
  | [], b => by simp [inNames]
  | (k', y) :: a, b => by simp only [List.cons_append, inNames, inNames_append (a := a), Bool.or_assoc]

theorem inNames_any {α : Type} {k : Nat} : ∀ {l : List (Nat × α)}, inNames k l = true → ∃ y, (k, y) ∈ l
  | [], h => by simp [inNames] at h
  | (k', y) :: l, h => by
    simp only [inNames, Bool.or_eq_true] at h
    rcases h with h | h
    · rw [Nat.eq_of_beq_eq_true h]; exact ⟨y, List.mem_cons_self⟩
    · obtain ⟨z, hz⟩ := inNames_any h; exact ⟨z, List.mem_cons_of_mem _ hz⟩

theorem atNews_mem {X : Type} {x : X} {k : Nat} {p : Blk} : ∀ {l : List (Nat × (X → Blk) × (St → SV))}, (k, p) ∈ atNews x l → ∃ q ∈ l, q.1 = k
  | [], h => by cases h
  | (k', f, g) :: l, h => by
    simp only [atNews] at h
    rcases List.mem_cons.1 h with e | h
    · cases e; exact ⟨_, List.mem_cons_self, rfl⟩
    · obtain ⟨q, h1, h2⟩ := atNews_mem h; exact ⟨q, List.mem_cons_of_mem _ h1, h2⟩

structure NamesOk (L : LoopSpec) (h : Heap) (ks : List Nat) : Prop where
  blks : ∀ k, inNames k L.blks = true → h k ≠ none ∧ k ∉ ks
  news : ∀ (x : L.X) k, inNames k (atNews x L.news) = true → h k = none
  kills : ∀ k, k ∈ ks → ∃ b, h k = some b ∧ b.lock = false

theorem namesAll_spec {h : Heap} {ks : List Nat} (hall : namesAll L h ks = true) : NamesOk L h ks := by
  unfold namesAll at hall
  simp only [Bool.and_eq_true, List.all_eq_true] at hall
  obtain ⟨⟨h1, h2⟩, h3⟩ := hall
  refine ⟨fun k hk => ?_, fun x k hk => ?_, fun k hk => ?_⟩
  · obtain ⟨y, hy⟩ := inNames_any hk
    have := h1 _ hy
    simp only [Bool.not_eq_true', List.elem_eq_contains, List.contains_eq_mem, decide_eq_false_iff_not] at this
    exact ⟨fun e => by rw [e] at this; simp at this, this.2⟩
  · obtain ⟨y, hy⟩ := inNames_any hk
    obtain ⟨q, q1, q2⟩ := atNews_mem hy
    have := h2 q q1
    rw [q2] at this
    simpa using this
  · have := h3 k hk
    split at this
    · rename_i b hb; exact ⟨b, hb, by simpa using this⟩
    · cases this

/-- What the head's heap holds. -/
theorem head_heap (s : St) (x : L.X) (hall : NamesOk L s.heap (L.kills s)) (k : Nat) :
    ((L.head s x).heap k = none ∧ s.heap k = none) ∨
    (∃ p, (k, p) ∈ atX x L.blks ++ atNews x L.news ∧ (L.head s x).heap k = some p ∧ ((s.heap k ≠ none ∧ inNames k L.blks = true ∧ k ∉ L.kills s) ∨ (s.heap k = none ∧ inNames k (atNews x L.news) = true))) ∨
    (∃ b, s.heap k = some b ∧ k ∈ L.kills s ∧ (L.head s x).heap k = some (killed { b with lock := true }) ∧ b.lock = false) ∨
    (∃ b, s.heap k = some b ∧ (L.head s x).heap k = some { b with lock := true } ∧ inNames k L.blks = false ∧ k ∉ L.kills s) := by
  unfold LoopSpec.head
  simp only
  cases hi : inNames k (atX x L.blks ++ atNews x L.news) with
  | true =>
    obtain ⟨p, h1, h2⟩ := happ_mem (atX x L.blks ++ atNews x L.news) (fun k => match s.heap k with | some b => some (bif (L.kills s).elem k then killed { b with lock := true } else bif inNames k L.blks then b else { b with lock := true }) | none => none) hi
    refine .inr (.inl ⟨p, h1, h2, ?_⟩)
    rw [inNames_append, Bool.or_eq_true, atX_names] at hi
    rcases hi with hi | hi
    · exact .inl ⟨(hall.blks k hi).1, hi, (hall.blks k hi).2⟩
    · exact .inr ⟨hall.news x k hi, hi⟩
  | false =>
    rw [happ_other _ _ hi]
    rw [inNames_append, Bool.or_eq_false_iff, atX_names] at hi
    cases hs : s.heap k with
    | none => exact .inl ⟨rfl, rfl⟩
    | some b =>
      by_cases hk : k ∈ L.kills s
      · obtain ⟨b', h1, h2⟩ := hall.kills k hk
        rw [hs] at h1; cases h1
        exact .inr (.inr (.inl ⟨b, rfl, hk, by simp [hk], h2⟩))
      · exact .inr (.inr (.inr ⟨b, rfl, by simp [hi.1, hk], hi.1, hk⟩))

/-- A state that fits the head, and that has kept what the loop does not touch, stands at the head. -/
theorem head_rep {s s' : St} {x : L.X} {δ0 δ' : Dict} {a0 a' : Act} {w' we : World} {l : List Nat} (hall : NamesOk L s.heap (L.kills s)) (hcov : L.covers l = true) (hr0 : Rep own w0 δ0 s a0 we) (hr : Rep own w0 δ' s' a' w')
    (hle : δ0.le δ') (hk : keep l a0 a') (hlen : a'.tmps.size = a0.tmps.size) (hlock : ∀ k b, s.heap k = some b → inNames k L.blks = false → k ∉ L.kills s → s'.heap k = some b ∨ s'.heap k = some { b with lock := true }) (hf : fits L s.heap (L.kills s) s' x) :
    ∃ δ'', δ0.le δ'' ∧ Rep own w0 δ'' (L.head s x) a' w' := by
  unfold fits at hf
  simp only [reqP_iff] at hf
  obtain ⟨hco, _, hs, hb⟩ := hf
  obtain ⟨hco1, hco2⟩ := cursOk_spec hco
  generalize hm : curs s' x L.news = m at hs hb hco1 hco2
  have hdom : ∀ k, s.heap k ≠ none → δ0 k ≠ none := fun k hk h0 => by
    cases hh : s.heap k with
    | none => exact hk hh
    | some b => obtain ⟨p, h1, _⟩ := hr0.hr.blk k b hh; rw [h0] at h1; cases h1
  have hnew : ∀ k, curOf m k ≠ none → s.heap k = none := fun k hk => by
    rw [← hm, curOf_names] at hk
    exact hall.news x k hk
  have hold0 : ∀ k, s.heap k ≠ none → curOf m k = none := fun k hk => by
    cases hc : curOf m k with
    | none => rfl
    | some c => exact absurd (hnew k (by rw [hc]; simp)) hk
  let δ'' : Dict := fun k => match curOf m k with
    | some (.at k') => δ' k'
    | some (.nil sz) => some ⟨0, sz, 0, 0, true⟩
    | none => δ0 k
  have dat : ∀ N k, curOf m N = some (.at k) → δ'' N = δ' k := fun N k h => by simp only [δ'', h]
  have dnil : ∀ N sz, curOf m N = some (.nil sz) → δ'' N = some ⟨0, sz, 0, 0, true⟩ := fun N sz h => by simp only [δ'', h]
  have dold : ∀ k, curOf m k = none → δ'' k = δ0 k := fun k h => by simp only [δ'', h]
  have dsame : ∀ k, s.heap k ≠ none → ∀ p, δ' k = some p → δ0 k = some p := fun k hk p hp => by
    cases h0 : δ0 k with
    | none => exact (hdom k hk h0).elim
    | some q => have := hle _ _ h0; rw [hp] at this; cases this; rfl
  have hle'' : δ0.le δ'' := fun k p hp => by
    have : s.heap k ≠ none := fun e => by rw [hr0.tight k e] at hp; cases hp
    rw [dold k (hold0 k this)]; exact hp
  have hat : ∀ N k, curOf m N = some (.at k) → ∀ p, δ' k = some p → δ'' N = some p := fun N k h p hp => by rw [dat N k h, hp]
  have hold : ∀ k, curOf m k = none → (s.heap k).isSome = true → ∀ p, δ' k = some p → δ'' k = some p := fun k h hh p hp => by
    rw [dold k h]
    exact dsame k (by intro e; rw [e] at hh; cases hh) p hp
  -- a block that fits
  have conv : ∀ (b p : Blk) (q : Loc), BlkFits m s.heap b p → Live δ' b w' q → Live δ'' p w' q := fun b p q hf hl => by
    refine ⟨hl.s.trans hf.size, hl.n.trans hf.n, fun hno => ?_, fun hno => ?_⟩
    · have := hl.no hno
      have h1 := hf.n
      have h2 := hf.ext
      omega
    · obtain ⟨c, e, fz, c1, c2, c3, c4, c5, c6, c7⟩ := hl.rep hno
      have hrows : ∀ i, i < p.n → ∀ (rs : List Value), absL δ' (b.row i) rs → absL δ'' (p.row i) rs := fun i hi rs hrs => by
        rcases hf.row i hi with ⟨g1, g2⟩ | ⟨_, g1⟩
        · rw [← g2]
          exact absL_nameless _ _ (c3 (hf.flat g1) i (by rw [hf.n]; exact hi)) hrs
        · exact mtL_abs hat dnil hold _ _ _ g1 hrs
      refine ⟨c, e, fz, c1, fun h => c2 (hf.rw.trans h), fun h i hi => ?_, fun h => ?_, ?_, fun h => ?_, fun i hi => ?_⟩
      · rcases hf.row i hi with ⟨g1, g2⟩ | ⟨g1, _⟩
        · rw [← g2]; exact c3 (hf.flat h) i (by rw [hf.n]; exact hi)
        · rw [h] at g1; cases g1
      · rw [← hf.elem h]; exact c4 (by rw [hf.elem h]; exact h)
      · rw [← hf.size]
        have := Nat.mul_le_mul_right b.size hf.ext
        omega
      · rw [← hf.size]; exact c6 (hf.whole h)
      · obtain ⟨d1, d2⟩ := c7 i (by rw [hf.n]; exact hi)
        obtain ⟨xs, e1, e2⟩ := exists_list (δ := δ') (c := c) (b.row i) (q.o + i * b.size) (fun j y hy => d2 j y hy)
        have e3 := hrows i hi xs e1
        have hlen' := absL_length e1
        have hlen'' := absL_length e3
        rw [hf.size] at d1 e2
        refine ⟨by omega, fun j y hy => ?_⟩
        obtain ⟨r, f1, f2⟩ := absL_get e3 hy
        exact ⟨r, e2 j r f1, f2⟩
  -- a block of the head, as s' has it
  have orig : ∀ k p, (L.head s x).heap k = some p → ∃ q, δ'' k = some q ∧ (p.dead = false → Live δ'' p w' q ∧ (q.no = false → ∃ k' b, s'.heap k' = some b ∧ b.dead = false ∧ b.rw = p.rw ∧ δ' k' = some q ∧ ((curOf m k = some (.at k')) ∨ (curOf m k = none ∧ k' = k ∧ s.heap k ≠ none ∧ k ∉ L.kills s)))) := fun k p hp => by
    rcases head_heap s x hall k with ⟨h1, _⟩ | ⟨p', h1, h2, h3⟩ | ⟨b, h1, h2, h3, _⟩ | ⟨b, h1, h2, h3, h4⟩
    · rw [hp] at h1; cases h1
    · rw [hp] at h2; cases h2
      rcases blksEq_spec hb k p h1 with ⟨k', b, g1, g2, g3⟩ | ⟨sz, g1, g2, g3, g4⟩ | ⟨b, g1, g2, g3⟩
      · obtain ⟨q, d1, d2⟩ := hr.hr.blk k' b g2
        exact ⟨q, (dat k k' g1).trans d1, fun _ => ⟨conv b p q g3 (d2 g3.dead), fun _ => ⟨k', b, g2, g3.dead, g3.rw, d1, .inl g1⟩⟩⟩
      · subst g4
        exact ⟨_, dnil k _ g1, fun _ => ⟨⟨rfl, g2.symm, fun _ => ⟨g2, g3⟩, fun hh => (by cases hh)⟩, fun hh => (by cases hh)⟩⟩
      · have hold' : s.heap k ≠ none ∧ k ∉ L.kills s := by
          rcases h3 with ⟨h3, _, h4⟩ | ⟨_, h4⟩
          · exact ⟨h3, h4⟩
          · rw [← curOf_names (s := s'), hm] at h4; exact absurd g1 h4
        obtain ⟨q, d1, d2⟩ := hr.hr.blk k b g2
        exact ⟨q, (dold k g1).trans (dsame k hold'.1 q d1), fun _ => ⟨conv b p q g3 (d2 g3.dead), fun _ => ⟨k, b, g2, g3.dead, g3.rw, d1, .inr ⟨g1, rfl, hold'.1, hold'.2⟩⟩⟩⟩
    · rw [hp] at h3; cases h3
      obtain ⟨q, d1, _⟩ := hr0.hr.blk k b h1
      exact ⟨q, hle'' _ _ d1, fun hh => by simp [killed] at hh⟩
    · rw [hp] at h2; cases h2
      have hcase : ∃ b', s'.heap k = some b' ∧ b'.size = b.size ∧ b'.rw = b.rw ∧ b'.n = b.n ∧ b'.row = b.row ∧ b'.flat = b.flat ∧ b'.dead = b.dead ∧ b'.ext = b.ext ∧ b'.elem = b.elem ∧ b'.whole = b.whole := by
        rcases hlock k b h1 h3 h4 with g | g
        · exact ⟨b, g, rfl, rfl, rfl, rfl, rfl, rfl, rfl, rfl, rfl⟩
        · exact ⟨_, g, rfl, rfl, rfl, rfl, rfl, rfl, rfl, rfl, rfl⟩
      obtain ⟨b', g1, g2, g3, g4, g5, g6, g7, g8, g9, g10⟩ := hcase
      obtain ⟨q0, q1, q2⟩ := hr0.hr.blk k b h1
      obtain ⟨q, d1, d2⟩ := hr.hr.blk k b' g1
      have hsk : s.heap k ≠ none := by rw [h1]; simp
      have hc := hold0 k hsk
      have hqq := dsame k hsk q d1
      rw [q1] at hqq; cases hqq
      refine ⟨q0, (dold k hc).trans q1, fun hdd => ⟨?_, fun _ => ⟨k, b', g1, by rw [g7]; exact hdd, g3, d1, .inr ⟨hc, rfl, hsk, h4⟩⟩⟩⟩
      have hdd' : b.dead = false := hdd
      have hl := d2 (by rw [g7]; exact hdd')
      have hl0 := q2 hdd'
      refine ⟨hl.s.trans g2, hl.n.trans g4, fun hno => by have := hl.no hno; rw [g4, g8] at this; exact this, fun hno => ?_⟩
      obtain ⟨c, e, fz, c1, c2, c3, c4, c5, c6, c7⟩ := hl.rep hno
      obtain ⟨_, _, _, _, _, _, _, _, _, z7⟩ := hl0.rep hno
      rw [g2, g8] at c5
      rw [g3] at c2
      rw [g6, g4, g5] at c3
      rw [g9] at c4
      rw [g2, g10] at c6
      refine ⟨c, e, fz, c1, c2, c3, c4, c5, c6, fun i hi => ?_⟩
      obtain ⟨d1', d2'⟩ := c7 i (by rw [g4]; exact hi)
      obtain ⟨p1, p2⟩ := z7 i hi
      rw [g5, g2] at d1'
      refine ⟨d1', fun j y hy => ?_⟩
      obtain ⟨r', f1, f2⟩ := d2' j y (by rw [g5]; exact hy)
      rw [g2] at f1
      obtain ⟨r'', f3, f4⟩ := p2 j y hy
      exact ⟨r', f1, absV_mono hle'' _ _ (absV_same hle y r'' r' f4 f2)⟩
  have origl : ∀ k r, lies δ'' (L.head s x).heap k r → ∃ k' b p, (L.head s x).heap k = some p ∧ s'.heap k' = some b ∧ b.rw = p.rw ∧ lies δ' s'.heap k' r ∧ ((curOf m k = some (.at k')) ∨ (curOf m k = none ∧ k' = k ∧ s.heap k ≠ none ∧ k ∉ L.kills s)) := fun k r ⟨p, q, h1, h2, h3, h4, h5⟩ => by
    obtain ⟨q', g1, g2⟩ := orig k p h1
    rw [h3] at g1; cases g1
    obtain ⟨k', b, e1, e2, e3, e4, e5⟩ := (g2 h2).2 h4
    exact ⟨k', b, p, h1, e1, e3, ⟨b, q, e1, e2, e4, h4, h5⟩, e5⟩
  refine ⟨δ'', hle'', ?_, hr.df, ⟨fun k p hp => ?_, fun k1 k2 r p hl1 hl2 hp hrw => ?_⟩, fun k hk => ?_, fun r ⟨k, p, hp, hrw, hl⟩ => ?_, hr.wr⟩
  · -- the slots
    unfold LoopSpec.head
    refine absL_slots (atX x L.slots) (l := killSlots s.tmps (L.dead ++ L.slots.map (·.1))) ?_ fun t v hmm r hr' => ?_
    · refine absL_of_get ?_ fun t y hy => ?_
      · have : ∀ (ds : List Nat) (l : List SV), (killSlots l ds).length = l.length := by
          intro ds
          induction ds with
          | nil => intro l; rfl
          | cons d ds ih => intro l; simp only [killSlots]; rw [ih]; simp
        rw [this]
        have := absL_length hr0.tm
        simp at this ⊢
        omega
      · rw [kill_get] at hy
        by_cases hd : t ∈ L.dead ++ L.slots.map (·.1) ∧ t < s.tmps.length
        · rw [if_pos hd] at hy
          cases hy
          have : t < a'.tmps.toList.length := by
            have h1 := absL_length hr0.tm
            simp at h1 ⊢
            omega
          exact ⟨_, List.getElem?_eq_getElem this, by simp only [absV]⟩
        · rw [if_neg hd] at hy
          have hlt : t < s.tmps.length := (List.getElem?_eq_some_iff.1 hy).1
          have hnd : t ∉ L.dead ++ L.slots.map (·.1) := fun hx => hd ⟨hx, hlt⟩
          have hnl : t ∉ l := fun hx => by
            have h1 := List.all_eq_true.1 hcov t hx
            simp only [Bool.or_eq_true] at h1
            rcases h1 with h1 | h1
            · refine hnd (List.mem_append_right _ ?_)
              have : ∀ (ps : List (Nat × (L.X → SV))), inNames t ps = true → t ∈ ps.map (·.1) := by
                intro ps
                induction ps with
                | nil => intro h; simp [inNames] at h
                | cons p ps ih =>
                  obtain ⟨k, f⟩ := p
                  intro h
                  simp only [inNames, Bool.or_eq_true] at h
                  rcases h with h | h
                  · have := Nat.eq_of_beq_eq_true h
                    subst this
                    simp
                  · simp only [List.map_cons]; exact List.mem_cons_of_mem _ (ih h)
              exact this _ h1
            · exact hnd (List.mem_append_left _ (by simpa using h1))
          obtain ⟨r, h1, h2⟩ := absL_get hr0.tm hy
          refine ⟨r, ?_, absV_mono hle'' _ _ h2⟩
          have := hk t hnl
          simp at h1 ⊢
          rw [this, h1]
    · have h1 := slotsEq_spec hs t v hmm
      refine mtS_abs hat dnil hold v _ r h1 ?_
      cases hx : s'.tmps[t]? with
      | none => rw [List.getD, hx]; simp [absV]
      | some y =>
        rw [List.getD, hx]
        simp only [Option.getD_some]
        obtain ⟨r', g1, g2⟩ := absL_get hr.tm hx
        rw [g1] at hr'; cases hr'
        exact g2
  · obtain ⟨q, g1, g2⟩ := orig k p hp
    exact ⟨q, g1, fun hd => (g2 hd).1⟩
  · obtain ⟨k1', b1, p1, e1, e2, e3, e4, e5⟩ := origl k1 r hl1
    obtain ⟨k2', b2, p2, f1, f2, f3, f4, f5⟩ := origl k2 r hl2
    have : p1 = p := by
      have h : some p1 = some p := e1.symm.trans hp
      cases h; rfl
    subst this
    have := hr.hr.inj k1' k2' r b1 e4 f4 e2 (e3.trans hrw)
    subst this
    rcases e5 with e5 | ⟨e5, rfl, e6, e7⟩ <;> rcases f5 with f5 | ⟨f5, rfl, f6, f7⟩
    · exact hco2 k1 k2 _ e5 f5
    · rcases hco1 k1 _ e5 with g | g
      · exact absurd g f6
      · exact absurd g f7
    · rcases hco1 k2 _ f5 with g | g
      · exact absurd g e6
      · exact absurd g e7
    · rfl
  · rcases head_heap s x hall k with ⟨_, h1⟩ | ⟨p, _, h2, _⟩ | ⟨b, _, _, h2, _⟩ | ⟨b, _, h2, _⟩
    · have hc : curOf m k = none := by
        cases hc : curOf m k with
        | none => rfl
        | some c =>
          exfalso
          have : inNames k (atX x L.blks ++ atNews x L.news) = true := by
            rw [inNames_append, Bool.or_eq_true]
            right
            rw [← curOf_names (s := s'), hm, hc]; simp
          have := happ_ne (atX x L.blks ++ atNews x L.news) (fun k => match s.heap k with | some b => some (bif (L.kills s).elem k then killed { b with lock := true } else bif inNames k L.blks then b else { b with lock := true }) | none => none) this
          exact this hk
      rw [dold k hc]
      exact hr0.tight k h1
    · rw [hk] at h2; cases h2
    · rw [hk] at h2; cases h2
    · rw [hk] at h2; cases h2
  · obtain ⟨k', b, p', e1, e2, e3, e4, _⟩ := origl k r hl
    have : p' = p := by
      have h : some p' = some p := e1.symm.trans hp
      cases h; rfl
    subst this
    exact hr.mine r ⟨k', b, e2, e3.trans hrw, e4⟩

/-- What turns aside leaves a state's blocks. -/
theorem Rep.off {B : Nat} {δ : Dict} {s : St} {a : Act} {w w' : World} (hB : w0.heap.size ≤ B) (h : Rep own w0 δ s a w) (ho : Off B w w') : HRep δ s.heap w' ∧ WRel own w0 w' := by
  refine ⟨⟨fun k b hk => ?_, h.hr.inj⟩, ⟨ho.os.trans h.wr.os, ho.tape.trans h.wr.tape, ho.output.trans h.wr.output, Nat.le_trans h.wr.size ho.size, fun r hr hno => ?_⟩⟩
  · obtain ⟨p, d1, d2⟩ := h.hr.blk k b hk
    refine ⟨p, d1, fun hd => ?_⟩
    have hl := d2 hd
    refine ⟨hl.s, hl.n, hl.no, fun hno => ?_⟩
    obtain ⟨c, e, fz, c1, rest⟩ := hl.rep hno
    exact ⟨c, e, fz, ho.same _ _ c1 (.inl rfl), rest⟩
  · have h1 := h.wr.block r hr hno
    rw [Array.getElem?_eq_getElem hr] at h1 ⊢
    exact ho.same _ _ h1 (.inr (Nat.lt_of_lt_of_le hr hB))

theorem MarksOk.off {B0 B : Nat} {ds : List Deferred} {w w' : World} (h : MarksOk B0 ds w) (hlt : ∀ D, ({ target := .collected D, args := #[] } : Deferred) ∈ ds → D < B) (ho : Off B w w') : MarksOk B0 ds w' := by
  obtain ⟨Ds, rest, h1, h0, h2, h3⟩ := h
  exact ⟨Ds, rest, h1, h0, h2, fun D hD => ⟨(h3 D hD).1, ho.same _ _ (h3 D hD).2 (.inr (hlt D (by rw [h1]; exact List.mem_append_left _ (List.mem_map_of_mem hD))))⟩⟩

theorem MarksOk.lt {B0 : Nat} {ds : List Deferred} {w : World} (h : MarksOk B0 ds w) : ∀ D, ({ target := .collected D, args := #[] } : Deferred) ∈ ds → D < w.heap.size := by
  obtain ⟨Ds, rest, h1, h0, _, h3⟩ := h
  intro D hD
  rw [h1] at hD
  rcases List.mem_append.1 hD with hD | hD
  case inr => have := h0 _ hD; simp [isMark] at this
  obtain ⟨D', hD', e⟩ := List.mem_map.1 hD
  cases e
  exact (Array.getElem?_eq_some_iff.1 (h3 D hD').2).1

theorem HRep.aside {B : Nat} {δ : Dict} {hp : Heap} {w w' : World} (h : HRep δ hp w) (ho : Off B w w') : HRep δ hp w' := by
  refine ⟨fun k b hk => ?_, h.inj⟩
  obtain ⟨p, d1, d2⟩ := h.blk k b hk
  refine ⟨p, d1, fun hd => ?_⟩
  have hl := d2 hd
  refine ⟨hl.s, hl.n, hl.no, fun hno => ?_⟩
  obtain ⟨c, e, fz, c1, rest⟩ := hl.rep hno
  exact ⟨c, e, fz, ho.same _ _ c1 (.inl rfl), rest⟩

theorem Rep.aside {B : Nat} {δ : Dict} {s : St} {a : Act} {w w' : World} (h : Rep own w0 δ s a w) (hB : w0.heap.size ≤ B) (hlt : ∀ D, ({ target := .collected D, args := #[] } : Deferred) ∈ a.defers → D < B) (ho : Off B w w') : Rep own w0 δ s a w' :=
  ⟨h.tm, h.df.off hlt ho, (h.off hB ho).1, h.tight, h.mine, (h.off hB ho).2⟩

theorem MarksOk.cons {B0 D : Nat} {ds : List Deferred} {w : World} (h : MarksOk B0 ds w) (hB : B0 ≤ D) (hlt : ∀ D', ({ target := .collected D', args := #[] } : Deferred) ∈ ds → D' < D) (hD : w.heap[D]? = some (.deferred (some []))) : MarksOk B0 ({ target := .collected D, args := #[] } :: ds) w := by
  obtain ⟨Ds, rest, h1, h0, h2, h3⟩ := h
  refine ⟨D :: Ds, rest, by rw [h1]; rfl, h0, List.nodup_cons.2 ⟨fun hm => ?_, h2⟩, fun D' hD' => ?_⟩
  · have := hlt D (by rw [h1]; exact List.mem_append_left _ (List.mem_map_of_mem hm))
    omega
  · rcases List.mem_cons.1 hD' with rfl | hm
    · exact ⟨hB, hD⟩
    · exact h3 D' hm

theorem put_all {δ : Dict} : ∀ (ps : List Nat) (xs : List SV) (vs : List Value) (l : List SV) (arr : List Value), absL δ l arr → absL δ xs vs → absL δ (putAll l ps xs) ((ps.zip vs).foldl (fun t pv => t.set pv.1 pv.2) arr)
  | [], xs, vs, l, arr, h, _ => by simpa [putAll] using h
  | t :: ts, [], [], l, arr, h, _ => by simpa [putAll] using h
  | t :: ts, x :: xs, v :: vs, l, arr, h, hx => by
    simp only [absL] at hx
    simp only [putAll, List.zip_cons_cons, List.foldl_cons]
    exact put_all ts xs vs _ _ (absL_set h t hx.1) hx.2
  | t :: ts, [], _ :: _, l, arr, _, hx => by simp only [absL] at hx
  | t :: ts, _ :: _, [], l, arr, _, hx => by simp only [absL] at hx

theorem fold_list (ps : Array Tmp) (vs arr : Array Value) : ((ps.zip vs).foldl (fun t (p, v) => t.setIfInBounds p v) arr).toList = (ps.toList.zip vs.toList).foldl (fun t pv => t.set pv.1 pv.2) arr.toList := by
  rw [← Array.foldl_toList, Array.toList_zip]
  generalize ps.toList.zip vs.toList = l
  induction l generalizing arr with
  | nil => rfl
  | cons x l ih =>
    simp only [List.foldl_cons]
    rw [ih, Array.toList_setIfInBounds]

theorem size_fold (ps : Array Tmp) (vs arr : Array Value) : ((ps.zip vs).foldl (fun t (p, v) => t.setIfInBounds p v) arr).size = arr.size := by
  rw [← Array.foldl_toList]
  generalize (ps.zip vs).toList = l
  induction l generalizing arr with
  | nil => rfl
  | cons x l ih =>
    simp only [List.foldl_cons]
    rw [ih, Array.size_setIfInBounds]

theorem Rep.same {δ : Dict} {s s' : St} {a : Act} {w : World} (h : Rep own w0 δ s a w) (ht : s'.tmps = s.tmps) (hh : s'.heap = s.heap) : Rep own w0 δ s' a w :=
  ⟨by rw [ht]; exact h.tm, h.df, by rw [hh]; exact h.hr, by rw [hh]; exact h.tight, by rw [hh]; exact h.mine, h.wr⟩

theorem Rep.unlock {δ : Dict} {s s' : St} {a : Act} {w : World} (h : Rep own w0 δ s' a w) : Rep own w0 δ { s' with heap := unlock s.heap s'.heap } a w := by
  have key : ∀ k b, Go.SE.unlock s.heap s'.heap k = some b → ∃ b', s'.heap k = some b' ∧ b'.size = b.size ∧ b'.rw = b.rw ∧ b'.n = b.n ∧ b'.row = b.row ∧ b'.flat = b.flat ∧ b'.dead = b.dead ∧ b'.ext = b.ext ∧ b'.elem = b.elem ∧ b'.whole = b.whole := fun k b hk => by
    unfold Go.SE.unlock at hk
    cases h1 : s'.heap k with
    | none => rw [h1] at hk; cases hk
    | some b' =>
      rw [h1] at hk
      simp only at hk
      cases h2 : s.heap k with
      | none => rw [h2] at hk; cases hk; exact ⟨b, rfl, rfl, rfl, rfl, rfl, rfl, rfl, rfl, rfl, rfl⟩
      | some b0 => rw [h2] at hk; cases hk; exact ⟨b', rfl, rfl, rfl, rfl, rfl, rfl, rfl, rfl, rfl, rfl⟩
  have keyl : ∀ k r, lies δ (Go.SE.unlock s.heap s'.heap) k r → lies δ s'.heap k r := fun k r ⟨b, p, h1, h2, h3⟩ => by
    obtain ⟨b', g1, _, _, _, _, _, g7, _⟩ := key k b h1
    exact ⟨b', p, g1, g7.trans h2, h3⟩
  refine ⟨h.tm, h.df, ⟨fun k b hk => ?_, fun k k' r b hl hl' hk hrw => ?_⟩, fun k hk => ?_, fun r ⟨k, b, hk, hrw, hl⟩ => ?_, h.wr⟩
  · obtain ⟨b', g1, g2, g3, g4, g5, g6, g7, g8, g9, g10⟩ := key k b hk
    obtain ⟨q, d1, d2⟩ := h.hr.blk k b' g1
    refine ⟨q, d1, fun hd => ?_⟩
    have hl := d2 (g7.trans hd)
    refine ⟨hl.s.trans g2, hl.n.trans g4, fun hno => by have := hl.no hno; rw [g4, g8] at this; exact this, fun hno => ?_⟩
    obtain ⟨c, e, fz, c1, c2, c3, c4, c5, c6, c7⟩ := hl.rep hno
    rw [g2, g8] at c5
    rw [g3] at c2
    rw [g6, g4, g5] at c3
    rw [g9] at c4
    rw [g2, g10] at c6
    rw [g4, g5, g2] at c7
    exact ⟨c, e, fz, c1, c2, c3, c4, c5, c6, c7⟩
  · obtain ⟨b1, g1, _, g3, _⟩ := key k b hk
    exact h.hr.inj k k' r b1 (keyl k r hl) (keyl k' r hl') g1 (g3.trans hrw)
  · refine h.tight k ?_
    simp only [Go.SE.unlock] at hk
    cases h1 : s'.heap k with
    | none => rfl
    | some b' =>
      rw [h1] at hk
      simp only at hk
      cases h2 : s.heap k <;> rw [h2] at hk <;> cases hk
  · obtain ⟨b1, g1, _, g3, _⟩ := key k b hk
    exact h.mine r ⟨k, b1, g1, g3.trans hrw, keyl k r hl⟩

/-- From δ0, s0, a0 on, ranges over functions taken in. -/
structure FromC (q : Bool) (l : List Nat) (δ0 : Dict) (s0 : St) (a0 : Act) (δ : Dict) (s : St) (a : Act) : Prop where
  keep : keep l a0 a
  le : δ0.le δ
  locks : locks s0 s
  len : a.tmps.size = a0.tmps.size
  rs : restOf a.defers = restOf a0.defers
  df : q = true → a.defers = a0.defers

theorem From.toC {q : Bool} {l : List Nat} {δ0 δ : Dict} {s0 s : St} {a0 a : Act} (h : From l δ0 s0 a0 δ s a) : FromC q l δ0 s0 a0 δ s a := ⟨h.keep, h.le, h.locks, h.len, by rw [h.df], fun _ => h.df⟩
theorem FromC.refl (q : Bool) (l : List Nat) (δ : Dict) (s : St) (a : Act) : FromC q l δ s a δ s a := ⟨keep_refl l a, δ.le_refl, locks_refl s, rfl, rfl, fun _ => rfl⟩
theorem FromC.wk {q q' : Bool} {l : List Nat} {δ0 δ : Dict} {s0 s : St} {a0 a : Act} (h : FromC q l δ0 s0 a0 δ s a) (hq : q' = true → q = true) : FromC q' l δ0 s0 a0 δ s a := ⟨h.keep, h.le, h.locks, h.len, h.rs, fun e => h.df (hq e)⟩
theorem FromC.trans {q : Bool} {l : List Nat} {δ0 δ1 δ2 : Dict} {s0 s1 s2 : St} {a0 a1 a2 : Act} (h : FromC q l δ0 s0 a0 δ1 s1 a1) (h' : FromC q l δ1 s1 a1 δ2 s2 a2) : FromC q l δ0 s0 a0 δ2 s2 a2 :=
  ⟨keep_trans h.keep h'.keep, Dict.le_trans h.le h'.le, locks_trans h.locks h'.locks, h'.len.trans h.len, h'.rs.trans h.rs, fun hq => (h'.df hq).trans (h.df hq)⟩
theorem FromC.mono {q : Bool} {l l' : List Nat} {δ0 δ : Dict} {s0 s : St} {a0 a : Act} (h : FromC q l δ0 s0 a0 δ s a) (hs : ∀ t, t ∈ l → t ∈ l') : FromC q l' δ0 s0 a0 δ s a := ⟨keep_mono h.keep hs, h.le, h.locks, h.len, h.rs, h.df⟩
theorem FromC.nx {q : Bool} {l : List Nat} {δ0 δ : Dict} {s0 s : St} {a0 a : Act} (h : FromC q l δ0 s0 a0 δ s a) (n : Nat) : FromC q l δ0 s0 a0 δ { s with nx := n } a := ⟨h.keep, h.le, h.locks, h.len, h.rs, h.df⟩

/-- What code comes to: an exit, and a state. -/
def Ends (own : Nat → Prop) (w0 : World) (q : Bool) (l : List Nat) (δ0 : Dict) (s0 : St) (a0 : Act) (K : Exit → St → Prop) (e : Exit) (a : Act) (w : World) : Prop :=
  ∃ δ s, K e s ∧ Rep own w0 δ s a w ∧ FromC q l δ0 s0 a0 δ s a

theorem Rep.size {δ : Dict} {s : St} {a : Act} {w : World} (h : Rep own w0 δ s a w) : s.tmps.length = a.tmps.size := by
  have := absL_length h.tm
  simpa using this

theorem tmps_same {s : St} {i : Nat} {b : Bool} {t : Bool} (h : s.eval (.tmp i) = .v (.bool b)) (hb : b = t) : ({ s with tmps := s.tmps.set i (.v (.bool t)) } : St) = s := by
  subst hb
  simp only [St.eval] at h
  have hx : s.tmps.getD i .unk = .v (.bool b) := by
    cases hg : s.tmps[i]? with
    | none => rw [List.getD, hg] at h; simp [undefS, undef] at h
    | some y => rw [List.getD, hg] at h ⊢; simpa using h
  rw [set_same hx (by simp)]

/-- The blocks that a loop may turn are not locked. -/
theorem no_lock {L : LoopSpec} {s : St} {x0 : L.X} (hall : NamesOk L s.heap (L.kills s)) (hf0 : fits L s.heap (L.kills s) s x0) : ∀ k b, s.heap k = some b → b.lock = true → inNames k L.blks = false ∧ k ∉ L.kills s := fun k b hk hl => by
  constructor
  · cases hi : inNames k L.blks with
    | false => rfl
    | true =>
      exfalso
      have hi' : inNames k (atX x0 L.blks ++ atNews x0 L.news) = true := by rw [inNames_append, atX_names, hi]; rfl
      obtain ⟨p, hp, _⟩ := happ_mem (atX x0 L.blks ++ atNews x0 L.news) s.heap hi'
      unfold fits at hf0
      simp only [reqP_iff] at hf0
      have hc : curOf (curs s x0 L.news) k = none := by
        cases hc : curOf (curs s x0 L.news) k with
        | none => rfl
        | some c =>
          have : inNames k (atNews x0 L.news) = true := curOf_names.1 (by rw [hc]; simp)
          rw [hall.news x0 k this] at hk; cases hk
      rcases blksEq_spec hf0.2.2.2 k p hp with ⟨k', b', g1, _⟩ | ⟨sz, g1, _⟩ | ⟨b', _, g1, g2⟩
      · rw [hc] at g1; cases g1
      · rw [hc] at g1; cases g1
      · rw [hk] at g1; cases g1
        have := g2.lock
        rw [hl] at this; cases this
  · intro hkk
    obtain ⟨b', g1, g2⟩ := hall.kills k hkk
    rw [hk] at g1; cases g1
    rw [hl] at g2; cases g2

/-- ████ THE CONDITIONS OF CODE ARE SOUND ████ -/
theorem code_wp (hm : P.follows .mixedOrders = true) (hΓ : ∀ f g, Γ f = some g → g.ok P f) {Λ : Nat → Option LoopSpec} : ∀ (c : Code) (ro : Option Nat) (n : Nat) (own : Nat → Prop) (w0 : World), (∀ r, w0.heap.size ≤ r → own r) → (ro = none ∨ noRF c = true) → ∀ (id : Nat) (K : Exit → St → Prop) (δ : Dict) (s : St) (a : Act) (w : World),
    vcCode P Γ Λ c id s K → Rep own w0 δ s a w → c.wpIn (WF ro) n P (Ends own w0 (noRF c) (dsts c) δ s a K) a w
  | .skip, ro, n, own, w0, hown, hrf, id, K, δ, s, a, w, h, hr => wpIn_skip ⟨δ, s, h, hr, FromC.refl _ _ _ _ _⟩
  | .exit i, ro, n, own, w0, hown, hrf, id, K, δ, s, a, w, h, hr => wpIn_exit ⟨δ, s, h, hr, FromC.refl _ _ _ _ _⟩
  | .ret, ro, n, own, w0, hown, hrf, id, K, δ, s, a, w, h, hr => wpIn_ret ⟨δ, s, h, hr, FromC.refl _ _ _ _ _⟩
  | .region rid ops draw, ro, n, own, w0, hown, hrf, id, K, δ, s, a, w, h, hr => by
    simp only [vcCode] at h
    cases hb : (!draw || regionOk P Γ ops ⟨beforeL ops.toList [], prOf Λ rid⟩) with
    | false => rw [hb] at h; exact h.elim
    | true =>
      rw [hb, cond_true] at h
      refine region_wp hm hΓ hown (fun a' w' ⟨δ', s', h1, h2, h3⟩ => ⟨δ', { s' with nx := s'.nx + 8 * ops.size }, h1, h2.nx _, ⟨h3.keep, h3.le, h3.locks, h3.len, by rw [h3.df], fun _ => h3.df⟩⟩) (fun v a' w' ⟨δ', x, h', k1, k2, k3, k4⟩ => ?_) hr.tm hb h hr (From.refl _ _ _ _)
      cases x with
      | v val =>
        simp only [absV] at k2
        subst k2
        exact ⟨δ', { tmps := killSlots s.tmps (dstsOps ops.toList), heap := h', nx := s.nx + 8 * ops.size }, k1, k3.nx (s.nx + 8 * ops.size), ⟨k4.keep, k4.le, k4.locks, k4.len, by rw [k4.df], fun _ => k4.df⟩⟩
      | _ => exact k1.elim
  | .seq x y, ro, n, own, w0, hown, hrf, id, K, δ, s, a, w, h, hr => by
    simp only [vcCode] at h
    cases hL : atL s (Λ (cutKey x)) with
    | none =>
      rw [hL] at h
      simp only at h
      refine wpIn_seq (wpIn_mono (code_wp hm hΓ x ro n own w0 hown (hrf.imp (fun e => e) fun h => ((Bool.and_eq_true _ _).mp h).1) id _ δ s a w h hr) fun e a' w' ⟨δ', s', h1, h2, h3⟩ => ?_)
      have h3' := (h3.mono (l' := dsts (.seq x y)) fun t ht => List.mem_append_left _ ht).wk (q' := noRF (.seq x y)) fun h => ((Bool.and_eq_true _ _).mp h).1
      cases e with
      | normal =>
        refine wpIn_mono (code_wp hm hΓ y ro n own w0 hown (hrf.imp (fun e => e) fun h => ((Bool.and_eq_true _ _).mp h).2) id K δ' s' a' w' h1 h2) fun e2 a2 w2 ⟨δ2, s2, g1, g2, g3⟩ => ?_
        exact ⟨δ2, s2, g1, g2, h3'.trans ((g3.mono fun t ht => List.mem_append_right _ ht).wk fun h => ((Bool.and_eq_true _ _).mp h).2)⟩
      | exit i => exact ⟨δ', s', h1, h2, h3'⟩
      | goto l => exact ⟨δ', s', h1, h2, h3'⟩
      | ret => exact ⟨δ', s', h1, h2, h3'⟩
      | panic ch => exact ⟨δ', s', h1, h2, h3'⟩
      | outgrown => exact ⟨δ', s', h1, h2, h3'⟩
    | some L =>
      rw [hL] at h
      simp only at h
      cases hcv : (L.news.isEmpty && L.covers (dsts x) && namesAll L s.heap (L.kills s)) with
      | false => rw [hcv] at h; exact h.elim
      | true =>
        rw [hcv, cond_true] at h
        simp only [Bool.and_eq_true] at hcv
        obtain ⟨⟨hne, hcov⟩, hna⟩ := hcv
        have hall := namesAll_spec hna
        have hnews : L.news = [] := by cases hn : L.news with | nil => rfl | cons _ _ => rw [hn] at hne; cases hne
        have hkill : L.kills s = [] := by unfold LoopSpec.kills; rw [hnews]; rfl
        obtain ⟨h1, h2⟩ := h
        have hshut : ∀ k b, s.heap k = some b → (L.shut s).heap k = some (bif inNames k L.blks then b else { b with lock := true }) := fun k b hk => by
          unfold LoopSpec.shut Go.SE.unlock
          simp only [hk]
          cases inNames k L.blks <;> rfl
        have hlocked : ∀ k b, s.heap k = some b → b.lock = true → (L.shut s).heap k = some b := fun k b hk hl => by
          rw [hshut k b hk]
          cases inNames k L.blks with
          | true => rfl
          | false => rw [cond_false, show ({ b with lock := true } : Blk) = b by cases b; simp only at hl; subst hl; rfl]
        have hrs : Rep own w0 δ (L.shut s) a w := Rep.unlock (s := { s with heap := fun k => match s.heap k with | some b => some (bif inNames k L.blks then b else { b with lock := true }) | none => none }) hr
        refine wpIn_seq (wpIn_mono (code_wp hm hΓ x ro n own w0 hown (hrf.imp (fun e => e) fun h => ((Bool.and_eq_true _ _).mp h).1) id _ δ (L.shut s) a w h1 hrs) fun e a' w' ⟨δ', s', g1, g2, g3⟩ => ?_)
        have out : ∀ e', K e' { s' with heap := unlock s.heap s'.heap } → Ends own w0 (noRF (.seq x y)) (dsts (.seq x y)) δ s a K e' a' w' := fun e' hK =>
          ⟨δ', _, hK, g2.unlock, ⟨keep_mono g3.keep fun t ht => List.mem_append_left _ ht, g3.le, fun k b hk hl => by
            have := g3.locks k b (hlocked k b hk hl) hl
            show unlock s.heap s'.heap k = some b
            unfold unlock
            rw [this, hk], g3.len, g3.rs, fun hq => g3.df ((Bool.and_eq_true _ _).mp hq).1⟩⟩
        cases e with
        | normal =>
          obtain ⟨x0, hf⟩ := g1
          have hinv : L.inv x0 := by
            unfold fits at hf
            simp only [reqP_iff] at hf
            exact hf.2.1
          obtain ⟨δ3, e1, e2⟩ := head_rep hall hcov hr g2 g3.le g3.keep g3.len (fun k b hk hi _ => .inr (by
            refine g3.locks k _ ?_ rfl
            rw [hshut k b hk, hi]; rfl)) hf
          have e3 : Rep own w0 δ3 (L.opn s (cnt x) x0) a' w' := (Rep.unlock (s := s) e2).nx _
          have nolock : ∀ k b, s.heap k = some b → b.lock = true → inNames k L.blks = false := fun k b hk hl => by
            cases hi : inNames k L.blks with
            | false => rfl
            | true =>
              exfalso
              have hi' : inNames k (atX x0 L.blks ++ atNews x0 L.news) = true := by rw [inNames_append, atX_names, hi]; rfl
              obtain ⟨p, hp, _⟩ := happ_mem (atX x0 L.blks ++ atNews x0 L.news) s.heap hi'
              unfold fits at hf
              simp only [reqP_iff] at hf
              have hc : ∀ k, curOf (curs s' x0 L.news) k = none := fun k => by rw [hnews]; rfl
              rcases blksEq_spec hf.2.2.2 k p hp with ⟨k', b', q1, _⟩ | ⟨sz, q1, _⟩ | ⟨b', _, q1, q2⟩
              · rw [hc] at q1; cases q1
              · rw [hc] at q1; cases q1
              · rw [g3.locks k b (hlocked k b hk hl) hl] at q1; cases q1
                have := q2.lock
                rw [hl] at this; cases this
          refine wpIn_mono (code_wp hm hΓ y ro n own w0 hown (hrf.imp (fun e => e) fun h => ((Bool.and_eq_true _ _).mp h).2) id K δ3 _ a' w' (h2 x0 hinv) e3) fun e2 a2 w2 ⟨δ2, s2, q1, q2, q3⟩ => ?_
          refine ⟨δ2, s2, q1, q2, ⟨keep_trans (keep_mono g3.keep fun t ht => List.mem_append_left _ ht) (keep_mono q3.keep fun t ht => List.mem_append_right _ ht), Dict.le_trans e1 q3.le, fun k b hk hl => ?_, q3.len.trans g3.len, q3.rs.trans g3.rs, fun hq => (q3.df ((Bool.and_eq_true _ _).mp hq).2).trans (g3.df ((Bool.and_eq_true _ _).mp hq).1)⟩⟩
          refine q3.locks k b ?_ hl
          show unlock s.heap (L.head s x0).heap k = some b
          unfold unlock
          rcases head_heap s x0 hall k with ⟨_, h1⟩ | ⟨p, _, _, ⟨_, h1, _⟩ | ⟨h1, _⟩⟩ | ⟨b', _, h1, _⟩ | ⟨b', h1, h2, _⟩
          · rw [hk] at h1; cases h1
          · rw [nolock k b hk hl] at h1; cases h1
          · rw [hk] at h1; cases h1
          · rw [hkill] at h1; cases h1
          · rw [hk] at h1; cases h1
            rw [h2, hk]
        | exit i => exact out _ g1
        | goto l => exact out _ g1
        | ret => exact out _ g1
        | panic ch => exact out _ g1
        | outgrown => exact out _ g1
  | .cond c x y, ro, n, own, w0, hown, hrf, id, K, δ, s, a, w, h, hr => by
    simp only [vcCode] at h
    cases hc : s.eval c with
    | v val =>
      rw [hc] at h
      cases val with
      | bool t =>
        simp only at h
        have hev := hr.eval c
        rw [hc] at hev
        simp only [absV] at hev
        have both : sel t (vcCode P Γ Λ x id s (atNx (s.nx + 8 * (cnt x + cnt y)) K)) (vcCode P Γ Λ y id s (atNx (s.nx + 8 * (cnt x + cnt y)) K)) := by
          cases c with
          | tmp i =>
            cases t with
            | true => simp only [sel] at h ⊢; rw [tmps_same hc rfl] at h; exact h
            | false => simp only [sel] at h ⊢; rw [tmps_same hc rfl] at h; exact h
          | const v => exact h
          | global g => exact h
          | func f => exact h
        cases t with
        | true =>
          refine wpIn_cond_true hev (wpIn_mono (code_wp hm hΓ x ro n own w0 hown (hrf.imp (fun e => e) fun h => ((Bool.and_eq_true _ _).mp h).1) id _ δ s a w both hr) fun e a' w' ⟨δ', s', h1, h2, h3⟩ => ⟨δ', _, h1, h2.nx _, ((h3.nx _).mono fun t ht => List.mem_append_left _ ht).wk fun h => ((Bool.and_eq_true _ _).mp h).1⟩)
        | false =>
          refine wpIn_cond_false hev (wpIn_mono (code_wp hm hΓ y ro n own w0 hown (hrf.imp (fun e => e) fun h => ((Bool.and_eq_true _ _).mp h).2) id _ δ s a w both hr) fun e a' w' ⟨δ', s', h1, h2, h3⟩ => ⟨δ', _, h1, h2.nx _, ((h3.nx _).mono fun t ht => List.mem_append_right _ ht).wk fun h => ((Bool.and_eq_true _ _).mp h).2⟩)
      | _ => exact h.elim
    | _ => rw [hc] at h; exact h.elim
  | .block bid c, ro, n, own, w0, hown, hrf, id, K, δ, s, a, w, h, hr => by
    simp only [vcCode] at h
    refine wpIn_block (wpIn_mono (code_wp hm hΓ c ro n own w0 hown hrf bid _ δ s a w h hr) fun e a' w' ⟨δ', s0, h1, h2, h3⟩ => ?_)
    have h2 := h2.nx (s.nx + 8 * cnt c)
    have h3 := h3.nx (s.nx + 8 * cnt c)
    unfold atNx at h1
    generalize ({ s0 with nx := s.nx + 8 * cnt c } : St) = s' at h1 h2 h3
    cases e with
    | exit i =>
      simp only at h1
      show (if i = bid then _ else _)
      by_cases hi : i = bid
      · rw [if_pos hi]
        rw [show Nat.beq i bid = true by rw [hi]; exact Nat.beq_refl bid, cond_true] at h1
        exact ⟨δ', s', h1, h2, h3⟩
      · rw [if_neg hi]
        rw [beq_false hi, cond_false] at h1
        exact ⟨δ', s', h1, h2, h3⟩
    | normal => exact ⟨δ', s', h1, h2, h3⟩
    | goto l => exact ⟨δ', s', h1, h2, h3⟩
    | ret => exact ⟨δ', s', h1, h2, h3⟩
    | panic ch => exact ⟨δ', s', h1, h2, h3⟩
    | outgrown => exact ⟨δ', s', h1, h2, h3⟩
  | .loop c, ro, n, own, w0, hown, hrf, id, K, δ, s, a, w, h, hr => by
    simp only [vcCode] at h
    cases hL : atL s (Λ id) with
    | none => rw [hL] at h; exact h.elim
    | some L =>
      rw [hL] at h
      simp only at h
      cases hcv : (L.covers (dsts c) && namesAll L s.heap (L.kills s)) with
      | false => rw [hcv] at h; exact h.elim
      | true =>
        rw [hcv, cond_true] at h
        rw [Bool.and_eq_true] at hcv
        have hall := namesAll_spec hcv.2
        obtain ⟨⟨x0, hf0⟩, hround⟩ := h
        have inv_of : ∀ s' x, fits L s.heap (L.kills s) s' x → L.inv x := fun s' x hf => by
          unfold fits at hf
          simp only [reqP_iff] at hf
          exact hf.2.1
        have nolock : ∀ k b, s.heap k = some b → b.lock = true → inNames k L.blks = false ∧ k ∉ L.kills s := no_lock hall hf0
        let I : Nat → Act → World → Prop := fun q a' w' => ∃ x δ1, L.inv x ∧ L.mu x = q ∧ δ.le δ1 ∧ Rep own w0 δ1 (L.head s x) a' w' ∧ keep (dsts c) a a' ∧ a'.tmps.size = a.tmps.size ∧ restOf a'.defers = restOf a.defers ∧ (noRF c = true → a'.defers = a.defers)
        obtain ⟨δ1, hd1, hd2⟩ := head_rep hall hcv.1 hr hr δ.le_refl (keep_refl _ a) rfl (fun k b hk _ _ => .inl hk) hf0
        refine wpIn_loop_ghost I (L.mu x0) ⟨x0, δ1, inv_of s x0 hf0, rfl, hd1, hd2, keep_refl _ a, rfl, rfl, fun _ => rfl⟩ ?_
        rintro q a1 w1 ⟨x, δ1, hinv, hmu, hle1, hrep, hkeep, hlen, hrest, hdf⟩
        refine wpIn_mono (code_wp hm hΓ c ro n own w0 hown hrf id _ δ1 (L.head s x) a1 w1 (hround x hinv) hrep) fun e a2 w2 ⟨δ2, s2, g1, g2, g3⟩ => ?_
        -- what is locked at the head is as it was
        have hlk : ∀ k b, s.heap k = some b → inNames k L.blks = false → k ∉ L.kills s → s2.heap k = some { b with lock := true } := fun k b hk hi hkk => by
          refine g3.locks k _ ?_ rfl
          rcases head_heap s x hall k with ⟨_, h1⟩ | ⟨p, _, _, ⟨_, h1, _⟩ | ⟨h1, _⟩⟩ | ⟨b', _, h1, _⟩ | ⟨b', h1, h2, _⟩
          · rw [hk] at h1; cases h1
          · rw [hi] at h1; cases h1
          · rw [hk] at h1; cases h1
          · exact absurd h1 hkk
          · rw [hk] at h1; cases h1; exact h2
        have out : ∀ e', K e' { s2 with heap := unlock s.heap s2.heap } → Ends own w0 (noRF (.loop c)) (dsts (.loop c)) δ s a K e' a2 w2 := fun e' hK =>
          ⟨δ2, _, hK, g2.unlock, ⟨keep_trans hkeep g3.keep, Dict.le_trans hle1 g3.le, fun k b hk hl => by
            have := hlk k b hk (nolock k b hk hl).1 (nolock k b hk hl).2
            show unlock s.heap s2.heap k = some b
            unfold unlock
            rw [this, hk], g3.len.trans hlen, g3.rs.trans hrest, fun hq => (g3.df hq).trans (hdf hq)⟩⟩
        cases e with
        | normal =>
          obtain ⟨x', hf', hlt⟩ := g1
          obtain ⟨δ3, e1, e2⟩ := head_rep hall hcv.1 hr g2 (Dict.le_trans hle1 g3.le) (keep_trans hkeep g3.keep) (g3.len.trans hlen) (fun k b hk hi hkk => .inr (hlk k b hk hi hkk)) hf'
          exact ⟨L.mu x', by omega, x', δ3, inv_of s2 x' hf', rfl, e1, e2, keep_trans hkeep g3.keep, g3.len.trans hlen, g3.rs.trans hrest, fun hq => (g3.df hq).trans (hdf hq)⟩
        | exit i => exact out _ g1
        | goto l => exact out _ g1
        | ret => exact out _ g1
        | panic ch => exact out _ g1
        | outgrown => exact out _ g1
  | .rangeFunc f ps (.region rid ops draw) cb, ro, n, own, w0, hown, hrf, id, K, δ, s, a, w, h, hr => by
    rcases hrf with hrf | hrf
    · subst hrf
      simp only [vcCode] at h
      cases hL : atL s (Λ id) with
      | none => rw [hL] at h; exact h.elim
      | some L =>
        rw [hL] at h
        simp only at h
        cases hit : L.it with
        | none => rw [hit] at h; exact h.elim
        | some it =>
          rw [hit] at h
          cases hev : s.eval f with
          | fn g caps =>
            rw [hev] at h
            simp only at h
            cases hc : (Nat.beq g it.f && L.slots.isEmpty && noRF cb && namesAll L s.heap (L.kills s)) with
            | false => rw [hc] at h; exact h.elim
            | true =>
              rw [hc, cond_true] at h
              simp only [Bool.and_eq_true] at hc
              obtain ⟨⟨⟨c1, _⟩, c4⟩, c5⟩ := hc
              obtain rfl := Nat.eq_of_beq_eq_true c1
              have hall := namesAll_spec c5
              cases hrun : it.run caps s.heap with
              | none => rw [hrun] at h; exact h.elim
              | some pk =>
                obtain ⟨p, N, m, item, ks⟩ := pk
                rw [hrun] at h
                simp only at h
                cases hm2 : (Nat.beq m ps.size && ks.all (fun k => !inNames k L.blks && !(L.kills s).elem k)) with
                | false => rw [hm2] at h; exact h.elim
                | true =>
                  rw [hm2, cond_true] at h
                  rw [Bool.and_eq_true] at hm2
                  obtain ⟨k1, k2⟩ := hm2
                  obtain rfl := Nat.eq_of_beq_eq_true k1
                  have k2 := List.all_eq_true.1 k2
                  obtain ⟨⟨hP, hp⟩, ⟨x0, hx0, hf0⟩, hround, hdone⟩ := h
                  obtain ⟨itP, itf, itrun, itok⟩ := it
                  simp only at hP hrun hev
                  have itok : ItOk P itf itrun := hP ▸ itok
                  have hev' := hr.eval f
                  rw [hev] at hev'
                  simp only [absV] at hev'
                  obtain ⟨lb, hlb, hcaps⟩ := hev'
                  obtain ⟨heg, encs, hencs, hseq⟩ := itok caps s.heap p N ps.size item ks hrun hp δ w lb hcaps hr.hr
                  have B0 : w0.heap.size ≤ w.heap.size := hr.wr.size
                  have mlt := hr.df.lt
                  have inv_of : ∀ s' x, fits L s.heap (L.kills s) s' x → L.inv x := fun s' x hf => by
                    unfold fits at hf
                    simp only [reqP_iff] at hf
                    exact hf.2.1
                  have nolock : ∀ k b, s.heap k = some b → b.lock = true → inNames k L.blks = false ∧ k ∉ L.kills s := no_lock hall hf0
                  have kept : ∀ k, k ∈ ks → inNames k L.blks = false ∧ k ∉ L.kills s := fun k hk => by
                    have := k2 k hk
                    simp only [Bool.and_eq_true, Bool.not_eq_true'] at this
                    exact ⟨this.1, fun hm => by have := this.2; simp [hm] at this⟩
                  have headLock : ∀ x k b, s.heap k = some b → inNames k L.blks = false → k ∉ L.kills s → (L.head s x).heap k = some { b with lock := true } := fun x k b hk hi hkk => by
                    rcases head_heap s x hall k with ⟨_, h1⟩ | ⟨p, _, _, ⟨_, h1, _⟩ | ⟨h1, _⟩⟩ | ⟨b', _, h1, _⟩ | ⟨b', h1, h2, _⟩
                    · rw [hk] at h1; cases h1
                    · rw [hi] at h1; cases h1
                    · rw [hk] at h1; cases h1
                    · exact absurd h1 hkk
                    · rw [hk] at h1; cases h1; exact h2
                  -- a state's Rep with the caller's own slots
                  have withTmps : ∀ {s' : St} {δ' : Dict} {W : World}, δ.le δ' → HRep δ' s'.heap W → (∀ k, s'.heap k = none → δ' k = none) → (∀ r, rwOf δ' s'.heap r → own r) → WRel own w0 W → MarksOk w0.heap.size a.defers W → Rep own w0 δ' { s' with tmps := s.tmps } a W :=
                    fun hle h1 h2 h3 h4 h5 => ⟨absL_mono hle _ _ hr.tm, h5, h1, h2, h3, h4⟩
                  have outC : ∀ {s' : St} {δ' : Dict} {W : World} {e : Exit} {a' : Act}, a'.tmps = a.tmps → restOf a'.defers = restOf a.defers → K e { s with heap := unlock s.heap s'.heap } → δ.le δ' → Rep own w0 δ' { s' with tmps := s.tmps } a' W → (∀ k b, s.heap k = some b → inNames k L.blks = false → k ∉ L.kills s → s'.heap k = some { b with lock := true }) → Ends own w0 false [] δ s a K e a' W :=
                    fun {s' δ' W e a'} ht hds hK hle hrep hlk => ⟨δ', _, hK, (hrep.unlock (s := s)).same rfl rfl, ⟨fun t _ => by rw [ht], hle, fun k b hk hl => by
                      have := hlk k b hk (nolock k b hk hl).1 (nolock k b hk hl).2
                      show unlock s.heap s'.heap k = some b
                      unfold unlock
                      rw [this, hk], by rw [ht], hds, fun h => (by cases h)⟩⟩
                  let I : Nat → World → Prop := fun k W => ∃ x δ1, L.inv x ∧ L.ix x = k ∧ δ.le δ1 ∧ Rep own w0 δ1 (L.head s x) a W
                  let Ix : Code → World → Prop := fun c W => (c = .ret ∧ Ends own w0 false [] δ s a K .ret a W) ∨ ∃ i, c = .exit i ∧ Ends own w0 false [] δ s a K (.exit i) a W
                  have marked : ∀ {e : Exit} {D : Nat} {W : World}, w.heap.size ≤ D → Ends own w0 false [] δ s a K e a W → W.heap[D]? = some (.deferred (some [])) → Ends own w0 false [] δ s a K e { a with defers := { target := .collected D, args := #[] } :: a.defers } W :=
                    fun {e D W} hD ⟨δ', s', hK, hrep, hfr⟩ hd => ⟨δ', s', hK, ⟨hrep.tm, hrep.df.cons (Nat.le_trans B0 hD) (fun D' hD' => Nat.lt_of_lt_of_le (mlt D' hD') hD) hd, hrep.hr, hrep.tight, hrep.mine, hrep.wr⟩, ⟨hfr.keep, hfr.le, hfr.locks, hfr.len, hfr.rs, fun h => (by cases h)⟩⟩
                  obtain ⟨δ1, hd1, hd2⟩ := head_rep (l := []) hall rfl hr hr δ.le_refl (keep_refl _ a) rfl (fun k b hk _ _ => .inl hk) hf0
                  refine rf_law (N := N) hlb heg hseq (fun i hi => (hencs i hi).2) I Ix ?_ ?_ ?_ ⟨x0, δ1, inv_of s x0 hf0, hx0, hd1, hd2⟩ ?_ ?_ ?_ ?_
                  · rintro k W W' ⟨x, δ1, h1, h2, h3, h4⟩ ho
                    exact ⟨x, δ1, h1, h2, h3, h4.aside B0 mlt ho⟩
                  · rintro c W W' (⟨rfl, δ', s', hK, hrep, hfr⟩ | ⟨i, rfl, δ', s', hK, hrep, hfr⟩) ho
                    · exact .inl ⟨rfl, δ', s', hK, hrep.aside B0 mlt ho, hfr⟩
                    · exact .inr ⟨i, rfl, δ', s', hK, hrep.aside B0 mlt ho, hfr⟩
                  · rintro k W ⟨x, δ1, h1, h2, h3, h4⟩
                    refine ⟨δ1, h3, fun k' hk' b p hb hp hd => ?_⟩
                    obtain ⟨q, e1, e2⟩ := h4.hr.blk k' _ (headLock x k' b hb (kept k' hk').1 (kept k' hk').2)
                    have := h3 _ _ hp
                    rw [e1] at this; cases this
                    have hl := e2 hd
                    exact ⟨hl.s, hl.n, hl.no, hl.rep⟩
                  · rintro l k W ⟨x, δ1, hinv, hix, hle1, hrep⟩ hk
                    subst hix
                    have own1c : ∀ r, r < W.heap.size → (W.heap.size ≤ r ∨ rwOf δ1 (L.head s x).heap r) → ∃ c e fz, W.heap[r]? = some (.cells c e fz) := fun r hlt hx => by
                      rcases hx with hx | hx
                      · omega
                      · exact rwOf_cells hrep.hr hx
                    have htm : absL δ1 (putAll (L.head s x).tmps ps.toList (item (L.ix x))) ((ps.zip (encs (L.ix x))).foldl (fun t (p, v) => t.setIfInBounds p v) a.tmps).toList := by
                      rw [fold_list]
                      exact put_all _ _ _ _ _ hrep.tm (absL_mono hle1 _ _ (hencs _ hk).1)
                    have rep1 : Rep (fun r => W.heap.size ≤ r ∨ rwOf δ1 (L.head s x).heap r) W δ1 { L.head s x with tmps := putAll (L.head s x).tmps ps.toList (item (L.ix x)) } { tmps := (ps.zip (encs (L.ix x))).foldl (fun t (p, v) => t.setIfInBounds p v) a.tmps, defers := [] } W :=
                      ⟨htm, MarksOk.nil _ _, hrep.hr, hrep.tight, fun r hx => .inr hx, WRel.refl _ _⟩
                    have hv := hround x hinv hk
                    cases hb : (!draw || regionOk P Γ ops ⟨beforeL ops.toList [], prOf Λ rid⟩) with
                    | false => rw [hb] at hv; exact hv.elim
                    | true =>
                      rw [hb, cond_true] at hv
                      refine region_wp hm hΓ (fun r hx => .inl hx) (fun a2 W1 hg => ?_) (fun v a' w' ⟨δ', x, h', k1, k2, k3, k4⟩ => (by cases x <;> exact k1.elim)) rep1.tm hb hv rep1 (From.refl _ _ _ _)
                      obtain ⟨δ2, s2, g1, g2, g3⟩ := hg
                      refine ⟨⟨g2.wr.size, fun r o _ hr' ho' => g2.wr.others own1c hr' ho'⟩, fun W2 ho => ?_⟩
                      have hdf : a2.defers = [] := g3.df
                      have hr2 : HRep δ2 s2.heap W2 := g2.hr.aside ho
                      have own2c : ∀ r, r < W2.heap.size → (W2.heap.size ≤ r ∨ rwOf δ2 s2.heap r) → ∃ c e fz, W2.heap[r]? = some (.cells c e fz) := fun r hlt hx => by
                        rcases hx with hx | hx
                        · omega
                        · exact rwOf_cells hr2 hx
                      have rep2 : Rep (fun r => W2.heap.size ≤ r ∨ rwOf δ2 s2.heap r) W2 δ2 { s2 with nx := s2.nx + 8 * ops.size } a2 W2 :=
                        ⟨g2.tm, by rw [hdf]; exact MarksOk.nil _ _, hr2, g2.tight, fun r hx => .inr hx, WRel.refl _ _⟩
                      refine wpIn_mono (code_wp hm hΓ cb (some l) 0 _ W2 (fun r hx => .inl hx) (.inr c4) id _ δ2 _ a2 W2 g1 rep2) fun e a3 W3 ⟨δ3, s3, e1, e2, e3⟩ => ?_
                      have ownBack : ∀ r, (W2.heap.size ≤ r ∨ rwOf δ2 s2.heap r) → own r := fun r hx => by
                        have sz1 := hrep.wr.size
                        have sz2 := g2.wr.size
                        have sz3 := ho.size
                        rcases hx with hx | hx
                        · exact hown r (by omega)
                        · rcases g2.mine r hx with hx | hx
                          · exact hown r (by omega)
                          · exact hrep.mine r hx
                      have hle3 : δ.le δ3 := Dict.le_trans hle1 (Dict.le_trans g3.le e3.le)
                      have hlk3 : ∀ k b, s.heap k = some b → inNames k L.blks = false → k ∉ L.kills s → s3.heap k = some { b with lock := true } := fun k b hk hi hkk =>
                        e3.locks k _ (g3.locks k _ (headLock x k b hk hi hkk) rfl) rfl
                      have wr3 : WRel own w0 W3 := by
                        refine ⟨e2.wr.os.trans (ho.os.trans (g2.wr.os.trans hrep.wr.os)), e2.wr.tape.trans (ho.tape.trans (g2.wr.tape.trans hrep.wr.tape)), e2.wr.output.trans (ho.output.trans (g2.wr.output.trans hrep.wr.output)), Nat.le_trans hrep.wr.size (Nat.le_trans g2.wr.size (Nat.le_trans ho.size e2.wr.size)), fun r hr' hno => ?_⟩
                        have sz1 := hrep.wr.size
                        have sz2 := g2.wr.size
                        have sz3 := ho.size
                        have b1 := hrep.wr.block r hr' hno
                        have b2 := g2.wr.block r (by omega) (fun hx => by
                          rcases hx with hx | hx
                          · omega
                          · exact hno (hrep.mine r hx))
                        have b3 : W2.heap[r]? = W1.heap[r]? := by
                          have hlt : r < W1.heap.size := by omega
                          rw [Array.getElem?_eq_getElem hlt]
                          exact ho.same _ _ (Array.getElem?_eq_getElem hlt) (.inr (by omega))
                        have b4 := e2.wr.block r (by omega) (fun hx => hno (ownBack r hx))
                        rw [b4, b3, b2, b1]
                      have df3 : MarksOk w0.heap.size a.defers W3 := ((hrep.df.rel g2.wr own1c).off mlt ho).rel e2.wr own2c
                      have rep3 : Rep own w0 δ3 { s3 with tmps := s.tmps } a W3 := withTmps hle3 e2.hr e2.tight (fun r hx => ownBack r (e2.mine r hx)) wr3 df3
                      have hkf : KeepsFrom w.heap.size W2 W3 := ⟨e2.wr.size, fun r o _ hr' ho' => e2.wr.others own2c hr' ho'⟩
                      cases e with
                      | normal =>
                        obtain ⟨x', hx', hf'⟩ := e1
                        obtain ⟨δ4, f1, f2⟩ := head_rep (l := []) (s' := { s3 with tmps := s.tmps }) hall rfl hr rep3 hle3 (keep_refl _ a) rfl (fun k b hk hi hkk => .inr (hlk3 k b hk hi hkk)) hf'
                        exact ⟨hkf, x', δ4, inv_of _ x' hf', hx', f1, f2⟩
                      | ret => exact ⟨hkf, .inl ⟨rfl, outC rfl rfl e1 hle3 rep3 hlk3⟩⟩
                      | exit i => exact ⟨hkf, .inr ⟨i, rfl, outC rfl rfl e1 hle3 rep3 hlk3⟩⟩
                      | goto l => exact e1.elim
                      | panic ch => exact e1.elim
                      | outgrown => exact e1.elim
                  · rintro D W hD ⟨x, δ1, hinv, hix, hle1, hrep⟩ hd
                    exact marked hD (outC rfl rfl (hdone x hinv hix) hle1 (withTmps hle1 hrep.hr hrep.tight hrep.mine hrep.wr hrep.df) (headLock x)) hd
                  · rintro D W hD (⟨_, he⟩ | ⟨i, hi, _⟩) hd
                    · exact marked hD he hd
                    · cases hi
                  · rintro D i W hD (⟨hi, _⟩ | ⟨j, hj, he⟩) hd
                    · cases hi
                    · cases hj; exact marked hD he hd
          | _ => rw [hev] at h; exact h.elim
    · simp only [noRF] at hrf; cases hrf
  | .scope _, ro, n, own, w0, hown, hrf, id, K, δ, s, a, w, h, hr => by simp only [vcCode] at h
  | .label _, ro, n, own, w0, hown, hrf, id, K, δ, s, a, w, h, hr => by simp only [vcCode] at h
  | .goto _, ro, n, own, w0, hown, hrf, id, K, δ, s, a, w, h, hr => by simp only [vcCode] at h
  | .refuse _, ro, n, own, w0, hown, hrf, id, K, δ, s, a, w, h, hr => by simp only [vcCode] at h
end
end Go.SE
