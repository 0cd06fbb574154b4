/-
  The symbolic executor: a general contract is a callee's contract, on.
-/
import Derived.Test.YtjdldadmaaeimaaSeHp2
namespace Go.SE
open Go.RowKit

section
variable {h : Heap} {δ δ' δ'' : Dict} {w w' : World} {es : List Ent} {bs : List Blk} {base : Nat}

theorem can_live (hr : HRep δ h w) (hok : CanOk h δ ⟨es, bs⟩ []) {j : Nat} {b : Blk} (hj : bs[j]? = some b) : ∃ q, dicOf δ es j = some q ∧ (b.dead = false → Live (dicOf δ es) b w q) := by
  have hlt := (List.getElem?_eq_some_iff.1 hj).1
  have hlen : es.length = bs.length := hok.len
  have he : es[j]? = some es[j] := List.getElem?_eq_getElem (by omega)
  rcases hok.ent j _ b he hj with h0 | h0
  · cases h0
  cases hee : es[j] with
  | win k s i n =>
    rw [hee] at h0 he
    obtain ⟨b0, p, h1, h2, h3, h4, h5, h6, rfl⟩ := h0
    refine ⟨⟨p.r, s, p.o + i * s, n, p.no⟩, by unfold dicOf; rw [he]; simp only [h5], fun _ => ?_⟩
    obtain ⟨p', e1, e2⟩ := hr.blk k b0 h1
    rw [h5] at e1; cases e1
    have hlv := e2 h2
    have hpn := hlv.n
    refine ⟨rfl, rfl, fun hno => ?_, fun hno => ?_⟩
    · have := (hlv.no hno).1
      exact ⟨show n = 0 by omega, rfl⟩
    · obtain ⟨c, e, fz, c1, c2, c3, c4, c5, c6, c7⟩ := hlv.rep hno
      rw [h4] at c5 c7
      refine ⟨c, e, fz, c1, fun hh => (by cases hh), fun _ y hy => c3 h3 (i + y) (by simp only [winBlk] at hy; omega), c4, ?_, fun hh => (by cases hh), fun y hy => ?_⟩
      · simp only [winBlk, Nat.zero_mul, Nat.add_zero]
        rcases Nat.eq_zero_or_pos i with h0 | h0
        · subst h0; omega
        · rcases Nat.eq_zero_or_pos s with h0' | h0'
          · subst h0'; omega
          · obtain ⟨g1, g2⟩ := c7 (i - 1) (by omega)
            have hj : s - 1 < (b0.row (i - 1)).length := by omega
            obtain ⟨r', g3, _⟩ := g2 (s - 1) _ (List.getElem?_eq_getElem hj)
            have := (Array.getElem?_eq_some_iff.1 g3).1
            have e : i * s = (i - 1) * s + s := by rw [show i = (i - 1) + 1 by omega, Nat.add_mul]; simp
            omega
      · simp only [winBlk] at hy ⊢
        obtain ⟨g1, g2⟩ := c7 (i + y) (by omega)
        refine ⟨g1, fun z v hz => ?_⟩
        obtain ⟨r, g3, g4⟩ := g2 z v hz
        refine ⟨r, by rw [← g3, Nat.add_mul]; congr 1; omega, ?_⟩
        exact absV_nameless _ _ (namelessL_mem (c3 h3 (i + y) (by omega)) v (List.mem_of_getElem? hz)) g4
  | whole k =>
    rw [hee] at h0 he
    obtain ⟨b0, h1, h2, h3, g1, g2, g3, g4, g5, g6, g7, g8, g9⟩ := h0
    obtain ⟨p, e1, e2⟩ := hr.blk k b0 h1
    refine ⟨p, by unfold dicOf; rw [he]; exact e1, fun _ => ?_⟩
    have hlv := e2 h2
    refine ⟨hlv.s.trans g1.symm, hlv.n.trans g4.symm, fun hno => by rw [g4, g5]; exact hlv.no hno, fun hno => ?_⟩
    obtain ⟨c, e, fz, c1, c2, c3, c4, c5, c6, c7⟩ := hlv.rep hno
    rcases g9 with ⟨f1, f2⟩ | ⟨f1, f2, f3⟩
    · refine ⟨c, e, fz, c1, fun hh => c2 (g2.symm.trans hh), fun _ y hy => by rw [f2]; exact c3 f1 y (by omega), fun hh => by rw [g7]; exact c4 (by rw [← g7]; exact hh), by rw [g5, g1]; exact c5, fun hh => by rw [g1]; exact c6 (g8.symm.trans hh), fun y hy => ?_⟩
      obtain ⟨a1, a2⟩ := c7 y (by omega)
      rw [f2, g1]
      refine ⟨a1, fun z v hz => ?_⟩
      obtain ⟨r, a3, a4⟩ := a2 z v hz
      exact ⟨r, a3, absV_nameless _ _ (namelessL_mem (c3 f1 y (by omega)) v (List.mem_of_getElem? hz)) a4⟩
    · refine ⟨c, e, fz, c1, fun hh => c2 (g2.symm.trans hh), fun hf y hy => ?_, fun hh => by rw [g7]; exact c4 (by rw [← g7]; exact hh), by rw [g5, g1]; exact c5, fun hh => by rw [g1]; exact c6 (g8.symm.trans hh), fun y hy => ?_⟩
      · have : y = 0 := by omega
        subst this
        exact f3 (g3.symm.trans hf)
      · have : y = 0 := by omega
        subst this
        obtain ⟨a1, a2⟩ := c7 0 (by omega)
        obtain ⟨xs, x1, x2⟩ := exists_list (δ := δ) (c := c) (b0.row 0) (p.o + 0 * b0.size) (fun j x hx => a2 j x hx)
        have x3 := f2 xs x1
        have l1 := absL_length x1
        have l2 := absL_length x3
        rw [g1]
        refine ⟨by omega, fun z v hz => ?_⟩
        obtain ⟨r, y1, y2⟩ := absL_get x3 hz
        exact ⟨r, x2 z r y1, y2⟩

theorem entsOk_spec : ∀ {es : List Ent}, entsOk h es = true → ∀ (j j' : Nat) k e, es[j]? = some (.whole k) → es[j']? = some e → isWhole k e = true → j = j'
  | [], _, j, j', k, e, h1, _, _ => by simp at h1
  | e0 :: es, ho, j, j', k, e, h1, h2, h3 => by
    match j, j' with
    | 0, 0 => rfl
    | 0, j' + 1 =>
      simp at h1 h2
      subst h1
      simp only [entsOk, Bool.and_eq_true] at ho
      have := List.all_eq_true.1 ho.1 e (List.mem_of_getElem? h2)
      rw [h3] at this; cases this
    | j + 1, 0 =>
      simp at h1 h2
      subst h2
      exfalso
      have hm := List.mem_of_getElem? h1
      cases e0 with
      | whole k' =>
        simp only [entsOk, Bool.and_eq_true] at ho
        have := List.all_eq_true.1 ho.1 _ hm
        simp only [isWhole] at this h3
        rw [Nat.eq_of_beq_eq_true h3, Nat.beq_refl] at this
        cases this
      | win k' s i n =>
        simp only [entsOk, Bool.and_eq_true] at ho
        have := List.all_eq_true.1 ho.1 _ hm
        simp only [isWhole] at this h3
        rw [Nat.eq_of_beq_eq_true h3, Nat.beq_refl] at this
        cases this
    | j + 1, j' + 1 =>
      simp at h1 h2
      have hr : entsOk h es = true := by
        cases e0 <;> simp only [entsOk, Bool.and_eq_true] at ho <;> exact ho.2
      rw [entsOk_spec hr j j' k e h1 h2 h3]

/-- Which real name an entry speaks of. -/
def Ent.name : Ent → Nat
  | .win k _ _ _ => k
  | .whole k => k

theorem can_lies (hok : CanOk h δ ⟨es, bs⟩ []) {j r : Nat} (hl : lies (dicOf δ es) (heapOf bs) j r) : ∃ e b b0, es[j]? = some e ∧ bs[j]? = some b ∧ h e.name = some b0 ∧ lies δ h e.name r ∧ (b.rw = true → b0.rw = true ∧ e = .whole e.name) := by
  obtain ⟨b, q, h1, h2, h3, h4, h5⟩ := hl
  have h1 : bs[j]? = some b := h1
  have hlt := (List.getElem?_eq_some_iff.1 h1).1
  have hlen : es.length = bs.length := hok.len
  have he : es[j]? = some es[j] := List.getElem?_eq_getElem (by omega)
  rcases hok.ent j _ b he h1 with h0 | h0
  · cases h0
  cases hee : es[j] with
  | win k s i n =>
    rw [hee] at h0 he
    obtain ⟨b0, p, g1, g2, g3, g4, g5, g6, rfl⟩ := h0
    unfold dicOf at h3
    rw [he] at h3
    simp only [g5] at h3
    cases h3
    exact ⟨_, _, b0, he, h1, g1, ⟨b0, p, g1, g2, g5, h4, h5⟩, fun hh => (by cases hh)⟩
  | whole k =>
    rw [hee] at h0 he
    obtain ⟨b0, g1, g2, g3, _⟩ := h0
    unfold dicOf at h3
    rw [he] at h3
    exact ⟨_, _, b0, he, h1, g1, ⟨b0, q, g1, g2, h3, h4, h5⟩, fun _ => ⟨g3, rfl⟩⟩

theorem can_rep (hr : HRep δ h w) (hok : CanOk h δ ⟨es, bs⟩ []) (heo : entsOk h es = true) : HRep (dicOf δ es) (heapOf bs) w := by
  refine ⟨fun j b hj => can_live hr hok hj, fun j j' r b h1 h2 hj hb => ?_⟩
  obtain ⟨e, b1, b0, g1, g2, g3, g4, g5⟩ := can_lies hok h1
  obtain ⟨e', b1', b0', f1, f2, f3, f4, _⟩ := can_lies hok h2
  have : some b1 = some b := g2.symm.trans hj
  cases this
  obtain ⟨a1, a2⟩ := g5 hb
  have := hr.inj _ _ r b0 g4 f4 g3 a1
  rw [a2] at g1
  refine entsOk_spec heo j j' e.name e' g1 f1 ?_
  rw [this]
  cases e' <;> simp [isWhole, Ent.name]

theorem freshOk_spec : ∀ {n : Nat}, freshOk h base n = true → ∀ j, j < n → h (base + j) = none
  | 0, _, j, hj => by omega
  | n + 1, ho, j, hj => by
    simp only [freshOk, Bool.and_eq_true] at ho
    rcases Nat.lt_or_eq_of_le (Nat.le_of_lt_succ hj) with h1 | h1
    · exact freshOk_spec ho.2 j h1
    · subst h1
      simpa using ho.1

/-- Names turned back. -/
theorem backOf_win {j k s i n : Nat} (he : es[j]? = some (.win k s i n)) : backOf es base j = .win k i := by simp [backOf, he]
theorem backOf_whole {j k : Nat} (he : es[j]? = some (.whole k)) : backOf es base j = .whole k := by simp [backOf, he]

structure Turn (h : Heap) (δ δ' δ'' : Dict) (es : List Ent) (base : Nat) : Prop where
  old : δ.le δ''
  dic : (dicOf δ es).le δ'
  ent : ∀ (j : Nat) k s i n, es[j]? = some (.win k s i n) → ∃ p, δ k = some p ∧ p.s = s ∧ i + n ≤ p.n
  new : ∀ j, es[j]? = none → ∀ p, δ' j = some p → 1000 ≤ j ∧ j < 1008 ∧ δ'' (base + (j - 1000)) = some p
  whl : ∀ (j : Nat) k, es[j]? = some (.whole k) → ∃ p, δ k = some p

/-- What a name comes to. -/
theorem Turn.at (ht : Turn h δ δ' δ'' es base) (j : Nat) (q : Loc) (hq : δ' j = some q) : (∃ k i p, backOf es base j = .win k i ∧ δ'' k = some p ∧ q.r = p.r ∧ q.s = p.s ∧ q.o = p.o + i * p.s ∧ i + q.n ≤ p.n ∧ q.no = p.no) ∨ (∃ k, backOf es base j = .whole k ∧ δ'' k = some q) := by
  cases he : es[j]? with
  | none =>
    obtain ⟨h1, h2, h3⟩ := ht.new j he q hq
    right
    refine ⟨base + (j - 1000), ?_, h3⟩
    unfold backOf
    rw [he]
    simp only
    rw [show (Nat.ble 1000 j && Nat.blt j 1008) = true by rw [Nat.ble_eq_true_of_le h1, show Nat.blt j 1008 = true from Nat.ble_eq_true_of_le h2]; rfl]
    rfl
  | some e =>
    cases e with
    | win k s i n =>
      obtain ⟨p, p1, p2, p3⟩ := ht.ent j k s i n he
      have hd : dicOf δ es j = some ⟨p.r, s, p.o + i * s, n, p.no⟩ := by unfold dicOf; rw [he]; simp only [p1]
      have := ht.dic _ _ hd
      rw [hq] at this
      cases this
      exact .inl ⟨k, i, p, backOf_win he, ht.old _ _ p1, rfl, p2.symm, by rw [p2], p3, rfl⟩
    | whole k =>
      obtain ⟨p, p1⟩ := ht.whl j k he
      have hd : dicOf δ es j = some p := by unfold dicOf; rw [he]; exact p1
      have := ht.dic _ _ hd
      rw [hq] at this
      cases this
      exact .inr ⟨k, backOf_whole he, ht.old _ _ p1⟩

mutual
theorem dec_abs (ht : Turn h δ δ' δ'' es base) : ∀ (x : SV) (r : Value), absV δ' x r → absV δ'' (decS es base x) r
  | .unk, _, _ => by simp only [decS, absV]
  | .v x, r, hr => by simp only [decS, absV] at *; exact hr
  | .vp j x, r, hr => by
    simp only [absV] at hr
    obtain ⟨q, h1, h2, rfl⟩ := hr
    simp only [decS]
    rcases ht.at j q h1 with ⟨k, i, p, g1, g2, g3, g4, g5, g6, _⟩ | ⟨k, g1, g2⟩
    · rw [g1]; simp only [absV]
    · rw [g1]; simp only [absV]; exact ⟨q, g2, h2, rfl⟩
  | .ptr j i' x, r, hr => by
    simp only [absV] at hr
    obtain ⟨q, h1, h2, rfl⟩ := hr
    simp only [decS]
    rcases ht.at j q h1 with ⟨k, i, p, g1, g2, g3, g4, g5, g6, _⟩ | ⟨k, g1, g2⟩
    · rw [g1]; simp only [absV]
      exact ⟨p, g2, by omega, by rw [g3, g4, g5, Nat.add_mul, Nat.add_assoc p.o]⟩
    · rw [g1]; simp only [absV]; exact ⟨q, g2, h2, rfl⟩
  | .sl j s i' n c, r, hr => by
    simp only [absV] at hr
    obtain ⟨q, h1, h2, h3, h4⟩ := hr
    simp only [decS]
    rcases ht.at j q h1 with ⟨k, i, p, g1, g2, g3, g4, g5, g6, g7⟩ | ⟨k, g1, g2⟩
    · rw [g1]; simp only [absV]
      refine ⟨p, g2, g4.symm.trans h2, by omega, h4.imp (fun ⟨e1, e2⟩ => ⟨g7.symm.trans e1, ?_⟩) id⟩
      rw [e2, g3, g5, ← g4, h2, Nat.add_mul, Nat.add_assoc p.o]
    · rw [g1]; simp only [absV]; exact ⟨q, g2, h2, h3, h4⟩
  | .ap j m l, r, hr => by
    simp only [absV] at hr
    obtain ⟨q, h1, h2⟩ := hr
    simp only [decS]
    rcases ht.at j q h1 with ⟨k, i, p, g1, _⟩ | ⟨k, g1, g2⟩
    · rw [g1]; simp only [absV]
    · rw [g1]; simp only [absV]; exact ⟨q, g2, h2⟩
  | .fn f cs, r, hr => by
    simp only [absV, decS] at *
    obtain ⟨xs, h1, h2⟩ := hr
    exact ⟨xs, h1, decL_abs ht cs xs h2⟩
  | .agg cs, r, hr => by
    simp only [absV, decS] at *
    obtain ⟨xs, h1, h2⟩ := hr
    exact ⟨xs, h1, decL_abs ht cs xs h2⟩
  | .tup cs, r, hr => by
    simp only [absV, decS] at *
    obtain ⟨xs, h1, h2⟩ := hr
    exact ⟨xs, h1, decL_abs ht cs xs h2⟩
theorem decL_abs (ht : Turn h δ δ' δ'' es base) : ∀ (xs : List SV) (rs : List Value), absL δ' xs rs → absL δ'' (decL es base xs) rs
  | [], rs, hr => by cases rs <;> simp only [absL, decL] at *
  | x :: xs, rs, hr => by
    cases rs with
    | nil => simp only [absL] at hr
    | cons r rs =>
      simp only [absL, decL] at *
      exact ⟨dec_abs ht x r hr.1, decL_abs ht xs rs hr.2⟩
end

theorem decB_live (ht : Turn h δ δ' δ'' es base) {b : Blk} {q : Loc} (hl : Live δ' b w q) : Live δ'' (decB es base b) w q := by
  refine ⟨hl.s, hl.n, hl.no, fun hno => ?_⟩
  obtain ⟨c, e, fz, c1, c2, c3, c4, c5, c6, c7⟩ := hl.rep hno
  cases hf : b.flat with
  | true =>
    have hrow : (decB es base b).row = b.row := by simp only [decB, hf]
    refine ⟨c, e, fz, c1, c2, fun _ y hy => by rw [hrow]; exact c3 hf y hy, c4, c5, c6, fun y hy => ?_⟩
    rw [hrow]
    obtain ⟨a1, a2⟩ := c7 y hy
    exact ⟨a1, fun z v hz => (a2 z v hz).imp fun r ⟨a3, a4⟩ => ⟨a3, absV_nameless _ _ (namelessL_mem (c3 hf y hy) v (List.mem_of_getElem? hz)) a4⟩⟩
  | false =>
    have hrow : ∀ i, (decB es base b).row i = decL es base (b.row i) := fun i => by simp only [decB, hf]
    refine ⟨c, e, fz, c1, c2, fun hh => (by have : b.flat = true := hh; rw [hf] at this; cases this), c4, c5, c6, fun y hy => ?_⟩
    rw [hrow]
    obtain ⟨a1, a2⟩ := c7 y hy
    obtain ⟨xs, x1, x2⟩ := exists_list (δ := δ') (c := c) (b.row y) (q.o + y * b.size) (fun j x hx => a2 j x hx)
    have x3 := decL_abs ht _ _ x1
    have l1 := absL_length x1
    have l2 := absL_length x3
    refine ⟨by show _ = b.size; omega, fun z v hz => ?_⟩
    obtain ⟨r, y1, y2⟩ := absL_get x3 hz
    exact ⟨r, x2 z r y1, y2⟩

theorem happ_dec {u : List (Nat × Blk)} : (∀ j j' k, inNames j u = true → inNames j' u = true → backOf es base j = .whole k → backOf es base j' = .whole k → j = j') → ∀ (H hc : Heap) (j k : Nat), inNames j u = true → backOf es base j = .whole k →
    happ H (decU es base u) k = (happ hc u j).map (decB es base) := by
  induction u with
  | nil => intro _ H hc j k hj; simp [inNames] at hj
  | cons q rest ih =>
    obtain ⟨j0, b⟩ := q
    intro hinj H hc j k hj hk
    have hinj' : ∀ j j' k, inNames j rest = true → inNames j' rest = true → backOf es base j = .whole k → backOf es base j' = .whole k → j = j' := fun j j' k h1 h2 => hinj j j' k (by simp [inNames, h1]) (by simp [inNames, h2])
    cases hr : inNames j rest with
    | true =>
      simp only [happ]
      have h1 := ih hinj' (match backOf es base j0 with | .whole k0 => hset H k0 (decB es base b) | _ => H) (hset hc j0 b) j k hr hk
      rw [← h1]
      simp only [decU]
      cases backOf es base j0 <;> rfl
    | false =>
      simp only [inNames, hr, Bool.or_false] at hj
      have e0 : j = j0 := Nat.eq_of_beq_eq_true hj
      subst e0
      have hnot : inNames k (decU es base rest) = false := by
        cases hin : inNames k (decU es base rest) with
        | false => rfl
        | true =>
          exfalso
          have : ∀ (l : List (Nat × Blk)), inNames k (decU es base l) = true → ∃ j', inNames j' l = true ∧ backOf es base j' = .whole k := by
            intro l
            induction l with
            | nil => intro h0; simp [decU, inNames] at h0
            | cons q l ihl =>
              obtain ⟨j1, b1⟩ := q
              intro h0
              simp only [decU] at h0
              cases hb : backOf es base j1 with
              | whole k1 =>
                rw [hb] at h0
                simp only [inNames, Bool.or_eq_true] at h0
                rcases h0 with h0 | h0
                · exact ⟨j1, by simp [inNames], by rw [hb, Nat.eq_of_beq_eq_true h0]⟩
                · obtain ⟨j', e1, e2⟩ := ihl h0; exact ⟨j', by simp [inNames, e1], e2⟩
              | win k1 i1 => rw [hb] at h0; obtain ⟨j', e1, e2⟩ := ihl h0; exact ⟨j', by simp [inNames, e1], e2⟩
              | no => rw [hb] at h0; obtain ⟨j', e1, e2⟩ := ihl h0; exact ⟨j', by simp [inNames, e1], e2⟩
          obtain ⟨j', e1, e2⟩ := this rest hin
          have := hinj j j' k (by simp [inNames]) (by simp [inNames, e1]) hk e2
          subst this
          rw [hr] at e1; cases e1
      simp only [decU, hk, happ]
      rw [happ_other _ _ hnot, happ_other _ _ hr]
      simp [hset]

theorem decU_names {u : List (Nat × Blk)} {k : Nat} : inNames k (decU es base u) = true ↔ ∃ j, inNames j u = true ∧ backOf es base j = .whole k := by
  induction u with
  | nil => simp [decU, inNames]
  | cons q l ihl =>
    obtain ⟨j1, b1⟩ := q
    simp only [decU]
    constructor
    · intro h0
      cases hb : backOf es base j1 with
      | whole k1 =>
        rw [hb] at h0
        simp only [inNames, Bool.or_eq_true] at h0
        rcases h0 with h0 | h0
        · exact ⟨j1, by simp [inNames], by rw [hb, Nat.eq_of_beq_eq_true h0]⟩
        · obtain ⟨j', e1, e2⟩ := ihl.1 h0; exact ⟨j', by simp [inNames, e1], e2⟩
      | win k1 i1 => rw [hb] at h0; obtain ⟨j', e1, e2⟩ := ihl.1 h0; exact ⟨j', by simp [inNames, e1], e2⟩
      | no => rw [hb] at h0; obtain ⟨j', e1, e2⟩ := ihl.1 h0; exact ⟨j', by simp [inNames, e1], e2⟩
    · rintro ⟨j, e1, e2⟩
      simp only [inNames, Bool.or_eq_true] at e1
      rcases e1 with e1 | e1
      · rw [Nat.eq_of_beq_eq_true e1] at e2
        rw [e2]
        simp [inNames]
      · have := ihl.2 ⟨j, e1, e2⟩
        cases hb : backOf es base j1 <;> simp [inNames, this]
end
end Go.SE
