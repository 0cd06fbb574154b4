/-
  What the proof uses, part 2.
-/
import Derived.Laws.Cells
import Derived.Laws.Rows
import Derived.Below
import Derived.Test.YthjaamckmadngaaZq1
set_option maxRecDepth 100000
set_option linter.unusedSimpArgs false
set_option linter.unusedVariables false

section
namespace Go.SE
structure Loc where
  r : Nat
  s : Nat
  o : Nat
  n : Nat
  no : Bool := false
abbrev Dict := Nat → Option Loc
mutual
def absV (δ : Dict) : SV → Value → Prop
  | .unk, _ => True
  | .v x, r => r = x
  | .vp k j, r => ∃ p, δ k = some p ∧ 0 < p.n ∧ r = .pointer (some ⟨p.r, p.o + j, none⟩)
  | .ptr k i j, r => ∃ p, δ k = some p ∧ i < p.n ∧ r = .pointer (some ⟨p.r, p.o + i * p.s + j, none⟩)
  | .sl k s i l c, r => ∃ p, δ k = some p ∧ p.s = s ∧ i + l ≤ p.n ∧ ((p.no = false ∧ r = .slice (some ⟨p.r, p.o + i * s, none⟩) l c) ∨ (l = 0 ∧ c = 0 ∧ ∃ a, r = .slice a 0 0))
  | .ap k m len, r => ∃ p, δ k = some p ∧ p.s = m ∧ p.n = len ∧ p.no = false ∧ r = .pointer (some ⟨p.r, p.o, none⟩)
  | .fn f caps, r => ∃ xs : List Value, r = .func (.func f) #[] xs.toArray ∧ absL δ caps xs
  | .ifc t x, r => ∃ y : Value, r = .iface t y ∧ absV δ x y
  | .agg cs, r => ∃ xs : List Value, r = .agg xs.toArray ∧ absL δ cs xs
  | .tup vs, r => ∃ xs : List Value, r = .tuple xs.toArray ∧ absL δ vs xs
def absL (δ : Dict) : List SV → List Value → Prop
  | [], [] => True
  | x :: xs, y :: ys => absV δ x y ∧ absL δ xs ys
  | [], _ :: _ => False
  | _ :: _, [] => False
end
def Dict.le (δ δ' : Dict) : Prop := ∀ k p, δ k = some p → δ' k = some p
theorem Dict.le_refl (δ : Dict) : δ.le δ := fun _ _ h => h
theorem Dict.le_trans {a b c : Dict} (h : a.le b) (h' : b.le c) : a.le c := fun k p hk => h' k p (h k p hk)
mutual
theorem absV_mono {δ δ' : Dict} (h : δ.le δ') : ∀ (x : SV) (r : Value), absV δ x r → absV δ' x r
  | .unk, _, _ => by simp only [absV]
  | .v x, r, hr => by simp only [absV] at *; exact hr
  | .vp k j, r, hr => by
    simp only [absV] at *
    obtain ⟨p, h1, h2⟩ := hr
    exact ⟨p, h _ _ h1, h2⟩
  | .ptr k i j, r, hr => by
    simp only [absV] at *
    obtain ⟨p, h1, h2⟩ := hr
    exact ⟨p, h _ _ h1, h2⟩
  | .sl k s i l c, r, hr => by
    simp only [absV] at *
    obtain ⟨p, h1, h2⟩ := hr
    exact ⟨p, h _ _ h1, h2⟩
  | .ap k m l, r, hr => by
    simp only [absV] at *
    obtain ⟨p, h1, h2⟩ := hr
    exact ⟨p, h _ _ h1, h2⟩
  | .fn f caps, r, hr => by
    simp only [absV] at *
    obtain ⟨xs, h1, h2⟩ := hr
    exact ⟨xs, h1, absL_mono h caps xs h2⟩
  | .ifc t x, r, hr => by
    simp only [absV] at *
    obtain ⟨y, h1, h2⟩ := hr
    exact ⟨y, h1, absV_mono h x y h2⟩
  | .agg cs, r, hr => by
    simp only [absV] at *
    obtain ⟨xs, h1, h2⟩ := hr
    exact ⟨xs, h1, absL_mono h cs xs h2⟩
  | .tup vs, r, hr => by
    simp only [absV] at *
    obtain ⟨xs, h1, h2⟩ := hr
    exact ⟨xs, h1, absL_mono h vs xs h2⟩
theorem absL_mono {δ δ' : Dict} (h : δ.le δ') : ∀ (xs : List SV) (rs : List Value), absL δ xs rs → absL δ' xs rs
  | [], [], _ => by simp only [absL]
  | x :: xs, r :: rs, hr => by
    simp only [absL] at *
    exact ⟨absV_mono h x r hr.1, absL_mono h xs rs hr.2⟩
  | [], _ :: _, hr => by simp only [absL] at hr
  | _ :: _, [], hr => by simp only [absL] at hr
end
theorem absL_length {δ : Dict} : ∀ {xs : List SV} {rs : List Value}, absL δ xs rs → xs.length = rs.length
  | [], [], _ => rfl
  | _ :: _, _ :: _, h => by simp only [absL] at h; simp [absL_length h.2]
  | [], _ :: _, h => by simp only [absL] at h
  | _ :: _, [], h => by simp only [absL] at h
theorem absL_get {δ : Dict} : ∀ {xs : List SV} {rs : List Value}, absL δ xs rs → ∀ {i : Nat} {x : SV}, xs[i]? = some x → ∃ r, rs[i]? = some r ∧ absV δ x r
  | [], [], _, i, x, h => by simp at h
  | y :: ys, r :: rs, h, 0, x, hx => by simp only [absL] at h; simp at hx; subst hx; exact ⟨r, rfl, h.1⟩
  | y :: ys, r :: rs, h, i + 1, x, hx => by simp only [absL] at h; simp at hx ⊢; exact absL_get h.2 hx
  | [], _ :: _, h, _, _, _ => by simp only [absL] at h
  | _ :: _, [], h, _, _, _ => by simp only [absL] at h
theorem absL_of_get {δ : Dict} : ∀ {xs : List SV} {rs : List Value}, xs.length = rs.length → (∀ (i : Nat) (x : SV), xs[i]? = some x → ∃ r, rs[i]? = some r ∧ absV δ x r) → absL δ xs rs
  | [], [], _, _ => by simp only [absL]
  | y :: ys, r :: rs, hl, h => by
    simp only [absL]
    refine ⟨?_, absL_of_get (by simpa using hl) fun i x hx => ?_⟩
    · obtain ⟨r', h1, h2⟩ := h 0 y rfl
      simp at h1; subst h1; exact h2
    · have := h (i + 1) x (by simpa using hx)
      simpa using this
  | [], _ :: _, hl, _ => by simp at hl
  | _ :: _, [], hl, _ => by simp at hl
theorem absL_append {δ : Dict} : ∀ {xs : List SV} {rs : List Value} {ys : List SV} {ts : List Value}, absL δ xs rs → absL δ ys ts → absL δ (xs ++ ys) (rs ++ ts)
  | [], [], _, _, _, h' => by simpa using h'
  | x :: xs, r :: rs, ys, ts, h, h' => by
    simp only [absL, List.cons_append] at *
    exact ⟨h.1, absL_append h.2 h'⟩
  | [], _ :: _, _, _, h, _ => by simp only [absL] at h
  | _ :: _, [], _, _, h, _ => by simp only [absL] at h
theorem absL_take {δ : Dict} (n : Nat) : ∀ {xs : List SV} {rs : List Value}, absL δ xs rs → absL δ (xs.take n) (rs.take n) := by
  induction n with
  | zero => intro xs rs _; simp [absL]
  | succ n ih =>
    intro xs rs h
    match xs, rs, h with
    | [], [], _ => simp [absL]
    | x :: xs, r :: rs, h => simp only [absL] at h; simp only [List.take_succ_cons, absL]; exact ⟨h.1, ih h.2⟩
    | [], _ :: _, h => simp only [absL] at h
    | _ :: _, [], h => simp only [absL] at h
theorem absL_drop {δ : Dict} (n : Nat) : ∀ {xs : List SV} {rs : List Value}, absL δ xs rs → absL δ (xs.drop n) (rs.drop n) := by
  induction n with
  | zero => intro xs rs h; simpa using h
  | succ n ih =>
    intro xs rs h
    match xs, rs, h with
    | [], [], _ => simp [absL]
    | x :: xs, r :: rs, h => simp only [absL] at h; simpa using ih h.2
    | [], _ :: _, h => simp only [absL] at h
    | _ :: _, [], h => simp only [absL] at h
theorem absL_set {δ : Dict} : ∀ {xs : List SV} {rs : List Value}, absL δ xs rs → ∀ (t : Nat) {x : SV} {r : Value}, absV δ x r → absL δ (xs.set t x) (rs.set t r)
  | [], [], _, _, _, _, _ => by simp [absL]
  | _ :: _, _ :: _, h, 0, _, _, hx => by simp only [absL, List.set_cons_zero] at *; exact ⟨hx, h.2⟩
  | _ :: _, _ :: _, h, t + 1, _, _, hx => by simp only [absL, List.set_cons_succ] at *; exact ⟨h.1, absL_set h.2 t hx⟩
  | [], _ :: _, h, _, _, _, _ => by simp only [absL] at h
  | _ :: _, [], h, _, _, _, _ => by simp only [absL] at h
theorem absL_vs {δ : Dict} : ∀ l : List Value, absL δ (l.map .v) l
  | [] => by simp [absL]
  | x :: l => by simp only [List.map_cons, absL, absV, true_and]; exact absL_vs l
theorem absL_replicate {δ : Dict} {x : SV} {r : Value} (h : absV δ x r) : ∀ n, absL δ (List.replicate n x) (List.replicate n r)
  | 0 => by simp [absL]
  | n + 1 => by simp only [List.replicate_succ, absL]; exact ⟨h, absL_replicate h n⟩
def oneCell (r : Value) : Prop := (∀ cs, r ≠ .agg cs) ∧ (∀ vs, r ≠ .tuple vs)
theorem oneCell_of_isCell {δ : Dict} {x : SV} {r : Value} (h : isCell x = true) (hx : absV δ x r) : oneCell r := by
  cases x <;> simp only [absV, isCell] at * <;> try (cases h; done)
  case v y => subst hx; cases r <;> simp_all [oneCell]
  case vp => obtain ⟨p, _, _, rfl⟩ := hx; simp [oneCell]
  case ptr => obtain ⟨p, _, _, rfl⟩ := hx; simp [oneCell]
  case sl => obtain ⟨p, _, _, _, ⟨_, rfl⟩ | ⟨_, _, a, rfl⟩⟩ := hx <;> simp [oneCell]
  case ap => obtain ⟨p, _, _, _, _, rfl⟩ := hx; simp [oneCell]
  case fn => obtain ⟨xs, rfl, _⟩ := hx; simp [oneCell]
  case ifc => obtain ⟨y, rfl, _⟩ := hx; simp [oneCell]
theorem cells_of_oneCell {r : Value} (h : oneCell r) : r.cells = #[r] := by
  cases r <;> simp_all [oneCell, Value.cells]
theorem absL_scells {δ : Dict} {x : SV} {r : Value} {l : List SV} (h : scells x = some l) (hx : absV δ x r) : absL δ l r.cells.toList := by
  have key : isCell x = true → l = [x] → absL δ l r.cells.toList := fun hc hl => by
    rw [cells_of_oneCell (oneCell_of_isCell hc hx), hl]
    simp only [absL, and_true]; exact hx
  have gen : (bif isCell x then some [x] else none) = some l → absL δ l r.cells.toList := fun h => by
    cases hc : isCell x with
    | false => simp only [hc, cond_false] at h; cases h
    | true => simp only [hc, cond_true, Option.some.injEq] at h; exact key hc h.symm
  cases x with
  | agg cs =>
    simp only [scells, Option.some.injEq] at h
    simp only [absV] at hx
    obtain ⟨xs, rfl, h2⟩ := hx
    simpa [Value.cells, ← h] using h2
  | unk => exact gen h
  | v => exact gen h
  | vp => exact gen h
  | ptr => exact gen h
  | sl => exact gen h
  | ap => exact gen h
  | fn => exact gen h
  | tup => exact gen h
  | ifc => exact gen h
theorem oneCells {δ : Dict} : ∀ {xs : List SV} {rs : List Value}, xs.all isCell = true → absL δ xs rs → ∀ r ∈ rs, oneCell r
  | [], [], _, _, _, hr => by cases hr
  | x :: xs, y :: ys, ha, h, r, hr => by
    simp only [List.all_cons, Bool.and_eq_true, absL] at ha h
    rcases List.mem_cons.1 hr with rfl | hr
    · exact oneCell_of_isCell ha.1 h.1
    · exact oneCells ha.2 h.2 r hr
  | [], _ :: _, _, h, _, _ => by simp only [absL] at h
  | _ :: _, [], _, h, _, _ => by simp only [absL] at h
def rowRep (δ : Dict) (c : Array Value) (size off i : Nat) (row : List SV) : Prop :=
  row.length = size ∧ ∀ j x, row[j]? = some x → ∃ r, c[off + i * size + j]? = some r ∧ absV δ x r
def thaw (n : Nat) (fz : Nat × Nat) : Prop := fz.2 = 0 ∨ n ≤ fz.1
def blkRep (δ : Dict) (b : Blk) (w : World) (r o : Nat) : Prop :=
  ∃ c e fz, w.heap[r]? = some (.cells c e fz) ∧ (b.rw = true → thaw c.size fz) ∧ (b.flat = true → ∀ i, i < b.n → namelessL (b.row i) = true) ∧ (b.elem ≠ 0 → e = b.elem) ∧ o + b.ext * b.size ≤ c.size ∧ (b.whole = true → o = 0 ∧ c.size = b.size ∧ (b.rw = true → fz.2 = 0)) ∧
    ∀ i, i < b.n → rowRep δ c b.size o i (b.row i)
structure Live (δ : Dict) (b : Blk) (w : World) (p : Loc) : Prop where
  s : p.s = b.size
  n : p.n = b.n
  no : p.no = true → b.n = 0 ∧ b.ext = 0
  rep : p.no = false → blkRep δ b w p.r p.o
def lies (δ : Dict) (h : Heap) (k r : Nat) : Prop := ∃ b p, h k = some b ∧ b.dead = false ∧ δ k = some p ∧ p.no = false ∧ p.r = r
structure HRep (δ : Dict) (h : Heap) (w : World) : Prop where
  blk : ∀ k b, h k = some b → ∃ p, δ k = some p ∧ (b.dead = false → Live δ b w p)
  inj : ∀ k k' r b, lies δ h k r → lies δ h k' r → h k = some b → b.rw = true → k = k'
def rwOf (δ : Dict) (h : Heap) (r : Nat) : Prop := ∃ k b, h k = some b ∧ b.rw = true ∧ lies δ h k r
structure WRel (own : Nat → Prop) (w w' : World) : Prop where
  os : w'.os = w.os
  tape : w'.tape = w.tape
  output : w'.output = w.output
  size : w.heap.size ≤ w'.heap.size
  block : ∀ r, r < w.heap.size → ¬ own r → w'.heap[r]? = w.heap[r]?
theorem WRel.refl (own : Nat → Prop) (w : World) : WRel own w w := ⟨rfl, rfl, rfl, Nat.le_refl _, fun _ _ _ => rfl⟩
theorem WRel.trans {own : Nat → Prop} {a b c : World} (h : WRel own a b) (h' : WRel own b c) : WRel own a c :=
  ⟨h'.os.trans h.os, h'.tape.trans h.tape, h'.output.trans h.output, Nat.le_trans h.size h'.size, fun r hr ho => (h'.block r (Nat.lt_of_lt_of_le hr h.size) ho).trans (h.block r hr ho)⟩
theorem WRel.mono {own own' : Nat → Prop} {w w' : World} (h : WRel own w w') (hs : ∀ r, r < w.heap.size → own r → own' r) : WRel own' w w' :=
  ⟨h.os, h.tape, h.output, h.size, fun r hr ho => h.block r hr fun hx => ho (hs r hr hx)⟩
theorem WRel.of_below {own : Nat → Prop} {w w' : World} (h : Go.RowKit.Below w.heap.size w w') : WRel own w w' :=
  ⟨h.os, h.tape, h.output, h.size, fun r hr _ => h.block r hr⟩
theorem WRel.drew {own : Nat → Prop} {w0 w : World} (h : WRel own w0 w) : WRel own w0 { w with drawn := w.drawn + 1 } := ⟨h.os, h.tape, h.output, h.size, h.block⟩
structure Upd (δ : Dict) (h : Heap) (w : World) (δ' : Dict) (u : List (Nat × Blk)) (w' : World) : Prop where
  le : δ.le δ'
  rep : HRep δ' (happ h u) w'
  fresh : ∀ k, δ k = none → δ' k ≠ none → inNames k u = true
  place : ∀ k p, δ k = none → δ' k = some p → p.no = false → w.heap.size ≤ p.r ∨ rwOf δ h p.r
  wrel : WRel (rwOf δ h) w w'
theorem beq_false {a b : Nat} (h : a ≠ b) : Nat.beq a b = false := by
  cases e : Nat.beq a b with
  | false => rfl
  | true => exact absurd (Nat.eq_of_beq_eq_true e) h
theorem Upd.same {δ : Dict} {h : Heap} {w : World} (hr : HRep δ h w) : Upd δ h w δ [] w :=
  ⟨δ.le_refl, hr, fun k h0 h1 => absurd h0 h1, fun k p h0 h1 => (by rw [h0] at h1; cases h1), WRel.refl _ _⟩
theorem happ_other {k : Nat} : ∀ (u : List (Nat × Blk)) (h : Heap), inNames k u = false → happ h u k = h k
  | [], _, _ => rfl
  | (k', b) :: rest, h, hn => by
    simp only [inNames, Bool.or_eq_false_iff] at hn
    simp only [happ]
    rw [happ_other rest _ hn.2]
    simp [hset, hn.1]
theorem happ_same {k : Nat} : ∀ (u : List (Nat × Blk)) (h h' : Heap), inNames k u = true → happ h u k = happ h' u k
  | [], _, _, hn => by simp [inNames] at hn
  | (k', b) :: rest, h, h', hn => by
    simp only [happ]
    cases hr : inNames k rest with
    | true => exact happ_same rest _ _ hr
    | false =>
      rw [happ_other rest _ hr, happ_other rest _ hr]
      simp only [inNames, hr, Bool.or_false] at hn
      simp [hset, hn]
theorem happ_ne {k : Nat} : ∀ (u : List (Nat × Blk)) (H : Heap), inNames k u = true → happ H u k ≠ none
  | [], _, h0 => by simp [inNames] at h0
  | (k', b') :: rest, H, h0 => by
    simp only [happ]
    cases hr : inNames k rest with
    | true => exact happ_ne rest _ hr
    | false =>
      rw [happ_other rest _ hr]
      simp only [inNames, hr, Bool.or_false] at h0
      simp [hset, h0]
theorem blkRep_mono {δ δ' : Dict} {b : Blk} {w w' : World} {r o : Nat} (h : δ.le δ') (hw : w'.heap[r]? = w.heap[r]?) (hb : blkRep δ b w r o) : blkRep δ' b w' r o := by
  obtain ⟨c, e, fz, h1, h2, hfl, he, hx, hwh, h3⟩ := hb
  refine ⟨c, e, fz, by rw [hw, h1], h2, hfl, he, hx, hwh, fun i hi => ⟨(h3 i hi).1, fun j x hx => ?_⟩⟩
  obtain ⟨rr, h4, h5⟩ := (h3 i hi).2 j x hx
  exact ⟨rr, h4, absV_mono h _ _ h5⟩
theorem blkRep_lt {δ : Dict} {b : Blk} {w : World} {r o : Nat} (hb : blkRep δ b w r o) : r < w.heap.size := by
  obtain ⟨c, e, fz, h1, _⟩ := hb
  rcases Nat.lt_or_ge r w.heap.size with h | h
  · exact h
  · simp [Array.getElem?_eq_none h] at h1
theorem Live.mono {δ δ' : Dict} {b : Blk} {w w' : World} {p : Loc} (hl : Live δ b w p) (h : δ.le δ') (hw : p.no = false → w'.heap[p.r]? = w.heap[p.r]?) : Live δ' b w' p :=
  ⟨hl.s, hl.n, hl.no, fun hn => blkRep_mono h (hw hn) (hl.rep hn)⟩
theorem Live.notNo {δ : Dict} {b : Blk} {w : World} {p : Loc} (hl : Live δ b w p) (hn : 0 < p.n) : p.no = false := by
  cases h : p.no with
  | false => rfl
  | true => have := (hl.no h).1; have := hl.n; omega
theorem lies_lt {δ : Dict} {h : Heap} {w : World} (hr : HRep δ h w) {k r : Nat} (hl : lies δ h k r) : r < w.heap.size := by
  obtain ⟨b, p, h1, h2, h3, h4, h5⟩ := hl
  obtain ⟨p', g1, g2⟩ := hr.blk k b h1
  rw [h3] at g1; cases g1
  rw [← h5]
  exact blkRep_lt ((g2 h2).rep h4)
def updFits (h H : Heap) (u : List (Nat × Blk)) : Prop := ∀ k, inNames k u = true → (∃ b, h k = some b ∧ b.rw = true ∧ b.dead = false) ∨ (h k = none ∧ H k = none)
theorem Upd.lift {δ δ' : Dict} {h H : Heap} {w w' : World} {u : List (Nat × Blk)} (hu : Upd δ h w δ' u w') (hH : HRep δ H w) (hsub : ∀ k b, h k = some b → H k = some b)
    (htight : ∀ k, H k = none → δ k = none) (hf : updFits h H u) : HRep δ' (happ H u) w' ∧ (∀ k, happ H u k = none → δ' k = none) ∧ WRel (rwOf δ H) w w' := by
  have hlies : ∀ k r, lies δ h k r → lies δ H k r := fun k r ⟨b, p, h1, h2⟩ => ⟨b, p, hsub k b h1, h2⟩
  have hrw : ∀ r, rwOf δ h r → rwOf δ H r := fun r ⟨k, b, h1, h2, h3⟩ => ⟨k, b, hsub k b h1, h2, hlies k r h3⟩
  -- what may be written is seen
  have apart : ∀ k r, h k = none → lies δ H k r → ¬ rwOf δ h r := fun k r hn hl ⟨k', b', g1, g2, g3⟩ => by
    have := hH.inj k' k r b' (hlies k' r g3) hl (hsub k' b' g1) g2
    subst this
    rw [g1] at hn; cases hn
  -- the heap behind, name by name
  have hseen : ∀ k b, happ H u k = some b → inNames k u = true ∨ h k ≠ none → happ h u k = some b := fun k b hk hor => by
    cases hi : inNames k u with
    | true => rw [happ_same u h H hi]; exact hk
    | false =>
      rw [happ_other u H hi] at hk
      rw [happ_other u h hi]
      rcases hor with hor | hor
      · rw [hi] at hor; cases hor
      · cases hh : h k with
        | none => exact absurd hh hor
        | some b' => rw [← hk, hsub k b' hh]
  have cls : ∀ k r, lies δ' (happ H u) k r → (lies δ' (happ h u) k r ∧ (inNames k u = true ∨ h k ≠ none)) ∨ (h k = none ∧ inNames k u = false ∧ lies δ H k r) := fun k r ⟨b, p, h1, h2, h3, h4, h5⟩ => by
    by_cases hor : inNames k u = true ∨ h k ≠ none
    · exact .inl ⟨⟨b, p, hseen k b h1 hor, h2, h3, h4, h5⟩, hor⟩
    · simp only [not_or, Bool.not_eq_true, ne_eq, Decidable.not_not] at hor
      rw [happ_other u H hor.1] at h1
      obtain ⟨p', g1, _⟩ := hH.blk k b h1
      have := hu.le _ _ g1
      rw [h3] at this; cases this
      exact .inr ⟨hor.2, hor.1, ⟨b, p, h1, h2, g1, h4, h5⟩⟩
  -- one that is seen or new against one that is hidden
  have mix : ∀ k k' r b, lies δ' (happ h u) k r → (inNames k u = true ∨ h k ≠ none) → h k' = none → lies δ H k' r → (happ H u k = some b ∧ b.rw = true ∨ H k' = some b ∧ b.rw = true) → False := by
    intro k k' r b hl hor hn' hl' hb
    have hlt := lies_lt hH hl'
    obtain ⟨bk, p, h1, h2, h3, h4, h5⟩ := hl
    cases hdk : δ k with
    | none =>
      rcases hu.place k p hdk h3 h4 with h | h
      · omega
      · rw [h5] at h; exact apart k' r hn' hl' h
    | some q =>
      have h6 := hu.le _ _ hdk
      rw [h3] at h6; cases h6
      -- k was seen
      have hvis : ∃ b0, h k = some b0 ∧ b0.dead = false ∧ (b0.rw = true ∨ (inNames k u = false ∧ b0 = bk)) := by
        cases hi : inNames k u with
        | true =>
          rcases hf k hi with ⟨b0, h2, h3, h4⟩ | ⟨_, h3⟩
          · exact ⟨b0, h2, h4, .inl h3⟩
          · rw [htight k h3] at hdk; cases hdk
        | false =>
          rw [hi] at hor
          simp only [Bool.false_eq_true, false_or] at hor
          cases hh : h k with
          | none => exact absurd hh hor
          | some b0 =>
            rw [happ_other u h hi, hh] at h1
            cases h1
            exact ⟨_, rfl, h2, .inr ⟨rfl, rfl⟩⟩
      obtain ⟨b0, g1, g2, g3⟩ := hvis
      have hne : k ≠ k' := fun e => by subst e; rw [g1] at hn'; cases hn'
      have hlk : lies δ H k r := ⟨b0, p, hsub _ _ g1, g2, hdk, h4, h5⟩
      rcases g3 with g3 | ⟨g4, rfl⟩
      · exact hne (hH.inj k k' r b0 hlk hl' (hsub _ _ g1) g3)
      · rcases hb with ⟨hb1, hb2⟩ | ⟨hb1, hb2⟩
        · rw [happ_other u H g4, hsub k _ g1] at hb1
          cases hb1
          exact hne (hH.inj k k' r _ hlk hl' (hsub _ _ g1) hb2)
        · exact hne (hH.inj k' k r b hl' hlk hb1 hb2).symm
  refine ⟨⟨fun k b hk => ?_, fun k k' r b hl hl' hk hb => ?_⟩, fun k hk => ?_, hu.wrel.mono fun r _ => hrw r⟩
  · by_cases hor : inNames k u = true ∨ h k ≠ none
    · exact hu.rep.blk k b (hseen k b hk hor)
    · simp only [not_or, Bool.not_eq_true, ne_eq, Decidable.not_not] at hor
      rw [happ_other u H hor.1] at hk
      obtain ⟨p, h1, h2⟩ := hH.blk k b hk
      refine ⟨p, hu.le _ _ h1, fun hd => (h2 hd).mono hu.le fun hn => ?_⟩
      exact hu.wrel.block p.r (blkRep_lt ((h2 hd).rep hn)) (apart k p.r hor.2 ⟨b, p, hk, hd, h1, hn, rfl⟩)
  · -- two names of one block
    rcases cls k r hl with ⟨h1, g1⟩ | ⟨h1, g1, e1⟩ <;> rcases cls k' r hl' with ⟨h2, g2⟩ | ⟨h2, g2, e2⟩
    · exact hu.rep.inj k k' r b h1 h2 (hseen k b hk g1) hb
    · exact (mix k k' r b h1 g1 h2 e2 (.inl ⟨hk, hb⟩)).elim
    · rw [happ_other u H g1] at hk
      exact (mix k' k r b h2 g2 h1 e1 (.inr ⟨hk, hb⟩)).elim
    · rw [happ_other u H g1] at hk
      exact hH.inj k k' r b e1 e2 hk hb
  · cases hi : inNames k u with
    | true =>
      exact (happ_ne u H hi hk).elim
    | false =>
      rw [happ_other u H hi] at hk
      have h0 := htight k hk
      cases hd : δ' k with
      | none => rfl
      | some p =>
        have := hu.fresh k h0 (by rw [hd]; simp)
        rw [hi] at this; cases this
theorem mrg_eq (c : Bool) (x y : SV) : mrg c x y = bif c then x else y := by
  unfold mrg
  split
  · split
    · rename_i h; subst h; cases c <;> rfl
    · rfl
  · cases c <;> rfl
  · cases c <;> rfl
  · rfl
theorem mrgL_eq (c : Bool) : ∀ (xs ys : List SV), mrgL c xs ys = bif c then xs else ys
  | [], [] => by cases c <;> rfl
  | x :: xs, y :: ys => by
    simp only [mrgL, mrg_eq, mrgL_eq c xs ys]
    cases c <;> rfl
  | [], _ :: _ => rfl
  | _ :: _, [] => rfl
mutual
theorem absV_nameless {δ δ' : Dict} : ∀ (x : SV) (r : Value), nameless x = true → absV δ x r → absV δ' x r
  | .unk, _, _, _ => by simp only [absV]
  | .v x, r, _, hr => by simp only [absV] at *; exact hr
  | .fn f caps, r, hn, hr => by
    simp only [absV, nameless] at *
    obtain ⟨xs, h1, h2⟩ := hr
    exact ⟨xs, h1, absL_nameless caps xs hn h2⟩
  | .ifc t x, r, hn, hr => by
    simp only [absV, nameless] at *
    obtain ⟨y, h1, h2⟩ := hr
    exact ⟨y, h1, absV_nameless x y hn h2⟩
  | .agg cs, r, hn, hr => by
    simp only [absV, nameless] at *
    obtain ⟨xs, h1, h2⟩ := hr
    exact ⟨xs, h1, absL_nameless cs xs hn h2⟩
  | .tup vs, r, hn, hr => by
    simp only [absV, nameless] at *
    obtain ⟨xs, h1, h2⟩ := hr
    exact ⟨xs, h1, absL_nameless vs xs hn h2⟩
  | .vp _ _, _, hn, _ => by simp [nameless] at hn
  | .ptr _ _ _, _, hn, _ => by simp [nameless] at hn
  | .sl _ _ _ _ _, _, hn, _ => by simp [nameless] at hn
  | .ap _ _ _, _, hn, _ => by simp [nameless] at hn
theorem absL_nameless {δ δ' : Dict} : ∀ (xs : List SV) (rs : List Value), namelessL xs = true → absL δ xs rs → absL δ' xs rs
  | [], [], _, _ => by simp only [absL]
  | x :: xs, r :: rs, hn, hr => by
    simp only [absL, namelessL, Bool.and_eq_true] at *
    exact ⟨absV_nameless x r hn.1 hr.1, absL_nameless xs rs hn.2 hr.2⟩
  | [], _ :: _, _, hr => by simp only [absL] at hr
  | _ :: _, [], _, hr => by simp only [absL] at hr
end
theorem namelessL_mem : ∀ {l : List SV}, namelessL l = true → ∀ v ∈ l, nameless v = true
  | [], _, v, hv => by cases hv
  | a :: t, hl, v, hv => by
    simp only [namelessL, Bool.and_eq_true] at hl
    rcases List.mem_cons.1 hv with rfl | hv
    · exact hl.1
    · exact namelessL_mem hl.2 v hv
end Go.SE
end
