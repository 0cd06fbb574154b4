/-
 What the proof uses, part 2.
-/
import Derived.Laws.Cells
import Derived.Laws.Rows
import Derived.Below
import Derived.Test.YtjdldadmaaeimaaZd1
set_option maxRecDepth 100000
set_option linter.unusedSimpArgs false
set_option linter.unusedVariables false

section
namespace Go.SE
structure Loc where
 r : Nat
 s : Nat
 o : Nat
 n : Nat
 no : Bool := false
abbrev Dict := Nat → Option Loc
mutual
def Qau (δ : Dict) : SV → Value → Prop
 | .unk, _ => True
 | .v x, r => r = x
 | .vp k j, r => ∃ p, δ k = some p ∧ 0 < p.n ∧ r = .pointer (some ⟨p.r, p.o + j, none⟩)
 | .ptr k i j, r => ∃ p, δ k = some p ∧ i < p.n ∧ r = .pointer (some ⟨p.r, p.o + i * p.s + j, none⟩)
 | .sl k s i l c, r => ∃ p, δ k = some p ∧ p.s = s ∧ i + l ≤ p.n ∧ ((p.no = false ∧ r = .slice (some ⟨p.r, p.o + i * s, none⟩) l c) ∨ (l = 0 ∧ c = 0 ∧ ∃ a, r = .slice a 0 0))
 | .ap k m len, r => ∃ p, δ k = some p ∧ p.s = m ∧ p.n = len ∧ p.no = false ∧ r = .pointer (some ⟨p.r, p.o, none⟩)
 | .fn f caps, r => ∃ xs : List Value, r = .func (.func f) #[] xs.toArray ∧ Qa7 δ caps xs
 | .agg cs, r => ∃ xs : List Value, r = .agg xs.toArray ∧ Qa7 δ cs xs
 | .tup vs, r => ∃ xs : List Value, r = .tuple xs.toArray ∧ Qa7 δ vs xs
def Qa7 (δ : Dict) : List SV → List Value → Prop
 | [], [] => True
 | x :: xs, y :: ys => Qau δ x y ∧ Qa7 δ xs ys
 | [], _ :: _ => False
 | _ :: _, [] => False
end
def Dict.le (δ δ' : Dict) : Prop := ∀ k p, δ k = some p → δ' k = some p
theorem Dict.le_refl (δ : Dict) : δ.le δ := fun _ _ h => h
theorem Dict.le_trans {a b c : Dict} (h : a.le b) (h' : b.le c) : a.le c := fun k p hk => h' k p (h k p hk)
mutual
theorem Qfv {δ δ' : Dict} (h : δ.le δ') : ∀ (x : SV) (r : Value), Qau δ x r → Qau δ' x r
 | .unk, _, _ => by simp only [Qau]
 | .v x, r, hr => by simp only [Qau] at *; exact hr
 | .vp k j, r, hr => by
   simp only [Qau] at *
   obtain ⟨p, h1, h2⟩ := hr
   exact ⟨p, h _ _ h1, h2⟩
 | .ptr k i j, r, hr => by
   simp only [Qau] at *
   obtain ⟨p, h1, h2⟩ := hr
   exact ⟨p, h _ _ h1, h2⟩
 | .sl k s i l c, r, hr => by
   simp only [Qau] at *
   obtain ⟨p, h1, h2⟩ := hr
   exact ⟨p, h _ _ h1, h2⟩
 | .ap k m l, r, hr => by
   simp only [Qau] at *
   obtain ⟨p, h1, h2⟩ := hr
   exact ⟨p, h _ _ h1, h2⟩
 | .fn f caps, r, hr => by
   simp only [Qau] at *
   obtain ⟨xs, h1, h2⟩ := hr
   exact ⟨xs, h1, Qdd h caps xs h2⟩
 | .agg cs, r, hr => by
   simp only [Qau] at *
   obtain ⟨xs, h1, h2⟩ := hr
   exact ⟨xs, h1, Qdd h cs xs h2⟩
 | .tup vs, r, hr => by
   simp only [Qau] at *
   obtain ⟨xs, h1, h2⟩ := hr
   exact ⟨xs, h1, Qdd h vs xs h2⟩
theorem Qdd {δ δ' : Dict} (h : δ.le δ') : ∀ (xs : List SV) (rs : List Value), Qa7 δ xs rs → Qa7 δ' xs rs
 | [], [], _ => by simp only [Qa7]
 | x :: xs, r :: rs, hr => by
   simp only [Qa7] at *
   exact ⟨Qfv h x r hr.1, Qdd h xs rs hr.2⟩
 | [], _ :: _, hr => by simp only [Qa7] at hr
 | _ :: _, [], hr => by simp only [Qa7] at hr
end
theorem Qa3 {δ : Dict} : ∀ {xs : List SV} {rs : List Value}, Qa7 δ xs rs → xs.length = rs.length
 | [], [], _ => rfl
 | _ :: _, _ :: _, h => by simp only [Qa7] at h; simp [Qa3 h.2]
 | [], _ :: _, h => by simp only [Qa7] at h
 | _ :: _, [], h => by simp only [Qa7] at h
theorem Qcc {δ : Dict} : ∀ {xs : List SV} {rs : List Value}, Qa7 δ xs rs → ∀ {i : Nat} {x : SV}, xs[i]? = some x → ∃ r, rs[i]? = some r ∧ Qau δ x r
 | [], [], _, i, x, h => by simp at h
 | y :: ys, r :: rs, h, 0, x, hx => by simp only [Qa7] at h; simp at hx; subst hx; exact ⟨r, rfl, h.1⟩
 | y :: ys, r :: rs, h, i + 1, x, hx => by simp only [Qa7] at h; simp at hx ⊢; exact Qcc h.2 hx
 | [], _ :: _, h, _, _, _ => by simp only [Qa7] at h
 | _ :: _, [], h, _, _, _ => by simp only [Qa7] at h
theorem Qfl {δ : Dict} : ∀ {xs : List SV} {rs : List Value}, xs.length = rs.length → (∀ (i : Nat) (x : SV), xs[i]? = some x → ∃ r, rs[i]? = some r ∧ Qau δ x r) → Qa7 δ xs rs
 | [], [], _, _ => by simp only [Qa7]
 | y :: ys, r :: rs, hl, h => by
   simp only [Qa7]
   refine ⟨?_, Qfl (by simpa using hl) fun i x hx => ?_⟩
   · obtain ⟨r', h1, h2⟩ := h 0 y rfl
     simp at h1; subst h1; exact h2
   · have := h (i + 1) x (by simpa using hx)
     simpa using this
 | [], _ :: _, hl, _ => by simp at hl
 | _ :: _, [], hl, _ => by simp at hl
theorem Qed {δ : Dict} : ∀ {xs : List SV} {rs : List Value} {ys : List SV} {ts : List Value}, Qa7 δ xs rs → Qa7 δ ys ts → Qa7 δ (xs ++ ys) (rs ++ ts)
 | [], [], _, _, _, h' => by simpa using h'
 | x :: xs, r :: rs, ys, ts, h, h' => by
   simp only [Qa7, List.cons_append] at *
   exact ⟨h.1, Qed h.2 h'⟩
 | [], _ :: _, _, _, h, _ => by simp only [Qa7] at h
 | _ :: _, [], _, _, h, _ => by simp only [Qa7] at h
theorem Qd5 {δ : Dict} (n : Nat) : ∀ {xs : List SV} {rs : List Value}, Qa7 δ xs rs → Qa7 δ (xs.take n) (rs.take n) := by
 induction n with
 | zero => intro xs rs _; simp [Qa7]
 | succ n ih =>
   intro xs rs h
   match xs, rs, h with
   | [], [], _ => simp [Qa7]
   | x :: xs, r :: rs, h => simp only [Qa7] at h; simp only [List.take_succ_cons, Qa7]; exact ⟨h.1, ih h.2⟩
   | [], _ :: _, h => simp only [Qa7] at h
   | _ :: _, [], h => simp only [Qa7] at h
theorem Qd7 {δ : Dict} (n : Nat) : ∀ {xs : List SV} {rs : List Value}, Qa7 δ xs rs → Qa7 δ (xs.drop n) (rs.drop n) := by
 induction n with
 | zero => intro xs rs h; simpa using h
 | succ n ih =>
   intro xs rs h
   match xs, rs, h with
   | [], [], _ => simp [Qa7]
   | x :: xs, r :: rs, h => simp only [Qa7] at h; simpa using ih h.2
   | [], _ :: _, h => simp only [Qa7] at h
   | _ :: _, [], h => simp only [Qa7] at h
theorem Qne {δ : Dict} : ∀ {xs : List SV} {rs : List Value}, Qa7 δ xs rs → ∀ (t : Nat) {x : SV} {r : Value}, Qau δ x r → Qa7 δ (xs.set t x) (rs.set t r)
 | [], [], _, _, _, _, _ => by simp [Qa7]
 | _ :: _, _ :: _, h, 0, _, _, hx => by simp only [Qa7, List.set_cons_zero] at *; exact ⟨hx, h.2⟩
 | _ :: _, _ :: _, h, t + 1, _, _, hx => by simp only [Qa7, List.set_cons_succ] at *; exact ⟨h.1, Qne h.2 t hx⟩
 | [], _ :: _, h, _, _, _, _ => by simp only [Qa7] at h
 | _ :: _, [], h, _, _, _, _ => by simp only [Qa7] at h
theorem Qon {δ : Dict} : ∀ l : List Value, Qa7 δ (l.map .v) l
 | [] => by simp [Qa7]
 | x :: l => by simp only [List.map_cons, Qa7, Qau, true_and]; exact Qon l
theorem Qd6 {δ : Dict} {x : SV} {r : Value} (h : Qau δ x r) : ∀ n, Qa7 δ (List.replicate n x) (List.replicate n r)
 | 0 => by simp [Qa7]
 | n + 1 => by simp only [List.replicate_succ, Qa7]; exact ⟨h, Qd6 h n⟩
def Qdw (r : Value) : Prop := (∀ cs, r ≠ .agg cs) ∧ (∀ vs, r ≠ .tuple vs)
theorem Qfj {δ : Dict} {x : SV} {r : Value} (h : Qg5 x = true) (hx : Qau δ x r) : Qdw r := by
 cases x <;> simp only [Qau, Qg5] at * <;> try (cases h; done)
 case v y => subst hx; cases r <;> simp_all [Qdw]
 case vp => obtain ⟨p, _, _, rfl⟩ := hx; simp [Qdw]
 case ptr => obtain ⟨p, _, _, rfl⟩ := hx; simp [Qdw]
 case sl => obtain ⟨p, _, _, _, ⟨_, rfl⟩ | ⟨_, _, a, rfl⟩⟩ := hx <;> simp [Qdw]
 case ap => obtain ⟨p, _, _, _, _, rfl⟩ := hx; simp [Qdw]
 case fn => obtain ⟨xs, rfl, _⟩ := hx; simp [Qdw]
theorem Qmy {r : Value} (h : Qdw r) : r.cells = #[r] := by
 cases r <;> simp_all [Qdw, Value.cells]
theorem Qkn {δ : Dict} {x : SV} {r : Value} {l : List SV} (h : Qj0 x = some l) (hx : Qau δ x r) : Qa7 δ l r.cells.toList := by
 have key : Qg5 x = true → l = [x] → Qa7 δ l r.cells.toList := fun hc hl => by
   rw [Qmy (Qfj hc hx), hl]
   simp only [Qa7, and_true]; exact hx
 have gen : (bif Qg5 x then some [x] else none) = some l → Qa7 δ l r.cells.toList := fun h => by
   cases hc : Qg5 x with
   | false => simp only [hc, cond_false] at h; cases h
   | true => simp only [hc, cond_true, Option.some.injEq] at h; exact key hc h.symm
 cases x with
 | agg cs =>
   simp only [Qj0, Option.some.injEq] at h
   simp only [Qau] at hx
   obtain ⟨xs, rfl, h2⟩ := hx
   simpa [Value.cells, ← h] using h2
 | unk => exact gen h
 | v => exact gen h
 | vp => exact gen h
 | ptr => exact gen h
 | sl => exact gen h
 | ap => exact gen h
 | fn => exact gen h
 | tup => exact gen h
theorem Qv4 {δ : Dict} : ∀ {xs : List SV} {rs : List Value}, xs.all Qg5 = true → Qa7 δ xs rs → ∀ r ∈ rs, Qdw r
 | [], [], _, _, _, hr => by cases hr
 | x :: xs, y :: ys, ha, h, r, hr => by
   simp only [List.all_cons, Bool.and_eq_true, Qa7] at ha h
   rcases List.mem_cons.1 hr with rfl | hr
   · exact Qfj ha.1 h.1
   · exact Qv4 ha.2 h.2 r hr
 | [], _ :: _, _, h, _, _ => by simp only [Qa7] at h
 | _ :: _, [], _, h, _, _ => by simp only [Qa7] at h
def Qi1 (δ : Dict) (c : Array Value) (size off i : Nat) (row : List SV) : Prop :=
 row.length = size ∧ ∀ j x, row[j]? = some x → ∃ r, c[off + i * size + j]? = some r ∧ Qau δ x r
def Zhw (n : Nat) (fz : Nat × Nat) : Prop := fz.2 = 0 ∨ n ≤ fz.1
def Qsv (δ : Dict) (b : Blk) (w : World) (r o : Nat) : Prop :=
 ∃ c e fz, w.heap[r]? = some (.cells c e fz) ∧ (b.rw = true → Zhw c.size fz) ∧ (b.flat = true → ∀ i, i < b.n → Qar (b.row i) = true) ∧ (b.elem ≠ 0 → e = b.elem) ∧ o + b.ext * b.size ≤ c.size ∧ (b.whole = true → o = 0 ∧ c.size = b.size) ∧
   ∀ i, i < b.n → Qi1 δ c b.size o i (b.row i)
structure Live (δ : Dict) (b : Blk) (w : World) (p : Loc) : Prop where
 s : p.s = b.size
 n : p.n = b.n
 no : p.no = true → b.n = 0 ∧ b.ext = 0
 rep : p.no = false → Qsv δ b w p.r p.o
def Qfo (δ : Dict) (h : Qbs) (k r : Nat) : Prop := ∃ b p, h k = some b ∧ b.dead = false ∧ δ k = some p ∧ p.no = false ∧ p.r = r
structure HRep (δ : Dict) (h : Qbs) (w : World) : Prop where
 blk : ∀ k b, h k = some b → ∃ p, δ k = some p ∧ (b.dead = false → Live δ b w p)
 inj : ∀ k k' r b, Qfo δ h k r → Qfo δ h k' r → h k = some b → b.rw = true → k = k'
def Qdh (δ : Dict) (h : Qbs) (r : Nat) : Prop := ∃ k b, h k = some b ∧ b.rw = true ∧ Qfo δ h k r
structure WRel (own : Nat → Prop) (w w' : World) : Prop where
 os : w'.os = w.os
 tape : w'.tape = w.tape
 output : w'.output = w.output
 size : w.heap.size ≤ w'.heap.size
 block : ∀ r, r < w.heap.size → ¬ own r → w'.heap[r]? = w.heap[r]?
theorem WRel.refl (own : Nat → Prop) (w : World) : WRel own w w := ⟨rfl, rfl, rfl, Nat.le_refl _, fun _ _ _ => rfl⟩
theorem WRel.trans {own : Nat → Prop} {a b c : World} (h : WRel own a b) (h' : WRel own b c) : WRel own a c :=
 ⟨h'.os.trans h.os, h'.tape.trans h.tape, h'.output.trans h.output, Nat.le_trans h.size h'.size, fun r hr ho => (h'.block r (Nat.lt_of_lt_of_le hr h.size) ho).trans (h.block r hr ho)⟩
theorem WRel.mono {own own' : Nat → Prop} {w w' : World} (h : WRel own w w') (hs : ∀ r, r < w.heap.size → own r → own' r) : WRel own' w w' :=
 ⟨h.os, h.tape, h.output, h.size, fun r hr ho => h.block r hr fun hx => ho (hs r hr hx)⟩
theorem WRel.of_below {own : Nat → Prop} {w w' : World} (h : Go.RowKit.Below w.heap.size w w') : WRel own w w' :=
 ⟨h.os, h.tape, h.output, h.size, fun r hr _ => h.block r hr⟩
theorem WRel.drew {own : Nat → Prop} {w0 w : World} (h : WRel own w0 w) : WRel own w0 { w with drawn := w.drawn + 1 } := ⟨h.os, h.tape, h.output, h.size, h.block⟩
structure Upd (δ : Dict) (h : Qbs) (w : World) (δ' : Dict) (u : List (Nat × Blk)) (w' : World) : Prop where
 le : δ.le δ'
 rep : HRep δ' (Qcb h u) w'
 fresh : ∀ k, δ k = none → δ' k ≠ none → Qae k u = true
 place : ∀ k p, δ k = none → δ' k = some p → p.no = false → w.heap.size ≤ p.r ∨ Qdh δ h p.r
 wrel : WRel (Qdh δ h) w w'
theorem Qb4 {a b : Nat} (h : a ≠ b) : Nat.beq a b = false := by
 cases e : Nat.beq a b with
 | false => rfl
 | true => exact absurd (Nat.eq_of_beq_eq_true e) h
theorem Upd.same {δ : Dict} {h : Qbs} {w : World} (hr : HRep δ h w) : Upd δ h w δ [] w :=
 ⟨δ.le_refl, hr, fun k h0 h1 => absurd h0 h1, fun k p h0 h1 => (by rw [h0] at h1; cases h1), WRel.refl _ _⟩
theorem Qat {k : Nat} : ∀ (u : List (Nat × Blk)) (h : Qbs), Qae k u = false → Qcb h u k = h k
 | [], _, _ => rfl
 | (k', b) :: rest, h, hn => by
   simp only [Qae, Bool.or_eq_false_iff] at hn
   simp only [Qcb]
   rw [Qat rest _ hn.2]
   simp [Qmn, hn.1]
theorem Qgt {k : Nat} : ∀ (u : List (Nat × Blk)) (h h' : Qbs), Qae k u = true → Qcb h u k = Qcb h' u k
 | [], _, _, hn => by simp [Qae] at hn
 | (k', b) :: rest, h, h', hn => by
   simp only [Qcb]
   cases hr : Qae k rest with
   | true => exact Qgt rest _ _ hr
   | false =>
     rw [Qat rest _ hr, Qat rest _ hr]
     simp only [Qae, hr, Bool.or_false] at hn
     simp [Qmn, hn]
theorem Qq8 {k : Nat} : ∀ (u : List (Nat × Blk)) (H : Qbs), Qae k u = true → Qcb H u k ≠ none
 | [], _, h0 => by simp [Qae] at h0
 | (k', b') :: rest, H, h0 => by
   simp only [Qcb]
   cases hr : Qae k rest with
   | true => exact Qq8 rest _ hr
   | false =>
     rw [Qat rest _ hr]
     simp only [Qae, hr, Bool.or_false] at h0
     simp [Qmn, h0]
theorem Qun {δ δ' : Dict} {b : Blk} {w w' : World} {r o : Nat} (h : δ.le δ') (hw : w'.heap[r]? = w.heap[r]?) (hb : Qsv δ b w r o) : Qsv δ' b w' r o := by
 obtain ⟨c, e, fz, h1, h2, hfl, he, hx, hwh, h3⟩ := hb
 refine ⟨c, e, fz, by rw [hw, h1], h2, hfl, he, hx, hwh, fun i hi => ⟨(h3 i hi).1, fun j x hx => ?_⟩⟩
 obtain ⟨rr, h4, h5⟩ := (h3 i hi).2 j x hx
 exact ⟨rr, h4, Qfv h _ _ h5⟩
theorem Qfu {δ : Dict} {b : Blk} {w : World} {r o : Nat} (hb : Qsv δ b w r o) : r < w.heap.size := by
 obtain ⟨c, e, fz, h1, _⟩ := hb
 rcases Nat.lt_or_ge r w.heap.size with h | h
 · exact h
 · simp [Array.getElem?_eq_none h] at h1
theorem Live.mono {δ δ' : Dict} {b : Blk} {w w' : World} {p : Loc} (hl : Live δ b w p) (h : δ.le δ') (hw : p.no = false → w'.heap[p.r]? = w.heap[p.r]?) : Live δ' b w' p :=
 ⟨hl.s, hl.n, hl.no, fun hn => Qun h (hw hn) (hl.rep hn)⟩
theorem Live.notNo {δ : Dict} {b : Blk} {w : World} {p : Loc} (hl : Live δ b w p) (hn : 0 < p.n) : p.no = false := by
 cases h : p.no with
 | false => rfl
 | true => have := (hl.no h).1; have := hl.n; omega
theorem Qn5 {δ : Dict} {h : Qbs} {w : World} (hr : HRep δ h w) {k r : Nat} (hl : Qfo δ h k r) : r < w.heap.size := by
 obtain ⟨b, p, h1, h2, h3, h4, h5⟩ := hl
 obtain ⟨p', g1, g2⟩ := hr.blk k b h1
 rw [h3] at g1; cases g1
 rw [← h5]
 exact Qfu ((g2 h2).rep h4)
def Qyv (h H : Qbs) (u : List (Nat × Blk)) : Prop := ∀ k, Qae k u = true → (∃ b, h k = some b ∧ b.rw = true ∧ b.dead = false) ∨ (h k = none ∧ H k = none)
theorem Upd.lift {δ δ' : Dict} {h H : Qbs} {w w' : World} {u : List (Nat × Blk)} (hu : Upd δ h w δ' u w') (hH : HRep δ H w) (hsub : ∀ k b, h k = some b → H k = some b)
   (htight : ∀ k, H k = none → δ k = none) (hf : Qyv h H u) : HRep δ' (Qcb H u) w' ∧ (∀ k, Qcb H u k = none → δ' k = none) ∧ WRel (Qdh δ H) w w' := by
 have hlies : ∀ k r, Qfo δ h k r → Qfo δ H k r := fun k r ⟨b, p, h1, h2⟩ => ⟨b, p, hsub k b h1, h2⟩
 have hrw : ∀ r, Qdh δ h r → Qdh δ H r := fun r ⟨k, b, h1, h2, h3⟩ => ⟨k, b, hsub k b h1, h2, hlies k r h3⟩
 -- what may be written is seen
 have apart : ∀ k r, h k = none → Qfo δ H k r → ¬ Qdh δ h r := fun k r hn hl ⟨k', b', g1, g2, g3⟩ => by
   have := hH.inj k' k r b' (hlies k' r g3) hl (hsub k' b' g1) g2
   subst this
   rw [g1] at hn; cases hn
 -- the heap behind, name by name
 have hseen : ∀ k b, Qcb H u k = some b → Qae k u = true ∨ h k ≠ none → Qcb h u k = some b := fun k b hk hor => by
   cases hi : Qae k u with
   | true => rw [Qgt u h H hi]; exact hk
   | false =>
     rw [Qat u H hi] at hk
     rw [Qat u h hi]
     rcases hor with hor | hor
     · rw [hi] at hor; cases hor
     · cases hh : h k with
       | none => exact absurd hh hor
       | some b' => rw [← hk, hsub k b' hh]
 have cls : ∀ k r, Qfo δ' (Qcb H u) k r → (Qfo δ' (Qcb h u) k r ∧ (Qae k u = true ∨ h k ≠ none)) ∨ (h k = none ∧ Qae k u = false ∧ Qfo δ H k r) := fun k r ⟨b, p, h1, h2, h3, h4, h5⟩ => by
   by_cases hor : Qae k u = true ∨ h k ≠ none
   · exact .inl ⟨⟨b, p, hseen k b h1 hor, h2, h3, h4, h5⟩, hor⟩
   · simp only [not_or, Bool.not_eq_true, ne_eq, Decidable.not_not] at hor
     rw [Qat u H hor.1] at h1
     obtain ⟨p', g1, _⟩ := hH.blk k b h1
     have := hu.le _ _ g1
     rw [h3] at this; cases this
     exact .inr ⟨hor.2, hor.1, ⟨b, p, h1, h2, g1, h4, h5⟩⟩
 -- one that is seen or new against one that is hidden
 have mix : ∀ k k' r b, Qfo δ' (Qcb h u) k r → (Qae k u = true ∨ h k ≠ none) → h k' = none → Qfo δ H k' r → (Qcb H u k = some b ∧ b.rw = true ∨ H k' = some b ∧ b.rw = true) → False := by
   intro k k' r b hl hor hn' hl' hb
   have hlt := Qn5 hH hl'
   obtain ⟨bk, p, h1, h2, h3, h4, h5⟩ := hl
   cases hdk : δ k with
   | none =>
     rcases hu.place k p hdk h3 h4 with h | h
     · omega
     · rw [h5] at h; exact apart k' r hn' hl' h
   | some q =>
     have h6 := hu.le _ _ hdk
     rw [h3] at h6; cases h6
     -- k was seen
     have hvis : ∃ b0, h k = some b0 ∧ b0.dead = false ∧ (b0.rw = true ∨ (Qae k u = false ∧ b0 = bk)) := by
       cases hi : Qae k u with
       | true =>
         rcases hf k hi with ⟨b0, h2, h3, h4⟩ | ⟨_, h3⟩
         · exact ⟨b0, h2, h4, .inl h3⟩
         · rw [htight k h3] at hdk; cases hdk
       | false =>
         rw [hi] at hor
         simp only [Bool.false_eq_true, false_or] at hor
         cases hh : h k with
         | none => exact absurd hh hor
         | some b0 =>
           rw [Qat u h hi, hh] at h1
           cases h1
           exact ⟨_, rfl, h2, .inr ⟨rfl, rfl⟩⟩
     obtain ⟨b0, g1, g2, g3⟩ := hvis
     have hne : k ≠ k' := fun e => by subst e; rw [g1] at hn'; cases hn'
     have hlk : Qfo δ H k r := ⟨b0, p, hsub _ _ g1, g2, hdk, h4, h5⟩
     rcases g3 with g3 | ⟨g4, rfl⟩
     · exact hne (hH.inj k k' r b0 hlk hl' (hsub _ _ g1) g3)
     · rcases hb with ⟨hb1, hb2⟩ | ⟨hb1, hb2⟩
       · rw [Qat u H g4, hsub k _ g1] at hb1
         cases hb1
         exact hne (hH.inj k k' r _ hlk hl' (hsub _ _ g1) hb2)
       · exact hne (hH.inj k' k r b hl' hlk hb1 hb2).symm
 refine ⟨⟨fun k b hk => ?_, fun k k' r b hl hl' hk hb => ?_⟩, fun k hk => ?_, hu.wrel.mono fun r _ => hrw r⟩
 · by_cases hor : Qae k u = true ∨ h k ≠ none
   · exact hu.rep.blk k b (hseen k b hk hor)
   · simp only [not_or, Bool.not_eq_true, ne_eq, Decidable.not_not] at hor
     rw [Qat u H hor.1] at hk
     obtain ⟨p, h1, h2⟩ := hH.blk k b hk
     refine ⟨p, hu.le _ _ h1, fun hd => (h2 hd).mono hu.le fun hn => ?_⟩
     exact hu.wrel.block p.r (Qfu ((h2 hd).rep hn)) (apart k p.r hor.2 ⟨b, p, hk, hd, h1, hn, rfl⟩)
 · -- two names of one block
   rcases cls k r hl with ⟨h1, g1⟩ | ⟨h1, g1, e1⟩ <;> rcases cls k' r hl' with ⟨h2, g2⟩ | ⟨h2, g2, e2⟩
   · exact hu.rep.inj k k' r b h1 h2 (hseen k b hk g1) hb
   · exact (mix k k' r b h1 g1 h2 e2 (.inl ⟨hk, hb⟩)).elim
   · rw [Qat u H g1] at hk
     exact (mix k' k r b h2 g2 h1 e1 (.inr ⟨hk, hb⟩)).elim
   · rw [Qat u H g1] at hk
     exact hH.inj k k' r b e1 e2 hk hb
 · cases hi : Qae k u with
   | true =>
     exact (Qq8 u H hi hk).elim
   | false =>
     rw [Qat u H hi] at hk
     have h0 := htight k hk
     cases hd : δ' k with
     | none => rfl
     | some p =>
       have := hu.fresh k h0 (by rw [hd]; simp)
       rw [hi] at this; cases this
theorem Zgh (c : Bool) (x y : SV) : mrg c x y = bif c then x else y := by
 unfold mrg
 split
 · split
   · rename_i h; subst h; cases c <;> rfl
   · rfl
 · cases c <;> rfl
 · cases c <;> rfl
 · rfl
theorem Qhi (c : Bool) : ∀ (xs ys : List SV), Qrv c xs ys = bif c then xs else ys
 | [], [] => by cases c <;> rfl
 | x :: xs, y :: ys => by
   simp only [Qrv, Zgh, Qhi c xs ys]
   cases c <;> rfl
 | [], _ :: _ => rfl
 | _ :: _, [] => rfl
mutual
theorem Qgg {δ δ' : Dict} : ∀ (x : SV) (r : Value), Qcr x = true → Qau δ x r → Qau δ' x r
 | .unk, _, _, _ => by simp only [Qau]
 | .v x, r, _, hr => by simp only [Qau] at *; exact hr
 | .fn f caps, r, hn, hr => by
   simp only [Qau, Qcr] at *
   obtain ⟨xs, h1, h2⟩ := hr
   exact ⟨xs, h1, Qds caps xs hn h2⟩
 | .agg cs, r, hn, hr => by
   simp only [Qau, Qcr] at *
   obtain ⟨xs, h1, h2⟩ := hr
   exact ⟨xs, h1, Qds cs xs hn h2⟩
 | .tup vs, r, hn, hr => by
   simp only [Qau, Qcr] at *
   obtain ⟨xs, h1, h2⟩ := hr
   exact ⟨xs, h1, Qds vs xs hn h2⟩
 | .vp _ _, _, hn, _ => by simp [Qcr] at hn
 | .ptr _ _ _, _, hn, _ => by simp [Qcr] at hn
 | .sl _ _ _ _ _, _, hn, _ => by simp [Qcr] at hn
 | .ap _ _ _, _, hn, _ => by simp [Qcr] at hn
theorem Qds {δ δ' : Dict} : ∀ (xs : List SV) (rs : List Value), Qar xs = true → Qa7 δ xs rs → Qa7 δ' xs rs
 | [], [], _, _ => by simp only [Qa7]
 | x :: xs, r :: rs, hn, hr => by
   simp only [Qa7, Qar, Bool.and_eq_true] at *
   exact ⟨Qgg x r hn.1 hr.1, Qds xs rs hn.2 hr.2⟩
 | [], _ :: _, _, hr => by simp only [Qa7] at hr
 | _ :: _, [], _, hr => by simp only [Qa7] at hr
end
theorem Qgf : ∀ {l : List SV}, Qar l = true → ∀ v ∈ l, Qcr v = true
 | [], _, v, hv => by cases hv
 | a :: t, hl, v, hv => by
   simp only [Qar, Bool.and_eq_true] at hl
   rcases List.mem_cons.1 hv with rfl | hv
   · exact hl.1
   · exact Qgf hl.2 v hv
end Go.SE
end
