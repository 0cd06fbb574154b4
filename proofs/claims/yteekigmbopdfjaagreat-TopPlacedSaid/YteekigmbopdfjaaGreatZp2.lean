/-
 What the proof uses, part 2.
-/
import Derived.Laws.Cells
import Derived.Laws.Rows
import Derived.Below
import Derived.Test.YteekigmbopdfjaaGreatZp1
set_option maxRecDepth 100000
set_option linter.unusedSimpArgs false
set_option linter.unusedVariables false

section
namespace Go.SE
structure Loc where
 r : Nat
 s : Nat
 o : Nat
 n : Nat
 no : Bool := false
abbrev Dict := Nat → Option Loc
mutual
def Qaz (δ : Dict) : SV → Value → Prop
 | .unk, _ => True
 | .v x, r => r = x
 | .vp k j, r => ∃ p, δ k = some p ∧ 0 < p.n ∧ r = .pointer (some ⟨p.r, p.o + j, none⟩)
 | .ptr k i j, r => ∃ p, δ k = some p ∧ i < p.n ∧ r = .pointer (some ⟨p.r, p.o + i * p.s + j, none⟩)
 | .sl k s i l c, r => ∃ p, δ k = some p ∧ p.s = s ∧ i + l ≤ p.n ∧ ((p.no = false ∧ r = .slice (some ⟨p.r, p.o + i * s, none⟩) l c) ∨ (l = 0 ∧ c = 0 ∧ ∃ a, r = .slice a 0 0))
 | .ap k m len, r => ∃ p, δ k = some p ∧ p.s = m ∧ p.n = len ∧ p.no = false ∧ r = .pointer (some ⟨p.r, p.o, none⟩)
 | .fn f caps, r => ∃ xs : List Value, r = .func (.func f) #[] xs.toArray ∧ Qa7 δ caps xs
 | .ifc t x, r => ∃ y : Value, r = .iface t y ∧ Qaz δ x y
 | .agg cs, r => ∃ xs : List Value, r = .agg xs.toArray ∧ Qa7 δ cs xs
 | .tup vs, r => ∃ xs : List Value, r = .tuple xs.toArray ∧ Qa7 δ vs xs
def Qa7 (δ : Dict) : List SV → List Value → Prop
 | [], [] => True
 | x :: xs, y :: ys => Qaz δ x y ∧ Qa7 δ xs ys
 | [], _ :: _ => False
 | _ :: _, [] => False
end
def Dict.le (δ δ' : Dict) : Prop := ∀ k p, δ k = some p → δ' k = some p
theorem Dict.le_refl (δ : Dict) : δ.le δ := fun _ _ h => h
theorem Dict.le_trans {a b c : Dict} (h : a.le b) (h' : b.le c) : a.le c := fun k p hk => h' k p (h k p hk)
mutual
theorem Qew {δ δ' : Dict} (h : δ.le δ') : ∀ (x : SV) (r : Value), Qaz δ x r → Qaz δ' x r
 | .unk, _, _ => by simp only [Qaz]
 | .v x, r, hr => by simp only [Qaz] at *; exact hr
 | .vp k j, r, hr => by
   simp only [Qaz] at *
   obtain ⟨p, h1, h2⟩ := hr
   exact ⟨p, h _ _ h1, h2⟩
 | .ptr k i j, r, hr => by
   simp only [Qaz] at *
   obtain ⟨p, h1, h2⟩ := hr
   exact ⟨p, h _ _ h1, h2⟩
 | .sl k s i l c, r, hr => by
   simp only [Qaz] at *
   obtain ⟨p, h1, h2⟩ := hr
   exact ⟨p, h _ _ h1, h2⟩
 | .ap k m l, r, hr => by
   simp only [Qaz] at *
   obtain ⟨p, h1, h2⟩ := hr
   exact ⟨p, h _ _ h1, h2⟩
 | .fn f caps, r, hr => by
   simp only [Qaz] at *
   obtain ⟨xs, h1, h2⟩ := hr
   exact ⟨xs, h1, Qdf h caps xs h2⟩
 | .ifc t x, r, hr => by
   simp only [Qaz] at *
   obtain ⟨y, h1, h2⟩ := hr
   exact ⟨y, h1, Qew h x y h2⟩
 | .agg cs, r, hr => by
   simp only [Qaz] at *
   obtain ⟨xs, h1, h2⟩ := hr
   exact ⟨xs, h1, Qdf h cs xs h2⟩
 | .tup vs, r, hr => by
   simp only [Qaz] at *
   obtain ⟨xs, h1, h2⟩ := hr
   exact ⟨xs, h1, Qdf h vs xs h2⟩
theorem Qdf {δ δ' : Dict} (h : δ.le δ') : ∀ (xs : List SV) (rs : List Value), Qa7 δ xs rs → Qa7 δ' xs rs
 | [], [], _ => by simp only [Qa7]
 | x :: xs, r :: rs, hr => by
   simp only [Qa7] at *
   exact ⟨Qew h x r hr.1, Qdf h xs rs hr.2⟩
 | [], _ :: _, hr => by simp only [Qa7] at hr
 | _ :: _, [], hr => by simp only [Qa7] at hr
end
theorem Qba {δ : Dict} : ∀ {xs : List SV} {rs : List Value}, Qa7 δ xs rs → xs.length = rs.length
 | [], [], _ => rfl
 | _ :: _, _ :: _, h => by simp only [Qa7] at h; simp [Qba h.2]
 | [], _ :: _, h => by simp only [Qa7] at h
 | _ :: _, [], h => by simp only [Qa7] at h
theorem Qcd {δ : Dict} : ∀ {xs : List SV} {rs : List Value}, Qa7 δ xs rs → ∀ {i : Nat} {x : SV}, xs[i]? = some x → ∃ r, rs[i]? = some r ∧ Qaz δ x r
 | [], [], _, i, x, h => by simp at h
 | y :: ys, r :: rs, h, 0, x, hx => by simp only [Qa7] at h; simp at hx; subst hx; exact ⟨r, rfl, h.1⟩
 | y :: ys, r :: rs, h, i + 1, x, hx => by simp only [Qa7] at h; simp at hx ⊢; exact Qcd h.2 hx
 | [], _ :: _, h, _, _, _ => by simp only [Qa7] at h
 | _ :: _, [], h, _, _, _ => by simp only [Qa7] at h
theorem Qek {δ : Dict} : ∀ {xs : List SV} {rs : List Value}, xs.length = rs.length → (∀ (i : Nat) (x : SV), xs[i]? = some x → ∃ r, rs[i]? = some r ∧ Qaz δ x r) → Qa7 δ xs rs
 | [], [], _, _ => by simp only [Qa7]
 | y :: ys, r :: rs, hl, h => by
   simp only [Qa7]
   refine ⟨?_, Qek (by simpa using hl) fun i x hx => ?_⟩
   · obtain ⟨r', h1, h2⟩ := h 0 y rfl
     simp at h1; subst h1; exact h2
   · have := h (i + 1) x (by simpa using hx)
     simpa using this
 | [], _ :: _, hl, _ => by simp at hl
 | _ :: _, [], hl, _ => by simp at hl
theorem Qg2 {δ : Dict} : ∀ {xs : List SV} {rs : List Value} {ys : List SV} {ts : List Value}, Qa7 δ xs rs → Qa7 δ ys ts → Qa7 δ (xs ++ ys) (rs ++ ts)
 | [], [], _, _, _, h' => by simpa using h'
 | x :: xs, r :: rs, ys, ts, h, h' => by
   simp only [Qa7, List.cons_append] at *
   exact ⟨h.1, Qg2 h.2 h'⟩
 | [], _ :: _, _, _, h, _ => by simp only [Qa7] at h
 | _ :: _, [], _, _, h, _ => by simp only [Qa7] at h
theorem Qdq {δ : Dict} (n : Nat) : ∀ {xs : List SV} {rs : List Value}, Qa7 δ xs rs → Qa7 δ (xs.take n) (rs.take n) := by
 induction n with
 | zero => intro xs rs _; simp [Qa7]
 | succ n ih =>
   intro xs rs h
   match xs, rs, h with
   | [], [], _ => simp [Qa7]
   | x :: xs, r :: rs, h => simp only [Qa7] at h; simp only [List.take_succ_cons, Qa7]; exact ⟨h.1, ih h.2⟩
   | [], _ :: _, h => simp only [Qa7] at h
   | _ :: _, [], h => simp only [Qa7] at h
theorem Qdr {δ : Dict} (n : Nat) : ∀ {xs : List SV} {rs : List Value}, Qa7 δ xs rs → Qa7 δ (xs.drop n) (rs.drop n) := by
 induction n with
 | zero => intro xs rs h; simpa using h
 | succ n ih =>
   intro xs rs h
   match xs, rs, h with
   | [], [], _ => simp [Qa7]
   | x :: xs, r :: rs, h => simp only [Qa7] at h; simpa using ih h.2
   | [], _ :: _, h => simp only [Qa7] at h
   | _ :: _, [], h => simp only [Qa7] at h
theorem Qra {δ : Dict} : ∀ {xs : List SV} {rs : List Value}, Qa7 δ xs rs → ∀ (t : Nat) {x : SV} {r : Value}, Qaz δ x r → Qa7 δ (xs.set t x) (rs.set t r)
 | [], [], _, _, _, _, _ => by simp [Qa7]
 | _ :: _, _ :: _, h, 0, _, _, hx => by simp only [Qa7, List.set_cons_zero] at *; exact ⟨hx, h.2⟩
 | _ :: _, _ :: _, h, t + 1, _, _, hx => by simp only [Qa7, List.set_cons_succ] at *; exact ⟨h.1, Qra h.2 t hx⟩
 | [], _ :: _, h, _, _, _, _ => by simp only [Qa7] at h
 | _ :: _, [], h, _, _, _, _ => by simp only [Qa7] at h
theorem Qn2 {δ : Dict} : ∀ l : List Value, Qa7 δ (l.map .v) l
 | [] => by simp [Qa7]
 | x :: l => by simp only [List.map_cons, Qa7, Qaz, true_and]; exact Qn2 l
theorem Qiy {δ : Dict} {x : SV} {r : Value} (h : Qaz δ x r) : ∀ n, Qa7 δ (List.replicate n x) (List.replicate n r)
 | 0 => by simp [Qa7]
 | n + 1 => by simp only [List.replicate_succ, Qa7]; exact ⟨h, Qiy h n⟩
def Qdc (r : Value) : Prop := (∀ cs, r ≠ .agg cs) ∧ (∀ vs, r ≠ .tuple vs)
theorem Qei {δ : Dict} {x : SV} {r : Value} (h : Qf2 x = true) (hx : Qaz δ x r) : Qdc r := by
 cases x <;> simp only [Qaz, Qf2] at * <;> try (cases h; done)
 case v y => subst hx; cases r <;> simp_all [Qdc]
 case vp => obtain ⟨p, _, _, rfl⟩ := hx; simp [Qdc]
 case ptr => obtain ⟨p, _, _, rfl⟩ := hx; simp [Qdc]
 case sl => obtain ⟨p, _, _, _, ⟨_, rfl⟩ | ⟨_, _, a, rfl⟩⟩ := hx <;> simp [Qdc]
 case ap => obtain ⟨p, _, _, _, _, rfl⟩ := hx; simp [Qdc]
 case fn => obtain ⟨xs, rfl, _⟩ := hx; simp [Qdc]
 case ifc => obtain ⟨y, rfl, _⟩ := hx; simp [Qdc]
theorem Qly {r : Value} (h : Qdc r) : r.cells = #[r] := by
 cases r <;> simp_all [Qdc, Value.cells]
theorem Qjf {δ : Dict} {x : SV} {r : Value} {l : List SV} (h : Qir x = some l) (hx : Qaz δ x r) : Qa7 δ l r.cells.toList := by
 have key : Qf2 x = true → l = [x] → Qa7 δ l r.cells.toList := fun hc hl => by
   rw [Qly (Qei hc hx), hl]
   simp only [Qa7, and_true]; exact hx
 have gen : (bif Qf2 x then some [x] else none) = some l → Qa7 δ l r.cells.toList := fun h => by
   cases hc : Qf2 x with
   | false => simp only [hc, cond_false] at h; cases h
   | true => simp only [hc, cond_true, Option.some.injEq] at h; exact key hc h.symm
 cases x with
 | agg cs =>
   simp only [Qir, Option.some.injEq] at h
   simp only [Qaz] at hx
   obtain ⟨xs, rfl, h2⟩ := hx
   simpa [Value.cells, ← h] using h2
 | unk => exact gen h
 | v => exact gen h
 | vp => exact gen h
 | ptr => exact gen h
 | sl => exact gen h
 | ap => exact gen h
 | fn => exact gen h
 | tup => exact gen h
 | ifc => exact gen h
theorem Qwa {δ : Dict} : ∀ {xs : List SV} {rs : List Value}, xs.all Qf2 = true → Qa7 δ xs rs → ∀ r ∈ rs, Qdc r
 | [], [], _, _, _, hr => by cases hr
 | x :: xs, y :: ys, ha, h, r, hr => by
   simp only [List.all_cons, Bool.and_eq_true, Qa7] at ha h
   rcases List.mem_cons.1 hr with rfl | hr
   · exact Qei ha.1 h.1
   · exact Qwa ha.2 h.2 r hr
 | [], _ :: _, _, h, _, _ => by simp only [Qa7] at h
 | _ :: _, [], _, h, _, _ => by simp only [Qa7] at h
def Qhk (δ : Dict) (c : Array Value) (size off i : Nat) (row : List SV) : Prop :=
 row.length = size ∧ ∀ j x, row[j]? = some x → ∃ r, c[off + i * size + j]? = some r ∧ Qaz δ x r
def Zjk (n : Nat) (fz : Nat × Nat) : Prop := fz.2 = 0 ∨ n ≤ fz.1
def Qss (δ : Dict) (b : Blk) (w : World) (r o : Nat) : Prop :=
 ∃ c e fz, w.heap[r]? = some (.cells c e fz) ∧ (b.rw = true → Zjk c.size fz) ∧ (b.flat = true → ∀ i, i < b.n → Qa0 (b.row i) = true) ∧ (b.elem ≠ 0 → e = b.elem) ∧ o + b.ext * b.size ≤ c.size ∧ (b.whole = true → o = 0 ∧ c.size = b.size) ∧
   ∀ i, i < b.n → Qhk δ c b.size o i (b.row i)
structure Live (δ : Dict) (b : Blk) (w : World) (p : Loc) : Prop where
 s : p.s = b.size
 n : p.n = b.n
 no : p.no = true → b.n = 0 ∧ b.ext = 0
 rep : p.no = false → Qss δ b w p.r p.o
def Qe7 (δ : Dict) (h : Qbq) (k r : Nat) : Prop := ∃ b p, h k = some b ∧ b.dead = false ∧ δ k = some p ∧ p.no = false ∧ p.r = r
structure HRep (δ : Dict) (h : Qbq) (w : World) : Prop where
 blk : ∀ k b, h k = some b → ∃ p, δ k = some p ∧ (b.dead = false → Live δ b w p)
 inj : ∀ k k' r b, Qe7 δ h k r → Qe7 δ h k' r → h k = some b → b.rw = true → k = k'
def Qh8 (δ : Dict) (h : Qbq) (r : Nat) : Prop := ∃ k b, h k = some b ∧ b.rw = true ∧ Qe7 δ h k r
structure WRel (own : Nat → Prop) (w w' : World) : Prop where
 os : w'.os = w.os
 tape : w'.tape = w.tape
 output : w'.output = w.output
 size : w.heap.size ≤ w'.heap.size
 block : ∀ r, r < w.heap.size → ¬ own r → w'.heap[r]? = w.heap[r]?
theorem WRel.refl (own : Nat → Prop) (w : World) : WRel own w w := ⟨rfl, rfl, rfl, Nat.le_refl _, fun _ _ _ => rfl⟩
theorem WRel.trans {own : Nat → Prop} {a b c : World} (h : WRel own a b) (h' : WRel own b c) : WRel own a c :=
 ⟨h'.os.trans h.os, h'.tape.trans h.tape, h'.output.trans h.output, Nat.le_trans h.size h'.size, fun r hr ho => (h'.block r (Nat.lt_of_lt_of_le hr h.size) ho).trans (h.block r hr ho)⟩
theorem WRel.mono {own own' : Nat → Prop} {w w' : World} (h : WRel own w w') (hs : ∀ r, r < w.heap.size → own r → own' r) : WRel own' w w' :=
 ⟨h.os, h.tape, h.output, h.size, fun r hr ho => h.block r hr fun hx => ho (hs r hr hx)⟩
theorem WRel.of_below {own : Nat → Prop} {w w' : World} (h : Go.RowKit.Below w.heap.size w w') : WRel own w w' :=
 ⟨h.os, h.tape, h.output, h.size, fun r hr _ => h.block r hr⟩
theorem WRel.drew {own : Nat → Prop} {w0 w : World} (h : WRel own w0 w) : WRel own w0 { w with drawn := w.drawn + 1 } := ⟨h.os, h.tape, h.output, h.size, h.block⟩
structure Upd (δ : Dict) (h : Qbq) (w : World) (δ' : Dict) (u : List (Nat × Blk)) (w' : World) : Prop where
 le : δ.le δ'
 rep : HRep δ' (Qcn h u) w'
 fresh : ∀ k, δ k = none → δ' k ≠ none → Qae k u = true
 place : ∀ k p, δ k = none → δ' k = some p → p.no = false → w.heap.size ≤ p.r ∨ Qh8 δ h p.r
 wrel : WRel (Qh8 δ h) w w'
theorem Qb0 {a b : Nat} (h : a ≠ b) : Nat.beq a b = false := by
 cases e : Nat.beq a b with
 | false => rfl
 | true => exact absurd (Nat.eq_of_beq_eq_true e) h
theorem Upd.same {δ : Dict} {h : Qbq} {w : World} (hr : HRep δ h w) : Upd δ h w δ [] w :=
 ⟨δ.le_refl, hr, fun k h0 h1 => absurd h0 h1, fun k p h0 h1 => (by rw [h0] at h1; cases h1), WRel.refl _ _⟩
theorem Qa5 {k : Nat} : ∀ (u : List (Nat × Blk)) (h : Qbq), Qae k u = false → Qcn h u k = h k
 | [], _, _ => rfl
 | (k', b) :: rest, h, hn => by
   simp only [Qae, Bool.or_eq_false_iff] at hn
   simp only [Qcn]
   rw [Qa5 rest _ hn.2]
   simp [Qll, hn.1]
theorem Qhw {k : Nat} : ∀ (u : List (Nat × Blk)) (h h' : Qbq), Qae k u = true → Qcn h u k = Qcn h' u k
 | [], _, _, hn => by simp [Qae] at hn
 | (k', b) :: rest, h, h', hn => by
   simp only [Qcn]
   cases hr : Qae k rest with
   | true => exact Qhw rest _ _ hr
   | false =>
     rw [Qa5 rest _ hr, Qa5 rest _ hr]
     simp only [Qae, hr, Bool.or_false] at hn
     simp [Qll, hn]
theorem Qqp {k : Nat} : ∀ (u : List (Nat × Blk)) (H : Qbq), Qae k u = true → Qcn H u k ≠ none
 | [], _, h0 => by simp [Qae] at h0
 | (k', b') :: rest, H, h0 => by
   simp only [Qcn]
   cases hr : Qae k rest with
   | true => exact Qqp rest _ hr
   | false =>
     rw [Qa5 rest _ hr]
     simp only [Qae, hr, Bool.or_false] at h0
     simp [Qll, h0]
theorem Quw {δ δ' : Dict} {b : Blk} {w w' : World} {r o : Nat} (h : δ.le δ') (hw : w'.heap[r]? = w.heap[r]?) (hb : Qss δ b w r o) : Qss δ' b w' r o := by
 obtain ⟨c, e, fz, h1, h2, hfl, he, hx, hwh, h3⟩ := hb
 refine ⟨c, e, fz, by rw [hw, h1], h2, hfl, he, hx, hwh, fun i hi => ⟨(h3 i hi).1, fun j x hx => ?_⟩⟩
 obtain ⟨rr, h4, h5⟩ := (h3 i hi).2 j x hx
 exact ⟨rr, h4, Qew h _ _ h5⟩
theorem Qev {δ : Dict} {b : Blk} {w : World} {r o : Nat} (hb : Qss δ b w r o) : r < w.heap.size := by
 obtain ⟨c, e, fz, h1, _⟩ := hb
 rcases Nat.lt_or_ge r w.heap.size with h | h
 · exact h
 · simp [Array.getElem?_eq_none h] at h1
theorem Live.mono {δ δ' : Dict} {b : Blk} {w w' : World} {p : Loc} (hl : Live δ b w p) (h : δ.le δ') (hw : p.no = false → w'.heap[p.r]? = w.heap[p.r]?) : Live δ' b w' p :=
 ⟨hl.s, hl.n, hl.no, fun hn => Quw h (hw hn) (hl.rep hn)⟩
theorem Live.notNo {δ : Dict} {b : Blk} {w : World} {p : Loc} (hl : Live δ b w p) (hn : 0 < p.n) : p.no = false := by
 cases h : p.no with
 | false => rfl
 | true => have := (hl.no h).1; have := hl.n; omega
theorem Qng {δ : Dict} {h : Qbq} {w : World} (hr : HRep δ h w) {k r : Nat} (hl : Qe7 δ h k r) : r < w.heap.size := by
 obtain ⟨b, p, h1, h2, h3, h4, h5⟩ := hl
 obtain ⟨p', g1, g2⟩ := hr.blk k b h1
 rw [h3] at g1; cases g1
 rw [← h5]
 exact Qev ((g2 h2).rep h4)
def Q0d (h H : Qbq) (u : List (Nat × Blk)) : Prop := ∀ k, Qae k u = true → (∃ b, h k = some b ∧ b.rw = true ∧ b.dead = false) ∨ (h k = none ∧ H k = none)
theorem Upd.lift {δ δ' : Dict} {h H : Qbq} {w w' : World} {u : List (Nat × Blk)} (hu : Upd δ h w δ' u w') (hH : HRep δ H w) (hsub : ∀ k b, h k = some b → H k = some b)
   (htight : ∀ k, H k = none → δ k = none) (hf : Q0d h H u) : HRep δ' (Qcn H u) w' ∧ (∀ k, Qcn H u k = none → δ' k = none) ∧ WRel (Qh8 δ H) w w' := by
 have hlies : ∀ k r, Qe7 δ h k r → Qe7 δ H k r := fun k r ⟨b, p, h1, h2⟩ => ⟨b, p, hsub k b h1, h2⟩
 have hrw : ∀ r, Qh8 δ h r → Qh8 δ H r := fun r ⟨k, b, h1, h2, h3⟩ => ⟨k, b, hsub k b h1, h2, hlies k r h3⟩
 -- what may be written is seen
 have apart : ∀ k r, h k = none → Qe7 δ H k r → ¬ Qh8 δ h r := fun k r hn hl ⟨k', b', g1, g2, g3⟩ => by
   have := hH.inj k' k r b' (hlies k' r g3) hl (hsub k' b' g1) g2
   subst this
   rw [g1] at hn; cases hn
 -- the heap behind, name by name
 have hseen : ∀ k b, Qcn H u k = some b → Qae k u = true ∨ h k ≠ none → Qcn h u k = some b := fun k b hk hor => by
   cases hi : Qae k u with
   | true => rw [Qhw u h H hi]; exact hk
   | false =>
     rw [Qa5 u H hi] at hk
     rw [Qa5 u h hi]
     rcases hor with hor | hor
     · rw [hi] at hor; cases hor
     · cases hh : h k with
       | none => exact absurd hh hor
       | some b' => rw [← hk, hsub k b' hh]
 have cls : ∀ k r, Qe7 δ' (Qcn H u) k r → (Qe7 δ' (Qcn h u) k r ∧ (Qae k u = true ∨ h k ≠ none)) ∨ (h k = none ∧ Qae k u = false ∧ Qe7 δ H k r) := fun k r ⟨b, p, h1, h2, h3, h4, h5⟩ => by
   by_cases hor : Qae k u = true ∨ h k ≠ none
   · exact .inl ⟨⟨b, p, hseen k b h1 hor, h2, h3, h4, h5⟩, hor⟩
   · simp only [not_or, Bool.not_eq_true, ne_eq, Decidable.not_not] at hor
     rw [Qa5 u H hor.1] at h1
     obtain ⟨p', g1, _⟩ := hH.blk k b h1
     have := hu.le _ _ g1
     rw [h3] at this; cases this
     exact .inr ⟨hor.2, hor.1, ⟨b, p, h1, h2, g1, h4, h5⟩⟩
 -- one that is seen or new against one that is hidden
 have mix : ∀ k k' r b, Qe7 δ' (Qcn h u) k r → (Qae k u = true ∨ h k ≠ none) → h k' = none → Qe7 δ H k' r → (Qcn H u k = some b ∧ b.rw = true ∨ H k' = some b ∧ b.rw = true) → False := by
   intro k k' r b hl hor hn' hl' hb
   have hlt := Qng hH hl'
   obtain ⟨bk, p, h1, h2, h3, h4, h5⟩ := hl
   cases hdk : δ k with
   | none =>
     rcases hu.place k p hdk h3 h4 with h | h
     · omega
     · rw [h5] at h; exact apart k' r hn' hl' h
   | some q =>
     have h6 := hu.le _ _ hdk
     rw [h3] at h6; cases h6
     -- k was seen
     have hvis : ∃ b0, h k = some b0 ∧ b0.dead = false ∧ (b0.rw = true ∨ (Qae k u = false ∧ b0 = bk)) := by
       cases hi : Qae k u with
       | true =>
         rcases hf k hi with ⟨b0, h2, h3, h4⟩ | ⟨_, h3⟩
         · exact ⟨b0, h2, h4, .inl h3⟩
         · rw [htight k h3] at hdk; cases hdk
       | false =>
         rw [hi] at hor
         simp only [Bool.false_eq_true, false_or] at hor
         cases hh : h k with
         | none => exact absurd hh hor
         | some b0 =>
           rw [Qa5 u h hi, hh] at h1
           cases h1
           exact ⟨_, rfl, h2, .inr ⟨rfl, rfl⟩⟩
     obtain ⟨b0, g1, g2, g3⟩ := hvis
     have hne : k ≠ k' := fun e => by subst e; rw [g1] at hn'; cases hn'
     have hlk : Qe7 δ H k r := ⟨b0, p, hsub _ _ g1, g2, hdk, h4, h5⟩
     rcases g3 with g3 | ⟨g4, rfl⟩
     · exact hne (hH.inj k k' r b0 hlk hl' (hsub _ _ g1) g3)
     · rcases hb with ⟨hb1, hb2⟩ | ⟨hb1, hb2⟩
       · rw [Qa5 u H g4, hsub k _ g1] at hb1
         cases hb1
         exact hne (hH.inj k k' r _ hlk hl' (hsub _ _ g1) hb2)
       · exact hne (hH.inj k' k r b hl' hlk hb1 hb2).symm
 refine ⟨⟨fun k b hk => ?_, fun k k' r b hl hl' hk hb => ?_⟩, fun k hk => ?_, hu.wrel.mono fun r _ => hrw r⟩
 · by_cases hor : Qae k u = true ∨ h k ≠ none
   · exact hu.rep.blk k b (hseen k b hk hor)
   · simp only [not_or, Bool.not_eq_true, ne_eq, Decidable.not_not] at hor
     rw [Qa5 u H hor.1] at hk
     obtain ⟨p, h1, h2⟩ := hH.blk k b hk
     refine ⟨p, hu.le _ _ h1, fun hd => (h2 hd).mono hu.le fun hn => ?_⟩
     exact hu.wrel.block p.r (Qev ((h2 hd).rep hn)) (apart k p.r hor.2 ⟨b, p, hk, hd, h1, hn, rfl⟩)
 · -- two names of one block
   rcases cls k r hl with ⟨h1, g1⟩ | ⟨h1, g1, e1⟩ <;> rcases cls k' r hl' with ⟨h2, g2⟩ | ⟨h2, g2, e2⟩
   · exact hu.rep.inj k k' r b h1 h2 (hseen k b hk g1) hb
   · exact (mix k k' r b h1 g1 h2 e2 (.inl ⟨hk, hb⟩)).elim
   · rw [Qa5 u H g1] at hk
     exact (mix k' k r b h2 g2 h1 e1 (.inr ⟨hk, hb⟩)).elim
   · rw [Qa5 u H g1] at hk
     exact hH.inj k k' r b e1 e2 hk hb
 · cases hi : Qae k u with
   | true =>
     exact (Qqp u H hi hk).elim
   | false =>
     rw [Qa5 u H hi] at hk
     have h0 := htight k hk
     cases hd : δ' k with
     | none => rfl
     | some p =>
       have := hu.fresh k h0 (by rw [hd]; simp)
       rw [hi] at this; cases this
theorem Zh7 (c : Bool) (x y : SV) : mrg c x y = bif c then x else y := by
 unfold mrg
 split
 · split
   · rename_i h; subst h; cases c <;> rfl
   · rfl
 · cases c <;> rfl
 · cases c <;> rfl
 · rfl
theorem Qf7 (c : Bool) : ∀ (xs ys : List SV), Qrk c xs ys = bif c then xs else ys
 | [], [] => by cases c <;> rfl
 | x :: xs, y :: ys => by
   simp only [Qrk, Zh7, Qf7 c xs ys]
   cases c <;> rfl
 | [], _ :: _ => rfl
 | _ :: _, [] => rfl
mutual
theorem Qd9 {δ δ' : Dict} : ∀ (x : SV) (r : Value), Qb6 x = true → Qaz δ x r → Qaz δ' x r
 | .unk, _, _, _ => by simp only [Qaz]
 | .v x, r, _, hr => by simp only [Qaz] at *; exact hr
 | .fn f caps, r, hn, hr => by
   simp only [Qaz, Qb6] at *
   obtain ⟨xs, h1, h2⟩ := hr
   exact ⟨xs, h1, Qdj caps xs hn h2⟩
 | .ifc t x, r, hn, hr => by
   simp only [Qaz, Qb6] at *
   obtain ⟨y, h1, h2⟩ := hr
   exact ⟨y, h1, Qd9 x y hn h2⟩
 | .agg cs, r, hn, hr => by
   simp only [Qaz, Qb6] at *
   obtain ⟨xs, h1, h2⟩ := hr
   exact ⟨xs, h1, Qdj cs xs hn h2⟩
 | .tup vs, r, hn, hr => by
   simp only [Qaz, Qb6] at *
   obtain ⟨xs, h1, h2⟩ := hr
   exact ⟨xs, h1, Qdj vs xs hn h2⟩
 | .vp _ _, _, hn, _ => by simp [Qb6] at hn
 | .ptr _ _ _, _, hn, _ => by simp [Qb6] at hn
 | .sl _ _ _ _ _, _, hn, _ => by simp [Qb6] at hn
 | .ap _ _ _, _, hn, _ => by simp [Qb6] at hn
theorem Qdj {δ δ' : Dict} : ∀ (xs : List SV) (rs : List Value), Qa0 xs = true → Qa7 δ xs rs → Qa7 δ' xs rs
 | [], [], _, _ => by simp only [Qa7]
 | x :: xs, r :: rs, hn, hr => by
   simp only [Qa7, Qa0, Bool.and_eq_true] at *
   exact ⟨Qd9 x r hn.1 hr.1, Qdj xs rs hn.2 hr.2⟩
 | [], _ :: _, _, hr => by simp only [Qa7] at hr
 | _ :: _, [], _, hr => by simp only [Qa7] at hr
end
theorem Qfg : ∀ {l : List SV}, Qa0 l = true → ∀ v ∈ l, Qb6 v = true
 | [], _, v, hv => by cases hv
 | a :: t, hl, v, hv => by
   simp only [Qa0, Bool.and_eq_true] at hl
   rcases List.mem_cons.1 hv with rfl | hv
   · exact hl.1
   · exact Qfg hl.2 v hv
end Go.SE
end
