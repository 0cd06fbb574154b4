/-
  The symbolic executor: contracts of functions that only read slices and hand back a plain value.
-/
import Derived.Test.YtjdldadmaaeimaaSeHp4
namespace Go.SE
open Go.RowKit

/-- A block that is only read: the cells of an element, how many, their rows. -/
structure Ro where
  s : Nat
  n : Nat
  row : Nat → List SV
def Ro.blk (b : Ro) : Blk := { elem := 0, size := b.s, rw := false, lock := false, lit := false, flat := true, n := b.n, row := b.row, ext := 0 }
def roHeap (bs : List Ro) : Heap := fun k => match bs[k]? with | some b => some b.blk | none => none

def roOf : List Blk → Option (List Ro)
  | [] => some []
  | b :: rest => bif b.rw || b.dead || !b.flat then none else match roOf rest with
    | some l => some (⟨b.size, b.n, b.row⟩ :: l)
    | none => none

def roSpec (spec : List SV → List Ro → Option (Option Prop × SV)) (args : List SV) (bs : List Blk) : Option Eff :=
  match roOf bs with
  | some rs => match spec args rs with
    | some (p, x) => some (.det p x [])
    | none => none
  | none => none

def roCtr (spec : List SV → List Ro → Option (Option Prop × SV)) : Ctr := hpCtr false (roSpec spec)
def RoSpec (P : Program) (f : FuncId) (spec : List SV → List Ro → Option (Option Prop × SV)) : Prop := HpSpec P f (roSpec spec)

/-- Blocks with the same rows, as far as they go. -/
def roSame : List Ro → List Ro → Prop
  | [], [] => True
  | a :: as, b :: bs => (a.s = b.s ∧ a.n = b.n ∧ ∀ i, i < b.n → a.row i = b.row i) ∧ roSame as bs
  | _, _ => False

theorem roSame_refl : ∀ bs : List Ro, roSame bs bs
  | [] => trivial
  | _ :: bs => ⟨⟨rfl, rfl, fun _ _ => rfl⟩, roSame_refl bs⟩

theorem roSame_get : ∀ {as bs : List Ro}, roSame as bs → ∀ (k : Nat), (as[k]? = none ∧ bs[k]? = none) ∨ ∃ a b, as[k]? = some a ∧ bs[k]? = some b ∧ a.s = b.s ∧ a.n = b.n ∧ ∀ i, i < b.n → a.row i = b.row i
  | [], [], _, k => .inl ⟨by simp, by simp⟩
  | a :: as, b :: bs, h, 0 => .inr ⟨a, b, by simp, by simp, h.1⟩
  | a :: as, b :: bs, h, k + 1 => by
    have := roSame_get h.2 k
    simpa using this
  | [], _ :: _, h, _ => h.elim
  | _ :: _, [], h, _ => h.elim

theorem roOf_get : ∀ {bs : List Blk} {rs : List Ro}, roOf bs = some rs → ∀ (k : Nat), (bs[k]? = none ∧ rs[k]? = none) ∨ ∃ b, bs[k]? = some b ∧ rs[k]? = some ⟨b.size, b.n, b.row⟩ ∧ b.rw = false ∧ b.dead = false ∧ b.flat = true
  | [], rs, h, k => by
    simp only [roOf, Option.some.injEq] at h
    subst h
    exact .inl ⟨by simp, by simp⟩
  | b :: bs, rs, h, k => by
    simp only [roOf] at h
    cases hb : (b.rw || b.dead || !b.flat) with
    | true => rw [hb] at h; cases h
    | false =>
      rw [hb, cond_false] at h
      simp only [Bool.or_eq_false_iff, Bool.not_eq_false'] at hb
      cases hr : roOf bs with
      | none => rw [hr] at h; cases h
      | some l =>
        rw [hr] at h
        cases h
        cases k with
        | zero => exact .inr ⟨b, by simp, by simp, hb.1.1, hb.1.2, hb.2⟩
        | succ k => simpa using roOf_get hr k

theorem ro_live {δ : Dict} {b : Blk} {c : Ro} {w : World} {p : Loc} (hf : b.flat = true) (h1 : b.size = c.s) (h2 : b.n = c.n) (h3 : ∀ i, i < c.n → b.row i = c.row i) (hl : Live δ b w p) : Live δ c.blk w p := by
  refine ⟨hl.s.trans h1, hl.n.trans h2, fun hno => ⟨h2.symm.trans (hl.no hno).1, rfl⟩, fun hno => ?_⟩
  obtain ⟨cc, e, fz, c1, c2, c3, c4, c5, c6, c7⟩ := hl.rep hno
  refine ⟨cc, e, fz, c1, fun hh => (by cases hh), fun _ i hi => ?_, fun hh => absurd rfl hh, ?_, fun hh => (by cases hh), fun i hi => ?_⟩
  · have hi' : i < c.n := hi
    show namelessL (c.row i) = true
    rw [← h3 i hi']; exact c3 hf i (by omega)
  · show p.o + 0 * _ ≤ _
    omega
  · have hi' : i < c.n := hi
    show rowRep δ cc c.s p.o i (c.row i)
    rw [← h3 i hi', ← h1]; exact c7 i (by omega)

mutual
theorem mtS_plain (m : List (Nat × Cur)) (h : Heap) : ∀ x : SV, plain x = true → mtS m h x x
  | .v x, _ => by simp only [mtS]
  | .agg cs, hx => by simp only [plain] at hx; simp only [mtS]; exact mtL_plain m h cs hx
  | .tup cs, hx => by simp only [plain] at hx; simp only [mtS]; exact mtL_plain m h cs hx
  | .unk, hx => by simp [plain] at hx
  | .vp _ _, hx => by simp [plain] at hx
  | .ptr _ _ _, hx => by simp [plain] at hx
  | .sl _ _ _ _ _, hx => by simp [plain] at hx
  | .ap _ _ _, hx => by simp [plain] at hx
  | .fn _ _, hx => by simp [plain] at hx
theorem mtL_plain (m : List (Nat × Cur)) (h : Heap) : ∀ xs : List SV, plainL xs = true → mtL m h xs xs
  | [], _ => by simp only [mtL]
  | [x], hx => by simp only [plainL, Bool.and_eq_true] at hx; simp only [mtL]; exact mtS_plain m h x hx.1
  | x :: y :: xs, hx => by
    simp only [plainL, Bool.and_eq_true] at hx
    simp only [mtL]
    have := mtL_plain m h (y :: xs) (by simp only [plainL, Bool.and_eq_true]; exact hx.2)
    simp only [mtL] at this
    exact ⟨mtS_plain m h x hx.1, this⟩
end

section
variable {P : Program} {Γ : Ctrs}

theorem ro_spec (hm : P.follows .mixedOrders = true) (hΓ : ∀ f g, Γ f = some g → g.ok P f) {f : FuncId} {fn : Func} (hf : P.funcs[f]? = some fn) {spec : List SV → List Ro → Option (Option Prop × SV)} {Λ : List SV → List Ro → Nat → Option LoopSpec}
    (h : ∀ args bs p x, spec args bs = some (p, x) → (∀ q, p = some q → q) → plain x = true ∧ ∃ bs', roSame bs bs' ∧ vcFn P Γ (Λ args bs) fn args (roHeap bs') 64 (fun y _ => y = x)) : RoSpec P f spec := fun args bs e hs hp δ w vals ha hr ht _ => by
  unfold roSpec at hs
  cases hrs : roOf bs with
  | none => rw [hrs] at hs; cases hs
  | some rs =>
    rw [hrs] at hs
    simp only at hs
    cases hsp : spec args rs with
    | none => rw [hsp] at hs; cases hs
    | some px =>
      obtain ⟨p, x⟩ := px
      rw [hsp] at hs
      cases hs
      obtain ⟨h1, rs', h2, h3⟩ := h args rs p x hsp hp
      -- the blocks, as they are read
      have hget : ∀ (k : Nat), (bs[k]? = none ∧ rs'[k]? = none) ∨ ∃ b c, bs[k]? = some b ∧ rs'[k]? = some c ∧ b.rw = false ∧ b.dead = false ∧ b.flat = true ∧ b.size = c.s ∧ b.n = c.n ∧ ∀ i, i < c.n → b.row i = c.row i := fun k => by
        rcases roOf_get hrs k with ⟨g1, g2⟩ | ⟨b, g1, g2, g3, g4, g5⟩
        · rcases roSame_get h2 k with ⟨_, e⟩ | ⟨a, c, e, _⟩
          · exact .inl ⟨g1, e⟩
          · rw [g2] at e; cases e
        · rcases roSame_get h2 k with ⟨e, _⟩ | ⟨a, c, e1, e2, e3, e4, e5⟩
          · rw [g2] at e; cases e
          · rw [g2] at e1; cases e1
            exact .inr ⟨b, c, g1, e2, g3, g4, g5, e3, e4, e5⟩
      have hr1 : HRep δ (roHeap rs') w := by
        refine ⟨fun k b hk => ?_, fun k k' r b _ _ hk hb => ?_⟩
        · unfold roHeap at hk
          rcases hget k with ⟨_, g⟩ | ⟨b0, c, g1, g2, g3, g4, g5, g6, g7, g8⟩
          · rw [g] at hk; cases hk
          · rw [g2] at hk; cases hk
            obtain ⟨q, d1, d2⟩ := hr.blk k b0 g1
            exact ⟨q, d1, fun _ => ro_live g5 g6 g7 g8 (d2 g4)⟩
        · unfold roHeap at hk
          split at hk
          · cases hk; cases hb
          · cases hk
      have ht1 : ∀ k, roHeap rs' k = none → δ k = none := fun k hk => by
        refine ht k ?_
        unfold heapOf
        unfold roHeap at hk
        rcases hget k with ⟨g, _⟩ | ⟨b0, c, _, g2, _⟩
        · exact g
        · rw [g2] at hk; cases hk
      have noRw : ∀ r, ¬ rwOf δ (roHeap rs') r := fun r ⟨k, b, hk, hb, _⟩ => by
        unfold roHeap at hk
        split at hk
        · cases hk; cases hb
        · cases hk
      refine (fn_calls hm hΓ hf ha hr1 ht1 h3).mono fun ed w' ⟨r, y, δ', h', g1, g2, g3, _, _, g6, _⟩ => ?_
      subst g2
      refine ⟨r, y, [], δ, g1, ⟨rfl, rfl⟩, ?_, (absV_plain y r h1).2 ((absV_plain y r h1).1 g3), upd_below hr ⟨g6.os, g6.tape, g6.output, g6.size, fun k hk => g6.block k hk (noRw k)⟩⟩
      -- nothing is written
      have hall : ∀ (l : List Blk) (j : Nat), (∀ b ∈ l, b.rw = false) → allFin [] l j = true := by
        intro l
        induction l with
        | nil => intro j _; rfl
        | cons b l ih => intro j hl; simp [allFin, hl b List.mem_cons_self, ih (j + 1) fun b hb => hl b (List.mem_cons_of_mem _ hb)]
      unfold finOk
      rw [hall bs 0 fun b hb => ?_]
      · rfl
      · obtain ⟨k, hk⟩ := List.getElem?_of_mem hb
        rcases hget k with ⟨e, _⟩ | ⟨b0, c, e1, _, e2, _⟩
        · rw [hk] at e; cases e
        · rw [hk] at e1; cases e1; exact e2

theorem ro_ok {f : FuncId} {fn : Func} (hf : P.funcs[f]? = some fn) (hn : (fn.name == "runtime.NumGoroutine") = false) (hb : fn.body.isNone = false) {spec : List SV → List Ro → Option (Option Prop × SV)} (hs : RoSpec P f spec) : (roCtr spec).ok P f := hp_ok hf hn hb hs
end
end Go.SE
