/-
  The symbolic executor: a general contract is a callee's contract.
-/
import Derived.Test.YtjdldadmaaeimaaSeHp
namespace Go.SE
open Go.RowKit

/-- What the contract's names stand for. -/
def dicOf (δ : Dict) (es : List Ent) : Dict := fun j => match es[j]? with
  | some (.win k s i n) => match δ k with
    | some p => some ⟨p.r, s, p.o + i * s, n, p.no⟩
    | none => none
  | some (.whole k) => δ k
  | none => none

theorem dicOf_push (δ : Dict) (es t : List Ent) : Dict.le (dicOf δ es) (dicOf δ (es ++ t)) := fun j p h => by
  unfold dicOf at *
  cases hj : es[j]? with
  | none => rw [hj] at h; cases h
  | some e =>
    have hlt := (List.getElem?_eq_some_iff.1 hj).1
    rw [List.getElem?_append_left hlt, hj]
    rw [hj] at h
    exact h

/-- An entry and its block. -/
def EntOk (h : Heap) (δ D : Dict) (b : Blk) : Ent → Prop
  | .win k s i n => ∃ b0 p, h k = some b0 ∧ b0.dead = false ∧ b0.flat = true ∧ b0.size = s ∧ δ k = some p ∧ i + n ≤ p.n ∧ b = winBlk b0 s i n
  | .whole k => ∃ b0, h k = some b0 ∧ b0.dead = false ∧ b0.rw = true ∧ b.size = b0.size ∧ b.rw = b0.rw ∧ b.flat = b0.flat ∧ b.n = b0.n ∧ b.ext = b0.ext ∧ b.dead = b0.dead ∧ b.elem = b0.elem ∧ b.whole = b0.whole ∧
      ((b0.flat = true ∧ b.row = b0.row) ∨ (b0.n = 1 ∧ (∀ rs, absL δ (b0.row 0) rs → absL D (b.row 0) rs) ∧ (b0.flat = true → namelessL (b.row 0) = true)))

theorem EntOk.mono {h : Heap} {δ D D' : Dict} {b : Blk} (hle : D.le D') : ∀ {e : Ent}, EntOk h δ D b e → EntOk h δ D' b e
  | .win _ _ _ _, ho => ho
  | .whole _, ⟨b0, h1, h2, h3, h4, h5, h6, h7, h8, h9, h10, h11, h12⟩ => ⟨b0, h1, h2, h3, h4, h5, h6, h7, h8, h9, h10, h11, h12.imp id fun ⟨a, c, d⟩ => ⟨a, fun rs hr => absL_mono hle _ _ (c rs hr), d⟩⟩

structure CanOk (h : Heap) (δ : Dict) (c : Can) (pend : List Nat) : Prop where
  len : c.es.length = c.bs.length
  ent : ∀ (j : Nat) e b, c.es[j]? = some e → c.bs[j]? = some b → j ∈ pend ∨ EntOk h δ (dicOf δ c.es) b e

/-- From c on to c'. -/
structure Grows (c c' : Can) (pend : List Nat) : Prop where
  es : ∃ t, c'.es = c.es ++ t
  keep : ∀ j, j ∈ pend → j < c.es.length → c'.bs[j]? = c.bs[j]?

theorem Grows.refl (c : Can) (pend : List Nat) : Grows c c pend := ⟨⟨[], by simp⟩, fun _ _ _ => rfl⟩
theorem Grows.trans {a b c : Can} {pend : List Nat} (h : Grows a b pend) (h' : Grows b c pend) : Grows a c pend := by
  obtain ⟨t, ht⟩ := h.es
  obtain ⟨t', ht'⟩ := h'.es
  refine ⟨⟨t ++ t', by rw [ht', ht, List.append_assoc]⟩, fun j hj hlt => (h'.keep j hj ?_).trans (h.keep j hj hlt)⟩
  rw [ht]; simp; omega
theorem Grows.le {a b : Can} {pend : List Nat} (h : Grows a b pend) (δ : Dict) : Dict.le (dicOf δ a.es) (dicOf δ b.es) := by
  obtain ⟨t, ht⟩ := h.es
  rw [ht]
  exact dicOf_push δ _ _

theorem push_ok {h : Heap} {δ : Dict} {c : Can} {pend : List Nat} (hc : CanOk h δ c pend) {e : Ent} {b : Blk} (he : c.es.length ∈ pend ∨ EntOk h δ (dicOf δ (c.es ++ [e])) b e) : CanOk h δ (c.push e b) pend := by
  refine ⟨by simp [Can.push, hc.len], fun j e' b' h1 h2 => ?_⟩
  simp only [Can.push] at h1 h2 ⊢
  by_cases hj : j < c.es.length
  · rw [List.getElem?_append_left hj] at h1
    rw [List.getElem?_append_left (by rw [← hc.len]; exact hj)] at h2
    exact (hc.ent j e' b' h1 h2).imp id fun ho => ho.mono (dicOf_push δ _ _)
  · have : j = c.es.length := by
      have := (List.getElem?_eq_some_iff.1 h1).1
      simp at this
      omega
    subst this
    rw [List.getElem?_append_right (Nat.le_refl _)] at h1
    rw [hc.len, List.getElem?_append_right (Nat.le_refl _)] at h2
    simp at h1 h2
    subst h1 h2
    exact he

theorem push_grows (c : Can) (e : Ent) (b : Blk) (pend : List Nat) (hlen : c.es.length = c.bs.length) : Grows c (c.push e b) pend := ⟨⟨[e], rfl⟩, fun j _ hlt => by simp only [Can.push]; rw [List.getElem?_append_left (by omega)]⟩

theorem entIx_spec {k : Nat} : ∀ {es : List Ent} {j i : Nat}, entIx k es j = some i → j ≤ i ∧ es[i - j]? = some (.whole k)
  | [], j, i, h => by cases h
  | .whole k' :: rest, j, i, h => by
    simp only [entIx] at h
    cases hb : Nat.beq k k' with
    | true =>
      rw [hb, cond_true] at h
      cases h
      rw [Nat.eq_of_beq_eq_true hb]
      exact ⟨Nat.le_refl _, by simp⟩
    | false =>
      rw [hb, cond_false] at h
      obtain ⟨h1, h2⟩ := entIx_spec h
      refine ⟨by omega, ?_⟩
      rw [show i - j = (i - (j + 1)) + 1 by omega, List.getElem?_cons_succ]
      exact h2
  | .win _ _ _ _ :: rest, j, i, h => by
    simp only [entIx] at h
    obtain ⟨h1, h2⟩ := entIx_spec h
    refine ⟨by omega, ?_⟩
    rw [show i - j = (i - (j + 1)) + 1 by omega, List.getElem?_cons_succ]
    exact h2

section
variable {h : Heap} {δ : Dict} {w : World}

/-- What a canonical value comes to. -/
structure CanRes (h : Heap) (δ : Dict) (pend : List Nat) (c c' : Can) : Prop where
  grows : Grows c c' pend
  ok : CanOk h δ c' pend

theorem canon_ok (hr : HRep δ h w) : ∀ (d : Nat),
    (∀ (deep : Bool) (x : SV) (c : Can) (y : SV) (c' : Can) (pend : List Nat), canS d h deep x c = some (y, c') → CanOk h δ c pend → (∃ r, absV δ x r) → CanRes h δ pend c c' ∧ (∀ r, absV δ x r → absV (dicOf δ c'.es) y r) ∧ (nameless x = true → y = x)) ∧
    (∀ (deep : Bool) (xs : List SV) (c : Can) (ys : List SV) (c' : Can) (pend : List Nat), canL d h deep xs c = some (ys, c') → CanOk h δ c pend → (∃ rs, absL δ xs rs) → CanRes h δ pend c c' ∧ (∀ rs, absL δ xs rs → absL (dicOf δ c'.es) ys rs) ∧ (namelessL xs = true → ys = xs))
  | 0 => ⟨fun deep x c y c' pend hc => by simp [canS] at hc, fun deep xs c ys c' pend hc => by simp [canL] at hc⟩
  | d + 1 => by
    obtain ⟨ihS, ihL⟩ := canon_ok hr d
    constructor
    · intro deep x c y c' pend hc hok hex
      cases x with
      | v z =>
        simp only [canS, Option.some.injEq, Prod.mk.injEq] at hc
        obtain ⟨rfl, rfl⟩ := hc
        exact ⟨⟨Grows.refl _ _, hok⟩, fun r hr' => by simpa only [absV] using hr', fun _ => rfl⟩
      | unk =>
        simp only [canS, Option.some.injEq, Prod.mk.injEq] at hc
        obtain ⟨rfl, rfl⟩ := hc
        exact ⟨⟨Grows.refl _ _, hok⟩, fun r hr' => by simp only [absV], fun _ => rfl⟩
      | agg cs =>
        simp only [canS] at hc
        cases hl : canL d h deep cs c with
        | none => rw [hl] at hc; cases hc
        | some lc =>
          obtain ⟨l, c1⟩ := lc
          rw [hl] at hc
          simp only [Option.some.injEq, Prod.mk.injEq] at hc
          obtain ⟨rfl, rfl⟩ := hc
          obtain ⟨r, hr'⟩ := hex
          simp only [absV] at hr'
          obtain ⟨xs, _, hxs⟩ := hr'
          obtain ⟨h1, h2, h3⟩ := ihL deep cs c l c1 pend hl hok ⟨xs, hxs⟩
          refine ⟨h1, fun r hr' => ?_, fun hn => by rw [h3 (by simpa [nameless] using hn)]⟩
          simp only [absV] at hr' ⊢
          obtain ⟨xs, e1, e2⟩ := hr'
          exact ⟨xs, e1, h2 xs e2⟩
      | sl k s i n cap =>
        simp only [canS] at hc
        cases hk : h k with
        | none => rw [hk] at hc; cases hc
        | some b =>
          rw [hk] at hc
          simp only at hc
          cases hb : (b.dead || !b.flat || !Nat.beq b.size s) with
          | true => rw [hb] at hc; cases hc
          | false =>
            rw [hb, cond_false] at hc
            simp only [Bool.or_eq_false_iff, Bool.not_eq_false'] at hb
            obtain ⟨⟨b1, b2⟩, b3⟩ := hb
            have hbs := Nat.eq_of_beq_eq_true b3
            have hnn : ∀ {q : Prop}, nameless (SV.sl k s i n cap) = true → q := fun hn => by simp [nameless] at hn
            cases hdr : (deep && b.rw) with
            | true =>
              rw [hdr, cond_true] at hc
              rw [Bool.and_eq_true] at hdr
              cases hix : entIx k c.es 0 with
              | some j =>
                rw [hix] at hc
                simp only [Option.some.injEq, Prod.mk.injEq] at hc
                obtain ⟨rfl, rfl⟩ := hc
                have hj := (entIx_spec hix).2
                rw [Nat.sub_zero] at hj
                refine ⟨⟨Grows.refl _ _, hok⟩, fun r hr' => ?_, hnn⟩
                simp only [absV] at hr' ⊢
                obtain ⟨p, d1, d2⟩ := hr'
                exact ⟨p, by unfold dicOf; rw [hj]; exact d1, d2⟩
              | none =>
                rw [hix] at hc
                simp only [Option.some.injEq, Prod.mk.injEq] at hc
                obtain ⟨rfl, rfl⟩ := hc
                refine ⟨⟨push_grows _ _ _ _ hok.len, push_ok hok (.inr ⟨b, hk, b1, hdr.2, rfl, rfl, rfl, rfl, rfl, rfl, rfl, rfl, .inl ⟨b2, rfl⟩⟩)⟩, fun r hr' => ?_, hnn⟩
                simp only [absV] at hr' ⊢
                obtain ⟨p, d1, d2⟩ := hr'
                exact ⟨p, by unfold dicOf Can.push; simp [d1], d2⟩
            | false =>
              rw [hdr, cond_false] at hc
              simp only [Option.some.injEq, Prod.mk.injEq] at hc
              obtain ⟨rfl, rfl⟩ := hc
              obtain ⟨r0, hr0⟩ := hex
              simp only [absV] at hr0
              obtain ⟨p0, d1, d2, d3, _⟩ := hr0
              refine ⟨⟨push_grows _ _ _ _ hok.len, push_ok hok (.inr ⟨b, p0, hk, b1, b2, hbs, d1, d3, rfl⟩)⟩, fun r hr' => ?_, hnn⟩
              simp only [absV] at hr' ⊢
              obtain ⟨p, e1, e2, e3, e4⟩ := hr'
              refine ⟨⟨p.r, s, p.o + i * s, n, p.no⟩, by unfold dicOf Can.push; simp [e1], rfl, by simp, e4.imp (fun ⟨g1, g2⟩ => ⟨g1, by rw [g2]; simp⟩) id⟩
      | vp k jj =>
        have hnn : ∀ {q : Prop}, nameless (SV.vp k jj) = true → q := fun hn => by simp [nameless] at hn
        cases jj with
        | succ _ => simp [canS] at hc
        | zero =>
        simp only [canS] at hc
        cases hix : entIx k c.es 0 with
        | some j =>
          rw [hix] at hc
          simp only [Option.some.injEq, Prod.mk.injEq] at hc
          obtain ⟨rfl, rfl⟩ := hc
          have hj := (entIx_spec hix).2
          rw [Nat.sub_zero] at hj
          refine ⟨⟨Grows.refl _ _, hok⟩, fun r hr' => ?_, hnn⟩
          simp only [absV] at hr' ⊢
          obtain ⟨p, d1, d2⟩ := hr'
          exact ⟨p, by unfold dicOf; rw [hj]; exact d1, d2⟩
        | none =>
          rw [hix] at hc
          simp only at hc
          cases hk : h k with
          | none => rw [hk] at hc; cases hc
          | some b =>
            rw [hk] at hc
            simp only at hc
            cases hb : (b.dead || !b.rw || !Nat.beq b.n 1) with
            | true => rw [hb] at hc; cases hc
            | false =>
              rw [hb, cond_false] at hc
              simp only [Bool.or_eq_false_iff, Bool.not_eq_false'] at hb
              obtain ⟨⟨b1, b2⟩, b3⟩ := hb
              have hbn := Nat.eq_of_beq_eq_true b3
              cases hl : canL d h true (b.row 0) (c.push (.whole k) { b with lock := false }) with
              | none => rw [hl] at hc; cases hc
              | some lc =>
                obtain ⟨l, c1⟩ := lc
                rw [hl] at hc
                simp only [Option.some.injEq, Prod.mk.injEq] at hc
                obtain ⟨rfl, rfl⟩ := hc
                -- the cells that are there
                obtain ⟨p, d1, d2⟩ := hr.blk k b hk
                have hlv := d2 b1
                have hno := hlv.notNo (by have := hlv.n; omega)
                obtain ⟨cc, e, fz, c1', c2, c3, c4, c5, c6, c7⟩ := hlv.rep hno
                obtain ⟨xs, x1, _⟩ := exists_list (δ := δ) (c := cc) (b.row 0) (p.o + 0 * b.size) (fun j x hx => (c7 0 (by omega)).2 j x hx)
                have hok1 : CanOk h δ (c.push (.whole k) { b with lock := false }) (c.es.length :: pend) := push_ok ⟨hok.len, fun j e b h1 h2 => (hok.ent j e b h1 h2).imp (List.mem_cons_of_mem _) id⟩ (.inl List.mem_cons_self)
                obtain ⟨g1, g2, g3⟩ := ihL true (b.row 0) _ l c1 (c.es.length :: pend) hl hok1 ⟨xs, x1⟩
                obtain ⟨t, ht⟩ := g1.grows.es
                simp only [Can.push] at ht
                have hmine : c1.bs[c.es.length]? = some { b with lock := false } := by
                  rw [g1.grows.keep c.es.length List.mem_cons_self (by simp [Can.push])]
                  simp [Can.push, hok.len]
                have hes : c1.es[c.es.length]? = some (.whole k) := by rw [ht]; simp
                have hset : (c1.setRow c.es.length l).bs = c1.bs.set c.es.length { b with lock := false, row := fun _ => l } := by
                  simp only [Can.setRow, hmine]
                have hlt : c.es.length < c1.bs.length := (List.getElem?_eq_some_iff.1 hmine).1
                refine ⟨⟨⟨⟨Ent.whole k :: t, ?_⟩, fun j hj hjl => ?_⟩, ⟨?_, fun j e b' h1 h2 => ?_⟩⟩, fun r hr' => ?_, hnn⟩
                · show c1.es = _
                  rw [ht]; simp
                · rw [hset, List.getElem?_set_ne (by omega), g1.grows.keep j (List.mem_cons_of_mem _ hj) (by simp [Can.push]; omega)]
                  simp only [Can.push]
                  rw [List.getElem?_append_left (by rw [← hok.len]; exact hjl)]
                · show c1.es.length = _
                  rw [hset, List.length_set]; exact g1.ok.len
                · have h1 : c1.es[j]? = some e := h1
                  rw [hset] at h2
                  by_cases hj : j = c.es.length
                  · subst hj
                    rw [hes] at h1
                    cases h1
                    rw [List.getElem?_set_self hlt] at h2
                    cases h2
                    right
                    exact ⟨b, hk, b1, b2, rfl, rfl, rfl, rfl, rfl, rfl, rfl, rfl, .inr ⟨hbn, g2, fun hf => by rw [g3 (c3 hf 0 (by omega))]; exact c3 hf 0 (by omega)⟩⟩
                  · rw [List.getElem?_set_ne (Ne.symm hj)] at h2
                    rcases g1.ok.ent j e b' h1 h2 with hp | hp
                    · rcases List.mem_cons.1 hp with hp | hp
                      · exact absurd hp hj
                      · exact .inl hp
                    · exact .inr hp
                · simp only [absV] at hr' ⊢
                  obtain ⟨p', q1, q2⟩ := hr'
                  exact ⟨p', by show dicOf δ c1.es _ = _; unfold dicOf; rw [hes]; exact q1, q2⟩
      | ptr k i j => simp [canS] at hc
      | ap k m l => simp [canS] at hc
      | fn f cs =>
        cases cs with
        | nil =>
          simp only [canS, Option.some.injEq, Prod.mk.injEq] at hc
          obtain ⟨rfl, rfl⟩ := hc
          exact ⟨⟨Grows.refl _ _, hok⟩, fun r hr => by simp only [absV] at hr ⊢; obtain ⟨xs, h1, h2⟩ := hr; exact ⟨xs, h1, by cases xs with | nil => simp only [absL] | cons _ _ => simp only [absL] at h2⟩, fun _ => rfl⟩
        | cons y ys => simp [canS] at hc
      | tup cs => simp [canS] at hc
    · intro deep xs c ys c' pend hc hok hex
      cases xs with
      | nil =>
        simp only [canL, Option.some.injEq, Prod.mk.injEq] at hc
        obtain ⟨rfl, rfl⟩ := hc
        exact ⟨⟨Grows.refl _ _, hok⟩, fun rs hr' => by cases rs <;> simp only [absL] at *, fun _ => rfl⟩
      | cons x rest =>
        simp only [canL] at hc
        cases hx : canS d h deep x c with
        | none => rw [hx] at hc; cases hc
        | some yc =>
          obtain ⟨y, c1⟩ := yc
          rw [hx] at hc
          simp only at hc
          cases hl : canL d h deep rest c1 with
          | none => rw [hl] at hc; cases hc
          | some lc =>
            obtain ⟨l, c2⟩ := lc
            rw [hl] at hc
            simp only [Option.some.injEq, Prod.mk.injEq] at hc
            obtain ⟨rfl, rfl⟩ := hc
            obtain ⟨rs, hrs⟩ := hex
            cases rs with
            | nil => simp only [absL] at hrs
            | cons r rs =>
              simp only [absL] at hrs
              obtain ⟨a1, a2, a3⟩ := ihS deep x c y c1 pend hx hok ⟨r, hrs.1⟩
              obtain ⟨e1, e2, e3⟩ := ihL deep rest c1 l c2 pend hl a1.ok ⟨rs, hrs.2⟩
              refine ⟨⟨a1.grows.trans e1.grows, e1.ok⟩, fun rs' hrs' => ?_, fun hn => ?_⟩
              · cases rs' with
                | nil => simp only [absL] at hrs'
                | cons r' rs' =>
                  simp only [absL] at hrs' ⊢
                  exact ⟨absV_mono (e1.grows.le δ) _ _ (a2 r' hrs'.1), e2 rs' hrs'.2⟩
              · simp only [namelessL, Bool.and_eq_true] at hn
                rw [a3 hn.1, e3 hn.2]
end
end Go.SE
