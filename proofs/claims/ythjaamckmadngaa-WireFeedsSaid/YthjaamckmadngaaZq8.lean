/-
  What the proof uses, part 8.
-/
import Derived.Test.YthjaamckmadngaaZq7
set_option maxRecDepth 100000
set_option linter.unusedSimpArgs false
set_option linter.unusedVariables false

section
namespace Go.SE
open Go.RowKit
section
variable {P : Program} {Γ : Ctrs}
theorem dec_upd {h : Heap} {δ δ' : Dict} {w w' : World} {es : List Ent} {bs : List Blk} {ro : Bool} {base : Nat} {u : List (Nat × Blk)} (hr : HRep δ h w) (hok : CanOk h δ ⟨es, bs, ro⟩ []) (heo : entsOk h es = true) (hfr : freshOk h base 8 = true) (hlen : es.length ≤ 1000)
    (hfo : finOk bs u = true) (hu : Upd (dicOf δ es) (heapOf bs) w δ' u w') (hf : ∀ k, inNames k (decU es base u) = true → h k = none → δ k = none) :
    ∃ δ'', Turn h δ δ' δ'' es base ∧ Upd δ h w δ'' (decU es base u) w' := by
  unfold finOk at hfo
  rw [Bool.and_eq_true] at hfo
  have hlen' : es.length = bs.length := hok.len
  have hnames : ∀ j, inNames j u = true → (∃ b, bs[j]? = some b ∧ b.rw = true ∧ b.dead = false) ∨ (bs[j]? = none ∧ 1000 ≤ j ∧ j < 1008) := fun j hj => by
    obtain ⟨p, hp⟩ := inNames_any hj
    rcases namesFin_spec hfo.1 j p hp with h1 | ⟨h1, h2, h3, _⟩
    · exact .inl h1
    · exact .inr ⟨h1, h2, h3⟩
  -- an entry that may be written is a whole block
  have hwh : ∀ (j : Nat) b, bs[j]? = some b → b.rw = true → ∃ k b0, es[j]? = some (.whole k) ∧ h k = some b0 ∧ b0.rw = true ∧ b0.dead = b.dead := fun j b hj hb => by
    have hlt := (List.getElem?_eq_some_iff.1 hj).1
    have he : es[j]? = some es[j] := List.getElem?_eq_getElem (by omega)
    rcases hok.ent j _ b he hj with h0 | h0
    · cases h0
    cases hee : es[j] with
    | win k s i n =>
      rw [hee] at h0
      obtain ⟨b0, p, _, _, _, _, _, _, rfl⟩ := h0
      cases hb
    | whole k =>
      rw [hee] at h0 he
      obtain ⟨b0, g1, g2, g3, _, _, _, _, _, g4, _⟩ := h0
      exact ⟨k, b0, he, g1, g3, g4.symm⟩
  have hback : ∀ j, inNames j u = true → ∃ k, backOf es base j = .whole k ∧ ((es[j]? = some (.whole k) ∧ ∃ b0, h k = some b0 ∧ b0.rw = true ∧ b0.dead = false) ∨ (es[j]? = none ∧ 1000 ≤ j ∧ j < 1008 ∧ k = base + (j - 1000) ∧ h k = none)) := fun j hj => by
    rcases hnames j hj with ⟨b, h1, h2, h3⟩ | ⟨h1, h2, h3⟩
    · obtain ⟨k, b0, g1, g2, g3, g4⟩ := hwh j b h1 h2
      exact ⟨k, backOf_whole g1, .inl ⟨g1, b0, g2, g3, g4.trans h3⟩⟩
    · have he : es[j]? = none := by rw [List.getElem?_eq_none_iff] at h1 ⊢; omega
      refine ⟨base + (j - 1000), ?_, .inr ⟨he, h2, h3, rfl, freshOk_spec hfr (j - 1000) (by omega)⟩⟩
      unfold backOf
      rw [he]
      simp only
      rw [show (Nat.ble 1000 j && Nat.blt j 1008) = true by rw [Nat.ble_eq_true_of_le h2, show Nat.blt j 1008 = true from Nat.ble_eq_true_of_le h3]; rfl]
      rfl
  have hinj : ∀ j j' k, inNames j u = true → inNames j' u = true → backOf es base j = .whole k → backOf es base j' = .whole k → j = j' := fun j j' k h1 h2 h3 h4 => by
    obtain ⟨k1, a1, a2⟩ := hback j h1
    obtain ⟨k2, b1, b2⟩ := hback j' h2
    rw [h3] at a1; cases a1
    rw [h4] at b1; cases b1
    rcases a2 with ⟨e1, b0, e2, _⟩ | ⟨e1, e2, e3, e4, e5⟩ <;> rcases b2 with ⟨f1, b0', f2, _⟩ | ⟨f1, f2, f3, f4, f5⟩
    · exact entsOk_spec heo j j' k _ e1 f1 (by simp [isWhole])
    · rw [f5] at e2; cases e2
    · rw [e5] at f2; cases f2
    · omega
  let δ'' : Dict := fun k => match δ k with
    | some p => some p
    | none => if base ≤ k ∧ k < base + 8 then δ' (1000 + (k - base)) else none
  have hold : δ.le δ'' := fun k p hk => by simp only [δ'', hk]
  have hnew : ∀ k, δ k = none → base ≤ k → k < base + 8 → δ'' k = δ' (1000 + (k - base)) := fun k hk h1 h2 => by simp only [δ'', hk, h1, h2, and_self, if_true]
  have hnone : ∀ j, es[j]? = none → dicOf δ es j = none := fun j he => by unfold dicOf; rw [he]
  have hturn : Turn h δ δ' δ'' es base := by
    refine ⟨hold, hu.le, fun j k s i n he => ?_, fun j he p hp => ?_, fun j k he => ?_⟩
    · have hlt := (List.getElem?_eq_some_iff.1 he).1
      have hb : bs[j]? = some bs[j] := List.getElem?_eq_getElem (by omega)
      rcases hok.ent j _ _ he hb with h0 | h0
      · cases h0
      · obtain ⟨b0, p, g1, g2, _, g4, g5, g6, _⟩ := h0
        obtain ⟨p', q1, q2⟩ := hr.blk k b0 g1
        rw [g5] at q1; cases q1
        exact ⟨p, g5, (q2 g2).s.trans g4, g6⟩
    · have hj := hu.fresh j (hnone j he) (by rw [hp]; simp)
      obtain ⟨k, a1, a2⟩ := hback j hj
      rcases a2 with ⟨e1, _⟩ | ⟨_, e2, e3, e4, e5⟩
      · rw [he] at e1; cases e1
      · refine ⟨e2, e3, ?_⟩
        have hd : δ k = none := hf k (decU_names.2 ⟨j, hj, a1⟩) e5
        rw [← e4, hnew k hd (by omega) (by omega), show 1000 + (k - base) = j by omega, hp]
    · have hlt := (List.getElem?_eq_some_iff.1 he).1
      have hb : bs[j]? = some bs[j] := List.getElem?_eq_getElem (by omega)
      rcases hok.ent j _ _ he hb with h0 | h0
      · cases h0
      · obtain ⟨b0, g1, _⟩ := h0
        obtain ⟨p, q1, _⟩ := hr.blk k b0 g1
        exact ⟨p, q1⟩
  refine ⟨δ'', hturn, ?_⟩
  -- a name that is written
  have wr : ∀ k, inNames k (decU es base u) = true → ∃ j p, inNames j u = true ∧ backOf es base j = .whole k ∧ happ (heapOf bs) u j = some p ∧ happ h (decU es base u) k = some (decB es base p) ∧ δ'' k = δ' j ∧ (es[j]? = some (.whole k) ∨ (es[j]? = none ∧ h k = none ∧ δ k = none)) := fun k hk => by
    obtain ⟨j, h1, h2⟩ := decU_names.1 hk
    obtain ⟨p, _, h3⟩ := happ_mem u (heapOf bs) h1
    refine ⟨j, p, h1, h2, h3, by rw [happ_dec hinj h (heapOf bs) j k h1 h2, h3]; rfl, ?_⟩
    obtain ⟨k', a1, a2⟩ := hback j h1
    rw [h2] at a1; cases a1
    rcases a2 with ⟨e1, _⟩ | ⟨e1, e2, e3, e4, e5⟩
    · obtain ⟨q, q1⟩ := hturn.whl j k e1
      have hd : dicOf δ es j = some q := by unfold dicOf; rw [e1]; exact q1
      exact ⟨by rw [hold _ _ q1, hu.le _ _ hd], .inl e1⟩
    · have hd : δ k = none := hf k hk e5
      exact ⟨by rw [hnew k hd (by omega) (by omega), show 1000 + (k - base) = j by omega], .inr ⟨e1, e5, hd⟩⟩
  have hrwOf : ∀ r, rwOf (dicOf δ es) (heapOf bs) r → ∃ k b0, h k = some b0 ∧ b0.rw = true ∧ lies δ h k r ∧ inNames k (decU es base u) = true := fun r ⟨j, b, h1, h2, h3⟩ => by
    have h1 : bs[j]? = some b := h1
    obtain ⟨e, b1, b0, g1, g2, g3, g4, g5⟩ := can_lies hok h3
    rw [h1] at g2; cases g2
    obtain ⟨a1, a2⟩ := g5 h2
    refine ⟨e.name, b0, g3, a1, g4, decU_names.2 ⟨j, ?_, by rw [a2] at g1; exact backOf_whole g1⟩⟩
    obtain ⟨b2, q, c1, c2, _⟩ := h3
    have c1 : bs[j]? = some b2 := c1
    rw [h1] at c1; cases c1
    have := allFin_spec hfo.2 j _ h1 h2 c2
    rwa [Nat.zero_add] at this
  have hrwOf' : ∀ r, rwOf (dicOf δ es) (heapOf bs) r → rwOf δ h r := fun r hh => by
    obtain ⟨k, b0, h1, h2, h3, _⟩ := hrwOf r hh
    exact ⟨k, b0, h1, h2, h3⟩
  -- what is not written stays
  have stay : ∀ k r, inNames k (decU es base u) = false → lies δ h k r → ¬ rwOf (dicOf δ es) (heapOf bs) r := fun k r hk hl hh => by
    obtain ⟨k0, b0, h1, h2, h3, h4⟩ := hrwOf r hh
    have := hr.inj k0 k r b0 h3 hl h1 h2
    subst this
    rw [hk] at h4; cases h4
  -- a name behind
  have cls : ∀ k r, lies δ'' (happ h (decU es base u)) k r → (∃ j p, inNames j u = true ∧ happ h (decU es base u) k = some (decB es base p) ∧ happ (heapOf bs) u j = some p ∧ lies δ' (happ (heapOf bs) u) j r ∧ backOf es base j = .whole k ∧ inNames k (decU es base u) = true) ∨ (inNames k (decU es base u) = false ∧ lies δ h k r) := fun k r ⟨b, q, h1, h2, h3, h4, h5⟩ => by
    cases hi : inNames k (decU es base u) with
    | true =>
      obtain ⟨j, p, a1, a2, a3, a4, a5, _⟩ := wr k hi
      rw [h1] at a4
      cases a4
      exact .inl ⟨j, p, a1, h1, a3, ⟨p, q, a3, h2, by rw [← a5]; exact h3, h4, h5⟩, a2, rfl⟩
    | false =>
      rw [happ_other _ _ hi] at h1
      obtain ⟨q', d1, _⟩ := hr.blk k b h1
      have := hold _ _ d1
      rw [h3] at this; cases this
      exact .inr ⟨rfl, b, q, h1, h2, d1, h4, h5⟩
  -- one that is written against one that is not
  have mix : ∀ j k' r, lies δ' (happ (heapOf bs) u) j r → inNames j u = true → inNames k' (decU es base u) = false → lies δ h k' r → (∃ b, h k' = some b ∧ b.rw = true) ∨ (∃ p, happ (heapOf bs) u j = some p ∧ p.rw = true) → False := fun j k' r hl hj hk' hl' hor => by
    have hlt := lies_lt hr hl'
    obtain ⟨k, a1, a2⟩ := hback j hj
    have hk : inNames k (decU es base u) = true := decU_names.2 ⟨j, hj, a1⟩
    obtain ⟨p, q, l1, l2, l3, l4, l5⟩ := hl
    rcases a2 with ⟨e1, b0, e2, e3, e4⟩ | ⟨e1, e2, e3, e4, e5⟩
    · obtain ⟨q', q1⟩ := hturn.whl j k e1
      have hd : dicOf δ es j = some q' := by unfold dicOf; rw [e1]; exact q1
      have := hu.le _ _ hd
      rw [l3] at this; cases this
      have := hr.inj k k' r b0 ⟨b0, q, e2, e4, q1, l4, l5⟩ hl' e2 e3
      subst this
      rw [hk] at hk'; cases hk'
    · rcases hu.place j q (hnone j e1) l3 l4 with h1 | h1
      · omega
      · rw [l5] at h1; exact stay k' r hk' hl' h1
  refine ⟨hold, ⟨fun k b hk => ?_, fun k1 k2 r b h1 h2 hk hb => ?_⟩, fun k h0 h1 => ?_, fun k q h0 h1 hno => ?_, hu.wrel.mono fun r _ => hrwOf' r⟩
  · cases hi : inNames k (decU es base u) with
    | true =>
      obtain ⟨j, p, a1, a2, a3, a4, a5, _⟩ := wr k hi
      rw [hk] at a4; cases a4
      obtain ⟨q, d1, d2⟩ := hu.rep.blk j p a3
      exact ⟨q, a5.trans d1, fun hd => decB_live hturn (d2 hd)⟩
    | false =>
      rw [happ_other _ _ hi] at hk
      obtain ⟨q, d1, d2⟩ := hr.blk k b hk
      refine ⟨q, hold _ _ d1, fun hd => (d2 hd).mono hold fun hno => hu.wrel.block q.r (blkRep_lt ((d2 hd).rep hno)) ?_⟩
      exact stay k q.r hi ⟨b, q, hk, hd, d1, hno, rfl⟩
  · rcases cls k1 r h1 with ⟨j1, p1, e1, e2, e3, e4, e5, e6⟩ | ⟨e1, e2⟩ <;> rcases cls k2 r h2 with ⟨j2, p2, f1, f2, f3, f4, f5, f6⟩ | ⟨f1, f2⟩
    · rw [hk] at e2
      cases e2
      have := hu.rep.inj j1 j2 r p1 e4 f4 e3 hb
      subst this
      rw [e5] at f5; cases f5; rfl
    · rw [hk] at e2
      cases e2
      exact (mix j1 k2 r e4 e1 f1 f2 (.inr ⟨p1, e3, hb⟩)).elim
    · rw [happ_other _ _ e1] at hk
      exact (mix j2 k1 r f4 f1 e1 e2 (.inl ⟨b, hk, hb⟩)).elim
    · rw [happ_other _ _ e1] at hk
      exact hr.inj k1 k2 r b e2 f2 hk hb
  · have hb : base ≤ k ∧ k < base + 8 := by
      refine Classical.byContradiction fun hc => h1 ?_
      simp only [δ'', h0, if_neg hc]
    rw [hnew k h0 hb.1 hb.2] at h1
    have he : es[1000 + (k - base)]? = none := by rw [List.getElem?_eq_none_iff]; omega
    have hj := hu.fresh _ (hnone _ he) h1
    obtain ⟨k', a1, a2⟩ := hback _ hj
    rcases a2 with ⟨e1, _⟩ | ⟨_, e2, e3, e4, e5⟩
    · rw [he] at e1; cases e1
    · have : k' = k := by omega
      subst this
      exact decU_names.2 ⟨_, hj, a1⟩
  · have hb : base ≤ k ∧ k < base + 8 := by
      refine Classical.byContradiction fun hc => ?_
      simp only [δ'', h0, if_neg hc] at h1
      cases h1
    rw [hnew k h0 hb.1 hb.2] at h1
    have he : es[1000 + (k - base)]? = none := by rw [List.getElem?_eq_none_iff]; omega
    exact (hu.place _ q (hnone _ he) h1 hno).imp id (hrwOf' _)
theorem decE_out {es : List Ent} {base : Nat} : ∀ {e : Eff} {x : SV} {u : List (Nat × Blk)}, EffOut e x u → EffOut (decE es base e) (decS es base x) (decU es base u)
  | .det p y v, x, u, h => by obtain ⟨rfl, rfl⟩ := h; exact ⟨rfl, rfl⟩
  | .nd p C c0 y v, x, u, h => by obtain ⟨c, rfl, rfl⟩ := h; exact ⟨c, rfl, rfl⟩
  | .alt true e1 e2, x, u, h => decE_out (e := e1) h
  | .alt false e1 e2, x, u, h => decE_out (e := e2) h
theorem decE_asks {es : List Ent} {base : Nat} : ∀ {e : Eff}, (decE es base e).asks → e.asks
  | .det p y v, h => h
  | .nd p C c0 y v, h => h
  | .alt true e1 e2, h => decE_asks (e := e1) h
  | .alt false e1 e2, h => decE_asks (e := e2) h
theorem hp_ok {f : FuncId} {fn : Func} (hf : P.funcs[f]? = some fn) (hn : (fn.name == "runtime.NumGoroutine") = false) (hb : fn.body.isNone = false) {wr : Bool} {spec : List SV → List Blk → Option Eff} (hs : HpSpec P f spec) : (hpCtr wr spec).ok P f := by
  intro args h base e he δ w vals ha hr hp hfr
  simp only [hpCtr] at he
  cases hc : canL 400 h false args ⟨[], [], !wr⟩ with
  | none => rw [hc] at he; cases he
  | some lc =>
    obtain ⟨l, c⟩ := lc
    rw [hc] at he
    simp only at he
    cases hb1 : (entsOk h c.es && freshOk h base 8 && Nat.ble c.es.length 1000) with
    | false => rw [hb1] at he; cases he
    | true =>
      rw [hb1, cond_true] at he
      simp only [Bool.and_eq_true] at hb1
      obtain ⟨⟨b1, b2⟩, b3⟩ := hb1
      cases hsp : spec l c.bs with
      | none => rw [hsp] at he; cases he
      | some e0 =>
        rw [hsp] at he
        cases he
        have hrun : (callFunc f vals.toArray).run P w = .ok (.enter f vals.toArray) w := by
          have hn' : ¬ fn.name = "runtime.NumGoroutine" := by simpa using hn
          have hb' : ¬ fn.body = none := fun e => by rw [e] at hb; cases hb
          simp [callFunc, hf, hn', hb']
        rw [hrun]
        have hempty : CanOk h δ ⟨[], [], !wr⟩ [] := ⟨rfl, fun j e b h1 _ => by simp at h1⟩
        obtain ⟨c1, c2, _⟩ := (canon_ok hr 400).2 false args ⟨[], [], !wr⟩ l c [] hc hempty ⟨vals, ha⟩
        have hlen := Nat.le_of_ble_eq_true b3
        have hlen2 : c.es.length = c.bs.length := c1.ok.len
        refine (hs l c.bs e0 hsp (decE_asks hp) (dicOf δ c.es) w vals (c2 vals ha) (can_rep hr c1.ok b1) (fun k hk => ?_) (by omega)).mono fun ed w' ⟨r, x, u, δ', h1, h2, h3, h4, h5⟩ => ?_
        · unfold heapOf at hk
          unfold dicOf
          rw [List.getElem?_eq_none_iff] at hk
          rw [List.getElem?_eq_none (by omega)]
        · have ho := decE_out (es := c.es) (base := base) h2
          obtain ⟨δ'', t1, t2⟩ := dec_upd hr c1.ok b1 b2 hlen h3 h5 (fun k hk hh => hfr _ _ ho k hk hh)
          exact ⟨r, _, _, δ'', h1, ho, dec_abs t1 x r h4, t2⟩
end
end Go.SE
end
section
namespace Go.SE
open Go.RowKit
structure Ro where
  s : Nat
  n : Nat
  row : Nat → List SV
def Ro.blk (b : Ro) : Blk := { elem := 0, size := b.s, rw := false, lock := false, lit := false, flat := true, n := b.n, row := b.row, ext := 0 }
def roHeap (bs : List Ro) : Heap := fun k => match bs[k]? with | some b => some b.blk | none => none
def roOf : List Blk → Option (List Ro)
  | [] => some []
  | b :: rest => bif b.rw || b.dead || !b.flat then none else match roOf rest with
    | some l => some (⟨b.size, b.n, b.row⟩ :: l)
    | none => none
def roSpec (spec : List SV → List Ro → Option (Option Prop × SV)) (args : List SV) (bs : List Blk) : Option Eff :=
  match roOf bs with
  | some rs => match spec args rs with
    | some (p, x) => some (.det p x [])
    | none => none
  | none => none
def RoSpec (P : Program) (f : FuncId) (spec : List SV → List Ro → Option (Option Prop × SV)) : Prop := HpSpec P f (roSpec spec)
def roSame : List Ro → List Ro → Prop
  | [], [] => True
  | a :: as, b :: bs => (a.s = b.s ∧ a.n = b.n ∧ ∀ i, i < b.n → a.row i = b.row i) ∧ roSame as bs
  | _, _ => False
theorem roSame_get : ∀ {as bs : List Ro}, roSame as bs → ∀ (k : Nat), (as[k]? = none ∧ bs[k]? = none) ∨ ∃ a b, as[k]? = some a ∧ bs[k]? = some b ∧ a.s = b.s ∧ a.n = b.n ∧ ∀ i, i < b.n → a.row i = b.row i
  | [], [], _, k => .inl ⟨by simp, by simp⟩
  | a :: as, b :: bs, h, 0 => .inr ⟨a, b, by simp, by simp, h.1⟩
  | a :: as, b :: bs, h, k + 1 => by
    have := roSame_get h.2 k
    simpa using this
  | [], _ :: _, h, _ => h.elim
  | _ :: _, [], h, _ => h.elim
theorem roOf_get : ∀ {bs : List Blk} {rs : List Ro}, roOf bs = some rs → ∀ (k : Nat), (bs[k]? = none ∧ rs[k]? = none) ∨ ∃ b, bs[k]? = some b ∧ rs[k]? = some ⟨b.size, b.n, b.row⟩ ∧ b.rw = false ∧ b.dead = false ∧ b.flat = true
  | [], rs, h, k => by
    simp only [roOf, Option.some.injEq] at h
    subst h
    exact .inl ⟨by simp, by simp⟩
  | b :: bs, rs, h, k => by
    simp only [roOf] at h
    cases hb : (b.rw || b.dead || !b.flat) with
    | true => rw [hb] at h; cases h
    | false =>
      rw [hb, cond_false] at h
      simp only [Bool.or_eq_false_iff, Bool.not_eq_false'] at hb
      cases hr : roOf bs with
      | none => rw [hr] at h; cases h
      | some l =>
        rw [hr] at h
        cases h
        cases k with
        | zero => exact .inr ⟨b, by simp, by simp, hb.1.1, hb.1.2, hb.2⟩
        | succ k => simpa using roOf_get hr k
theorem ro_live {δ : Dict} {b : Blk} {c : Ro} {w : World} {p : Loc} (hf : b.flat = true) (h1 : b.size = c.s) (h2 : b.n = c.n) (h3 : ∀ i, i < c.n → b.row i = c.row i) (hl : Live δ b w p) : Live δ c.blk w p := by
  refine ⟨hl.s.trans h1, hl.n.trans h2, fun hno => ⟨h2.symm.trans (hl.no hno).1, rfl⟩, fun hno => ?_⟩
  obtain ⟨cc, e, fz, c1, c2, c3, c4, c5, c6, c7⟩ := hl.rep hno
  refine ⟨cc, e, fz, c1, fun hh => (by cases hh), fun _ i hi => ?_, fun hh => absurd rfl hh, ?_, fun hh => (by cases hh), fun i hi => ?_⟩
  · have hi' : i < c.n := hi
    show namelessL (c.row i) = true
    rw [← h3 i hi']; exact c3 hf i (by omega)
  · show p.o + 0 * _ ≤ _
    omega
  · have hi' : i < c.n := hi
    show rowRep δ cc c.s p.o i (c.row i)
    rw [← h3 i hi', ← h1]; exact c7 i (by omega)
mutual
theorem mtS_plain (m : List (Nat × Cur)) (h : Heap) : ∀ x : SV, plain x = true → mtS m h x x
  | .v x, _ => by simp only [mtS]
  | .agg cs, hx => by simp only [plain] at hx; simp only [mtS]; exact mtL_plain m h cs hx
  | .tup cs, hx => by simp only [plain] at hx; simp only [mtS]; exact mtL_plain m h cs hx
  | .unk, hx => by simp [plain] at hx
  | .vp _ _, hx => by simp [plain] at hx
  | .ptr _ _ _, hx => by simp [plain] at hx
  | .sl _ _ _ _ _, hx => by simp [plain] at hx
  | .ap _ _ _, hx => by simp [plain] at hx
  | .fn _ _, hx => by simp [plain] at hx
  | .ifc _ _, hx => by simp [plain] at hx
theorem mtL_plain (m : List (Nat × Cur)) (h : Heap) : ∀ xs : List SV, plainL xs = true → mtL m h xs xs
  | [], _ => by simp only [mtL]
  | [x], hx => by simp only [plainL, Bool.and_eq_true] at hx; simp only [mtL]; exact mtS_plain m h x hx.1
  | x :: y :: xs, hx => by
    simp only [plainL, Bool.and_eq_true] at hx
    simp only [mtL]
    have := mtL_plain m h (y :: xs) (by simp only [plainL, Bool.and_eq_true]; exact hx.2)
    simp only [mtL] at this
    exact ⟨mtS_plain m h x hx.1, this⟩
end
section
variable {P : Program} {Γ : Ctrs}
theorem ro_spec (hm : P.follows .mixedOrders = true) (hΓ : ∀ f g, Γ f = some g → g.ok P f) {f : FuncId} {fn : Func} (hf : P.funcs[f]? = some fn) {spec : List SV → List Ro → Option (Option Prop × SV)} {Λ : List SV → List Ro → Nat → Option LoopSpec}
    (h : ∀ args bs p x, spec args bs = some (p, x) → (∀ q, p = some q → q) → plain x = true ∧ ∃ bs', roSame bs bs' ∧ vcFn P Γ (Λ args bs) fn args (roHeap bs') 64 (fun y _ => y = x)) : RoSpec P f spec := fun args bs e hs hp δ w vals ha hr ht _ => by
  unfold roSpec at hs
  cases hrs : roOf bs with
  | none => rw [hrs] at hs; cases hs
  | some rs =>
    rw [hrs] at hs
    simp only at hs
    cases hsp : spec args rs with
    | none => rw [hsp] at hs; cases hs
    | some px =>
      obtain ⟨p, x⟩ := px
      rw [hsp] at hs
      cases hs
      obtain ⟨h1, rs', h2, h3⟩ := h args rs p x hsp hp
      -- the blocks, as they are read
      have hget : ∀ (k : Nat), (bs[k]? = none ∧ rs'[k]? = none) ∨ ∃ b c, bs[k]? = some b ∧ rs'[k]? = some c ∧ b.rw = false ∧ b.dead = false ∧ b.flat = true ∧ b.size = c.s ∧ b.n = c.n ∧ ∀ i, i < c.n → b.row i = c.row i := fun k => by
        rcases roOf_get hrs k with ⟨g1, g2⟩ | ⟨b, g1, g2, g3, g4, g5⟩
        · rcases roSame_get h2 k with ⟨_, e⟩ | ⟨a, c, e, _⟩
          · exact .inl ⟨g1, e⟩
          · rw [g2] at e; cases e
        · rcases roSame_get h2 k with ⟨e, _⟩ | ⟨a, c, e1, e2, e3, e4, e5⟩
          · rw [g2] at e; cases e
          · rw [g2] at e1; cases e1
            exact .inr ⟨b, c, g1, e2, g3, g4, g5, e3, e4, e5⟩
      have hr1 : HRep δ (roHeap rs') w := by
        refine ⟨fun k b hk => ?_, fun k k' r b _ _ hk hb => ?_⟩
        · unfold roHeap at hk
          rcases hget k with ⟨_, g⟩ | ⟨b0, c, g1, g2, g3, g4, g5, g6, g7, g8⟩
          · rw [g] at hk; cases hk
          · rw [g2] at hk; cases hk
            obtain ⟨q, d1, d2⟩ := hr.blk k b0 g1
            exact ⟨q, d1, fun _ => ro_live g5 g6 g7 g8 (d2 g4)⟩
        · unfold roHeap at hk
          split at hk
          · cases hk; cases hb
          · cases hk
      have ht1 : ∀ k, roHeap rs' k = none → δ k = none := fun k hk => by
        refine ht k ?_
        unfold heapOf
        unfold roHeap at hk
        rcases hget k with ⟨g, _⟩ | ⟨b0, c, _, g2, _⟩
        · exact g
        · rw [g2] at hk; cases hk
      have noRw : ∀ r, ¬ rwOf δ (roHeap rs') r := fun r ⟨k, b, hk, hb, _⟩ => by
        unfold roHeap at hk
        split at hk
        · cases hk; cases hb
        · cases hk
      refine (fn_calls hm hΓ hf ha hr1 ht1 h3).mono fun ed w' ⟨r, y, δ', h', g1, g2, g3, _, _, g6, _⟩ => ?_
      subst g2
      refine ⟨r, y, [], δ, g1, ⟨rfl, rfl⟩, ?_, (absV_plain y r h1).2 ((absV_plain y r h1).1 g3), upd_below hr ⟨g6.os, g6.tape, g6.output, g6.size, fun k hk => g6.block k hk (noRw k)⟩⟩
      -- nothing is written
      have hall : ∀ (l : List Blk) (j : Nat), (∀ b ∈ l, b.rw = false) → allFin [] l j = true := by
        intro l
        induction l with
        | nil => intro j _; rfl
        | cons b l ih => intro j hl; simp [allFin, hl b List.mem_cons_self, ih (j + 1) fun b hb => hl b (List.mem_cons_of_mem _ hb)]
      unfold finOk
      rw [hall bs 0 fun b hb => ?_]
      · rfl
      · obtain ⟨k, hk⟩ := List.getElem?_of_mem hb
        rcases hget k with ⟨e, _⟩ | ⟨b0, c, e1, _, e2, _⟩
        · rw [hk] at e; cases e
        · rw [hk] at e1; cases e1; exact e2
end
end Go.SE
end
