/-
  The symbolic executor's code: where the conditions of a piece of code hold, the model's run of it comes to an end that they speak of.
-/
import Derived.Test.YtjdldadmaaeimaaSeRegion
import Derived.Test.YtjdldadmaaeimaaSeDefs2
namespace Go.SE

/-- Is a deferred call the mark of a range over a function? -/
def isMark (d : Deferred) : Bool := match d.target with
  | .collected _ => true
  | _ => false
/-- The deferred calls that are no marks. -/
def restOf (ds : List Deferred) : List Deferred := ds.filter fun d => !isMark d
/-- The marks of the ranges over a function that are done, and behind them what was deferred before. -/
def MarksOk (B : Nat) (ds : List Deferred) (w : World) : Prop := ∃ (Ds : List Nat) (rest : List Deferred), ds = Ds.map (fun D => { target := .collected D, args := #[] }) ++ rest ∧ (∀ d, d ∈ rest → isMark d = false) ∧ Ds.Nodup ∧ ∀ D, D ∈ Ds → B ≤ D ∧ w.heap[D]? = some (.deferred (some []))
theorem MarksOk.nil (B : Nat) (w : World) : MarksOk B [] w := ⟨[], [], rfl, fun _ h => (by cases h), List.nodup_nil, fun _ h => by cases h⟩
theorem restOf_marks : ∀ (Ds : List Nat) (rest : List Deferred), (∀ d, d ∈ rest → isMark d = false) → restOf (Ds.map (fun D => ({ target := .collected D, args := #[] } : Deferred)) ++ rest) = rest
  | [], rest, h => by
    show rest.filter _ = rest
    exact List.filter_eq_self.2 fun d hd => by rw [h d hd]; rfl
  | D :: Ds, rest, h => restOf_marks Ds rest h
theorem MarksOk.split {B : Nat} {ds r : List Deferred} {w : World} (h : MarksOk B ds w) (hr : restOf ds = r) : ∃ Ds : List Nat, ds = Ds.map (fun D => { target := .collected D, args := #[] }) ++ r ∧ Ds.Nodup ∧ ∀ D, D ∈ Ds → B ≤ D ∧ w.heap[D]? = some (.deferred (some [])) := by
  obtain ⟨Ds, rest, h1, h0, h2, h3⟩ := h
  rw [h1, restOf_marks Ds rest h0] at hr
  exact ⟨Ds, hr ▸ h1, h2, h3⟩

structure Rep (own : Nat → Prop) (w0 : World) (δ : Dict) (s : St) (a : Act) (w : World) : Prop where
  tm : absL δ s.tmps a.tmps.toList
  df : MarksOk w0.heap.size a.defers w
  hr : HRep δ s.heap w
  tight : ∀ k, s.heap k = none → δ k = none
  mine : ∀ r, rwOf δ s.heap r → own r
  wr : WRel own w0 w

/-- Slots outside l hold what they held. -/
def keep (l : List Nat) (a a' : Act) : Prop := ∀ t, t ∉ l → a'.tmps[t]? = a.tmps[t]?

theorem keep_refl (l : List Nat) (a : Act) : keep l a a := fun _ _ => rfl
theorem keep_trans {l : List Nat} {a b c : Act} (h : keep l a b) (h' : keep l b c) : keep l a c := fun t ht => (h' t ht).trans (h t ht)
theorem keep_mono {l l' : List Nat} {a b : Act} (h : keep l a b) (hs : ∀ t, t ∈ l → t ∈ l') : keep l' a b := fun t ht => h t fun hx => ht (hs t hx)
theorem keep_put (a : Act) (d : Option Tmp) (v : Value) (l : List Nat) (hd : ∀ t, d = some t → t ∈ l) : keep l a (a.put d v) := by
  intro t ht
  cases d with
  | none => rfl
  | some d =>
    have hne : d ≠ t := fun e => ht (hd t (by rw [e]))
    simp [Act.put, Array.getElem?_setIfInBounds_ne hne]

/-- Locked blocks stay. -/
def locks (s s' : St) : Prop := ∀ k b, s.heap k = some b → b.lock = true → s'.heap k = some b
theorem locks_refl (s : St) : locks s s := fun _ _ h _ => h
theorem locks_trans {a b c : St} (h : locks a b) (h' : locks b c) : locks a c := fun k x hx hl => h' k x (h k x hx hl) hl

/-- From δ0, s0, a0 on. -/
structure From (l : List Nat) (δ0 : Dict) (s0 : St) (a0 : Act) (δ : Dict) (s : St) (a : Act) : Prop where
  keep : keep l a0 a
  le : δ0.le δ
  locks : locks s0 s
  len : a.tmps.size = a0.tmps.size
  df : a.defers = a0.defers

theorem From.refl (l : List Nat) (δ : Dict) (s : St) (a : Act) : From l δ s a δ s a := ⟨keep_refl l a, δ.le_refl, locks_refl s, rfl, rfl⟩
theorem From.trans {l : List Nat} {δ0 δ1 δ2 : Dict} {s0 s1 s2 : St} {a0 a1 a2 : Act} (h : From l δ0 s0 a0 δ1 s1 a1) (h' : From l δ1 s1 a1 δ2 s2 a2) : From l δ0 s0 a0 δ2 s2 a2 :=
  ⟨keep_trans h.keep h'.keep, Dict.le_trans h.le h'.le, locks_trans h.locks h'.locks, h'.len.trans h.len, h'.df.trans h.df⟩
theorem From.mono {l l' : List Nat} {δ0 δ : Dict} {s0 s : St} {a0 a : Act} (h : From l δ0 s0 a0 δ s a) (hs : ∀ t, t ∈ l → t ∈ l') : From l' δ0 s0 a0 δ s a := ⟨keep_mono h.keep hs, h.le, h.locks, h.len, h.df⟩

/-- What a piece of code comes to. -/
def Good (own : Nat → Prop) (w0 : World) (l : List Nat) (δ0 : Dict) (s0 : St) (a0 : Act) (K : St → Prop) (a : Act) (w : World) : Prop :=
  ∃ δ s, K s ∧ Rep own w0 δ s a w ∧ From l δ0 s0 a0 δ s a

section
variable {P : Program} {Γ : Ctrs} {own : Nat → Prop} {w0 : World} {δ : Dict} {s : St} {a : Act} {w : World} {ro : Option Nat} {n : Nat}

theorem Rep.eval (h : Rep own w0 δ s a w) (x : Operand) : absV δ (s.eval x) (a.eval x) := by
  cases x with
  | tmp t =>
    simp only [St.eval, Act.eval]
    cases hx : s.tmps[t]? with
    | some y =>
      obtain ⟨r, h1, h2⟩ := absL_get h.tm hx
      have h1' : a.tmps[t]? = some r := by simpa using h1
      simp only [List.getD, hx, Option.getD_some]
      have : a.tmps.getD t undef = r := by simp [Array.getD_eq_getD_getElem?, h1']
      rw [this]; exact h2
    | none =>
      have hlen := absL_length h.tm
      have h1 : a.tmps[t]? = none := by
        have : s.tmps.length ≤ t := List.getElem?_eq_none_iff.1 hx
        simp at hlen ⊢
        omega
      simp only [List.getD, hx, Option.getD_none]
      have : a.tmps.getD t undef = undef := by simp [Array.getD_eq_getD_getElem?, h1]
      rw [this]; simp [undefS, absV]
  | const v =>
    simp only [St.eval, Act.eval]
    unfold ofConst
    split
    · simp only [absV]; exact ⟨_, by simp, absL_vs _⟩
    · simp only [absV]
  | global g => simp only [St.eval, Act.eval, absV]
  | func f => simp only [St.eval, Act.eval, absV]; exact ⟨[], rfl, by simp only [absL]⟩

theorem put_tm {δ' : Dict} (hm : absL δ s.tmps a.tmps.toList) (hle : δ.le δ') (d : Option Tmp) {x : SV} {v : Value} (hx : absV δ' x v) : absL δ' (s.put d x).tmps (a.put d v).tmps.toList := by
  cases d with
  | none => exact absL_mono hle _ _ hm
  | some t =>
    simp only [St.put, Act.put, Array.toList_setIfInBounds]
    exact absL_set (absL_mono hle _ _ hm) t hx

theorem size_put (a : Act) (d : Option Tmp) (v : Value) : (a.put d v).tmps.size = a.tmps.size := by cases d <;> simp [Act.put]

theorem put_defers (a : Act) (d : Option Tmp) (v : Value) : (a.put d v).defers = a.defers := by cases d <;> rfl

theorem lies_sub {h h' : Heap} (hs : ∀ k b, h' k = some b → h k = some b) {k r : Nat} (hl : lies δ h' k r) : lies δ h k r := by
  obtain ⟨b, p, h1, h2⟩ := hl
  exact ⟨b, p, hs k b h1, h2⟩

theorem HRep.sub {h h' : Heap} (hr : HRep δ h w) (hs : ∀ k b, h' k = some b → h k = some b) : HRep δ h' w :=
  ⟨fun k b hk => hr.blk k b (hs k b hk), fun k k' r b h1 h2 hk hb => hr.inj k k' r b (lies_sub hs h1) (lies_sub hs h2) (hs k b hk) hb⟩

theorem view_sub (bs : Vw) (nx j : Nat) (h : Heap) : ∀ k b, viewOf bs nx j h k = some b → h k = some b := fun k b hk => by
  rw [viewOf_eq] at hk
  split at hk
  · cases hk
  · exact hk

theorem rwOf_cells {h : Heap} (hr : HRep δ h w) {r : Nat} (hx : rwOf δ h r) : ∃ c e fz, w.heap[r]? = some (.cells c e fz) := by
  obtain ⟨k, b, h1, _, b', p, g1, g2, g3, g4, g5⟩ := hx
  have : some b' = some b := g1.symm.trans h1
  cases this
  obtain ⟨q, d1, d2⟩ := hr.blk k b h1
  rw [g3] at d1; cases d1
  obtain ⟨c, e, fz, c1, _⟩ := (d2 g2).rep g4
  subst g5
  exact ⟨c, e, fz, c1⟩

theorem WRel.others {own : Nat → Prop} {w w' : World} (h : WRel own w w') (hown : ∀ r, r < w.heap.size → own r → ∃ c e fz, w.heap[r]? = some (.cells c e fz)) {r : Nat} {o : Obj} (hr : w.heap[r]? = some o) (ho : o.isCells = false) : w'.heap[r]? = some o := by
  have hlt := (Array.getElem?_eq_some_iff.1 hr).1
  refine (h.block r hlt fun hx => ?_).trans hr
  obtain ⟨c, e, fz, hc⟩ := hown r hlt hx
  rw [hr] at hc; cases hc; cases ho

theorem MarksOk.rel {B : Nat} {ds : List Deferred} {own : Nat → Prop} {w w' : World} (h : MarksOk B ds w) (hr : WRel own w w') (hown : ∀ r, r < w.heap.size → own r → ∃ c e fz, w.heap[r]? = some (.cells c e fz)) : MarksOk B ds w' := by
  obtain ⟨Ds, rest, h1, h0, h2, h3⟩ := h
  exact ⟨Ds, rest, h1, h0, h2, fun D hD => ⟨(h3 D hD).1, hr.others hown (h3 D hD).2 rfl⟩⟩

/-- The state behind an operation. -/
theorem Rep.after (hown : ∀ r, w0.heap.size ≤ r → own r) (h : Rep own w0 δ s a w) {bs : Vw} {i : Nat} {o : Oper} {wr : Bool} {x : SV} {u : List (Nat × Blk)} {v : Value} {δ' : Dict} {w' : World}
    (hu : updOk wr (viewOf bs s.nx i s.heap) s.heap (s.nx + 8 * i) u = true) (hx : absV δ' x v) (hU : Upd δ (viewOf bs s.nx i s.heap) w δ' u w') : Rep own w0 δ' (apS s o x u) (a.put o.dst v) w' := by
  have hf : updFits (viewOf bs s.nx i s.heap) s.heap u := fun k hk => by
    rcases updOk_names hu k hk with ⟨b0, h1, _, h3, h4, _⟩ | ⟨h1, _, h3⟩
    · exact .inl ⟨b0, h1, h3, h4⟩
    · exact .inr ⟨h1, h3⟩
  obtain ⟨l1, l2, l3⟩ := hU.lift h.hr (view_sub _ _ _ _) h.tight hf
  have hvl : ∀ r, rwOf δ (viewOf bs s.nx i s.heap) r → rwOf δ s.heap r := fun r ⟨k, b, g1, g2, g3⟩ => ⟨k, b, view_sub _ _ _ _ _ _ g1, g2, lies_sub (view_sub _ _ _ _) g3⟩
  refine ⟨put_tm h.tm hU.le o.dst hx, by rw [put_defers]; exact h.df.rel l3 fun r _ hx => rwOf_cells h.hr hx, l1, l2, fun r ⟨k, b, g1, g2, b', q, f1, f2, f3, f4, f5⟩ => ?_, h.wr.trans (l3.mono fun r hr hrw => h.mine r hrw)⟩
  have e1 : b' = b := by
    have : some b' = some b := f1.symm.trans g1
    cases this; rfl
  subst e1
  -- what may be written behind it could be written before, or is new
  cases hd : δ k with
  | none =>
    rcases hU.place k q hd f3 f4 with h5 | h5
    · exact hown r (by rw [← f5]; exact Nat.le_trans h.wr.size h5)
    · rw [f5] at h5; exact h.mine r (hvl r h5)
  | some p =>
    have h1 := hU.le _ _ hd
    rw [f3] at h1; cases h1
    refine h.mine r ?_
    cases hi : inNames k u with
    | true =>
      rcases hf k hi with ⟨b0, g3, g4, g5⟩ | ⟨_, g4⟩
      · exact ⟨k, b0, view_sub _ _ _ _ _ _ g3, g4, b0, q, view_sub _ _ _ _ _ _ g3, g5, hd, f4, f5⟩
      · rw [h.tight k g4] at hd; cases hd
    | false =>
      have : happ s.heap u k = some b' := g1
      rw [happ_other u _ hi] at this
      exact ⟨k, b', this, g2, b', q, this, f2, hd, f4, f5⟩

theorem locks_ap {bs : Vw} {i : Nat} {o : Oper} {wr : Bool} {x : SV} {u : List (Nat × Blk)} (hu : updOk wr (viewOf bs s.nx i s.heap) s.heap (s.nx + 8 * i) u = true) : locks s (apS s o x u) := fun k b hk hl => by
  show happ s.heap u k = some b
  rw [happ_other u _ ?_]
  · exact hk
  · cases hi : inNames k u with
    | false => rfl
    | true =>
      rcases updOk_names hu k hi with ⟨b0, h1, _, _, _, h4⟩ | ⟨_, _, h3⟩
      · have := view_sub _ _ _ _ _ _ h1
        rw [hk] at this; cases this
        rw [hl] at h4; cases h4
      · rw [hk] at h3; cases h3

/-! ### panics -/
theorem kill_get : ∀ (ds : List Nat) (l : List SV) (t : Nat), (killSlots l ds)[t]? = if t ∈ ds ∧ t < l.length then some .unk else l[t]?
  | [], l, t => by simp [killSlots]
  | d :: ds, l, t => by
    simp only [killSlots]
    rw [kill_get ds (l.set d .unk) t]
    simp only [List.length_set, List.mem_cons, List.getElem?_set]
    by_cases h1 : t ∈ ds
    · by_cases hl : t < l.length
      · simp [h1, hl]
      · have : l[t]? = none := List.getElem?_eq_none (Nat.le_of_not_lt hl)
        simp only [h1, hl, and_false, if_false, this, or_true]
        split
        · rename_i hd; subst hd; simp [hl]
        · rfl
    · by_cases hd : d = t
      · subst hd
        by_cases hl : d < l.length
        · simp [h1, hl]
        · simp [h1, hl]
      · have hd' : ¬ t = d := fun e => hd e.symm
        simp [h1, hd, hd']

theorem absL_kill {δ : Dict} {xs : List SV} {rs0 rs : List Value} {l : List Nat} (h : absL δ xs rs0) (hl : rs.length = rs0.length) (hk : ∀ t, t ∉ l → rs[t]? = rs0[t]?) : absL δ (killSlots xs l) rs := by
  have hlen := absL_length h
  have hkl : (killSlots xs l).length = xs.length := by
    have : ∀ (l : List Nat) (xs : List SV), (killSlots xs l).length = xs.length := by
      intro l
      induction l with
      | nil => intro xs; rfl
      | cons t l ih => intro xs; simp only [killSlots]; rw [ih]; simp
    exact this l xs
  refine absL_of_get (by omega) fun i x hx => ?_
  rw [kill_get] at hx
  split at hx
  · rename_i hh
    cases hx
    have : i < rs.length := by omega
    exact ⟨rs[i], List.getElem?_eq_getElem this, by simp only [absV]⟩
  · rename_i hh
    obtain ⟨r, h1, h2⟩ := absL_get h hx
    by_cases hi : i ∈ l
    · have : i < xs.length := (List.getElem?_eq_some_iff.1 hx).1
      exact absurd ⟨hi, this⟩ hh
    · exact ⟨r, (hk i hi).trans h1, h2⟩

/-- A panic with the value v: KP holds of it, and of the heap. -/
def Stops (own : Nat → Prop) (w0 : World) (l : List Nat) (δ0 : Dict) (s0 : St) (a0 : Act) (KP : SV → Heap → Prop) (v : Value) (a : Act) (w : World) : Prop :=
  ∃ δ x h, KP x h ∧ absV δ x v ∧ Rep own w0 δ { tmps := killSlots s0.tmps l, heap := h, nx := s0.nx } a w ∧ From l δ0 s0 a0 δ { tmps := killSlots s0.tmps l, heap := h, nx := s0.nx } a

theorem WF_room (h : (WF ro).depth.isSome = true) : False := by cases h

theorem opS_plain {o : Oper} {ρ : Operand → SV} {h : Heap} {base : Nat} {e : Eff} (he : opS P Γ o ρ h base = some e) : ∀ c, o.op ≠ .defer c := by
  intro c hc
  unfold opS at he
  rw [hc] at he
  cases he

theorem stepA_wp (hΓ : ∀ f g, Γ f = some g → g.ok P f) (hown : ∀ r, w0.heap.size ≤ r → own r) {ops : Array Oper} {bs : Vw} {i : Nat} {o : Oper} {dr : Bool} {KP : SV → Heap → Prop} {K : St → Prop} {Q : Exit → Act → World → Prop} {δ0 : Dict} {s0 : St} {a0 : Act} {l : List Nat}
    (hQP : ∀ v a w, Stops own w0 l δ0 s0 a0 KP v a w → Q (.panic [{ v := v, recovered := false }]) a w) (h00 : absL δ0 s0.tmps a0.tmps.toList) (hi : ops[i]? = some o) (hdst : ∀ t, o.dst = some t → t ∈ l) (hk : From l δ0 s0 a0 δ s a) (h : stepA P Γ ops.toList bs dr KP i o s K) (hr : Rep own w0 δ s a w) : wpOpIn (WF ro) n P ops Q i (Good own w0 l δ0 s0 a0 K) a w := by
  unfold wpOpIn
  rw [hi]
  simp only
  -- the operation carried out
  have run : ∀ e, stopS Γ o s.eval (viewOf bs s.nx i s.heap) = false → opS P Γ o s.eval (viewOf bs s.nx i s.heap) (s.nx + 8 * i) = some e → (e.bind fun x u => updOk (writerOp Γ o) (viewOf bs s.nx i s.heap) s.heap (s.nx + 8 * i) u = true ∧ K (apS s o x u)) →
      o.wpIn (WF ro) n P a w (Good own w0 l δ0 s0 a0 K) Q := fun e hst he hb => by
    have hview := hr.hr.sub (view_sub bs s.nx i s.heap)
    have hout : ∀ x u, EffOut e x u → updOk (writerOp Γ o) (viewOf bs s.nx i s.heap) s.heap (s.nx + 8 * i) u = true ∧ K (apS s o x u) := fun x u ho => Eff.bind_out hb ho
    have hnext := opS_ok (w := w) hΓ (ρ := a.eval) hr.eval (fun _ => rfl) hview he (Eff.bind_asks hb) (fun x u ho k hk hn => by
        rcases updOk_names (hout x u ho).1 k hk with ⟨b0, h1, _⟩ | ⟨_, _, h3⟩
        · rw [hn] at h1; cases h1
        · exact hr.tight k h3)
      (fun hw x u ho k hk => by
        rcases updOk_names (hout x u ho).1 k hk with ⟨b0, _, h2, _⟩ | ⟨h1, _, _⟩
        · rw [hw] at h2; cases h2
        · exact h1) hst
    have fin : ∀ x u δ' v w', EffOut e x u → absV δ' x v → Upd δ (viewOf bs s.nx i s.heap) w δ' u w' → Good own w0 l δ0 s0 a0 K (a.put o.dst v) w' := fun x u δ' v w' ho hx hU =>
      ⟨δ', apS s o x u, (hout x u ho).2, hr.after hown (hout x u ho).1 hx hU, hk.trans ⟨keep_put a o.dst v l hdst, hU.le, locks_ap (hout x u ho).1, size_put _ _ _, put_defers _ _ _⟩⟩
    refine ⟨fun _ _ => trivial, ?_⟩
    rw [show o.semAt (WF ro).round a.eval = execOp a.eval o from Oper.semAt_eq _ _ _ (opS_plain he)]
    generalize (execOp a.eval o).run P w = r at hnext
    cases r with
    | halt hh w' => exact hnext.elim
    | ok n w' =>
      cases n <;> simp only [NextOk] at hnext <;> simp only [Oper.uponIn]
      case value v => obtain ⟨x, u, δ', h1, h2, h3⟩ := hnext; exact fin x u δ' v w' h1 h2 h3
      case skip => obtain ⟨x, u, δ', h1, h2, h3⟩ := hnext; exact fin x u δ' undef w' h1 h2 h3
      case enter f args =>
        refine ⟨fun hh => (WF_room hh).elim, calls_in ro _ (hnext.mono fun ed w'' ⟨r, x, u, δ', h0, h1, h2, h3⟩ => ?_)⟩
        subst h0
        exact fin x u δ' r w'' h1 h2 h3
  have skip : (Eff.bind (.det none undefS []) fun x u => updOk (writerOp Γ o) (viewOf bs s.nx i s.heap) s.heap (s.nx + 8 * i) u = true ∧ K (apS s o x u)) → Good own w0 l δ0 s0 a0 K (a.put o.dst undef) w := fun hb =>
    ⟨δ, apS s o undefS [], hb.2, hr.after hown hb.1 (absV_v.2 rfl) (Upd.same (hr.hr.sub (view_sub bs s.nx i s.heap))), hk.trans ⟨keep_put a o.dst undef l hdst, δ.le_refl, locks_ap hb.1, size_put _ _ _, put_defers _ _ _⟩⟩
  -- a panic
  have dies : ∀ e, stopS Γ o s.eval (viewOf bs s.nx i s.heap) = true → opS P Γ o s.eval (viewOf bs s.nx i s.heap) (s.nx + 8 * i) = some e → (e.bind fun x u => updOk (writerOp Γ o) (viewOf bs s.nx i s.heap) s.heap (s.nx + 8 * i) u = true ∧ KP x (happ s.heap u)) →
      o.wpIn (WF ro) n P a w (Good own w0 l δ0 s0 a0 K) Q := fun e hst he hb => by
    have hview := hr.hr.sub (view_sub bs s.nx i s.heap)
    have hout : ∀ x u, EffOut e x u → updOk (writerOp Γ o) (viewOf bs s.nx i s.heap) s.heap (s.nx + 8 * i) u = true ∧ KP x (happ s.heap u) := fun x u ho => Eff.bind_out hb ho
    have hnext := opS_stop (w := w) hΓ (ρ := a.eval) hr.eval (fun _ => rfl) hview he (Eff.bind_asks hb) (fun x u ho k hk hn => by
        rcases updOk_names (hout x u ho).1 k hk with ⟨b0, h1, _⟩ | ⟨_, _, h3⟩
        · rw [hn] at h1; cases h1
        · exact hr.tight k h3) hst
    have fin : ∀ x u δ' v w', EffOut e x u → absV δ' x v → Upd δ (viewOf bs s.nx i s.heap) w δ' u w' → Q (.panic [{ v := v, recovered := false }]) a w' := fun x u δ' v w' ho hx hU => by
      have ha := hr.after hown (o := { o with dst := none }) (hout x u ho).1 hx hU
      have hle := Dict.le_trans hk.le hU.le
      refine hQP v a w' ⟨δ', x, happ s.heap u, (hout x u ho).2, hx, ⟨absL_kill (absL_mono hle _ _ h00) (by simpa using hk.len) (fun t ht => by simpa using hk.keep t ht), ha.df, ha.hr, ha.tight, ha.mine, ha.wr⟩, ⟨hk.keep, hle, locks_trans hk.locks (locks_ap (o := { o with dst := none }) (x := x) (hout x u ho).1), hk.len, hk.df⟩⟩
    refine ⟨fun _ _ => trivial, ?_⟩
    rw [show o.semAt (WF ro).round a.eval = execOp a.eval o from Oper.semAt_eq _ _ _ (opS_plain he)]
    generalize (execOp a.eval o).run P w = r at hnext
    cases r with
    | halt hh w' =>
      cases hh with
      | panic v =>
        obtain ⟨x, u, δ', h1, h2, h3⟩ := hnext
        exact fin x u δ' v w' h1 h2 h3
      | _ => exact hnext.elim
    | ok n w' =>
      cases n <;> simp only [NextStop] at hnext <;> simp only [Oper.uponIn]
      case enter f args =>
        refine ⟨fun hh => (WF_room hh).elim, calls_in ro _ (hnext.mono fun ed w'' ⟨r, x, u, δ', h0, h1, h2, h3⟩ => ?_)⟩
        subst h0
        exact fin x u δ' r w'' h1 h2 h3
  -- what stepA says, once it is known whether it panics
  have split : ∀ (b : Bool) (e : Eff), stopA Γ ops.toList bs i o s = b → (e.bind fun x u => updOk (writerOp Γ o) (viewOf bs s.nx i s.heap) s.heap (s.nx + 8 * i) u = true ∧ match stopA Γ ops.toList bs i o s with
      | true => (dr = true → laterOk P Γ bs i s ops.toList 0 = true) ∧ KP x (happ s.heap u)
      | false => K (apS s o x u)) → (b = true → e.bind fun x u => updOk (writerOp Γ o) (viewOf bs s.nx i s.heap) s.heap (s.nx + 8 * i) u = true ∧ KP x (happ s.heap u)) ∧ (b = false → e.bind fun x u => updOk (writerOp Γ o) (viewOf bs s.nx i s.heap) s.heap (s.nx + 8 * i) u = true ∧ K (apS s o x u)) := fun b e hb he => by
    rw [hb] at he
    constructor
    · intro h; subst h; exact Eff.bind_mono (fun x u hx => ⟨hx.1, hx.2.2⟩) he
    · intro h; subst h; exact he
  have both : ∀ e, opS P Γ o s.eval (viewOf bs s.nx i s.heap) (s.nx + 8 * i) = some e → stopA Γ ops.toList bs i o s = stopS Γ o s.eval (viewOf bs s.nx i s.heap) → (e.bind fun x u => updOk (writerOp Γ o) (viewOf bs s.nx i s.heap) s.heap (s.nx + 8 * i) u = true ∧ match stopA Γ ops.toList bs i o s with
      | true => (dr = true → laterOk P Γ bs i s ops.toList 0 = true) ∧ KP x (happ s.heap u)
      | false => K (apS s o x u)) → o.wpIn (WF ro) n P a w (Good own w0 l δ0 s0 a0 K) Q := fun e he hs hb => by
    cases hst : stopS Γ o s.eval (viewOf bs s.nx i s.heap) with
    | true => exact dies e hst he ((split true e (hs.trans hst) hb).1 rfl)
    | false => exact run e hst he ((split false e (hs.trans hst) hb).2 rfl)
  unfold stepA at h
  cases hA : actOf P Γ ops.toList bs i o s with
  | none => rw [hA] at h; exact h.elim
  | some eA =>
  rw [hA] at h
  simp only at h
  unfold actOf at hA
  cases hg : o.guard with
  | none =>
    rw [hg] at hA
    simp only at hA
    have hw : Region.wanted o (yielded ops a.tmps) = true := by simp [Region.wanted, hg]
    rw [if_pos hw]
    exact both eA hA (by unfold stopA; rw [hg]) h
  | some gw =>
    obtain ⟨g, want⟩ := gw
    rw [hg] at hA
    simp only at hA
    cases hd : (ops.toList[g]?).bind (·.dst) with
    | none => rw [hd] at hA; cases hA
    | some t =>
      rw [hd] at hA
      simp only at hA
      have hd' : (ops[g]?).bind (·.dst) = some t := by rw [← hd]; simp
      -- what the guard's slot holds
      have slot : ∀ y, s.tmps.getD t .unk = y → y ≠ .unk → ∃ r, a.tmps[t]? = some r ∧ absV δ y r := fun y hy hne => by
        cases hx : s.tmps[t]? with
        | none => rw [List.getD, hx] at hy; simp at hy; exact absurd hy.symm hne
        | some z =>
          rw [List.getD, hx] at hy
          simp at hy
          subst hy
          obtain ⟨r, h1, h2⟩ := absL_get hr.tm hx
          exact ⟨r, by simpa using h1, h2⟩
      split at hA
      · rename_i b hb
        obtain ⟨r, h1, h2⟩ := slot _ hb (by simp)
        simp only [absV] at h2
        subst h2
        have hy : yielded ops a.tmps g = some b := by simp [yielded, hd', h1]
        by_cases hbw : b = want
        · rw [if_pos hbw] at hA
          have hw : Region.wanted o (yielded ops a.tmps) = true := by simp [Region.wanted, hg, hy, hbw]
          rw [if_pos hw]
          exact both eA hA (by unfold stopA; rw [hg]; simp only [hd, hb, if_pos hbw]) h
        · rw [if_neg hbw] at hA
          cases hA
          have hw : ¬ Region.wanted o (yielded ops a.tmps) = true := by simp [Region.wanted, hg, hy, hbw]
          rw [if_neg hw]
          exact ⟨fun _ _ => trivial, skip ((split false _ (by unfold stopA; rw [hg]; simp only [hd, hb, if_neg hbw]) h).2 rfl)⟩
      · rename_i vs hb
        obtain ⟨r, h1, h2⟩ := slot _ hb (by simp)
        simp only [absV] at h2
        subst h2
        cases hA
        have hy : yielded ops a.tmps g = none := by simp [yielded, hd', h1]
        have hw : ¬ Region.wanted o (yielded ops a.tmps) = true := by simp [Region.wanted, hg, hy]
        rw [if_neg hw]
        exact ⟨fun _ _ => trivial, skip ((split false _ (by unfold stopA; rw [hg]; simp only [hd, hb]) h).2 rfl)⟩
      · cases hA

/-! ### regions -/
theorem dsts_mem {ops : List Oper} : ∀ {o : Oper}, o ∈ ops → ∀ t, o.dst = some t → t ∈ dstsOps ops := by
  induction ops with
  | nil => intro o h; cases h
  | cons x l ih =>
    intro o h t ht
    rcases List.mem_cons.1 h with rfl | h
    · simp [dstsOps, ht]
    · have := ih h t ht
      unfold dstsOps
      split
      · exact List.mem_cons_of_mem _ this
      · exact this

theorem any_wp (hΓ : ∀ f g, Γ f = some g → g.ok P f) (hown : ∀ r, w0.heap.size ≤ r → own r) {ops : Array Oper} {bs : Vw} {KP : SV → Heap → Prop} {K : St → Prop} {Q : Exit → Act → World → Prop} {δ0 : Dict} {s0 : St} {a0 : Act}
    (hQ : ∀ a w, Good own w0 (dstsOps ops.toList) δ0 s0 a0 K a w → Q .normal a w) (hQP : ∀ v a w, Stops own w0 (dstsOps ops.toList) δ0 s0 a0 KP v a w → Q (.panic [{ v := v, recovered := false }]) a w) (h00 : absL δ0 s0.tmps a0.tmps.toList) : ∀ (fuel : Nat) (listed : Array Bool) (δ : Dict) (s : St) (a : Act) (w : World), vcAny P Γ ops bs KP K fuel listed s → Rep own w0 δ s a w → From (dstsOps ops.toList) δ0 s0 a0 δ s a → wpAnyIn (WF ro) n P .any ops Q fuel listed a w
  | 0, listed, δ, s, a, w, h, hr, hk => ⟨h.1, hQ a w ⟨δ, s, h.2, hr, hk⟩⟩
  | fuel + 1, listed, δ, s, a, w, h, hr, hk => by
    refine ⟨fun h0 => hQ a w ⟨δ, s, h.1 h0, hr, hk⟩, fun i hi => ?_⟩
    have h1 := h.2 i hi
    unfold stepI at h1
    obtain ⟨_, o, ho, _⟩ := mem_ready.1 hi
    rw [ho] at h1
    refine wpOpIn_mono (fun a' w' hg => ?_) (stepA_wp hΓ hown (Q := Q) hQP h00 ho (fun t ht => dsts_mem (by simpa using Array.mem_of_getElem? ho) t ht) hk h1 hr)
    obtain ⟨δ', s', h2, h3, h4⟩ := hg
    exact any_wp hΓ hown hQ hQP h00 fuel _ δ' s' a' w' h2 h3 h4

theorem seq_wp (hΓ : ∀ f g, Γ f = some g → g.ok P f) (hown : ∀ r, w0.heap.size ≤ r → own r) {ops : Array Oper} {bs : Vw} {dr : Bool} {KP : SV → Heap → Prop} {K : St → Prop} {Q : Exit → Act → World → Prop} {δ0 : Dict} {s0 : St} {a0 : Act}
    (hQ : ∀ a w, Good own w0 (dstsOps ops.toList) δ0 s0 a0 K a w → Q .normal a w) (hQP : ∀ v a w, Stops own w0 (dstsOps ops.toList) δ0 s0 a0 KP v a w → Q (.panic [{ v := v, recovered := false }]) a w) (h00 : absL δ0 s0.tmps a0.tmps.toList) : ∀ (l : List Oper) (k : Nat) (δ : Dict) (s : St) (a : Act) (w : World), (∀ (j : Nat), l[j]? = ops[k + j]?) → vcOps P Γ ops.toList bs dr KP K l k s → Rep own w0 δ s a w →
    From (dstsOps ops.toList) δ0 s0 a0 δ s a → wpOpsIn (WF ro) n P ops Q (List.range' k l.length) a w
  | [], k, δ, s, a, w, _, h, hr, hk => by simp only [List.length_nil, List.range'_zero, wpOpsIn]; exact hQ a w ⟨δ, s, h, hr, hk⟩
  | o :: l, k, δ, s, a, w, hl, h, hr, hk => by
    have ho : ops[k]? = some o := by simpa using (hl 0).symm
    simp only [List.length_cons, List.range'_succ, wpOpsIn_cons]
    refine wpOpIn_mono (fun a' w' hg => ?_) (stepA_wp hΓ hown (Q := Q) hQP h00 ho (fun t ht => dsts_mem (by simpa using Array.mem_of_getElem? ho) t ht) hk (stepS_A h) hr)
    obtain ⟨δ', s', h2, h3, h4⟩ := hg
    exact seq_wp hΓ hown hQ hQP h00 l (k + 1) δ' s' a' w' (fun j => by have := hl (j + 1); simpa [Nat.add_assoc, Nat.add_comm 1 j] using this) h2 h3 h4

theorem Rep.drew (h : Rep own w0 δ s a w) : Rep own w0 δ s a { w with drawn := w.drawn + 1 } :=
  ⟨h.tm, h.df, ⟨fun k b hk => (h.hr.blk k b hk).imp fun _ ⟨d1, d2⟩ => ⟨d1, fun hd => (d2 hd).mono δ.le_refl fun _ => rfl⟩, h.hr.inj⟩, h.tight, h.mine, h.wr.drew⟩

theorem Rep.nx (h : Rep own w0 δ s a w) (n : Nat) : Rep own w0 δ { s with nx := n } a w := ⟨h.tm, h.df, h.hr, h.tight, h.mine, h.wr⟩

theorem From.nx {l : List Nat} {δ0 δ : Dict} {s0 s : St} {a0 a : Act} (h : From l δ0 s0 a0 δ s a) (n : Nat) : From l δ0 s0 a0 δ { s with nx := n } a := ⟨h.keep, h.le, h.locks, h.len, h.df⟩

theorem region_wp (hm : P.follows .mixedOrders = true) (hΓ : ∀ f g, Γ f = some g → g.ok P f) (hown : ∀ r, w0.heap.size ≤ r → own r) {ops : Array Oper} {draw : Bool} {rid : Nat} {pr : List (Nat × (Nat → List Nat))} {KP : SV → Heap → Prop} {K : St → Prop} {Q : Exit → Act → World → Prop} {δ0 : Dict} {s0 : St} {a0 : Act}
    (hQ : ∀ a w, Good own w0 (dstsOps ops.toList) δ0 s0 a0 K a w → Q .normal a w) (hQP : ∀ v a w, Stops own w0 (dstsOps ops.toList) δ0 s0 a0 KP v a w → Q (.panic [{ v := v, recovered := false }]) a w) (h00 : absL δ0 s0.tmps a0.tmps.toList) (hb : (!draw || regionOk P Γ ops ⟨beforeL ops.toList [], pr⟩) = true) (h : vcOps P Γ ops.toList ⟨beforeL ops.toList [], pr⟩ draw KP K ops.toList 0 s)
    (hr : Rep own w0 δ s a w) (hk : From (dstsOps ops.toList) δ0 s0 a0 δ s a) : (Code.region rid ops draw).wpIn (WF ro) n P Q a w := by
  cases draw with
  | false =>
    refine wpIn_region ?_
    have := seq_wp (ro := ro) (n := n) hΓ hown hQ hQP h00 ops.toList 0 δ s a w (fun j => by simp) h hr hk
    rw [Array.length_toList, ← List.range_eq_range'] at this
    exact this
  | true =>
    simp only [Bool.not_true, Bool.false_or] at hb
    refine wpIn_region_any hm ?_
    have := any_text hb ops.toList 0 (Array.replicate ops.size false) s (fun j => by simp) (by simp) (fun j hj => by simp [hj]) (by simp) h
    rw [Array.length_toList] at this
    exact any_wp hΓ hown hQ hQP h00 _ _ δ s a _ this hr.drew hk
end
end Go.SE
