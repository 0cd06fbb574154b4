/-
  The symbolic executor's regions: what is reckoned in the text's order holds in every order that the edges allow.
-/
import Derived.Test.YtjdldadmaaeimaaSeOps4
namespace Go.SE

/-! ### effects -/
theorem Eff.bind_asks {e : Eff} {F : SV → List (Nat × Blk) → Prop} (h : e.bind F) : e.asks := by
  cases e with
  | det p x u =>
    cases p with
    | none => intro q hq; cases hq
    | some p => intro q hq; cases hq; exact h.1
  | nd p C c0 x u => exact h.1

theorem Eff.bind_out {e : Eff} {F : SV → List (Nat × Blk) → Prop} (h : e.bind F) {x : SV} {u : List (Nat × Blk)} (ho : EffOut e x u) : F x u := by
  cases e with
  | det p y v =>
    obtain ⟨rfl, rfl⟩ := ho
    cases p with
    | none => exact h
    | some p => exact h.2
  | nd p C c0 y v =>
    obtain ⟨c, rfl, rfl⟩ := ho
    exact h.2 c

theorem Eff.bind_of {e : Eff} {F : SV → List (Nat × Blk) → Prop} (ha : e.asks) (h : ∀ x u, EffOut e x u → F x u) : e.bind F := by
  cases e with
  | det p y v =>
    cases p with
    | none => exact h _ _ ⟨rfl, rfl⟩
    | some p => exact ⟨ha _ rfl, h _ _ ⟨rfl, rfl⟩⟩
  | nd p C c0 y v => exact ⟨ha, fun c => h _ _ ⟨c, rfl, rfl⟩⟩

theorem Eff.some_out (e : Eff) : ∃ x u, EffOut e x u := by
  cases e with
  | det p y v => exact ⟨_, _, rfl, rfl⟩
  | nd p C c0 y v => exact ⟨_, _, c0, rfl, rfl⟩

theorem Eff.bind_mono {e : Eff} {F G : SV → List (Nat × Blk) → Prop} (hfg : ∀ x u, F x u → G x u) (h : e.bind F) : e.bind G :=
  Eff.bind_of (Eff.bind_asks h) fun x u ho => hfg x u (Eff.bind_out h ho)

/-! ### one operation, its guard decided -/
def apS (s : St) (o : Oper) (x : SV) (u : List (Nat × Blk)) : St := { (s.put o.dst x) with heap := happ s.heap u }

theorem apS_nil (s : St) (o : Oper) (x : SV) : apS s o x [] = s.put o.dst x := by
  unfold apS St.put
  cases o.dst <;> rfl

def actOf (P : Program) (Γ : Ctrs) (ops : List Oper) (bs : Vw) (i : Nat) (o : Oper) (s : St) : Option Eff :=
  match o.guard with
  | none => opS P Γ o s.eval (viewOf bs s.nx i s.heap) (s.nx + 8 * i)
  | some (g, want) => match (ops[g]?).bind (·.dst) with
    | none => none
    | some t => match s.tmps.getD t .unk with
      | .v (.bool b) => if b = want then opS P Γ o s.eval (viewOf bs s.nx i s.heap) (s.nx + 8 * i) else some (.det none undefS [])
      | .v (.tuple _) => some (.det none undefS [])
      | _ => none

def stepN (P : Program) (Γ : Ctrs) (ops : List Oper) (bs : Vw) (i : Nat) (o : Oper) (s : St) (K : St → Prop) : Prop :=
  match actOf P Γ ops bs i o s with
  | none => False
  | some e => e.bind fun x u => updOk (writerOp Γ o) (viewOf bs s.nx i s.heap) s.heap (s.nx + 8 * i) u = true ∧ K (apS s o x u)

/-- Does operation i panic here? -/
def stopA (Γ : Ctrs) (ops : List Oper) (bs : Vw) (i : Nat) (o : Oper) (s : St) : Bool :=
  match o.guard with
  | none => stopS Γ o s.eval (viewOf bs s.nx i s.heap)
  | some (g, want) => match (ops[g]?).bind (·.dst) with
    | none => false
    | some t => match s.tmps.getD t .unk with
      | .v (.bool b) => if b = want then stopS Γ o s.eval (viewOf bs s.nx i s.heap) else false
      | _ => false

/-- An operation that may panic. -/
def stepA (P : Program) (Γ : Ctrs) (ops : List Oper) (bs : Vw) (dr : Bool) (KP : SV → Heap → Prop) (i : Nat) (o : Oper) (s : St) (K : St → Prop) : Prop :=
  match actOf P Γ ops bs i o s with
  | none => False
  | some e => e.bind fun x u => updOk (writerOp Γ o) (viewOf bs s.nx i s.heap) s.heap (s.nx + 8 * i) u = true ∧ match stopA Γ ops bs i o s with
    | true => (dr = true → laterOk P Γ bs i s ops 0 = true) ∧ KP x (happ s.heap u)
    | false => K (apS s o x u)

theorem stepA_N {P : Program} {Γ : Ctrs} {ops : List Oper} {bs : Vw} {dr : Bool} {KP : SV → Heap → Prop} {i : Nat} {o : Oper} {s : St} {K : St → Prop} (hs : stopA Γ ops bs i o s = false) : stepA P Γ ops bs dr KP i o s K ↔ stepN P Γ ops bs i o s K := by
  unfold stepA stepN
  rw [hs]

theorem stepRun_A {P : Program} {Γ : Ctrs} {ops : List Oper} {bs : Vw} {dr : Bool} {KP : SV → Heap → Prop} {i : Nat} {o : Oper} {s : St} {K : St → Prop} (h : stepRun P Γ ops bs dr KP i o s K) :
    ∃ e, opS P Γ o s.eval (viewOf bs s.nx i s.heap) (s.nx + 8 * i) = some e ∧ e.bind fun x u => updOk (writerOp Γ o) (viewOf bs s.nx i s.heap) s.heap (s.nx + 8 * i) u = true ∧ match stopS Γ o s.eval (viewOf bs s.nx i s.heap) with
      | true => (dr = true → laterOk P Γ bs i s ops 0 = true) ∧ KP x (happ s.heap u)
      | false => K (apS s o x u) := by
  unfold stepRun at h
  cases he : opS P Γ o s.eval (viewOf bs s.nx i s.heap) (s.nx + 8 * i) with
  | none => rw [he] at h; exact h.elim
  | some e =>
    rw [he] at h
    refine ⟨e, rfl, Eff.bind_mono (fun x u hx => ?_) h⟩
    cases hu : updOk (writerOp Γ o) (viewOf bs s.nx i s.heap) s.heap (s.nx + 8 * i) u with
    | false => rw [hu] at hx; exact hx.elim
    | true =>
      rw [hu, cond_true] at hx
      refine ⟨rfl, ?_⟩
      cases hst : stopS Γ o s.eval (viewOf bs s.nx i s.heap) with
      | false => rw [hst] at hx; exact hx
      | true =>
        rw [hst] at hx
        simp only [sel] at hx
        cases hl : (!dr || laterOk P Γ bs i s ops 0) with
        | false => rw [hl] at hx; exact hx.elim
        | true =>
          rw [hl, cond_true] at hx
          refine ⟨fun hd => ?_, hx⟩
          rw [hd] at hl
          simpa using hl

theorem set_same {l : List SV} {t : Nat} {x : SV} (h : l.getD t .unk = x) (hx : x ≠ .unk) : l.set t x = l := by
  apply List.ext_getElem?
  intro i
  rw [List.getElem?_set]
  by_cases hi : t = i
  · subst hi
    rw [if_pos rfl]
    rcases Nat.lt_or_ge t l.length with hl | hl
    · rw [if_pos hl]
      rw [List.getD, List.getElem?_eq_getElem hl] at h
      simp at h
      rw [List.getElem?_eq_getElem hl, h]
    · rw [List.getD, List.getElem?_eq_none hl] at h
      simp at h
      exact absurd h.symm hx
  · rw [if_neg hi]

theorem stepS_A {P : Program} {Γ : Ctrs} {ops : List Oper} {bs : Vw} {dr : Bool} {KP : SV → Heap → Prop} {i : Nat} {o : Oper} {s : St} {K : St → Prop} (h : stepS P Γ ops bs dr KP i o s K) : stepA P Γ ops bs dr KP i o s K := by
  unfold stepS at h
  unfold stepA actOf stopA
  cases hg : o.guard with
  | none =>
    rw [hg] at h
    obtain ⟨e, h1, h2⟩ := stepRun_A h
    simp only [h1]
    exact h2
  | some gw =>
    obtain ⟨g, want⟩ := gw
    rw [hg] at h
    simp only at h ⊢
    cases hd : (ops[g]?).bind (·.dst) with
    | none => rw [hd] at h; exact h.elim
    | some t =>
      rw [hd] at h
      simp only at h ⊢
      -- what is not wanted
      have skip : K (s.put o.dst undefS) → Eff.bind (.det none undefS []) fun x u => updOk (writerOp Γ o) (viewOf bs s.nx i s.heap) s.heap (s.nx + 8 * i) u = true ∧ K (apS s o x u) := fun hk => ⟨rfl, by rw [apS_nil]; exact hk⟩
      split at h
      · rename_i b hb
        rw [hb]
        simp only
        have hsame : ∀ b', b = b' → ({ s with tmps := s.tmps.set t (.v (.bool b')) } : St) = s := fun b' e => by
          subst e
          rw [set_same hb (by simp)]
        cases b with
        | true =>
          simp only [sel, hsame true rfl] at h
          cases want with
          | true =>
            simp only at h ⊢
            obtain ⟨e, h1, h2⟩ := stepRun_A h
            rw [if_pos trivial, if_pos trivial, h1]
            exact h2
          | false =>
            simp only at h ⊢
            rw [if_neg (by simp), if_neg (by simp)]
            exact skip h
        | false =>
          simp only [sel, hsame false rfl] at h
          cases want with
          | true =>
            simp only at h ⊢
            rw [if_neg (by simp), if_neg (by simp)]
            exact skip h
          | false =>
            simp only at h ⊢
            obtain ⟨e, h1, h2⟩ := stepRun_A h
            rw [if_pos trivial, if_pos trivial, h1]
            exact h2
      · rename_i b hb
        rw [hb]
        exact skip h
      · exact h.elim

theorem stepA_mono {P : Program} {Γ : Ctrs} {ops : List Oper} {bs : Vw} {dr : Bool} {KP : SV → Heap → Prop} {i : Nat} {o : Oper} {s : St} {K K' : St → Prop} (hk : ∀ s, K s → K' s) (h : stepA P Γ ops bs dr KP i o s K) : stepA P Γ ops bs dr KP i o s K' := by
  unfold stepA at *
  cases he : actOf P Γ ops bs i o s with
  | none => rw [he] at h; exact h
  | some e =>
    rw [he] at h
    refine Eff.bind_mono (fun x u hx => ⟨hx.1, ?_⟩) h
    have h2 := hx.2
    cases hs : stopA Γ ops bs i o s with
    | true => rw [hs] at h2; exact h2
    | false => rw [hs] at h2; exact hk _ h2

/-- The next state is known. -/
theorem stepN_where {P : Program} {Γ : Ctrs} {ops : List Oper} {bs : Vw} {i : Nat} {o : Oper} {s : St} {K : St → Prop} (h : stepN P Γ ops bs i o s K) : stepN P Γ ops bs i o s fun s' => K s' ∧ ∃ x u, updOk (writerOp Γ o) (viewOf bs s.nx i s.heap) s.heap (s.nx + 8 * i) u = true ∧ s' = apS s o x u := by
  unfold stepN at *
  cases he : actOf P Γ ops bs i o s with
  | none => rw [he] at h; exact h
  | some e => rw [he] at h; exact Eff.bind_mono (fun x u hx => ⟨hx.1, hx.2, x, u, hx.1, rfl⟩) h

theorem stepN_mono {P : Program} {Γ : Ctrs} {ops : List Oper} {bs : Vw} {i : Nat} {o : Oper} {s : St} {K K' : St → Prop} (hk : ∀ s, K s → K' s) (h : stepN P Γ ops bs i o s K) : stepN P Γ ops bs i o s K' := by
  unfold stepN at *
  cases he : actOf P Γ ops bs i o s with
  | none => rw [he] at h; exact h
  | some e => rw [he] at h; exact Eff.bind_mono (fun x u hx => ⟨hx.1, hk _ hx.2⟩) h

/-! ### what an operation looks at -/
theorem eval_put {s : St} {d : Option Tmp} {v : SV} {x : Operand} (h : ∀ t, d = some t → x ≠ .tmp t) : (s.put d v).eval x = s.eval x := by
  cases d with
  | none => rfl
  | some t =>
    cases x with
    | tmp t' =>
      have hne : t ≠ t' := fun e => h t rfl (e ▸ rfl)
      simp [St.eval, St.put, List.getD, hne]
    | _ => rfl

theorem map_congr_ops {ρ ρ' : Operand → SV} (l : List Operand) (h : ∀ x ∈ l, ρ x = ρ' x) : l.map ρ = l.map ρ' := List.map_congr_left h

theorem opS_congr {P : Program} {Γ : Ctrs} {o : Oper} {ρ ρ' : Operand → SV} {h : Heap} {base : Nat} (hh : ∀ x ∈ o.op.operands, ρ x = ρ' x) : opS P Γ o ρ h base = opS P Γ o ρ' h base := by
  obtain ⟨dst, op, ty, pos, after, guard⟩ := o
  have pairs : ∀ ps : Array (Nat × Operand), (∀ x ∈ (ps.toList.map (·.2)).toArray, ρ x = ρ' x) → (ps.toList.map fun p => (p.1, ρ p.2)) = (ps.toList.map fun p => (p.1, ρ' p.2)) := fun ps hp =>
    List.map_congr_left fun p hm => by
      have := hp p.2 (by simp only [List.mem_toArray]; exact List.mem_map.2 ⟨p, hm, rfl⟩)
      rw [this]
  cases op <;> simp only [Op.operands] at hh <;> simp only [opS, restS]
  case build t ps => rw [pairs ps hh]
  case buildSlice t n ps => rw [pairs ps hh]
  case makeFunc fn first captured =>
    have ha : captured.toList.map ρ = captured.toList.map ρ' := List.map_congr_left fun x hx => hh x (by simp only [Array.mem_append]; exact .inr (by simpa using hx))
    rw [ha]
  case call c =>
    obtain ⟨callee, cargs, cts⟩ := c
    have ha : cargs.toList.map ρ = cargs.toList.map ρ' := List.map_congr_left fun x hx => hh x (by simp only [Call.operands, Array.mem_append]; exact .inr (by simpa using hx))
    cases callee with
    | value f =>
      have hf : ρ f = ρ' f := hh f (by simp [Call.operands])
      simp only [hf, ha]
    | invoke r m => rfl
    | builtin b => simp only [ha]
  case slice t x lo hi mx =>
    cases mx with
    | some m => rfl
    | none =>
      have hx : ρ x = ρ' x := hh x (by simp)
      have hl : bound ρ lo = bound ρ' lo := by
        cases lo with
        | none => rfl
        | some l => simp only [bound]; rw [hh l (by simp)]
      have hr : bound ρ hi = bound ρ' hi := by
        cases hi with
        | none => rfl
        | some l => simp only [bound]; rw [hh l (by simp)]
      simp only [hx, hl, hr]
  all_goals (first | rfl | (simp_all; done))

theorem builtinS_heap {P : Program} {b : Builtin} {ts : List TypeId} {vs : List SV} {h h' : Heap} {base : Nat} (hb : b = .len ∨ b = .max ∨ b = .min ∨ b = .unsafeSliceData) : builtinS P b ts vs h base = builtinS P b ts vs h' base := by
  rcases hb with rfl | rfl | rfl | rfl
  · cases ts <;> cases vs <;> rfl
  · cases vs with
    | nil => rfl
    | cons x vs => cases x <;> first | rfl | (rename_i v; cases v <;> rfl)
  · cases vs with
    | nil => rfl
    | cons x vs => cases x <;> first | rfl | (rename_i v; cases v <;> rfl)
  · rcases vs with _ | ⟨x, _ | ⟨y, vs⟩⟩
    · rfl
    · cases x <;> first | rfl | (rename_i k s i n c; cases s with | zero => rfl | succ s => cases s <;> rfl)
    · cases x <;> first | rfl | (rename_i k s i n c; cases s with | zero => rfl | succ s => cases s <;> rfl)

theorem opS_heap {P : Program} {Γ : Ctrs} {o : Oper} {ρ : Operand → SV} {h h' : Heap} {base : Nat} (ht : touchOp P o = false) : opS P Γ o ρ h base = opS P Γ o ρ h' base := by
  obtain ⟨dst, op, ty, pos, after, guard⟩ := o
  cases op <;> simp only [touchOp] at ht <;> simp only [opS, restS] <;> try (cases ht; done)
  case convert src dst' x =>
    unfold convS
    cases hs : P.underlying src <;> cases hd : P.underlying dst' <;> (try rfl)
    rename_i a b
    rw [hd] at ht
    generalize ρ x = y
    cases b <;> first | (simp at ht; done) | rfl | (cases y <;> first | (cases a <;> rfl) | (rename_i v; cases v <;> cases a <;> rfl))
  case call c =>
    obtain ⟨callee, cargs, cts⟩ := c
    cases callee with
    | value f => simp at ht
    | invoke r m => rfl
    | builtin b => exact builtinS_heap (by cases b <;> simp at ht <;> simp)
  case slice t x lo hi mx => cases mx <;> rfl

theorem writer_touches {P : Program} {Γ : Ctrs} {o : Oper} (h : writerOp Γ o = true) : touchOp P o = true := by
  obtain ⟨dst, op, ty, pos, after, guard⟩ := o
  cases op <;> simp only [writerOp] at h <;> simp only [touchOp] <;> try (cases h; done)
  case call c =>
    obtain ⟨callee, cargs, cts⟩ := c
    cases callee with
    | value f => rfl
    | invoke r m => rfl
    | builtin b => cases b <;> simp_all

/-! ### names -/
def hid (bs : Vw) (nx j k : Nat) : Bool := (Nat.ble nx k && !bs.bit j ((k - nx) / 8)) || bs.hides nx j k

theorem viewOf_eq (bs : Vw) (nx j : Nat) (h : Heap) (k : Nat) : viewOf bs nx j h k = if hid bs nx j k = true then none else h k := by
  unfold viewOf hid
  cases ((Nat.ble nx k && !bs.bit j ((k - nx) / 8)) || bs.hides nx j k) <;> rfl

/-- What an operation with a promise sees is hidden from who is not ordered with it. -/
theorem hid_promise {bs : Vw} {nx i j k : Nat} (hp : bs.has i = true) (hi : hid bs nx i k = false) (hne : i ≠ j) (h1 : bs.bit j i = false) (h2 : bs.bit i j = false) : hid bs nx j k = true := by
  unfold Vw.has at hp
  obtain ⟨p, hm, hpi⟩ := List.any_eq_true.1 hp
  have hpi := Nat.eq_of_beq_eq_true hpi
  unfold hid at hi ⊢
  rw [Bool.or_eq_false_iff] at hi
  have hk := hi.2
  unfold Vw.hides at hk
  have hk := List.any_eq_false.1 hk p hm
  rw [hpi, Nat.beq_refl, cond_true] at hk
  have hk : inL k (p.2 nx) = true := by simpa using hk
  rw [Bool.or_eq_true]
  right
  unfold Vw.hides
  refine List.any_eq_true.2 ⟨p, hm, ?_⟩
  rw [hpi, beq_false hne, cond_false, h1, h2, hk]
  rfl

def own8 (base k : Nat) : Prop := base ≤ k ∧ k < base + 8

theorem hid_own {bs : Vw} {nx i j k : Nat} (hk : own8 (nx + 8 * i) k) (hb : bs.bit j i = false) : hid bs nx j k = true := by
  unfold hid
  have h1 : nx ≤ k := by have := hk.1; omega
  have h2 : (k - nx) / 8 = i := by have := hk.1; have := hk.2; omega
  rw [h2, hb, Nat.ble_eq_true_of_le h1]
  simp

theorem updOk_names {w : Bool} {h h0 : Heap} {base : Nat} : ∀ {u : List (Nat × Blk)}, updOk w h h0 base u = true → ∀ k, inNames k u = true → (∃ b0, h k = some b0 ∧ w = true ∧ b0.rw = true ∧ b0.dead = false ∧ b0.lock = false) ∨ (h k = none ∧ own8 base k ∧ h0 k = none)
  | [], _, k, hk => by simp [inNames] at hk
  | (k', b) :: rest, hu, k, hk => by
    simp only [updOk, Bool.and_eq_true] at hu
    simp only [inNames, Bool.or_eq_true] at hk
    rcases hk with hk | hk
    · have e : k = k' := Nat.eq_of_beq_eq_true hk
      subst e
      cases hh : h k with
      | some b0 =>
        rw [hh] at hu
        simp only [Bool.and_eq_true, Bool.not_eq_true'] at hu
        exact .inl ⟨b0, rfl, hu.1.1.1.1, hu.1.1.1.2, hu.1.1.2, hu.1.2⟩
      | none =>
        rw [hh] at hu
        simp only [Bool.and_eq_true] at hu
        refine .inr ⟨rfl, ⟨Nat.le_of_ble_eq_true hu.1.1.1, ?_⟩, by simpa using hu.1.2⟩
        have := hu.1.1.2
        simp [Nat.blt] at this
        omega
    · exact updOk_names hu.2 k hk

theorem updOk_congr {w : Bool} {h h' h0 h0' : Heap} {base : Nat} : ∀ {u : List (Nat × Blk)}, (∀ k, inNames k u = true → own8 base k → h0' k = h0 k) →
    (∀ k, inNames k u = true → (h' k = h k) ∨ (w = false ∧ (h' k).isSome = (h k).isSome)) → updOk w h' h0' base u = updOk w h h0 base u
  | [], _, _ => rfl
  | (k', b) :: rest, hh0, hh => by
    simp only [updOk]
    rw [updOk_congr (u := rest) (fun k hk => hh0 k (by simp [inNames, hk])) (fun k hk => hh k (by simp [inNames, hk]))]
    congr 1
    have h2 : (match h k' with | some b0 => w && b0.rw && !b0.dead && !b0.lock | none => Nat.ble base k' && Nat.blt k' (base + 8) && (h0' k').isNone) =
        (match h k' with | some b0 => w && b0.rw && !b0.dead && !b0.lock | none => Nat.ble base k' && Nat.blt k' (base + 8) && (h0 k').isNone) := by
      cases h k' with
      | some b0 => rfl
      | none =>
        simp only
        cases hr : (Nat.ble base k' && Nat.blt k' (base + 8)) with
        | false => simp
        | true =>
          rw [Bool.and_eq_true] at hr
          rw [hh0 k' (by simp [inNames]) ⟨Nat.le_of_ble_eq_true hr.1, by have := hr.2; simp [Nat.blt] at this; omega⟩]
    refine Eq.trans ?_ h2
    rcases hh k' (by simp [inNames]) with h1 | ⟨rfl, h1⟩
    · rw [h1]; cases h k' <;> rfl
    · cases e1 : h k' <;> cases e2 : h' k' <;> simp_all

theorem happ_comm {h : Heap} {u v : List (Nat × Blk)} (hd : ∀ k, inNames k u = true → inNames k v = true → False) : happ (happ h u) v = happ (happ h v) u := by
  funext k
  cases hu : inNames k u with
  | true =>
    have hv : inNames k v = false := by
      cases hv : inNames k v with
      | false => rfl
      | true => exact (hd k hu hv).elim
    rw [happ_other v _ hv, happ_same u h (happ h v) hu]
  | false =>
    rw [happ_other u _ hu]
    cases hv : inNames k v with
    | true => rw [happ_same v (happ h u) h hv]
    | false => rw [happ_other v _ hv, happ_other v _ hv, happ_other u _ hu]

/-! ### two operations, either first -/
structure Free (P : Program) (Γ : Ctrs) (ops : Array Oper) (bs : Vw) (i j : Nat) (oi oj : Oper) : Prop where
  ne : i ≠ j
  seesNot : ∀ d, oi.dst = some d → d ∉ oj.looksAt ops
  dstNe : ∀ d, oi.dst = some d → oj.dst ≠ some d
  seesNot' : ∀ d, oj.dst = some d → d ∉ oi.looksAt ops
  wt : writerOp Γ oi = true ∧ touchOp P oj = true → bs.has i = true
  tw : touchOp P oi = true ∧ writerOp Γ oj = true → bs.has j = true
  nij : bs.bit j i = false
  nji : bs.bit i j = false

theorem Free.symm {P : Program} {Γ : Ctrs} {ops : Array Oper} {bs : Vw} {i j : Nat} {oi oj : Oper} (h : Free P Γ ops bs i j oi oj) : Free P Γ ops bs j i oj oi :=
  ⟨h.ne.symm, h.seesNot', fun d hd he => h.dstNe d he hd, h.seesNot, fun ⟨a, b⟩ => h.tw ⟨b, a⟩, fun ⟨a, b⟩ => h.wt ⟨b, a⟩, h.nji, h.nij⟩

section
variable {P : Program} {Γ : Ctrs} {ops : Array Oper} {bs : Vw} {i j : Nat} {oi oj : Oper}

/-- Where oi's writes lie. -/
theorem Free.where (s : St) {u : List (Nat × Blk)} (hu : updOk (writerOp Γ oi) (viewOf bs s.nx i s.heap) s.heap (s.nx + 8 * i) u = true) (k : Nat) (hk : inNames k u = true) :
    (writerOp Γ oi = true ∧ hid bs s.nx i k = false ∧ s.heap k ≠ none) ∨ (own8 (s.nx + 8 * i) k ∧ s.heap k = none) := by
  rcases updOk_names hu k hk with ⟨b0, h1, h2, _, _⟩ | ⟨_, h2, h3⟩
  · rw [viewOf_eq] at h1
    split at h1
    · cases h1
    · rename_i hh
      exact .inl ⟨h2, by simpa using hh, by rw [h1]; simp⟩
  · exact .inr ⟨h2, h3⟩

theorem Free.act (hf : Free P Γ ops bs i j oi oj) (s : St) {x : SV} {u : List (Nat × Blk)} (hu : updOk (writerOp Γ oi) (viewOf bs s.nx i s.heap) s.heap (s.nx + 8 * i) u = true) :
    actOf P Γ ops.toList bs j oj (apS s oi x u) = actOf P Γ ops.toList bs j oj s := by
  -- the operation itself
  have hop : opS P Γ oj (apS s oi x u).eval (viewOf bs (apS s oi x u).nx j (apS s oi x u).heap) ((apS s oi x u).nx + 8 * j) = opS P Γ oj s.eval (viewOf bs s.nx j s.heap) (s.nx + 8 * j) := by
    have hnx : (apS s oi x u).nx = s.nx := by unfold apS St.put; cases oi.dst <;> rfl
    rw [hnx]
    have h1 : opS P Γ oj (apS s oi x u).eval (viewOf bs s.nx j (apS s oi x u).heap) (s.nx + 8 * j) = opS P Γ oj s.eval (viewOf bs s.nx j (apS s oi x u).heap) (s.nx + 8 * j) := by
      refine opS_congr fun y hy => ?_
      show (s.put oi.dst x).eval y = s.eval y
      refine eval_put fun t ht e => ?_
      refine hf.seesNot t ht ?_
      subst e
      exact List.mem_append_left _ (List.mem_filterMap.2 ⟨.tmp t, by simpa using hy, rfl⟩)
    rw [h1]
    cases ht : touchOp P oj with
    | false => exact opS_heap ht
    | true =>
      have : viewOf bs s.nx j (apS s oi x u).heap = viewOf bs s.nx j s.heap := by
        funext k
        rw [viewOf_eq, viewOf_eq]
        by_cases hh : hid bs s.nx j k = true
        · simp [hh]
        · rw [if_neg hh, if_neg hh]
          show happ s.heap u k = s.heap k
          refine happ_other u _ ?_
          cases hi : inNames k u with
          | false => rfl
          | true =>
            rcases Free.where s hu k hi with ⟨h2, h3, _⟩ | ⟨h2, _⟩
            · exact (hh (hid_promise (hf.wt ⟨h2, ht⟩) h3 hf.ne hf.nij hf.nji)).elim
            · exact (hh (hid_own h2 hf.nij)).elim
      rw [this]
  unfold actOf
  cases hg : oj.guard with
  | none => exact hop
  | some gw =>
    obtain ⟨g, want⟩ := gw
    simp only
    cases hd : (ops.toList[g]?).bind (·.dst) with
    | none => rfl
    | some t =>
      simp only
      have ht : (apS s oi x u).tmps.getD t .unk = s.tmps.getD t .unk := by
        have hne : ∀ d, oi.dst = some d → d ≠ t := fun d hd' e => hf.seesNot d hd' (by
          subst e
          unfold Oper.looksAt
          rw [hg]
          refine List.mem_append_right _ ?_
          have : (ops[g]?).bind (·.dst) = some d := by rw [← hd]; simp
          simp [this])
        show (s.put oi.dst x).tmps.getD t .unk = _
        cases hdd : oi.dst with
        | none => rfl
        | some d => simp [St.put, List.getD, hne d hdd]
      rw [ht]
      split
      · rw [hop]
      · rfl
      · rfl

theorem Free.upd (hf : Free P Γ ops bs i j oi oj) (s : St) {x : SV} {u v : List (Nat × Blk)} (hu : updOk (writerOp Γ oi) (viewOf bs s.nx i s.heap) s.heap (s.nx + 8 * i) u = true) :
    updOk (writerOp Γ oj) (viewOf bs (apS s oi x u).nx j (apS s oi x u).heap) (apS s oi x u).heap ((apS s oi x u).nx + 8 * j) v = updOk (writerOp Γ oj) (viewOf bs s.nx j s.heap) s.heap (s.nx + 8 * j) v := by
  have hnx : (apS s oi x u).nx = s.nx := by unfold apS St.put; cases oi.dst <;> rfl
  rw [hnx]
  refine updOk_congr (fun k _ hk => ?_) (fun k _ => ?_)
  · show happ s.heap u k = s.heap k
    refine happ_other u _ ?_
    cases hi : inNames k u with
    | false => rfl
    | true =>
      rcases Free.where s hu k hi with ⟨_, h2, _⟩ | ⟨h2, _⟩
      · rw [hid_own hk hf.nji] at h2; cases h2
      · exfalso
        obtain ⟨a1, a2⟩ := h2
        obtain ⟨a3, a4⟩ := hk
        have := hf.ne
        omega
  · rw [viewOf_eq, viewOf_eq]
    by_cases hh : hid bs s.nx j k = true
    · rw [if_pos hh, if_pos hh]; exact .inl rfl
    · rw [if_neg hh, if_neg hh]
      show happ s.heap u k = s.heap k ∨ _
      cases hi : inNames k u with
      | false => exact .inl (happ_other u _ hi)
      | true =>
        rcases Free.where s hu k hi with ⟨h2, h4, h3⟩ | ⟨h2, _⟩
        · right
          have hwj : writerOp Γ oj = false := by
            cases hw : writerOp Γ oj with
            | false => rfl
            | true => exact (hh (hid_promise (hf.wt ⟨h2, writer_touches hw⟩) h4 hf.ne hf.nij hf.nji)).elim
          refine ⟨hwj, ?_⟩
          have : happ s.heap u k ≠ none := happ_ne u s.heap hi
          show (happ s.heap u k).isSome = (s.heap k).isSome
          cases e1 : happ s.heap u k <;> cases e2 : s.heap k <;> simp_all
        · exact (hh (hid_own h2 hf.nij)).elim

theorem Free.comm (hf : Free P Γ ops bs i j oi oj) (s : St) {x y : SV} {u v : List (Nat × Blk)} (hu : updOk (writerOp Γ oi) (viewOf bs s.nx i s.heap) s.heap (s.nx + 8 * i) u = true)
    (hv : updOk (writerOp Γ oj) (viewOf bs s.nx j s.heap) s.heap (s.nx + 8 * j) v = true) : apS (apS s oi x u) oj y v = apS (apS s oj y v) oi x u := by
  have hd : ∀ k, inNames k u = true → inNames k v = true → False := fun k h1 h2 => by
    rcases Free.where s hu k h1 with ⟨a1, a2, _⟩ | ⟨a1, _⟩ <;> rcases Free.where s hv k h2 with ⟨b1, b2, _⟩ | ⟨b1, _⟩
    · rw [hid_promise (hf.wt ⟨a1, writer_touches b1⟩) a2 hf.ne hf.nij hf.nji] at b2; cases b2
    · rw [hid_own b1 hf.nji] at a2; cases a2
    · rw [hid_own a1 hf.nij] at b2; cases b2
    · obtain ⟨a3, a4⟩ := a1
      obtain ⟨b3, b4⟩ := b1
      have := hf.ne
      omega
  have h1 : happ (happ s.heap u) v = happ (happ s.heap v) u := happ_comm hd
  have h2 : (s.tmps) = s.tmps := rfl
  unfold apS St.put
  cases hi : oi.dst with
  | none => cases hj : oj.dst <;> simp only [h1]
  | some d =>
    cases hj : oj.dst with
    | none => simp only [h1]
    | some d' =>
      have hne : d ≠ d' := fun e => hf.dstNe d hi (by rw [hj, e])
      simp only [h1]
      rw [List.set_comm _ _ hne]

theorem step_comm (hf : Free P Γ ops bs i j oi oj) {s : St} {K : St → Prop} (h : stepN P Γ ops.toList bs i oi s fun s1 => stepN P Γ ops.toList bs j oj s1 K) :
    stepN P Γ ops.toList bs j oj s fun s2 => stepN P Γ ops.toList bs i oi s2 K := by
  unfold stepN at h
  cases hi : actOf P Γ ops.toList bs i oi s with
  | none => rw [hi] at h; exact h.elim
  | some ei =>
    rw [hi] at h
    simp only at h
    -- what oj does
    obtain ⟨x0, u0, ho0⟩ := ei.some_out
    have h0 := Eff.bind_out h ho0
    rw [hf.act s h0.1] at h0
    cases hj : actOf P Γ ops.toList bs j oj s with
    | none => rw [hj] at h0; exact h0.2.elim
    | some ej =>
      rw [hj] at h0
      unfold stepN
      rw [hj]
      simp only
      refine Eff.bind_of (Eff.bind_asks h0.2) fun y v hov => ?_
      have hv : updOk (writerOp Γ oj) (viewOf bs s.nx j s.heap) s.heap (s.nx + 8 * j) v = true := by
        have := (Eff.bind_out h0.2 hov).1
        rwa [hf.upd s h0.1] at this
      refine ⟨hv, ?_⟩
      rw [hf.symm.act s hv, hi]
      simp only
      refine Eff.bind_of (Eff.bind_asks h) fun x u hou => ?_
      have hxu := Eff.bind_out h hou
      refine ⟨by rw [hf.symm.upd s hv]; exact hxu.1, ?_⟩
      have hin := hxu.2
      rw [hf.act s hxu.1, hj] at hin
      have := (Eff.bind_out hin hov).2
      rwa [hf.comm s hxu.1 hv] at this

theorem stopS_congr {Γ : Ctrs} {o : Oper} {ρ ρ' : Operand → SV} {h : Heap} (hh : ∀ x ∈ o.op.operands, ρ x = ρ' x) : stopS Γ o ρ h = stopS Γ o ρ' h := by
  obtain ⟨dst, op, ty, pos, after, guard⟩ := o
  cases op <;> simp only [stopS]
  case call c =>
    obtain ⟨callee, cargs, cts⟩ := c
    simp only [Op.operands] at hh
    have ha : cargs.toList.map ρ = cargs.toList.map ρ' := List.map_congr_left fun x hx => hh x (by simp only [Call.operands, Array.mem_append]; exact .inr (by simpa using hx))
    cases callee with
    | value f => cases f <;> simp only [ha]
    | invoke r m => rfl
    | builtin b => rfl

theorem stopS_heap {P : Program} {Γ : Ctrs} {o : Oper} {ρ : Operand → SV} {h h' : Heap} (ht : touchOp P o = false) : stopS Γ o ρ h = stopS Γ o ρ h' := by
  obtain ⟨dst, op, ty, pos, after, guard⟩ := o
  cases op <;> simp only [stopS]
  case call c =>
    obtain ⟨callee, cargs, cts⟩ := c
    cases callee with
    | value f => simp [touchOp] at ht
    | invoke r m => rfl
    | builtin b => rfl

theorem Free.view (hf : Free P Γ ops bs i j oi oj) (s : St) {x : SV} {u : List (Nat × Blk)} (hu : updOk (writerOp Γ oi) (viewOf bs s.nx i s.heap) s.heap (s.nx + 8 * i) u = true) (ht : touchOp P oj = true) :
    viewOf bs s.nx j (apS s oi x u).heap = viewOf bs s.nx j s.heap := by
  funext k
  rw [viewOf_eq, viewOf_eq]
  by_cases hh : hid bs s.nx j k = true
  · simp [hh]
  · rw [if_neg hh, if_neg hh]
    show happ s.heap u k = s.heap k
    refine happ_other u _ ?_
    cases hi : inNames k u with
    | false => rfl
    | true =>
      rcases Free.where s hu k hi with ⟨h2, h3, _⟩ | ⟨h2, _⟩
      · exact (hh (hid_promise (hf.wt ⟨h2, ht⟩) h3 hf.ne hf.nij hf.nji)).elim
      · exact (hh (hid_own h2 hf.nij)).elim

/-- Whether oj panics does not hang on oi. -/
theorem Free.stop (hf : Free P Γ ops bs i j oi oj) (s : St) {x : SV} {u : List (Nat × Blk)} (hu : updOk (writerOp Γ oi) (viewOf bs s.nx i s.heap) s.heap (s.nx + 8 * i) u = true) :
    stopA Γ ops.toList bs j oj (apS s oi x u) = stopA Γ ops.toList bs j oj s := by
  have hnx : (apS s oi x u).nx = s.nx := by unfold apS St.put; cases oi.dst <;> rfl
  have hop : stopS Γ oj (apS s oi x u).eval (viewOf bs (apS s oi x u).nx j (apS s oi x u).heap) = stopS Γ oj s.eval (viewOf bs s.nx j s.heap) := by
    rw [hnx]
    have h1 : stopS Γ oj (apS s oi x u).eval (viewOf bs s.nx j (apS s oi x u).heap) = stopS Γ oj s.eval (viewOf bs s.nx j (apS s oi x u).heap) := by
      refine stopS_congr fun y hy => ?_
      show (s.put oi.dst x).eval y = s.eval y
      refine eval_put fun t ht e => ?_
      refine hf.seesNot t ht ?_
      subst e
      exact List.mem_append_left _ (List.mem_filterMap.2 ⟨.tmp t, by simpa using hy, rfl⟩)
    rw [h1]
    cases ht : touchOp P oj with
    | false => exact stopS_heap ht
    | true => rw [hf.view s hu ht]
  unfold stopA
  cases hg : oj.guard with
  | none => exact hop
  | some gw =>
    obtain ⟨g, want⟩ := gw
    simp only
    cases hd : (ops.toList[g]?).bind (·.dst) with
    | none => rfl
    | some t =>
      simp only
      have ht : (apS s oi x u).tmps.getD t .unk = s.tmps.getD t .unk := by
        have hne : ∀ d, oi.dst = some d → d ≠ t := fun d hd' e => hf.seesNot d hd' (by
          subst e
          unfold Oper.looksAt
          rw [hg]
          refine List.mem_append_right _ ?_
          have : (ops[g]?).bind (·.dst) = some d := by rw [← hd]; simp
          simp [this])
        show (s.put oi.dst x).tmps.getD t .unk = _
        cases hdd : oi.dst with
        | none => rfl
        | some d => simp [St.put, List.getD, hne d hdd]
      rw [ht, hop]
end
end Go.SE
