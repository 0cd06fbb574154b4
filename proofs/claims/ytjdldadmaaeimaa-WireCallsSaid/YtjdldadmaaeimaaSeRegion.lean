/-
  The symbolic executor's regions, on: every order; and the real run.
-/
import Derived.Test.YtjdldadmaaeimaaSeOrder
namespace Go.SE
section
variable {P : Program} {Γ : Ctrs} {ops : Array Oper} {bs : Vw} {pr : List (Nat × (Nat → List Nat))} {K : St → Prop}

def stepI (P : Program) (Γ : Ctrs) (ops : Array Oper) (bs : Vw) (KP : SV → Heap → Prop) (i : Nat) (s : St) (K : St → Prop) : Prop :=
  match ops[i]? with
  | none => K s
  | some o => stepA P Γ ops.toList bs true KP i o s K

def vcAny (P : Program) (Γ : Ctrs) (ops : Array Oper) (bs : Vw) (KP : SV → Heap → Prop) (K : St → Prop) : Nat → Array Bool → St → Prop
  | 0, listed, s => Region.ready .any ops listed = [] ∧ K s
  | fuel + 1, listed, s => (Region.ready .any ops listed = [] → K s) ∧ ∀ i ∈ Region.ready .any ops listed, stepI P Γ ops bs KP i s (vcAny P Γ ops bs KP K fuel (listed.setIfInBounds i true))

theorem stepI_mono {KP : SV → Heap → Prop} {i : Nat} {s : St} {K K' : St → Prop} (hk : ∀ s, K s → K' s) (h : stepI P Γ ops bs KP i s K) : stepI P Γ ops bs KP i s K' := by
  unfold stepI at *
  split
  · rename_i h0; rw [h0] at h; exact hk _ h
  · rename_i o h0; rw [h0] at h; exact stepA_mono hk h

/-! ### operations that do nothing but reckon -/
theorem inL_mem {k : Nat} : ∀ {l : List Nat}, inL k l = true ↔ k ∈ l
  | [] => by simp [inL]
  | x :: xs => by
    simp only [inL, Bool.or_eq_true, inL_mem (l := xs), List.mem_cons]
    constructor
    · rintro (h | h)
      · exact .inl (Nat.eq_of_beq_eq_true h).symm
      · exact .inr h
    · rintro (h | h)
      · exact .inl (by rw [h]; exact Nat.beq_refl _)
      · exact .inr h

theorem dstsOf_mem {o : Oper} {t : Nat} (ht : o.dst = some t) : ∀ {l : List Oper}, o ∈ l → t ∈ dstsOf l
  | [], h => by cases h
  | x :: l, h => by
    rcases List.mem_cons.1 h with rfl | h
    · simp [dstsOf, ht]
    · have := dstsOf_mem ht h
      unfold dstsOf
      split
      · exact List.mem_cons_of_mem _ this
      · exact this

theorem quietL_op {o : Oper} {l : List Nat} {s : St} {d : Option Tmp} {x : SV} {h : Heap} {base : Nat} (hq : quietL l o = true) (hd : ∀ t, d = some t → t ∈ l) : o.guard = none ∧ opS P Γ o (s.put d x).eval h base = opS P Γ o s.eval h base := by
  obtain ⟨dst, op, ty, pos, after, guard⟩ := o
  have out : ∀ t, inL t l = false → ∀ t', d = some t' → (.tmp t : Operand) ≠ .tmp t' := fun t ht t' ht' e => by
    cases e
    rw [inL_mem.2 (hd _ ht')] at ht; cases ht
  cases guard with
  | some g => cases hq
  | none =>
    refine ⟨rfl, ?_⟩
    cases op with
    | fieldAddr t y f =>
      cases y with
      | tmp t =>
        refine opS_congr fun y hy => ?_
        simp [Op.operands] at hy
        subst hy
        simp only [quietL, Bool.not_eq_true'] at hq
        exact eval_put fun t' ht' => out _ hq t' ht'
      | _ => cases hq
    | move y =>
      cases y with
      | tmp t =>
        refine opS_congr fun y hy => ?_
        simp [Op.operands] at hy
        subst hy
        simp only [quietL, Bool.not_eq_true'] at hq
        exact eval_put fun t' ht' => out _ hq t' ht'
      | const v =>
        refine opS_congr fun y hy => ?_
        simp [Op.operands] at hy
        subst hy
        exact eval_put fun t' _ e => by cases e
      | _ => cases hq
    | _ => cases hq

theorem quietE_op {o : Oper} {ρ : Operand → SV} {h : Heap} {base : Nat} {e : Eff} (hq : quietE o = true) (he : opS P Γ o ρ h base = some e) : o.guard = none ∧ ∃ x, e = .det none x [] := by
  obtain ⟨dst, op, ty, pos, after, guard⟩ := o
  unfold quietE at hq
  simp only at hq
  split at hq
  · refine ⟨rfl, ?_⟩
    simp only [opS] at he
    split at he <;> try (cases he; done)
    split at he <;> try (cases he; done)
    split at he <;> try (cases he; done)
    rename_i m r _ _
    cases hb : Nat.beq m 0 with
    | true => rw [hb] at he; cases he
    | false => rw [hb] at he; cases he; exact ⟨_, rfl⟩
  · refine ⟨rfl, ?_⟩
    simp only [opS] at he
    cases he; exact ⟨_, rfl⟩
  · refine ⟨rfl, ?_⟩
    simp only [opS] at he
    split at he <;> try (cases he; done)
    cases he; exact ⟨_, rfl⟩
  · refine ⟨rfl, ?_⟩
    simp only [opS] at he
    split at he <;> try (cases he; done)
    all_goals (cases he; exact ⟨_, rfl⟩)
  · cases hq

theorem mayStop_no {o : Oper} {i : Nat} {l : List Oper} {s : St} (h : mayStop Γ o = false) : stopA Γ l bs i o s = false := by
  have h0 : ∀ ρ h', stopS Γ o ρ h' = false := fun ρ h' => by
    obtain ⟨dst, op, ty, pos, after, guard⟩ := o
    cases op <;> simp only [stopS] <;> simp only [mayStop] at h <;> try (cases h; done)
    case call c =>
      obtain ⟨callee, cargs, cts⟩ := c
      cases callee with
      | value f =>
        cases f with
        | func f =>
          simp only at h ⊢
          cases hg : Γ f with
          | none => rfl
          | some g => rw [hg] at h; simp only at h ⊢; rw [h]; rfl
        | _ => rfl
      | _ => rfl
  unfold stopA
  cases o.guard with
  | none => exact h0 _ _
  | some gw =>
    obtain ⟨g, want⟩ := gw
    simp only
    split
    · rfl
    · split
      · split
        · exact h0 _ _
        · rfl
      · rfl

theorem later_put {i : Nat} {s : St} {d : Option Tmp} {x : SV} (hd : ∀ t, d = some t → t ∈ dstsOf ops.toList) (hq : ∀ (k : Nat) o, ops.toList[k]? = some o → i < k → bs.bit k i = false → quietL (dstsOf ops.toList) o = true) : ∀ (l : List Oper) (k : Nat), (∀ (j : Nat), l[j]? = ops.toList[k + j]?) → laterOk P Γ bs i (s.put d x) l k = laterOk P Γ bs i s l k
  | [], _, _ => rfl
  | o :: l, k, hl => by
    have h0 : ops.toList[k]? = some o := (hl 0).symm
    have ih := later_put (s := s) (x := x) hd hq l (k + 1) fun j => by have := hl (j + 1); simpa [Nat.add_assoc, Nat.add_comm 1 j] using this
    simp only [laterOk, ih]
    have hh : (s.put d x).heap = s.heap := by unfold St.put; cases d <;> rfl
    have hn : (s.put d x).nx = s.nx := by unfold St.put; cases d <;> rfl
    rw [hh, hn]
    cases hk : (Nat.ble k i || bs.bit k i) with
    | true => simp
    | false =>
      rw [Bool.or_eq_false_iff] at hk
      have hik : i < k := Nat.lt_of_not_le fun h => by rw [Nat.ble_eq_true_of_le h] at hk; cases hk.1
      obtain ⟨q1, q2⟩ := quietL_op (P := P) (Γ := Γ) (s := s) (x := x) (h := viewOf bs s.nx k s.heap) (base := s.nx + 8 * k) (hq k o h0 hik hk.2) hd
      rw [q2]

theorem later_at {i : Nat} {s : St} : ∀ (l : List Oper) (k : Nat), laterOk P Γ bs i s l k = true → ∀ (j : Nat) o, l[j]? = some o → i < k + j → bs.bit (k + j) i = false → o.guard = none ∧ ∃ x, opS P Γ o s.eval (viewOf bs s.nx (k + j) s.heap) (s.nx + 8 * (k + j)) = some (.det none x [])
  | [], _, _, j, o, ho, _, _ => by simp at ho
  | o' :: l, k, h, j, o, ho, hlt, hb => by
    simp only [laterOk, Bool.and_eq_true, Bool.or_eq_true] at h
    match j, ho with
    | 0, ho =>
      simp at ho
      subst ho
      rw [Nat.add_zero] at hlt hb ⊢
      rcases h.1 with (h1 | h1) | h1
      · have := Nat.le_of_ble_eq_true h1; omega
      · rw [hb] at h1; cases h1
      · split at h1
        · rename_i x hg hx
          exact ⟨hg, x, hx⟩
        · cases h1
    | j + 1, ho =>
      simp at ho
      have := later_at l (k + 1) h.2 j o ho (by omega) (by rw [show k + 1 + j = k + (j + 1) by omega]; exact hb)
      rw [show k + 1 + j = k + (j + 1) by omega] at this
      exact this

theorem stopsFrom_spec {j : Nat} {oj : Oper} : ∀ {l : List Oper} {k : Nat}, stopsFrom Γ ops bs j oj l k = true → ∀ (q : Nat) o, l[q]? = some o → k + q < j → bs.bit j (k + q) = false → (mayStop Γ oj = true → mayStop Γ o = false ∧ quietE o = true) ∧ (mayStop Γ o = true → quietL (dstsOf ops.toList) oj = true)
  | [], _, _, q, o, h, _, _ => by simp at h
  | o :: l, k, hp, q, o', ho, hlt, hn => by
    simp only [stopsFrom, Bool.and_eq_true, Bool.or_eq_true] at hp
    match q, ho with
    | 0, ho =>
      simp at ho
      subst ho
      rcases hp.1 with (h1 | h1) | h1
      · have := Nat.le_of_ble_eq_true h1; omega
      · rw [Nat.add_zero] at hn; rw [hn] at h1; cases h1
      · refine ⟨fun hm => ?_, fun hm => ?_⟩
        · have := h1.1
          rw [hm, cond_true] at this
          simpa using this
        · have := h1.2
          rw [hm, cond_true] at this
          exact this
    | q + 1, ho =>
      simp at ho
      have := stopsFrom_spec hp.2 q o' ho (by omega) (by rw [show k + 1 + q = k + (q + 1) by omega]; exact hn)
      exact this

theorem stopsAll_spec : ∀ {l : List Oper} {k : Nat}, stopsAll Γ ops bs l k = true → ∀ (q : Nat) o, l[q]? = some o → stopsFrom Γ ops bs (k + q) o ops.toList 0 = true
  | [], _, _, q, o, h => by simp at h
  | o :: l, k, hp, q, o', ho => by
    simp only [stopsAll, Bool.and_eq_true] at hp
    match q, ho with
    | 0, ho => simp at ho; subst ho; exact hp.1
    | q + 1, ho =>
      simp at ho
      have := stopsAll_spec hp.2 q o' ho
      rw [show k + 1 + q = k + (q + 1) by omega] at this
      exact this

/-! ### what comes before what -/
theorem testBit_beforeOf {acc : List Nat} {i : Nat} : ∀ {es : List Edge}, (beforeOf acc es).testBit i = true → ∃ e ∈ es, Region.binds .any e = true ∧ (e.on = i ∨ (acc.getD e.on 0).testBit i = true)
  | [], h => by simp [beforeOf] at h
  | e :: es, h => by
    simp only [beforeOf] at h
    cases hb : Region.binds .any e with
    | false =>
      rw [hb] at h
      obtain ⟨e', h1, h2, h3⟩ := testBit_beforeOf h
      exact ⟨e', List.mem_cons_of_mem _ h1, h2, h3⟩
    | true =>
      rw [hb] at h
      simp only [Nat.testBit_or, Bool.or_eq_true, Nat.testBit_two_pow, decide_eq_true_eq] at h
      rcases h with (h | h) | h
      · exact ⟨e, List.mem_cons_self, hb, .inl h⟩
      · exact ⟨e, List.mem_cons_self, hb, .inr h⟩
      · obtain ⟨e', h1, h2, h3⟩ := testBit_beforeOf h
        exact ⟨e', List.mem_cons_of_mem _ h1, h2, h3⟩

theorem beforeL_spec : ∀ (l : List Oper) (acc : List Nat), (∀ q, q < acc.length → (beforeL l acc)[q]? = acc[q]?) ∧
    ∀ (q : Nat) o, l[q]? = some o → ∃ acc', acc'.length = acc.length + q ∧ (∀ p, p < acc.length + q → acc'[p]? = (beforeL l acc)[p]?) ∧ (beforeL l acc)[acc.length + q]? = some (beforeOf acc' o.after.toList)
  | [], acc => ⟨fun q _ => rfl, fun q o h => by simp at h⟩
  | o :: l, acc => by
    obtain ⟨h1, h2⟩ := beforeL_spec l (acc ++ [beforeOf acc o.after.toList])
    simp only [beforeL]
    refine ⟨fun q hq => ?_, fun q o' ho => ?_⟩
    · rw [h1 q (by simp; omega), List.getElem?_append_left hq]
    · match q, ho with
      | 0, ho =>
        simp at ho
        subst ho
        refine ⟨acc, rfl, fun p hp => ?_, ?_⟩
        · rw [h1 p (by simp; omega), List.getElem?_append_left (by omega)]
        · rw [h1 _ (by simp)]
          simp
      | q + 1, ho =>
        simp at ho
        obtain ⟨acc', g1, g2, g3⟩ := h2 q o' ho
        simp only [List.length_append, List.length_singleton] at g1 g2 g3
        refine ⟨acc', by omega, fun p hp => g2 p (by omega), ?_⟩
        rw [show acc.length + (q + 1) = acc.length + 1 + q by omega]
        exact g3

theorem before_spec {j i : Nat} {o : Oper} (ho : ops.toList[j]? = some o) (hback : ∀ e ∈ o.after.toList, Region.binds .any e = true → e.on < j) (h : ((beforeL ops.toList []).getD j 0).testBit i = true) :
    ∃ e ∈ o.after.toList, Region.binds .any e = true ∧ (e.on = i ∨ ((beforeL ops.toList []).getD e.on 0).testBit i = true) := by
  obtain ⟨acc', h1, h2, h3⟩ := (beforeL_spec ops.toList []).2 j o ho
  simp only [List.length_nil, Nat.zero_add] at h1 h2 h3
  rw [List.getD, h3, Option.getD_some] at h
  obtain ⟨e, h4, h5, h6⟩ := testBit_beforeOf h
  refine ⟨e, h4, h5, h6.imp id fun h6 => ?_⟩
  rw [List.getD, h2 e.on (hback e h4 h5)] at h6
  exact h6

theorem backOk_spec : ∀ {l : List Oper} {k : Nat}, backOk l k = true → ∀ (q : Nat) o, l[q]? = some o → ∀ e ∈ o.after.toList, Region.binds .any e = true → e.on < k + q
  | [], _, _, q, o, h => by simp at h
  | o :: l, k, hb, q, o', ho => by
    simp only [backOk, Bool.and_eq_true] at hb
    match q, ho with
    | 0, ho =>
      simp at ho
      subst ho
      intro e he hbe
      have := List.all_eq_true.1 hb.1 e he
      rw [hbe] at this
      simp [Nat.blt] at this
      omega
    | q + 1, ho =>
      simp at ho
      intro e he hbe
      have := backOk_spec hb.2 q o' ho e he hbe
      omega

theorem pairsFrom_spec {j : Nat} {oj : Oper} : ∀ {l : List Oper} {k : Nat}, pairsFrom P Γ ops bs j oj l k = true → ∀ (q : Nat) o, l[q]? = some o → k + q < j → bs.bit j (k + q) = false → pairOk P Γ ops (bs.has (k + q)) (bs.has j) o oj = true
  | [], _, _, q, o, h, _, _ => by simp at h
  | o :: l, k, hp, q, o', ho, hlt, hn => by
    simp only [pairsFrom, Bool.and_eq_true, Bool.or_eq_true] at hp
    match q, ho with
    | 0, ho =>
      simp at ho
      subst ho
      rcases hp.1 with (h1 | h1) | h1
      · have := Nat.le_of_ble_eq_true h1; omega
      · rw [Nat.add_zero] at hn; rw [hn] at h1; cases h1
      · exact h1
    | q + 1, ho =>
      simp at ho
      have := pairsFrom_spec hp.2 q o' ho (by omega) (by rw [show k + 1 + q = k + (q + 1) by omega]; exact hn)
      rw [show k + 1 + q = k + (q + 1) by omega] at this
      exact this

theorem pairsAll_spec : ∀ {l : List Oper} {k : Nat}, pairsAll P Γ ops bs l k = true → ∀ (q : Nat) o, l[q]? = some o → pairsFrom P Γ ops bs (k + q) o ops.toList 0 = true
  | [], _, _, q, o, h => by simp at h
  | o :: l, k, hp, q, o', ho => by
    simp only [pairsAll, Bool.and_eq_true] at hp
    match q, ho with
    | 0, ho => simp at ho; subst ho; exact hp.1
    | q + 1, ho =>
      simp at ho
      have := pairsAll_spec hp.2 q o' ho
      rw [show k + 1 + q = k + (q + 1) by omega] at this
      exact this

/-- Listed operations come with all that comes before them. -/
def Closed (ops : Array Oper) (listed : Array Bool) : Prop :=
  ∀ j o, ops[j]? = some o → listed.getD j false = true → ∀ e ∈ o.after, Region.binds .any e = true → listed.getD e.on false = true

theorem closed_before (hback : ∀ (j : Nat) o, ops.toList[j]? = some o → ∀ e ∈ o.after.toList, Region.binds .any e = true → e.on < j) {listed : Array Bool} (hc : Closed ops listed) {i : Nat} :
    ∀ (p : Nat) o, ops[p]? = some o → (∀ e ∈ o.after, Region.binds .any e = true → listed.getD e.on false = true) → ((beforeL ops.toList []).getD p 0).testBit i = true → listed.getD i false = true := by
  intro p
  induction p using Nat.strongRecOn with
  | _ p ih =>
    intro o ho hl hb
    have ho' : ops.toList[p]? = some o := by simpa using ho
    obtain ⟨e, h1, h2, h3⟩ := before_spec ho' (hback p o ho') hb
    have h1' : e ∈ o.after := by simpa using h1
    rcases h3 with rfl | h3
    · exact hl e h1' h2
    · have hlt := hback p o ho' e h1 h2
      have hin : e.on < ops.size := by
        have := (Array.getElem?_eq_some_iff.1 ho).1
        omega
      exact ih e.on hlt ops[e.on] (by simp [hin]) (fun e' he' hb' => hc e.on _ (by simp [hin]) (hl e h1' h2) e' he' hb') h3

theorem closed_set {listed : Array Bool} (hc : Closed ops listed) {i : Nat} (hi : i ∈ Region.ready .any ops listed) : Closed ops (listed.setIfInBounds i true) := by
  obtain ⟨_, oi, hoi, hall⟩ := mem_ready.1 hi
  intro j o ho hl e he hb
  by_cases hij : i = j
  · subst hij
    have : o = oi := Option.some.inj (ho.symm.trans hoi)
    subst this
    exact getD_set_true (hall e he hb)
  · rw [getD_set_ne false hij] at hl
    exact getD_set_true (hc j o ho hl e he hb)

theorem ready_notBefore (hback : ∀ (j : Nat) o, ops.toList[j]? = some o → ∀ e ∈ o.after.toList, Region.binds .any e = true → e.on < j) {listed : Array Bool} (hc : Closed ops listed) {i j : Nat}
    (hi : i ∈ Region.ready .any ops listed) (hj : j ∈ Region.ready .any ops listed) : ((beforeL ops.toList []).getD j 0).testBit i = false := by
  cases hb : ((beforeL ops.toList []).getD j 0).testBit i with
  | false => rfl
  | true =>
    obtain ⟨_, oj, hoj, hall⟩ := mem_ready.1 hj
    have h1 := closed_before hback hc j oj hoj hall hb
    have h0 := (mem_ready.1 hi).1
    rcases Nat.lt_or_ge i listed.size with h' | h'
    · simp [h'] at h0 h1; rw [h0] at h1; cases h1
    · simp [Array.getElem?_eq_none h'] at h1

theorem free_of (hok : regionOk P Γ ops ⟨beforeL ops.toList [], pr⟩ = true) {listed : Array Bool} (hc : Closed ops listed) {i j : Nat} {oi oj : Oper} (hoi : ops[i]? = some oi) (hoj : ops[j]? = some oj)
    (hi : i ∈ Region.ready .any ops listed) (hj : j ∈ Region.ready .any ops listed) (hne : i ≠ j) : Free P Γ ops ⟨beforeL ops.toList [], pr⟩ i j oi oj := by
  simp only [regionOk, Bool.and_eq_true] at hok
  replace hok := hok.1
  have hback : ∀ (j : Nat) o, ops.toList[j]? = some o → ∀ e ∈ o.after.toList, Region.binds .any e = true → e.on < j := fun j o ho e he hb => by
    have := backOk_spec hok.1 j o ho e he hb
    omega
  have nij := ready_notBefore hback hc hi hj
  have nji := ready_notBefore hback hc hj hi
  have hoi' : ops.toList[i]? = some oi := by simpa using hoi
  have hoj' : ops.toList[j]? = some oj := by simpa using hoj
  have mk : ∀ {i j : Nat} {oi oj : Oper}, pairOk P Γ ops (Vw.has ⟨beforeL ops.toList [], pr⟩ i) (Vw.has ⟨beforeL ops.toList [], pr⟩ j) oi oj = true → i ≠ j → Vw.bit ⟨beforeL ops.toList [], pr⟩ j i = false → Vw.bit ⟨beforeL ops.toList [], pr⟩ i j = false → Free P Γ ops ⟨beforeL ops.toList [], pr⟩ i j oi oj := fun {i j oi oj} hp hne h1 h2 => by
    simp only [pairOk, Bool.and_eq_true, Bool.or_eq_true, Bool.not_eq_true', Bool.and_eq_false_iff] at hp
    obtain ⟨⟨a1, a2⟩, a3⟩ := hp
    obtain ⟨b1, b2, b3⟩ := Oper.apart_spec a1
    refine ⟨hne, b1, b2, b3, fun ⟨c1, c2⟩ => ?_, fun ⟨c1, c2⟩ => ?_, h1, h2⟩
    · rcases a2 with a2 | a2 | a2
      · exact a2
      · rw [c1] at a2; cases a2
      · rw [c2] at a2; cases a2
    · rcases a3 with a3 | a3 | a3
      · exact a3
      · rw [c1] at a3; cases a3
      · rw [c2] at a3; cases a3
  rcases Nat.lt_or_gt_of_ne hne with hlt | hgt
  · have h1 := pairsAll_spec hok.2 j oj hoj'
    rw [Nat.zero_add] at h1
    have h2 := pairsFrom_spec h1 i oi hoi' (by omega) (by rw [Nat.zero_add]; exact nij)
    rw [Nat.zero_add] at h2
    exact mk h2 hne nij nji
  · have h1 := pairsAll_spec hok.2 i oi hoi'
    rw [Nat.zero_add] at h1
    have h2 := pairsFrom_spec h1 j oj hoj' (by omega) (by rw [Nat.zero_add]; exact nji)
    rw [Nat.zero_add] at h2
    exact (mk h2 hne.symm nji nij).symm

theorem count_set {l : List Bool} {i : Nat} (h : l[i]? = some false) : (l.set i true).count false + 1 = l.count false := by
  induction l generalizing i with
  | nil => simp at h
  | cons a l ih =>
    cases i with
    | zero =>
      simp at h
      subst h
      simp
    | succ i =>
      simp at h
      have := ih h
      simp only [List.set_cons_succ, List.count_cons]
      omega

theorem ready_false {listed : Array Bool} {i : Nat} (h : i ∈ Region.ready .any ops listed) (hsz : listed.size = ops.size) : listed.toList[i]? = some false := by
  obtain ⟨h1, o, h2, _⟩ := mem_ready.1 h
  have hlt := (Array.getElem?_eq_some_iff.1 h2).1
  have hl : i < listed.size := by omega
  simp [hl] at h1 ⊢
  exact h1

theorem any_first {KP : SV → Heap → Prop} (hok : regionOk P Γ ops ⟨beforeL ops.toList [], pr⟩ = true) {i : Nat} {oi : Oper} (hoi : ops[i]? = some oi) : ∀ (fuel : Nat) (listed : Array Bool) (s : St), Closed ops listed → listed.size = ops.size → i ∈ Region.ready .any ops listed → (∀ m, m < i → listed.getD m false = true) → listed.toList.count false ≤ fuel + 1 →
    stepA P Γ ops.toList ⟨beforeL ops.toList [], pr⟩ true KP i oi s (vcAny P Γ ops ⟨beforeL ops.toList [], pr⟩ KP K fuel (listed.setIfInBounds i true)) → vcAny P Γ ops ⟨beforeL ops.toList [], pr⟩ KP K (fuel + 1) listed s := by
  have hok2 := hok
  simp only [regionOk, Bool.and_eq_true] at hok2
  have hst := hok2.2
  have hback : ∀ (j : Nat) o, ops.toList[j]? = some o → ∀ e ∈ o.after.toList, Region.binds .any e = true → e.on < j := fun j o ho e he hb => by
    have := backOk_spec hok2.1.1 j o ho e he hb
    omega
  have hoi' : ops.toList[i]? = some oi := by simpa using hoi
  have pair : ∀ (a b : Nat) oa ob, ops[a]? = some oa → ops[b]? = some ob → a < b → Vw.bit ⟨beforeL ops.toList [], pr⟩ b a = false → (mayStop Γ ob = true → mayStop Γ oa = false ∧ quietE oa = true) ∧ (mayStop Γ oa = true → quietL (dstsOf ops.toList) ob = true) := fun a b oa ob ha hb hlt hn => by
    have h1 := stopsAll_spec hst b ob (by simpa using hb)
    rw [Nat.zero_add] at h1
    exact stopsFrom_spec h1 a oa (by simpa using ha) (by omega) (by rw [Nat.zero_add]; exact hn)
  have dsts : ∀ {o : Oper} {k : Nat}, ops[k]? = some o → ∀ t, o.dst = some t → t ∈ dstsOf ops.toList := fun {o k} ho t ht => dstsOf_mem ht (by simpa using Array.mem_of_getElem? ho)
  intro fuel
  induction fuel with
  | zero =>
    intro listed s hc hsz hr hlow hcnt H
    refine ⟨fun h => (by rw [h] at hr; cases hr), fun j hj => ?_⟩
    by_cases hji : j = i
    · subst hji
      unfold stepI
      rw [hoi]
      exact H
    · exfalso
      have h1 := count_set (ready_false hr hsz)
      have h2 : (listed.toList.set i true)[j]? = some false := by
        rw [List.getElem?_set_ne (Ne.symm hji)]
        exact ready_false hj hsz
      have h3 : 0 < (listed.toList.set i true).count false := List.count_pos_iff.2 (List.mem_of_getElem? h2)
      omega
  | succ fuel ih =>
    intro listed s hc hsz hr hlow hcnt H
    refine ⟨fun h => (by rw [h] at hr; cases hr), fun j hj => ?_⟩
    by_cases hji : j = i
    · subst hji
      unfold stepI
      rw [hoi]
      exact H
    · obtain ⟨hjf, oj, hoj, _⟩ := mem_ready.1 hj
      have hij : i < j := by
        rcases Nat.lt_trichotomy i j with h | h | h
        · exact h
        · exact absurd h.symm hji
        · have h1 := hlow j h
          have h2 := ready_false hj hsz
          have hl : j < listed.size := by
            have := (Array.getElem?_eq_some_iff.1 hoj).1
            omega
          simp [hl] at h1 h2
          rw [h1] at h2; cases h2
      unfold stepI
      rw [hoj]
      show stepA P Γ ops.toList ⟨beforeL ops.toList [], pr⟩ true KP j oj s _
      have hf := free_of hok hc hoi hoj hr hj (Ne.symm hji)
      obtain ⟨pr1, pr2⟩ := pair i j oi oj hoi hoj hij hf.nij
      have hcnt' : (listed.setIfInBounds j true).toList.count false ≤ fuel + 1 := by
        have := count_set (ready_false hj hsz)
        rw [Array.toList_setIfInBounds]
        omega
      have hsz' : (listed.setIfInBounds j true).size = ops.size := by simpa using hsz
      have hlow' : ∀ m, m < i → (listed.setIfInBounds j true).getD m false = true := fun m hm => getD_set_true (hlow m hm)
      have next : ∀ s2, stepA P Γ ops.toList ⟨beforeL ops.toList [], pr⟩ true KP i oi s2 (vcAny P Γ ops ⟨beforeL ops.toList [], pr⟩ KP K fuel ((listed.setIfInBounds i true).setIfInBounds j true)) → vcAny P Γ ops ⟨beforeL ops.toList [], pr⟩ KP K (fuel + 1) (listed.setIfInBounds j true) s2 := fun s2 h2 =>
        ih (listed.setIfInBounds j true) s2 (closed_set hc hj) hsz' (ready_mono hr (Ne.symm hji)) hlow' hcnt' (by
          rw [Array.setIfInBounds_comm _ _ hji]
          exact h2)
      have after : ∀ s1, vcAny P Γ ops ⟨beforeL ops.toList [], pr⟩ KP K (fuel + 1) (listed.setIfInBounds i true) s1 → stepA P Γ ops.toList ⟨beforeL ops.toList [], pr⟩ true KP j oj s1 (vcAny P Γ ops ⟨beforeL ops.toList [], pr⟩ KP K fuel ((listed.setIfInBounds i true).setIfInBounds j true)) := fun s1 h2 => by
        have := h2.2 j (ready_mono hj hji)
        unfold stepI at this
        rw [hoj] at this
        exact this
      cases hsi : stopA Γ ops.toList ⟨beforeL ops.toList [], pr⟩ i oi s with
      | true =>
        have hmi : mayStop Γ oi = true := by
          cases hm : mayStop Γ oi with
          | true => rfl
          | false => rw [mayStop_no hm] at hsi; cases hsi
        have hmj : mayStop Γ oj = false := by
          cases hm : mayStop Γ oj with
          | false => rfl
          | true => rw [(pr1 hm).1] at hmi; cases hmi
        unfold stepA at H
        cases hai : actOf P Γ ops.toList ⟨beforeL ops.toList [], pr⟩ i oi s with
        | none => rw [hai] at H; exact H.elim
        | some ei =>
          rw [hai, hsi] at H
          simp only at H
          obtain ⟨x0, u0, ho0⟩ := ei.some_out
          have hl := (Eff.bind_out H ho0).2.1 trivial
          obtain ⟨g1, y, g2⟩ := later_at ops.toList 0 hl j oj (by simpa using hoj) (by omega) (by rw [Nat.zero_add]; exact hf.nij)
          rw [Nat.zero_add] at g2
          have haj : actOf P Γ ops.toList ⟨beforeL ops.toList [], pr⟩ j oj s = some (.det none y []) := by
            unfold actOf
            rw [g1]
            exact g2
          unfold stepA
          rw [haj, mayStop_no hmj]
          refine ⟨rfl, next _ ?_⟩
          have hu0 : updOk (writerOp Γ oj) (viewOf ⟨beforeL ops.toList [], pr⟩ s.nx j s.heap) s.heap (s.nx + 8 * j) [] = true := rfl
          unfold stepA
          rw [hf.symm.act s (x := y) hu0, hai, hf.symm.stop s (x := y) hu0, hsi]
          refine Eff.bind_mono (fun x u hx => ⟨?_, fun _ => ?_, hx.2.2⟩) H
          · rw [hf.symm.upd s (x := y) hu0]; exact hx.1
          · rw [apS_nil, later_put (dsts hoj) (fun k o ho hik hb => (pair i k oi o hoi (by simpa using ho) hik hb).2 hmi) ops.toList 0 (fun j => by simp)]
            exact hl
      | false =>
        have HN := (stepA_N hsi).1 H
        cases hsj : stopA Γ ops.toList ⟨beforeL ops.toList [], pr⟩ j oj s with
        | false =>
          have h1 : stepN P Γ ops.toList ⟨beforeL ops.toList [], pr⟩ i oi s fun s1 => stepN P Γ ops.toList ⟨beforeL ops.toList [], pr⟩ j oj s1 (vcAny P Γ ops ⟨beforeL ops.toList [], pr⟩ KP K fuel ((listed.setIfInBounds i true).setIfInBounds j true)) :=
            stepN_mono (fun s1 ⟨h2, x, u, h3, h4⟩ => by
              subst h4
              exact (stepA_N (by rw [hf.stop s h3]; exact hsj)).1 (after _ h2)) (stepN_where HN)
          refine (stepA_N hsj).2 (stepN_mono (fun s2 ⟨h2, x, u, h3, h4⟩ => ?_) (stepN_where (step_comm hf h1)))
          subst h4
          exact next _ ((stepA_N (by rw [hf.symm.stop s h3]; exact hsi)).2 h2)
        | true =>
          have hmj : mayStop Γ oj = true := by
            cases hm : mayStop Γ oj with
            | true => rfl
            | false => rw [mayStop_no hm] at hsj; cases hsj
          obtain ⟨hmi, hqi⟩ := pr1 hmj
          unfold stepN at HN
          cases hai : actOf P Γ ops.toList ⟨beforeL ops.toList [], pr⟩ i oi s with
          | none => rw [hai] at HN; exact HN.elim
          | some ei =>
            rw [hai] at HN
            have hgi : oi.guard = none := by
              unfold quietE at hqi
              split at hqi <;> first | assumption | cases hqi
            have hop : opS P Γ oi s.eval (viewOf ⟨beforeL ops.toList [], pr⟩ s.nx i s.heap) (s.nx + 8 * i) = some ei := by
              unfold actOf at hai
              rw [hgi] at hai
              exact hai
            obtain ⟨_, x, rfl⟩ := quietE_op hqi hop
            have hu0 : updOk (writerOp Γ oi) (viewOf ⟨beforeL ops.toList [], pr⟩ s.nx i s.heap) s.heap (s.nx + 8 * i) [] = true := rfl
            have h2 := after _ HN.2
            unfold stepA at h2 ⊢
            rw [hf.act s (x := x) hu0, hf.stop s (x := x) hu0, hsj] at h2
            rw [hsj]
            cases haj : actOf P Γ ops.toList ⟨beforeL ops.toList [], pr⟩ j oj s with
            | none => rw [haj] at h2; exact h2.elim
            | some ej =>
              rw [haj] at h2
              refine Eff.bind_mono (fun y v hy => ⟨?_, fun _ => ?_, hy.2.2⟩) h2
              · rw [← hf.upd s (x := x) hu0]; exact hy.1
              · have := hy.2.1 rfl
                rw [apS_nil, later_put (dsts hoi) (fun k o ho hik hb => (pair j k oj o hoj (by simpa using ho) hik hb).2 hmj) ops.toList 0 (fun j => by simp)] at this
                exact this

theorem any_text {KP : SV → Heap → Prop} (hok : regionOk P Γ ops ⟨beforeL ops.toList [], pr⟩ = true) : ∀ (l : List Oper) (k : Nat) (listed : Array Bool) (s : St), (∀ (j : Nat), l[j]? = ops[k + j]?) → listed.size = ops.size → (∀ j, j < ops.size → listed.getD j true = decide (j < k)) → listed.toList.count false ≤ l.length →
    vcOps P Γ ops.toList ⟨beforeL ops.toList [], pr⟩ true KP K l k s → vcAny P Γ ops ⟨beforeL ops.toList [], pr⟩ KP K l.length listed s
  | [], k, listed, s, hl, hsz, hlist, hcnt, h => by
    refine ⟨?_, h⟩
    cases hr : Region.ready .any ops listed with
    | nil => rfl
    | cons x xs =>
      exfalso
      have hx : x ∈ Region.ready .any ops listed := by rw [hr]; simp
      obtain ⟨h1, o, h2, _⟩ := mem_ready.1 hx
      have hlt := (Array.getElem?_eq_some_iff.1 h2).1
      have := hlist x hlt
      rw [h1] at this
      have hkx : ¬ x < k := by simpa using this.symm
      have := hl (x - k)
      rw [show k + (x - k) = x by omega, h2] at this
      simp at this
  | o :: l, k, listed, s, hl, hsz, hlist, hcnt, h => by
    have h0 : ops[k]? = some o := by simpa using (hl 0).symm
    have hklt := (Array.getElem?_eq_some_iff.1 h0).1
    have hok' := hok
    simp only [regionOk, Bool.and_eq_true] at hok'
    have hback : ∀ (j : Nat) o, ops.toList[j]? = some o → ∀ e ∈ o.after.toList, Region.binds .any e = true → e.on < j := fun j o ho e he hb => by
      have := backOk_spec hok'.1.1 j o ho e he hb
      omega
    have lower : ∀ j, j < k → listed.getD j false = true := fun j hj => by
      have := hlist j (by omega)
      have hjs : j < listed.size := by omega
      simp [hjs] at this ⊢
      rw [this]; simpa using hj
    have hclosed : Closed ops listed := fun j oj hoj hlj e he hb => by
      have hjlt := (Array.getElem?_eq_some_iff.1 hoj).1
      have h1 := hlist j hjlt
      have hjs : j < listed.size := by omega
      have hjk : j < k := by
        simp [hjs] at h1 hlj
        rw [hlj] at h1
        simpa using h1.symm
      have := hback j oj (by simpa using hoj) e (by simpa using he) hb
      exact lower e.on (by omega)
    have hready : k ∈ Region.ready .any ops listed := mem_ready.2 ⟨by rw [hlist k hklt]; simp, o, h0, fun e he hb => lower e.on (hback k o (by simpa using h0) e (by simpa using he) hb)⟩
    refine any_first hok h0 l.length listed s hclosed hsz hready lower hcnt ?_
    refine stepA_mono (fun s1 h1 => any_text hok l (k + 1) _ s1 (fun j => by have := hl (j + 1); simpa [Nat.add_assoc, Nat.add_comm 1 j] using this) (by simpa using hsz) (fun j hj => ?_) ?_ h1) (stepS_A h)
    · by_cases hjk : j = k
      · subst hjk
        have hjs : j < listed.size := by omega
        simp [hjs]
      · rw [getD_set_ne true (Ne.symm hjk), hlist j hj]
        have : (j < k) ↔ (j < k + 1) := by omega
        simp [this]
    · have := count_set (ready_false hready hsz)
      rw [Array.toList_setIfInBounds]
      simp only [List.length_cons] at hcnt
      omega
end
end Go.SE
