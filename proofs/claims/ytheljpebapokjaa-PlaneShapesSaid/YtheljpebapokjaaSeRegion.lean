/-
  The symbolic executor's regions, on: every order; and the real run.
-/
import Derived.Test.YtheljpebapokjaaSeOrder
namespace Go.SE
section
variable {P : Program} {Γ : Ctrs} {ops : Array Oper} {bs : Vw} {pr : List (Nat × (Nat → List Nat))} {K : St → Prop}

def stepI (P : Program) (Γ : Ctrs) (ops : Array Oper) (bs : Vw) (i : Nat) (s : St) (K : St → Prop) : Prop :=
  match ops[i]? with
  | none => K s
  | some o => stepA P Γ ops.toList bs i o s K

def vcAny (P : Program) (Γ : Ctrs) (ops : Array Oper) (bs : Vw) (K : St → Prop) : Nat → Array Bool → St → Prop
  | 0, listed, s => Region.ready .any ops listed = [] ∧ K s
  | fuel + 1, listed, s => (Region.ready .any ops listed = [] → K s) ∧ ∀ i ∈ Region.ready .any ops listed, stepI P Γ ops bs i s (vcAny P Γ ops bs K fuel (listed.setIfInBounds i true))

theorem stepI_mono {i : Nat} {s : St} {K K' : St → Prop} (hk : ∀ s, K s → K' s) (h : stepI P Γ ops bs i s K) : stepI P Γ ops bs i s K' := by
  unfold stepI at *
  split
  · rename_i h0; rw [h0] at h; exact hk _ h
  · rename_i o h0; rw [h0] at h; exact stepA_mono hk h

theorem stepA_some {i : Nat} {o : Oper} {s : St} {K : St → Prop} (h : stepA P Γ ops.toList bs i o s K) : ∃ s', K s' := by
  unfold stepA at h
  split at h
  · exact h.elim
  · rename_i e _
    obtain ⟨x, u, ho⟩ := e.some_out
    exact ⟨_, (Eff.bind_out h ho).2⟩

/-! ### what comes before what -/
theorem testBit_beforeOf {acc : List Nat} {i : Nat} : ∀ {es : List Edge}, (beforeOf acc es).testBit i = true → ∃ e ∈ es, Region.binds .any e = true ∧ (e.on = i ∨ (acc.getD e.on 0).testBit i = true)
  | [], h => by simp [beforeOf] at h
  | e :: es, h => by
    simp only [beforeOf] at h
    cases hb : Region.binds .any e with
    | false =>
      rw [hb] at h
      obtain ⟨e', h1, h2, h3⟩ := testBit_beforeOf h
      exact ⟨e', List.mem_cons_of_mem _ h1, h2, h3⟩
    | true =>
      rw [hb] at h
      simp only [Nat.testBit_or, Bool.or_eq_true, Nat.testBit_two_pow, decide_eq_true_eq] at h
      rcases h with (h | h) | h
      · exact ⟨e, List.mem_cons_self, hb, .inl h⟩
      · exact ⟨e, List.mem_cons_self, hb, .inr h⟩
      · obtain ⟨e', h1, h2, h3⟩ := testBit_beforeOf h
        exact ⟨e', List.mem_cons_of_mem _ h1, h2, h3⟩

theorem beforeL_spec : ∀ (l : List Oper) (acc : List Nat), (∀ q, q < acc.length → (beforeL l acc)[q]? = acc[q]?) ∧
    ∀ (q : Nat) o, l[q]? = some o → ∃ acc', acc'.length = acc.length + q ∧ (∀ p, p < acc.length + q → acc'[p]? = (beforeL l acc)[p]?) ∧ (beforeL l acc)[acc.length + q]? = some (beforeOf acc' o.after.toList)
  | [], acc => ⟨fun q _ => rfl, fun q o h => by simp at h⟩
  | o :: l, acc => by
    obtain ⟨h1, h2⟩ := beforeL_spec l (acc ++ [beforeOf acc o.after.toList])
    simp only [beforeL]
    refine ⟨fun q hq => ?_, fun q o' ho => ?_⟩
    · rw [h1 q (by simp; omega), List.getElem?_append_left hq]
    · match q, ho with
      | 0, ho =>
        simp at ho
        subst ho
        refine ⟨acc, rfl, fun p hp => ?_, ?_⟩
        · rw [h1 p (by simp; omega), List.getElem?_append_left (by omega)]
        · rw [h1 _ (by simp)]
          simp
      | q + 1, ho =>
        simp at ho
        obtain ⟨acc', g1, g2, g3⟩ := h2 q o' ho
        simp only [List.length_append, List.length_singleton] at g1 g2 g3
        refine ⟨acc', by omega, fun p hp => g2 p (by omega), ?_⟩
        rw [show acc.length + (q + 1) = acc.length + 1 + q by omega]
        exact g3

theorem before_spec {j i : Nat} {o : Oper} (ho : ops.toList[j]? = some o) (hback : ∀ e ∈ o.after.toList, Region.binds .any e = true → e.on < j) (h : ((beforeL ops.toList []).getD j 0).testBit i = true) :
    ∃ e ∈ o.after.toList, Region.binds .any e = true ∧ (e.on = i ∨ ((beforeL ops.toList []).getD e.on 0).testBit i = true) := by
  obtain ⟨acc', h1, h2, h3⟩ := (beforeL_spec ops.toList []).2 j o ho
  simp only [List.length_nil, Nat.zero_add] at h1 h2 h3
  rw [List.getD, h3, Option.getD_some] at h
  obtain ⟨e, h4, h5, h6⟩ := testBit_beforeOf h
  refine ⟨e, h4, h5, h6.imp id fun h6 => ?_⟩
  rw [List.getD, h2 e.on (hback e h4 h5)] at h6
  exact h6

theorem backOk_spec : ∀ {l : List Oper} {k : Nat}, backOk l k = true → ∀ (q : Nat) o, l[q]? = some o → ∀ e ∈ o.after.toList, Region.binds .any e = true → e.on < k + q
  | [], _, _, q, o, h => by simp at h
  | o :: l, k, hb, q, o', ho => by
    simp only [backOk, Bool.and_eq_true] at hb
    match q, ho with
    | 0, ho =>
      simp at ho
      subst ho
      intro e he hbe
      have := List.all_eq_true.1 hb.1 e he
      rw [hbe] at this
      simp [Nat.blt] at this
      omega
    | q + 1, ho =>
      simp at ho
      intro e he hbe
      have := backOk_spec hb.2 q o' ho e he hbe
      omega

theorem pairsFrom_spec {j : Nat} {oj : Oper} : ∀ {l : List Oper} {k : Nat}, pairsFrom P Γ ops bs j oj l k = true → ∀ (q : Nat) o, l[q]? = some o → k + q < j → bs.bit j (k + q) = false → pairOk P Γ ops (bs.has (k + q)) (bs.has j) o oj = true
  | [], _, _, q, o, h, _, _ => by simp at h
  | o :: l, k, hp, q, o', ho, hlt, hn => by
    simp only [pairsFrom, Bool.and_eq_true, Bool.or_eq_true] at hp
    match q, ho with
    | 0, ho =>
      simp at ho
      subst ho
      rcases hp.1 with (h1 | h1) | h1
      · have := Nat.le_of_ble_eq_true h1; omega
      · rw [Nat.add_zero] at hn; rw [hn] at h1; cases h1
      · exact h1
    | q + 1, ho =>
      simp at ho
      have := pairsFrom_spec hp.2 q o' ho (by omega) (by rw [show k + 1 + q = k + (q + 1) by omega]; exact hn)
      rw [show k + 1 + q = k + (q + 1) by omega] at this
      exact this

theorem pairsAll_spec : ∀ {l : List Oper} {k : Nat}, pairsAll P Γ ops bs l k = true → ∀ (q : Nat) o, l[q]? = some o → pairsFrom P Γ ops bs (k + q) o ops.toList 0 = true
  | [], _, _, q, o, h => by simp at h
  | o :: l, k, hp, q, o', ho => by
    simp only [pairsAll, Bool.and_eq_true] at hp
    match q, ho with
    | 0, ho => simp at ho; subst ho; exact hp.1
    | q + 1, ho =>
      simp at ho
      have := pairsAll_spec hp.2 q o' ho
      rw [show k + 1 + q = k + (q + 1) by omega] at this
      exact this

/-- Listed operations come with all that comes before them. -/
def Closed (ops : Array Oper) (listed : Array Bool) : Prop :=
  ∀ j o, ops[j]? = some o → listed.getD j false = true → ∀ e ∈ o.after, Region.binds .any e = true → listed.getD e.on false = true

theorem closed_before (hback : ∀ (j : Nat) o, ops.toList[j]? = some o → ∀ e ∈ o.after.toList, Region.binds .any e = true → e.on < j) {listed : Array Bool} (hc : Closed ops listed) {i : Nat} :
    ∀ (p : Nat) o, ops[p]? = some o → (∀ e ∈ o.after, Region.binds .any e = true → listed.getD e.on false = true) → ((beforeL ops.toList []).getD p 0).testBit i = true → listed.getD i false = true := by
  intro p
  induction p using Nat.strongRecOn with
  | _ p ih =>
    intro o ho hl hb
    have ho' : ops.toList[p]? = some o := by simpa using ho
    obtain ⟨e, h1, h2, h3⟩ := before_spec ho' (hback p o ho') hb
    have h1' : e ∈ o.after := by simpa using h1
    rcases h3 with rfl | h3
    · exact hl e h1' h2
    · have hlt := hback p o ho' e h1 h2
      have hin : e.on < ops.size := by
        have := (Array.getElem?_eq_some_iff.1 ho).1
        omega
      exact ih e.on hlt ops[e.on] (by simp [hin]) (fun e' he' hb' => hc e.on _ (by simp [hin]) (hl e h1' h2) e' he' hb') h3

theorem closed_set {listed : Array Bool} (hc : Closed ops listed) {i : Nat} (hi : i ∈ Region.ready .any ops listed) : Closed ops (listed.setIfInBounds i true) := by
  obtain ⟨_, oi, hoi, hall⟩ := mem_ready.1 hi
  intro j o ho hl e he hb
  by_cases hij : i = j
  · subst hij
    have : o = oi := Option.some.inj (ho.symm.trans hoi)
    subst this
    exact getD_set_true (hall e he hb)
  · rw [getD_set_ne false hij] at hl
    exact getD_set_true (hc j o ho hl e he hb)

theorem ready_notBefore (hback : ∀ (j : Nat) o, ops.toList[j]? = some o → ∀ e ∈ o.after.toList, Region.binds .any e = true → e.on < j) {listed : Array Bool} (hc : Closed ops listed) {i j : Nat}
    (hi : i ∈ Region.ready .any ops listed) (hj : j ∈ Region.ready .any ops listed) : ((beforeL ops.toList []).getD j 0).testBit i = false := by
  cases hb : ((beforeL ops.toList []).getD j 0).testBit i with
  | false => rfl
  | true =>
    obtain ⟨_, oj, hoj, hall⟩ := mem_ready.1 hj
    have h1 := closed_before hback hc j oj hoj hall hb
    have h0 := (mem_ready.1 hi).1
    rcases Nat.lt_or_ge i listed.size with h' | h'
    · simp [h'] at h0 h1; rw [h0] at h1; cases h1
    · simp [Array.getElem?_eq_none h'] at h1

theorem free_of (hok : regionOk P Γ ops ⟨beforeL ops.toList [], pr⟩ = true) {listed : Array Bool} (hc : Closed ops listed) {i j : Nat} {oi oj : Oper} (hoi : ops[i]? = some oi) (hoj : ops[j]? = some oj)
    (hi : i ∈ Region.ready .any ops listed) (hj : j ∈ Region.ready .any ops listed) (hne : i ≠ j) : Free P Γ ops ⟨beforeL ops.toList [], pr⟩ i j oi oj := by
  simp only [regionOk, Bool.and_eq_true] at hok
  have hback : ∀ (j : Nat) o, ops.toList[j]? = some o → ∀ e ∈ o.after.toList, Region.binds .any e = true → e.on < j := fun j o ho e he hb => by
    have := backOk_spec hok.1 j o ho e he hb
    omega
  have nij := ready_notBefore hback hc hi hj
  have nji := ready_notBefore hback hc hj hi
  have hoi' : ops.toList[i]? = some oi := by simpa using hoi
  have hoj' : ops.toList[j]? = some oj := by simpa using hoj
  have mk : ∀ {i j : Nat} {oi oj : Oper}, pairOk P Γ ops (Vw.has ⟨beforeL ops.toList [], pr⟩ i) (Vw.has ⟨beforeL ops.toList [], pr⟩ j) oi oj = true → i ≠ j → Vw.bit ⟨beforeL ops.toList [], pr⟩ j i = false → Vw.bit ⟨beforeL ops.toList [], pr⟩ i j = false → Free P Γ ops ⟨beforeL ops.toList [], pr⟩ i j oi oj := fun {i j oi oj} hp hne h1 h2 => by
    simp only [pairOk, Bool.and_eq_true, Bool.or_eq_true, Bool.not_eq_true', Bool.and_eq_false_iff] at hp
    obtain ⟨⟨a1, a2⟩, a3⟩ := hp
    obtain ⟨b1, b2, b3⟩ := Oper.apart_spec a1
    refine ⟨hne, b1, b2, b3, fun ⟨c1, c2⟩ => ?_, fun ⟨c1, c2⟩ => ?_, h1, h2⟩
    · rcases a2 with a2 | a2 | a2
      · exact a2
      · rw [c1] at a2; cases a2
      · rw [c2] at a2; cases a2
    · rcases a3 with a3 | a3 | a3
      · exact a3
      · rw [c1] at a3; cases a3
      · rw [c2] at a3; cases a3
  rcases Nat.lt_or_gt_of_ne hne with hlt | hgt
  · have h1 := pairsAll_spec hok.2 j oj hoj'
    rw [Nat.zero_add] at h1
    have h2 := pairsFrom_spec h1 i oi hoi' (by omega) (by rw [Nat.zero_add]; exact nij)
    rw [Nat.zero_add] at h2
    exact mk h2 hne nij nji
  · have h1 := pairsAll_spec hok.2 i oi hoi'
    rw [Nat.zero_add] at h1
    have h2 := pairsFrom_spec h1 j oj hoj' (by omega) (by rw [Nat.zero_add]; exact nji)
    rw [Nat.zero_add] at h2
    exact (mk h2 hne.symm nji nij).symm

theorem any_first (hok : regionOk P Γ ops ⟨beforeL ops.toList [], pr⟩ = true) {i : Nat} {oi : Oper} (hoi : ops[i]? = some oi) : ∀ (fuel : Nat) (listed : Array Bool) (s : St), Closed ops listed → i ∈ Region.ready .any ops listed →
    stepA P Γ ops.toList ⟨beforeL ops.toList [], pr⟩ i oi s (vcAny P Γ ops ⟨beforeL ops.toList [], pr⟩ K fuel (listed.setIfInBounds i true)) → vcAny P Γ ops ⟨beforeL ops.toList [], pr⟩ K (fuel + 1) listed s := by
  intro fuel
  induction fuel with
  | zero =>
    intro listed s hc hr H
    refine ⟨fun h => (by rw [h] at hr; cases hr), fun j hj => ?_⟩
    by_cases hji : j = i
    · subst hji
      unfold stepI
      rw [hoi]
      exact H
    · obtain ⟨s', hs'⟩ := stepA_some H
      have := ready_mono hj hji
      rw [hs'.1] at this
      cases this
  | succ fuel ih =>
    intro listed s hc hr H
    refine ⟨fun h => (by rw [h] at hr; cases hr), fun j hj => ?_⟩
    by_cases hji : j = i
    · subst hji
      unfold stepI
      rw [hoi]
      exact H
    · obtain ⟨_, oj, hoj, _⟩ := mem_ready.1 hj
      unfold stepI
      rw [hoj]
      have hf := free_of hok hc hoi hoj hr hj (Ne.symm hji)
      have h1 : stepA P Γ ops.toList ⟨beforeL ops.toList [], pr⟩ i oi s fun s1 => stepA P Γ ops.toList ⟨beforeL ops.toList [], pr⟩ j oj s1 (vcAny P Γ ops ⟨beforeL ops.toList [], pr⟩ K fuel ((listed.setIfInBounds i true).setIfInBounds j true)) :=
        stepA_mono (fun s1 h2 => by
          have := h2.2 j (ready_mono hj hji)
          unfold stepI at this
          rw [hoj] at this
          exact this) H
      refine stepA_mono (fun s2 h2 => ih (listed.setIfInBounds j true) s2 (closed_set hc hj) (ready_mono hr (Ne.symm hji)) ?_) (step_comm hf h1)
      rw [Array.setIfInBounds_comm _ _ hji]
      exact h2

theorem any_text (hok : regionOk P Γ ops ⟨beforeL ops.toList [], pr⟩ = true) : ∀ (l : List Oper) (k : Nat) (listed : Array Bool) (s : St), (∀ (j : Nat), l[j]? = ops[k + j]?) → listed.size = ops.size → (∀ j, j < ops.size → listed.getD j true = decide (j < k)) →
    vcOps P Γ ops.toList ⟨beforeL ops.toList [], pr⟩ K l k s → vcAny P Γ ops ⟨beforeL ops.toList [], pr⟩ K l.length listed s
  | [], k, listed, s, hl, hsz, hlist, h => by
    refine ⟨?_, h⟩
    cases hr : Region.ready .any ops listed with
    | nil => rfl
    | cons x xs =>
      exfalso
      have hx : x ∈ Region.ready .any ops listed := by rw [hr]; simp
      obtain ⟨h1, o, h2, _⟩ := mem_ready.1 hx
      have hlt := (Array.getElem?_eq_some_iff.1 h2).1
      have := hlist x hlt
      rw [h1] at this
      have hkx : ¬ x < k := by simpa using this.symm
      have := hl (x - k)
      rw [show k + (x - k) = x by omega, h2] at this
      simp at this
  | o :: l, k, listed, s, hl, hsz, hlist, h => by
    have h0 : ops[k]? = some o := by simpa using (hl 0).symm
    have hklt := (Array.getElem?_eq_some_iff.1 h0).1
    have hok' := hok
    simp only [regionOk, Bool.and_eq_true] at hok'
    have hback : ∀ (j : Nat) o, ops.toList[j]? = some o → ∀ e ∈ o.after.toList, Region.binds .any e = true → e.on < j := fun j o ho e he hb => by
      have := backOk_spec hok'.1 j o ho e he hb
      omega
    have lower : ∀ j, j < k → listed.getD j false = true := fun j hj => by
      have := hlist j (by omega)
      have hjs : j < listed.size := by omega
      simp [hjs] at this ⊢
      rw [this]; simpa using hj
    have hclosed : Closed ops listed := fun j oj hoj hlj e he hb => by
      have hjlt := (Array.getElem?_eq_some_iff.1 hoj).1
      have h1 := hlist j hjlt
      have hjs : j < listed.size := by omega
      have hjk : j < k := by
        simp [hjs] at h1 hlj
        rw [hlj] at h1
        simpa using h1.symm
      have := hback j oj (by simpa using hoj) e (by simpa using he) hb
      exact lower e.on (by omega)
    have hready : k ∈ Region.ready .any ops listed := mem_ready.2 ⟨by rw [hlist k hklt]; simp, o, h0, fun e he hb => lower e.on (hback k o (by simpa using h0) e (by simpa using he) hb)⟩
    refine any_first hok h0 l.length listed s hclosed hready ?_
    refine stepA_mono (fun s1 h1 => any_text hok l (k + 1) _ s1 (fun j => by have := hl (j + 1); simpa [Nat.add_assoc, Nat.add_comm 1 j] using this) (by simpa using hsz) (fun j hj => ?_) h1) (stepS_A h)
    by_cases hjk : j = k
    · subst hjk
      have hjs : j < listed.size := by omega
      simp [hjs]
    · rw [getD_set_ne true (Ne.symm hjk), hlist j hj]
      have : (j < k) ↔ (j < k + 1) := by omega
      simp [this]
end
end Go.SE
