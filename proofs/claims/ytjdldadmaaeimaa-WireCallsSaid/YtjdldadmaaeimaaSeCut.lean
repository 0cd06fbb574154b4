/-
  The symbolic executor's operations: copying, cutting, turning slices and strings into one another; built-in functions.
-/
import Derived.Test.YtjdldadmaaeimaaSeGrow
set_option linter.unusedSimpArgs false
namespace Go.SE
section
variable {P : Program} {δ : Dict} {h : Heap} {w : World}

/-- A nil slice's name said anew. -/
theorem upd_no {k : Nat} {b b' : Blk} {p : Loc} (hr : HRep δ h w) (hk : h k = some b) (hd : δ k = some p) (hno : p.no = true) (hb : Live δ b' w p) : Upd δ h w δ [(k, b')] w := by
  have hl : ∀ k' r, lies δ (happ h [(k, b')]) k' r → k' ≠ k ∧ lies δ h k' r := fun k' r ⟨b1, p1, h1, h2, h3, h4, h5⟩ => by
    have hne : k' ≠ k := fun e => by subst e; rw [hd] at h3; cases h3; rw [hno] at h4; cases h4
    simp only [happ, hset, beq_false hne, cond_false] at h1
    exact ⟨hne, b1, p1, h1, h2, h3, h4, h5⟩
  refine ⟨δ.le_refl, ⟨fun k' c hk' => ?_, fun k1 k2 r c hl1 hl2 hk' hrwc => ?_⟩, fun k' h0 h0' => absurd h0 h0', fun k' p' h0 h0' => (by rw [h0] at h0'; cases h0'), WRel.refl _ _⟩
  · simp only [happ, hset] at hk'
    cases he : Nat.beq k' k with
    | true =>
      have ek : k' = k := Nat.eq_of_beq_eq_true he
      subst ek
      rw [he, cond_true] at hk'
      cases hk'
      exact ⟨p, hd, fun _ => hb⟩
    | false => rw [he, cond_false] at hk'; exact hr.blk k' c hk'
  · obtain ⟨hne, l1⟩ := hl _ _ hl1
    simp only [happ, hset, beq_false hne, cond_false] at hk'
    exact hr.inj k1 k2 r c l1 (hl _ _ hl2).2 hk' hrwc

theorem copy_ok {ts : Array TypeId} {as : Array Value} {ty t : TypeId} {s x : SV} {rs rx : Value} {e : Eff} (he : copyS P t s x h = some e) (h0 : ts[0]? = some t) (g0 : as[0]? = some rs) (g1 : as[1]? = some rx)
    (hs : absV δ s rs) (hx : absV δ x rx) (hr : HRep δ h w) (hp : e.asks) : ValOk δ h w e ((Builtin.copy_ ts ty as).run P w) := by
  unfold copyS at he
  split at he <;> try (cases he; done)
  rename_i el ht
  split at he <;> try (cases he; done)
  rename_i sz hsz
  cases hb : Nat.beq sz 0 with
  | true => rw [hb] at he; cases he
  | false =>
    rw [hb, cond_false] at he
    have hszp : 0 < sz := by
      rcases Nat.eq_zero_or_pos sz with e0 | e0
      · subst e0; simp at hb
      · exact e0
    split at he <;> try (cases he; done)
    rename_i m rows fl hsrc
    split at he <;> try (cases he; done)
    rename_i k s' i n c
    split at he <;> try (cases he; done)
    rename_i b hk
    cases hb : (b.rw && !b.dead && Nat.beq s' sz) with
    | false => rw [hb] at he; cases he
    | true =>
      rw [hb, cond_true] at he
      cases he
      simp only [Bool.and_eq_true, Bool.not_eq_true'] at hb
      obtain ⟨⟨hrw, hdead⟩, hss⟩ := hb
      have := Nat.eq_of_beq_eq_true hss
      subst this
      have hp : ∀ y, y < m → cellsOk (rows y) := hp _ rfl
      obtain ⟨hlen, hflx, hcells⟩ := src_ok (P := P) hsrc hx hr hszp
      obtain ⟨news, hnr, hnc⟩ := hcells (min n m) (Nat.min_le_right _ _)
      have hnc0 := hnc w rfl
      have hone : ∀ v ∈ news, oneCell v := rows_one hnr hszp fun y hy => hp y (by omega)
      obtain ⟨p, d1, d2⟩ := hr.blk k b hk
      have hlv := d2 hdead
      simp only [absV] at hs
      obtain ⟨p', e1, e2, e3, e4⟩ := hs
      rw [d1] at e1; cases e1
      have hbs : b.size = s' := hlv.s.symm.trans e2
      have hpn := hlv.n
      have hmin : Nat.min m n = min n m := Nat.min_comm m n
      have hfl : ∀ q, q ≤ min n m → (b.flat && fl) = true → (b.flat = true → ∀ y, y < b.n → namelessL (b.row y) = true) → ∀ y, y < b.n → namelessL (mrgL (Nat.ble i y && Nat.blt y (i + q)) (rows (y - i)) (b.row y)) = true := fun q hq hf hfb y hy => by
        rw [Bool.and_eq_true] at hf
        rw [mrgL_eq]
        cases hb : (Nat.ble i y && Nat.blt y (i + q)) with
        | true =>
          rw [Bool.and_eq_true] at hb
          have h1 := Nat.le_of_ble_eq_true hb.1
          have h2 := hb.2
          simp [Nat.blt] at h2
          exact hflx hf.2 _ (by omega)
        | false => exact hfb hf.1 y hy
      rcases e4 with ⟨hno, rfl⟩ | ⟨rfl, rfl, a, rfl⟩
      · obtain ⟨cc, e0, fz, c1, c2, c3, c4, c5, c6, c7⟩ := hlv.rep hno
        have hlast : ∀ q, q < news.length → p.o + i * s' + 0 + q < cc.size := fun q hq => by
          rw [hnr.1] at hq
          have hmp : 0 < min n m := by
            rcases Nat.eq_zero_or_pos (min n m) with e0 | e0
            · rw [e0] at hq; simp at hq
            · exact e0
          obtain ⟨g1, g2⟩ := c7 (i + min n m - 1) (by omega)
          rw [hbs] at g1 g2
          have hj : s' - 1 < (b.row (i + min n m - 1)).length := by omega
          obtain ⟨r', g3, _⟩ := g2 (s' - 1) _ (List.getElem?_eq_getElem hj)
          have g4 := (Array.getElem?_eq_some_iff.1 g3).1
          have e : i * s' + min n m * s' = (i + min n m - 1) * s' + s' := by
            rw [← Nat.add_mul, show i + min n m = (i + min n m - 1) + 1 by omega, Nat.add_mul]; simp
          omega
        obtain ⟨w', c', k1, k2, k3, k4, k5, k6, k7, k8⟩ := storeCells_ok (P := P) (r := p.r) (e := e0) news 0 (p.o + i * s') w cc c1 (c2 hrw) hlast hone
        have hcs := store_size hlast k3
        refine ⟨.int .i64 ((min n m : Nat) : Int), w', _, _, δ, ?_, ⟨rfl, rfl⟩, by simp only [absV], upd_one hr hk hrw hdead d1 hno (fun _ => ⟨hlv.s, hlv.n, hlv.no, fun _ => ⟨c', e0, fz, k2, fun hh => by rw [hcs]; exact c2 hh, fun hf => hfl (min n m) (Nat.le_refl _) hf c3, c4, by rw [hcs]; exact c5, fun hh => by rw [hcs]; exact c6 hh, fun y hy => ?_⟩⟩) k6 k7 k8 (by omega) (fun r hne _ => k4 r hne)⟩
        · simp only [Builtin.copy_, h0, g0, g1, Sem.run_bind, run_underlying ht, Result.andThen_ok, run_sizeOf' hsz, hlen, Sem.run_pure, hmin, hnc0, k1, goInt]
        · simp only
          rw [mrgL_eq]
          obtain ⟨l1, l2⟩ := c7 y hy
          rw [hbs] at l1 l2 ⊢
          cases hb : (Nat.ble i y && Nat.blt y (i + min n m)) with
          | true =>
            rw [Bool.and_eq_true] at hb
            have h1 := Nat.le_of_ble_eq_true hb.1
            have h2 := hb.2
            simp [Nat.blt] at h2
            rw [cond_true]
            obtain ⟨f1, f2⟩ := hnr.2 (y - i) (by omega)
            refine ⟨f1, fun j v hv => ?_⟩
            obtain ⟨r', f3, f4⟩ := f2 j v hv
            refine ⟨r', ?_, f4⟩
            have hj : j < s' := by rw [← f1]; exact (List.getElem?_eq_some_iff.1 hv).1
            have hlt : (y - i) * s' + j < min n m * s' := by
              have : (y - i + 1) * s' ≤ min n m * s' := Nat.mul_le_mul_right _ (by omega)
              rw [Nat.add_mul] at this
              omega
            have e : y * s' = i * s' + (y - i) * s' := by rw [← Nat.add_mul]; congr 1; omega
            rw [k3, if_pos (by rw [hnr.1]; omega)]
            simp only [Nat.zero_add, List.getElem?_toArray] at f3
            rw [← f3]
            congr 1
            omega
          | false =>
            rw [cond_false]
            refine ⟨l1, fun j v hv => ?_⟩
            obtain ⟨r', f3, f4⟩ := l2 j v hv
            refine ⟨r', ?_, f4⟩
            have hj : j < s' := by rw [← l1]; exact (List.getElem?_eq_some_iff.1 hv).1
            rw [k3, if_neg]
            · exact f3
            · rintro ⟨a1, a2⟩
              rw [hnr.1] at a2
              rw [Bool.and_eq_false_iff] at hb
              have : ¬ i ≤ y ∨ ¬ y < i + min n m := by
                rcases hb with hb | hb
                · left; intro hle; rw [Nat.ble_eq_true_of_le hle] at hb; cases hb
                · right; intro hlt; rw [show Nat.blt y (i + min n m) = true from Nat.ble_eq_true_of_le hlt] at hb; cases hb
              rcases this with h1 | h1
              · have : (y + 1) * s' ≤ i * s' := Nat.mul_le_mul_right _ (by omega)
                rw [Nat.add_mul] at this
                omega
              · have : (i + min n m) * s' ≤ y * s' := Nat.mul_le_mul_right _ (by omega)
                rw [Nat.add_mul] at this
                omega
      · have hm0 : min 0 m = 0 := Nat.zero_min m
        rw [hm0] at hnr hnc0
        have : news = [] := List.eq_nil_of_length_eq_zero (by rw [hnr.1]; simp)
        subst this
        refine ⟨.int .i64 0, w, _, _, δ, ?_, ⟨rfl, rfl⟩, by simp only [absV, hm0]; rfl, ?_⟩
        · have hmn : Nat.min m 0 = 0 := Nat.min_zero m
          cases a <;> simp [Builtin.copy_, h0, g0, g1, run_underlying ht, run_sizeOf' hsz, hlen, hmn, hnc0, goInt, storeCells]
        · have hrow : (fun y => mrgL (Nat.ble i y && Nat.blt y (i + min 0 m)) (rows (y - i)) (b.row y)) = b.row := by
            funext y
            rw [mrgL_eq]
            have : (Nat.ble i y && Nat.blt y (i + min 0 m)) = false := by
              cases hb : (Nat.ble i y && Nat.blt y (i + min 0 m)) with
              | false => rfl
              | true =>
                rw [Bool.and_eq_true] at hb
                have h1 := Nat.le_of_ble_eq_true hb.1
                have h2 := hb.2
                simp [Nat.blt] at h2
                omega
            rw [this, cond_false]
          cases hno : p.no with
          | true =>
            exact upd_no hr hk d1 hno ⟨hlv.s, hlv.n, hlv.no, fun hh => (by rw [hno] at hh; cases hh)⟩
          | false =>
            refine upd_one hr hk hrw hdead d1 hno (fun _ => ⟨hlv.s, hlv.n, hlv.no, fun _ => ?_⟩) rfl rfl rfl (Nat.le_refl _) (fun _ _ _ => rfl)
            obtain ⟨cc, e0, fz, c1, c2, c3, c4, c5, c6, c7⟩ := hlv.rep hno
            exact ⟨cc, e0, fz, c1, c2, fun hf => hfl (min 0 m) (Nat.le_refl _) hf c3, c4, c5, c6, fun y hy => by rw [hrow]; exact c7 y hy⟩

/-! ### cutting -/
theorem bound_ok {ρS : Operand → SV} {ρ : Operand → Value} (hρ : ∀ x, absV δ (ρS x) (ρ x)) {o : Option Operand} {b : Option Int} (hb : bound ρS o = some b) :
    (o = none ∧ b = none) ∨ ∃ x k n, o = some x ∧ b = some n ∧ ρ x = .int k n := by
  unfold bound at hb
  split at hb
  · cases hb; exact .inl ⟨rfl, rfl⟩
  · rename_i x
    split at hb <;> try (cases hb; done)
    rename_i k n hx
    cases hb
    have := hρ x
    rw [hx] at this
    simp only [absV] at this
    exact .inr ⟨x, k, n, rfl, rfl, this⟩

theorem run_bounds {isSlice : Bool} {len cap : Nat} {lo hi : Option Operand} {l r : Option Int} {ρ : Operand → Value} (hl : (lo = none ∧ l = none) ∨ ∃ x k n, lo = some x ∧ l = some n ∧ ρ x = .int k n)
    (hh : (hi = none ∧ r = none) ∨ ∃ x k n, hi = some x ∧ r = some n ∧ ρ x = .int k n) (h1 : 0 ≤ l.getD 0) (h2 : l.getD 0 ≤ r.getD len) (h3 : r.getD len ≤ len) (h4 : len ≤ cap) :
    (Instr.sliceBounds isSlice len cap (lo.map ρ) (hi.map ρ) none).run P w = .ok ((l.getD 0).toNat, (r.getD len).toNat, cap) w := by
  have key : ∀ (k : IntKind) (n : Int) (y : Nat) (cd : BoundsCode), 0 ≤ n → n ≤ y → (Instr.sliceBound (.int k n) y cd).run P w = .ok n.toNat w := fun k n y cd g1 g2 => by
    simp [Instr.sliceBound, asIntOf, g1, g2]
  rcases hh with ⟨rfl, rfl⟩ | ⟨x, k, n, rfl, rfl, hx⟩ <;> rcases hl with ⟨rfl, rfl⟩ | ⟨x', k', n', rfl, rfl, hx'⟩
  · simp [Instr.sliceBounds]
  · simp only [Option.getD_some, Option.getD_none] at h1 h2 h3
    simp [Instr.sliceBounds, hx', key _ _ _ _ h1 h2]
  · simp only [Option.getD_some, Option.getD_none] at h1 h2 h3
    have h5 : n ≤ (cap : Int) := by omega
    simp [Instr.sliceBounds, hx, key _ _ _ _ h2 h5]
  · simp only [Option.getD_some, Option.getD_none] at h1 h2 h3
    have h5 : n ≤ (cap : Int) := by omega
    have h6 : n' ≤ ((n.toNat : Nat) : Int) := by omega
    have h7 : 0 ≤ n := by omega
    simp [Instr.sliceBounds, hx, hx', key _ _ _ _ h7 h5, key _ _ _ _ h1 h6]

theorem slice_ok {t : TypeId} {x : SV} {rx : Value} {lo hi : Option Operand} {l r : Option Int} {ρ : Operand → Value} {e : Eff} (he : sliceS P t x l r = some e) (hx : absV δ x rx)
    (hl : (lo = none ∧ l = none) ∨ ∃ x k n, lo = some x ∧ l = some n ∧ ρ x = .int k n) (hh : (hi = none ∧ r = none) ∨ ∃ x k n, hi = some x ∧ r = some n ∧ ρ x = .int k n) (hp : e.asks) :
    ∃ p v y, e = .det p v [] ∧ absV δ v y ∧ (Instr.sliceAt t rx (lo.map ρ) (hi.map ρ) none).run P w = .ok y w := by
  unfold sliceS at he
  simp only at he
  split at he
  · -- a string
    rename_i s hu
    cases he
    obtain ⟨h1, h2, h3⟩ := hp _ rfl
    simp only [absV] at hx
    subst hx
    refine ⟨_, _, .string (s.extract (l.getD 0).toNat (r.getD s.size).toNat), rfl, by simp only [absV], ?_⟩
    have := run_bounds (P := P) (w := w) (isSlice := false) (cap := s.size) hl hh h1 h2 h3 (Nat.le_refl _)
    simp [Instr.sliceAt, Instr.slice, run_underlying hu, this]
  · -- a slice
    rename_i el k s i n c hu
    split at he <;> try (cases he; done)
    rename_i m hm
    cases hb : Nat.beq m s with
    | false => rw [hb] at he; cases he
    | true =>
      rw [hb, cond_true] at he
      cases he
      have := Nat.eq_of_beq_eq_true hb
      subst this
      obtain ⟨h1, h2, h3, h4⟩ := hp _ rfl
      simp only [absV] at hx
      obtain ⟨p, d1, d2, d3, d4⟩ := hx
      have hb := run_bounds (P := P) (w := w) (isSlice := true) (cap := c) hl hh h1 h2 h3 h4
      rcases d4 with ⟨hno, rfl⟩ | ⟨rfl, rfl, a, rfl⟩
      · by_cases hc : c = (l.getD 0).toNat
        · refine ⟨_, _, .slice (some ⟨p.r, p.o + i * m, none⟩) 0 0, rfl, ?_, ?_⟩
          · simp only [absV]
            have e1 : (r.getD n).toNat - (l.getD 0).toNat = 0 := by omega
            have e2 : c - (l.getD 0).toNat = 0 := by omega
            rw [e1, e2]
            exact ⟨p, d1, d2, by omega, .inr ⟨rfl, rfl, _, rfl⟩⟩
          · have e1 : (r.getD n).toNat - (l.getD 0).toNat = 0 := by omega
            have e2 : c - (l.getD 0).toNat = 0 := by omega
            simp only [Instr.sliceAt, Instr.slice, Sem.run_bind, run_underlying hu, Result.andThen_ok, hb, run_sizeOf' hm, Sem.run_pure, if_pos hc, e1, e2]
        · refine ⟨_, _, .slice (some ⟨p.r, p.o + i * m + (l.getD 0).toNat * m, none⟩) ((r.getD n).toNat - (l.getD 0).toNat) (c - (l.getD 0).toNat), rfl, ?_, ?_⟩
          · simp only [absV]
            exact ⟨p, d1, d2, by omega, .inl ⟨hno, by rw [Nat.add_mul, Nat.add_assoc]⟩⟩
          · simp only [Instr.sliceAt, Instr.slice, Sem.run_bind, run_underlying hu, Result.andThen_ok, hb, run_sizeOf' hm, Sem.run_pure, if_neg hc, Option.map_some, Addr.add_lit]
      · have e1 : (l.getD 0).toNat = 0 := by omega
        have e2 : (r.getD (0 : Nat)).toNat = 0 := by omega
        have e2' : (r.getD 0).toNat = 0 := e2
        refine ⟨_, _, .slice a 0 0, rfl, ?_, ?_⟩
        · simp only [absV]
          refine ⟨p, d1, d2, by omega, .inr ⟨by omega, by omega, _, rfl⟩⟩
        · simp only [Instr.sliceAt, Instr.slice, Sem.run_bind, run_underlying hu, Result.andThen_ok, hb, run_sizeOf' hm, Sem.run_pure, e1, e2, if_true, Nat.sub_zero]
  · -- nil
    rename_i el n c hu
    split at he <;> try (cases he; done)
    rename_i m hsz
    cases hb : (Nat.beq n 0 && Nat.beq c 0) with
    | false => rw [hb] at he; cases he
    | true =>
      rw [hb, cond_true] at he
      cases he
      rw [Bool.and_eq_true] at hb
      have := Nat.eq_of_beq_eq_true hb.1
      subst this
      have := Nat.eq_of_beq_eq_true hb.2
      subst this
      obtain ⟨h1, h2, h3⟩ := hp _ rfl
      simp only [absV] at hx
      subst hx
      refine ⟨_, _, .slice none 0 0, rfl, by simp only [absV], ?_⟩
      have hm : (sizeOf el).run P w = .ok 0 w ∨ True := .inr trivial
      have hb := run_bounds (P := P) (w := w) (isSlice := true) (len := 0) (cap := 0) hl hh h1 h2 h3 (Nat.le_refl _)
      have e1 : (l.getD 0).toNat = 0 := by omega
      have e2 : (r.getD (0 : Nat)).toNat = 0 := by omega
      simp only [Instr.sliceAt, Instr.slice, Sem.run_bind, run_underlying hu, Result.andThen_ok, hb, run_sizeOf' hsz, Sem.run_pure, e1, e2, if_true, Nat.sub_zero]
  · -- an array
    rename_i n el k m len hu
    split at he <;> try (cases he; done)
    rename_i m' hm
    cases hb : (Nat.beq m m' && Nat.beq n len) with
    | false => rw [hb] at he; cases he
    | true =>
      rw [hb, cond_true] at he
      cases he
      rw [Bool.and_eq_true] at hb
      have := Nat.eq_of_beq_eq_true hb.1
      subst this
      have := Nat.eq_of_beq_eq_true hb.2
      subst this
      obtain ⟨h1, h2, h3⟩ := hp _ rfl
      simp only [absV] at hx
      obtain ⟨p, d1, d2, d3, hno, rfl⟩ := hx
      have hb := run_bounds (P := P) (w := w) (isSlice := false) (cap := n) hl hh h1 h2 h3 (Nat.le_refl _)
      by_cases hc : n = (l.getD 0).toNat
      · refine ⟨_, _, .slice (some ⟨p.r, p.o, none⟩) 0 0, rfl, ?_, ?_⟩
        · simp only [absV]
          have e1 : (r.getD n).toNat - (l.getD 0).toNat = 0 := by omega
          have e2 : n - (l.getD 0).toNat = 0 := by omega
          rw [e1, e2]
          exact ⟨p, d1, d2, by omega, .inr ⟨rfl, rfl, _, rfl⟩⟩
        · have e1 : (r.getD n).toNat - (l.getD 0).toNat = 0 := by omega
          have e2 : n - (l.getD 0).toNat = 0 := by omega
          simp only [Instr.sliceAt, Instr.slice, Sem.run_bind, run_underlying hu, Result.andThen_ok, Instr.sureAddr, Sem.run_pure, hb, run_sizeOf' hm, if_pos hc, e1, e2]
      · refine ⟨_, _, .slice (some ⟨p.r, p.o + (l.getD 0).toNat * m, none⟩) ((r.getD n).toNat - (l.getD 0).toNat) (n - (l.getD 0).toNat), rfl, ?_, ?_⟩
        · simp only [absV]
          exact ⟨p, d1, d2, by omega, .inl ⟨hno, rfl⟩⟩
        · simp only [Instr.sliceAt, Instr.slice, Sem.run_bind, run_underlying hu, Result.andThen_ok, Instr.sureAddr, Sem.run_pure, hb, run_sizeOf' hm, if_neg hc, Addr.add_lit]
  · cases he
end
end Go.SE
