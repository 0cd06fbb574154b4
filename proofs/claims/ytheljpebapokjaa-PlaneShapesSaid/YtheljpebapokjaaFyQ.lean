/-
  Sines and cosines as numbers, plain: what they are, the opposite, a turn more, the circle. No program in sight.
-/
import Derived.Test.YtheljpebapokjaaFyP
set_option maxRecDepth 100000
namespace Go.Proofs.Ytheljpebapokjaa
open Go.SE

theorem fitE_self {e : Int} (h : Sd e) : fitE e = e := by obtain ⟨_, _⟩ := h; unfold fitE; rw [if_neg (by omega), if_neg (by omega)]
theorem fitG_self {e : Int} {f : Bool} (h : Sd e) : fitG e f = f := by obtain ⟨_, _⟩ := h; unfold fitG; rw [if_pos (by unfold iabs; split <;> omega)]
theorem fitN_self {e : Int} {f : Bool} (h : Sd e) : fitN e f = ⟨e, f⟩ := by unfold fitN; rw [fitE_self h, fitG_self h]
theorem mulN_self {a b : NB} (ha : Sd a.v) (hb : Sd b.v) (h : Sd (mulE a.v b.v)) : mulN a b = ⟨mulE a.v b.v, a.f || b.f⟩ := by unfold mulN; rw [ha.self, hb.self, ha.flag, hb.flag, fitN_self h]
theorem addN_self {a b : NB} (ha : Sd a.v) (hb : Sd b.v) (h : Sd (a.v + b.v)) : addN a b = ⟨a.v + b.v, a.f || b.f⟩ := by unfold addN; rw [ha.self, hb.self, ha.flag, hb.flag, fitN_self h]
theorem negN_self {a : NB} (ha : Sd a.v) : negN a = ⟨-a.v, a.f⟩ := by unfold negN; rw [ha.self, ha.flag]
theorem tdiv_in {x B d : Int} (hd : 0 < d) (h : -B ≤ x ∧ x ≤ B) : -(B / d) ≤ Int.tdiv x d ∧ Int.tdiv x d ≤ B / d := by
  have key : ∀ y, 0 ≤ y → y ≤ B → 0 ≤ Int.tdiv y d ∧ Int.tdiv y d ≤ B / d := fun y h0 h1 => by
    rw [Int.tdiv_eq_ediv_of_nonneg h0]
    exact ⟨Int.ediv_nonneg h0 (by omega), Int.ediv_le_ediv hd h1⟩
  rcases Int.le_total 0 x with hx | hx
  · have := key x hx h.2; omega
  · have := key (-x) (by omega) (by omega)
    rw [Int.neg_tdiv] at this
    omega
theorem divN_int {a : NB} {n : Int} (ha : Sd a.v) (hn : 0 < n) (hn1 : n < 2147483648) : divN a (intN n) = ⟨Int.tdiv a.v n, a.f⟩ := by
  have hs : Sd (n * 4294967296) := ⟨by omega, by omega⟩
  have e : intN n = ⟨n * 4294967296, false⟩ := fitN_self hs
  have e2 : ratE a.v (n * 4294967296) = Int.tdiv a.v n := Int.mul_tdiv_mul_of_pos_left _ _ (by decide)
  have hq := tdiv_in (x := a.v) (B := 9223372036854775807) hn ha
  have hB : (9223372036854775807 : Int) / n ≤ 9223372036854775807 := Int.ediv_le_self _ (by decide)
  have ht : Sd (Int.tdiv a.v n) := ⟨by omega, by omega⟩
  unfold divN ratV ratF
  rw [e]
  simp only
  rw [ha.self, hs.self, ha.flag, hs.flag, if_neg (by omega), if_neg (by omega), e2, fitE_self ht, fitG_self ht, Bool.false_or, Bool.or_false]
theorem mulE_in {a b A B : Int} (hA : 0 ≤ A) (ha : -A ≤ a ∧ a ≤ A) (hb : -B ≤ b ∧ b ≤ B) : -(A * B / 4294967296) ≤ mulE a b ∧ mulE a b ≤ A * B / 4294967296 := tdiv_in (by decide) (mul_in hA ha.1 ha.2 hb.1 hb.2)
def InQ (v : Int) : Prop := -6746518852 ≤ v ∧ v ≤ 6746518852
theorem tT_in {v : Int} (h : InQ v) : ∀ k, InQ (tT v k)
  | 0 => h
  | k + 1 => by
    have h1 := mulE_in (by decide) (tT_in h k) h
    have h2 := mulE_in (A := 10597451456) (by decide) ⟨Int.le_trans (by decide) h1.1, Int.le_trans h1.2 (by decide)⟩ h
    have hN := den_pos k
    have hN6 : (6 : Int) ≤ (2 * ((k : Int) + 1)) * (2 * ((k : Int) + 1) + 1) := by
      have : (2 : Int) * 3 ≤ (2 * ((k : Int) + 1)) * (2 * ((k : Int) + 1) + 1) := Int.mul_le_mul (by omega) (by omega) (by decide) (by omega)
      omega
    have h3 := tdiv_in (B := 40479113112) hN ⟨Int.le_trans (by decide) h2.1, Int.le_trans h2.2 (by decide)⟩
    have h4 : (40479113112 : Int) / ((2 * ((k : Int) + 1)) * (2 * ((k : Int) + 1) + 1)) ≤ 6746518852 := by
      refine Int.ediv_le_of_le_mul hN ?_
      have := Int.mul_le_mul_of_nonneg_left hN6 (show (0 : Int) ≤ 6746518852 by decide)
      omega
    show InQ (-Int.tdiv _ _)
    unfold InQ
    omega
theorem InQ.sd {v : Int} (h : InQ v) : Sd v := by obtain ⟨_, _⟩ := h; exact ⟨by omega, by omega⟩
theorem sinT_eq {y : NB} (h : InQ y.v) : ∀ k, k ≤ 8 → sinT y k = ⟨tT y.v k, y.f⟩
  | 0, _ => rfl
  | k + 1, hk => by
    have ih := sinT_eq h k (by omega)
    have hs : Sd y.v := h.sd
    have ht := tT_in h k
    have h1 := mulE_in (by decide) ht h
    have h1' : Sd (mulE (tT y.v k) y.v) := ⟨Int.le_trans (by decide) h1.1, Int.le_trans h1.2 (by decide)⟩
    have h2 := mulE_in (A := 10597451456) (by decide) ⟨Int.le_trans (by decide) h1.1, Int.le_trans h1.2 (by decide)⟩ h
    have h2' : Sd (mulE (mulE (tT y.v k) y.v) y.v) := ⟨Int.le_trans (by decide) h2.1, Int.le_trans h2.2 (by decide)⟩
    have hN := den_pos k
    have hN1 := Int.mul_le_mul (a := 2 * ((k : Int) + 1)) (b := 2 * ((k : Int) + 1) + 1) (c := 18) (d := 19) (by omega) (by omega) (by omega) (by decide)
    have h5 := tT_in h (k + 1)
    show sinStep y (sinT y k) k = _
    unfold sinStep
    rw [ih, mulN_self (a := ⟨tT y.v k, y.f⟩) ht.sd hs h1', mulN_self (a := ⟨mulE (tT y.v k) y.v, y.f || y.f⟩) h1' hs h2', divN_int (a := ⟨mulE (mulE (tT y.v k) y.v) y.v, _⟩) h2' hN (by omega), negN_self]
    · simp only [Bool.or_self]; rfl
    · have e : Int.tdiv (mulE (mulE (tT y.v k) y.v) y.v) ((2 * ((k : Int) + 1)) * (2 * ((k : Int) + 1) + 1)) = -tT y.v (k + 1) := by show _ = - -Int.tdiv _ _; omega
      show Sd (Int.tdiv _ _)
      rw [e]; exact neg_sd h5.sd
theorem uT_lim {v : Int} (h : InQ v) : ∀ k : Nat, -(((k : Int) + 1) * 6746518852) ≤ uT v k ∧ uT v k ≤ ((k : Int) + 1) * 6746518852
  | 0 => by obtain ⟨_, _⟩ := h; show _ ≤ v ∧ v ≤ _; omega
  | k + 1 => by
    have a := uT_lim h k
    obtain ⟨_, _⟩ := tT_in h (k + 1)
    show _ ≤ uT v k + tT v (k + 1) ∧ uT v k + tT v (k + 1) ≤ _
    omega
theorem sinU_eq {y : NB} (h : InQ y.v) : ∀ k, k ≤ 8 → sinU y k = ⟨uT y.v k, y.f⟩
  | 0, _ => rfl
  | k + 1, hk => by
    have a := uT_lim h k
    have b := uT_lim h (k + 1)
    show addN (sinU y k) (sinT y (k + 1)) = _
    rw [sinU_eq h k (by omega), sinT_eq h (k + 1) hk, addN_self ⟨by show -9223372036854775807 ≤ uT y.v k; omega, by show uT y.v k ≤ 9223372036854775807; omega⟩ (tT_in h (k + 1)).sd ⟨by show _ ≤ uT y.v k + tT y.v (k + 1); have : uT y.v k + tT y.v (k + 1) = uT y.v (k + 1) := rfl; omega, by show uT y.v k + tT y.v (k + 1) ≤ _; have : uT y.v k + tT y.v (k + 1) = uT y.v (k + 1) := rfl; omega⟩]
    simp only [Bool.or_self]; rfl
def clE (u : Int) : Int := maxE (-4294967296) (minE u 4294967296)
theorem clE_neg (u : Int) : clE (-u) = -clE u := by unfold clE maxE minE; (repeat' split) <;> omega
theorem sinY_inQ (a : NB) : InQ (sinY a).v := sinY_in a
theorem sinN_eq (a : NB) : sinN a = ⟨clE (uT (sinY a).v 8), sndF a.v a.f⟩ := by
  have h := sinY_inQ a
  have b := uT_lim h 8
  have hs : Sd (uT (sinY a).v 8) := ⟨by omega, by omega⟩
  unfold sinN clampN
  rw [sinU_eq h 8 (Nat.le_refl _)]
  simp only
  rw [hs.self, hs.flag]
  have e1 : sndV (-4294967296) = -4294967296 := by decide
  have e2 : sndV 4294967296 = 4294967296 := by decide
  have e3 : ∀ f, sndF (-4294967296) f = f := fun f => sndF_self (by decide)
  have e4 : ∀ f, sndF 4294967296 f = f := fun f => sndF_self (by decide)
  rw [e1, e2, e3, e4, Bool.or_false, Bool.false_or]
  rfl
theorem wrapT_neg (v : Int) : wrapT (-v) = -wrapT v := by unfold wrapT; rw [Int.neg_tmod]; (repeat' split) <;> omega
theorem foldT_neg (v : Int) : foldT (-v) = -foldT v := by unfold foldT; (repeat' split) <;> omega
theorem sinN_neg {a : NB} (h : I64 a.v) : sinN (negN a) = negN (sinN a) := by
  have hs := sndV_sd h
  have e : (sinY (negN a)).v = -(sinY a).v := by
    show foldT (wrapT (sndV (-sndV a.v))) = -foldT (wrapT (sndV a.v))
    rw [(neg_sd hs).self, wrapT_neg, foldT_neg]
  have hb := sinN_in a
  rw [sinN_eq a] at hb
  have hb1 : -4294967296 ≤ clE (uT (sinY a).v 8) := hb.1
  have hb2 : clE (uT (sinY a).v 8) ≤ 4294967296 := hb.2
  have ef : sndF (negN a).v (negN a).f = sndF a.v a.f := by
    show sndF (-sndV a.v) _ = _
    rw [(neg_sd hs).flag]; rfl
  rw [sinN_eq (negN a), sinN_eq a, e, uT_neg, clE_neg, ef, negN_self (a := ⟨clE (uT (sinY a).v 8), _⟩) ⟨by show _ ≤ clE _; omega, by show clE _ ≤ _; omega⟩]
theorem wrapT_mod (v : Int) : ∃ k, wrapT v = v - 26986075409 * k := by
  have h := Int.tmod_add_mul_tdiv v 26986075409
  unfold wrapT
  split
  · exact ⟨Int.tdiv v 26986075409 + 1, by omega⟩
  · split
    · exact ⟨Int.tdiv v 26986075409 - 1, by omega⟩
    · exact ⟨Int.tdiv v 26986075409, by omega⟩
theorem wrapT_turn (v : Int) : wrapT (v + 26986075409) = wrapT v := by
  obtain ⟨k, hk⟩ := wrapT_mod v
  obtain ⟨j, hj⟩ := wrapT_mod (v + 26986075409)
  have a := wrapT_in (v := v)
  have b := wrapT_in (v := v + 26986075409)
  omega
theorem wrapT_self {v : Int} (h : -13493037704 ≤ v ∧ v ≤ 13493037704) : wrapT v = v := by
  obtain ⟨k, hk⟩ := wrapT_mod v
  have a := wrapT_in (v := v)
  omega
theorem wrapT_quarter {w : Int} (h : -13493037704 ≤ w ∧ w ≤ 13493037704) : wrapT (w + 6746518852) = if w + 6746518852 > 13493037704 then w + 6746518852 - 26986075409 else w + 6746518852 := by
  obtain ⟨k, hk⟩ := wrapT_mod (w + 6746518852)
  have a := wrapT_in (v := w + 6746518852)
  split <;> omega
theorem cosN_eq (a : NB) : cosN a = ⟨clE (uT (foldT (wrapT (wrapT (sndV a.v) + 6746518852))) 8), sndF a.v a.f⟩ := by
  have hw := wrapT_in (v := sndV a.v)
  have s1 : Sd (wrapT (sndV a.v)) := ⟨by omega, by omega⟩
  have s2 : Sd (wrapT (sndV a.v) + 6746518852) := ⟨by omega, by omega⟩
  have e : addN (wrapN a) ⟨6746518852, false⟩ = ⟨wrapT (sndV a.v) + 6746518852, sndF a.v a.f⟩ := by
    rw [addN_self (a := wrapN a) (b := ⟨6746518852, false⟩) s1 ⟨by decide, by decide⟩ s2]
    show NB.mk _ (sndF a.v a.f || false) = _
    rw [Bool.or_false]; rfl
  unfold cosN
  rw [e, sinN_eq]
  show NB.mk (clE (uT (foldT (wrapT (sndV (wrapT (sndV a.v) + 6746518852)))) 8)) (sndF (wrapT (sndV a.v) + 6746518852) (sndF a.v a.f)) = _
  rw [s2.self, s2.flag]
theorem uT_abs (v : Int) : uT v 8 * uT v 8 = uT (iabs v) 8 * uT (iabs v) 8 := by
  unfold iabs
  split
  · rw [uT_neg, Int.neg_mul_neg]
  · rfl
theorem fold_sum {w : Int} (h : -13493037704 ≤ w ∧ w ≤ 13493037704) : iabs (foldT w) + iabs (foldT (wrapT (w + 6746518852))) = 6746518852 ∨ iabs (foldT w) + iabs (foldT (wrapT (w + 6746518852))) = 6746518851 := by
  rw [wrapT_quarter h]
  obtain ⟨_, _⟩ := h
  unfold foldT iabs
  (repeat' split) <;> omega
theorem clE_cases (u : Int) : (clE u = u) ∨ (clE u = 4294967296 ∧ 4294967296 < u) ∨ (clE u = -4294967296 ∧ u < -4294967296) := by unfold clE maxE minE; (repeat' split) <;> omega
theorem clE_sq (u : Int) : clE u * clE u ≤ u * u ∧ (clE u * clE u = u * u ∨ clE u * clE u = 4294967296 * 4294967296) := by
  rcases clE_cases u with h | ⟨h, h'⟩ | ⟨h, h'⟩
  · rw [h]; exact ⟨Int.le_refl _, .inl rfl⟩
  · rw [h]; exact ⟨sq_le (by decide) (by omega), .inr rfl⟩
  · rw [h]
    have := sq_le (a := 4294967296) (b := -u) (by decide) (by omega)
    rw [Int.neg_mul_neg] at this
    exact ⟨this, .inr rfl⟩
theorem clE_circle {u w B : Int} (h : -B ≤ u * u + w * w - 4294967296 * 4294967296 ∧ u * u + w * w - 4294967296 * 4294967296 ≤ B) : -B ≤ clE u * clE u + clE w * clE w - 4294967296 * 4294967296 ∧ clE u * clE u + clE w * clE w - 4294967296 * 4294967296 ≤ B := by
  obtain ⟨u1, u2⟩ := clE_sq u
  obtain ⟨w1, w2⟩ := clE_sq w
  have p := sq_nonneg (clE u)
  have q := sq_nonneg (clE w)
  rcases u2 with u2 | u2 <;> rcases w2 with w2 | w2 <;> omega
/-- Sine and cosine are on the circle. -/
theorem sin_circle (a : NB) : -2748779069440 ≤ (sinN a).v * (sinN a).v + (cosN a).v * (cosN a).v - 18446744073709551616 ∧ (sinN a).v * (sinN a).v + (cosN a).v * (cosN a).v - 18446744073709551616 ≤ 2748779069440 := by
  rw [sinN_eq, cosN_eq a]
  have hw := wrapT_in (v := sndV a.v)
  have c := circle (iabs_nonneg (foldT (wrapT (sndV a.v)))) (iabs_nonneg (foldT (wrapT (wrapT (sndV a.v) + 6746518852)))) (fold_sum hw)
  rw [← uT_abs, ← uT_abs] at c
  exact clE_circle c
end Go.Proofs.Ytheljpebapokjaa
