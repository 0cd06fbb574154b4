/-
  Sines and cosines are on the circle, plain: the series in whole numbers, polynomials with whole coefficients. No program in sight.
-/
import Derived.Test.YtheljpebapokjaaFyJ
set_option maxRecDepth 100000
namespace Go.Proofs.Ytheljpebapokjaa
open Go.SE

/-! ### polynomials, the lowest coefficient first -/
def pev : List Int → Int → Int
  | [], _ => 0
  | c :: p, x => c + x * pev p x
def padd : List Int → List Int → List Int
  | [], q => q
  | a :: p, [] => a :: p
  | a :: p, b :: q => (a + b) :: padd p q
def psc (c : Int) : List Int → List Int
  | [] => []
  | a :: p => c * a :: psc c p
def pmul : List Int → List Int → List Int
  | [], _ => []
  | a :: p, q => padd (psc a q) (0 :: pmul p q)
def pcomp : List Int → List Int → List Int
  | [], _ => []
  | a :: p, q => padd [a] (pmul q (pcomp p q))
def pab : List Int → Int → Int
  | [], _ => 0
  | c :: p, x => iabs c + x * pab p x
theorem pev_add (x : Int) : ∀ p q, pev (padd p q) x = pev p x + pev q x
  | [], q => by simp [padd, pev]
  | a :: p, [] => by simp [padd, pev]
  | a :: p, b :: q => by simp only [padd, pev, pev_add x p q, Int.mul_add]; omega
theorem pev_sc (c x : Int) : ∀ p, pev (psc c p) x = c * pev p x
  | [] => by simp [psc, pev]
  | a :: p => by simp only [psc, pev, pev_sc c x p, Int.mul_add]; rw [Int.mul_left_comm]
theorem pev_mul (x : Int) : ∀ p q, pev (pmul p q) x = pev p x * pev q x
  | [], q => by simp [pmul, pev]
  | a :: p, q => by simp only [pmul, pev_add, pev_sc, pev, pev_mul x p q, Int.add_mul, Int.mul_assoc]; omega
theorem pev_comp (x : Int) : ∀ p q, pev (pcomp p q) x = pev p (pev q x)
  | [], q => by simp [pcomp, pev]
  | a :: p, q => by simp only [pcomp, pev_add, pev_mul, pev, pev_comp x p q]; omega
theorem pab_nonneg {x : Int} (h : 0 ≤ x) : ∀ p, 0 ≤ pab p x
  | [] => Int.le_refl _
  | c :: p => by have := Int.mul_nonneg h (pab_nonneg h p); have := iabs_nonneg c; show 0 ≤ iabs c + x * pab p x; omega
theorem pev_in {x q : Int} (h0 : 0 ≤ x) (h1 : x ≤ q) : ∀ p, -pab p q ≤ pev p x ∧ pev p x ≤ pab p q
  | [] => ⟨Int.le_refl _, Int.le_refl _⟩
  | c :: p => by
    obtain ⟨a, b⟩ := pev_in h0 h1 p
    have n := pab_nonneg (x := q) (by omega) p
    have m1 : x * pab p q ≤ q * pab p q := Int.mul_le_mul_of_nonneg_right h1 n
    have m2 : x * pev p x ≤ x * pab p q := Int.mul_le_mul_of_nonneg_left b h0
    have m3 : x * -pab p q ≤ x * pev p x := Int.mul_le_mul_of_nonneg_left a h0
    rw [Int.mul_neg] at m3
    have c1 : -iabs c ≤ c ∧ c ≤ iabs c := by unfold iabs; split <;> omega
    show -(iabs c + q * pab p q) ≤ c + x * pev p x ∧ c + x * pev p x ≤ iabs c + q * pab p q
    omega

/-! ### the series -/
/-- Its size: the k-th term. -/
def mg (a : Int) : Nat → Int
  | 0 => a
  | k + 1 => mg a k * a / 4294967296 * a / 4294967296 / ((2 * ((k : Int) + 1)) * (2 * ((k : Int) + 1) + 1))
def sgk : Nat → Int
  | 0 => 1
  | k + 1 => -sgk k
theorem sgk_or : ∀ k, sgk k = 1 ∨ sgk k = -1
  | 0 => .inl rfl
  | k + 1 => by rcases sgk_or k with h | h <;> simp [sgk, h]
/-- The k-th term, the sum. -/
def tT (v : Int) : Nat → Int
  | 0 => v
  | k + 1 => -Int.tdiv (mulE (mulE (tT v k) v) v) ((2 * ((k : Int) + 1)) * (2 * ((k : Int) + 1) + 1))
def uT (v : Int) : Nat → Int
  | 0 => v
  | k + 1 => uT v k + tT v (k + 1)
theorem mulE_neg (a b : Int) : mulE (-a) b = -mulE a b := by unfold mulE; rw [Int.neg_mul, Int.neg_tdiv]
theorem mulE_neg2 (a b : Int) : mulE a (-b) = -mulE a b := by unfold mulE; rw [Int.mul_neg, Int.neg_tdiv]
theorem tT_neg (v : Int) : ∀ k, tT (-v) k = -tT v k
  | 0 => rfl
  | k + 1 => by
    show -Int.tdiv (mulE (mulE (tT (-v) k) (-v)) (-v)) _ = - -Int.tdiv (mulE (mulE (tT v k) v) v) _
    rw [tT_neg v k]
    simp only [mulE_neg, mulE_neg2, Int.neg_tdiv, Int.neg_neg]
theorem uT_neg (v : Int) : ∀ k, uT (-v) k = -uT v k
  | 0 => rfl
  | k + 1 => by show uT (-v) k + tT (-v) (k + 1) = -(uT v k + tT v (k + 1)); rw [uT_neg v k, tT_neg]; omega
theorem den_pos (k : Nat) : (0 : Int) < (2 * ((k : Int) + 1)) * (2 * ((k : Int) + 1) + 1) := Int.mul_pos (by omega) (by omega)
theorem mg_nonneg {a : Int} (h : 0 ≤ a) : ∀ k, 0 ≤ mg a k
  | 0 => h
  | k + 1 => by
    have h1 := Int.mul_nonneg (mg_nonneg h k) h
    have h2 : 0 ≤ mg a k * a / 4294967296 := Int.ediv_nonneg h1 (by decide)
    exact Int.ediv_nonneg (Int.ediv_nonneg (Int.mul_nonneg h2 h) (by decide)) (Int.le_of_lt (den_pos k))
theorem mulE_pos {a b : Int} (ha : 0 ≤ a) (hb : 0 ≤ b) : mulE a b = a * b / 4294967296 := Int.tdiv_eq_ediv_of_nonneg (Int.mul_nonneg ha hb)
theorem tT_mg {a : Int} (h : 0 ≤ a) : ∀ k, tT a k = sgk k * mg a k
  | 0 => by show a = 1 * a; omega
  | k + 1 => by
    have h0 := mg_nonneg h k
    have h1 : 0 ≤ mg a k * a / 4294967296 := Int.ediv_nonneg (Int.mul_nonneg h0 h) (by decide)
    have h2 : 0 ≤ mg a k * a / 4294967296 * a / 4294967296 := Int.ediv_nonneg (Int.mul_nonneg h1 h) (by decide)
    show -Int.tdiv (mulE (mulE (tT a k) a) a) _ = -sgk k * (mg a k * a / 4294967296 * a / 4294967296 / _)
    rw [tT_mg h k]
    have e : Int.tdiv (mulE (mulE (mg a k) a) a) ((2 * ((k : Int) + 1)) * (2 * ((k : Int) + 1) + 1)) = mg a k * a / 4294967296 * a / 4294967296 / ((2 * ((k : Int) + 1)) * (2 * ((k : Int) + 1) + 1)) := by
      rw [mulE_pos h0 h, mulE_pos h1 h, Int.tdiv_eq_ediv_of_nonneg h2]
    rw [← e]
    rcases sgk_or k with hs | hs
    · rw [hs, Int.one_mul]; omega
    · rw [hs, show (-1 : Int) * mg a k = -mg a k by omega]
      simp only [mulE_neg, Int.neg_tdiv, Int.neg_neg]; omega
/-- The k-th term's denominator, and its numerator. -/
def CC : Nat → Int
  | 0 => 1
  | k + 1 => CC k * (18446744073709551616 * ((2 * ((k : Int) + 1)) * (2 * ((k : Int) + 1) + 1)))
def aa (a : Int) : Nat → Int
  | 0 => a
  | k + 1 => aa a k * (a * a)
theorem CC_pos : ∀ k, 0 < CC k
  | 0 => by decide
  | k + 1 => Int.mul_pos (CC_pos k) (Int.mul_pos (by decide) (den_pos k))
theorem mg_in {a : Int} (h : 0 ≤ a) (h1 : a ≤ 6746518852) : ∀ k, mg a k * CC k ≤ aa a k ∧ aa a k ≤ (mg a k + 3) * CC k
  | 0 => by show a * 1 ≤ a ∧ a ≤ (a + 3) * 1; omega
  | k + 1 => by
    obtain ⟨l, u⟩ := mg_in h h1 k
    have c0 := CC_pos k
    have m0 := mg_nonneg h k
    have hN := den_pos k
    have hN6 : (6 : Int) ≤ (2 * ((k : Int) + 1)) * (2 * ((k : Int) + 1) + 1) := by
      have : (2 : Int) * 3 ≤ (2 * ((k : Int) + 1)) * (2 * ((k : Int) + 1) + 1) := Int.mul_le_mul (by omega) (by omega) (by decide) (by omega)
      omega
    show mg a k * a / 4294967296 * a / 4294967296 / _ * (CC k * (18446744073709551616 * _)) ≤ aa a k * (a * a) ∧ aa a k * (a * a) ≤ (mg a k * a / 4294967296 * a / 4294967296 / _ + 3) * (CC k * (18446744073709551616 * _))
    generalize (2 * ((k : Int) + 1)) * (2 * ((k : Int) + 1) + 1) = N at *
    generalize hm : mg a k = m at *
    generalize CC k = c at *
    have p0 := Int.ediv_nonneg (Int.mul_nonneg m0 h) (show (0 : Int) ≤ 4294967296 by decide)
    have p1 : m * a / 4294967296 * 4294967296 ≤ m * a := Int.ediv_mul_le _ (by decide)
    have p2 : m * a < (m * a / 4294967296 + 1) * 4294967296 := Int.lt_ediv_add_one_mul_self _ (by decide)
    generalize m * a / 4294967296 = p at *
    have q1 : p * a / 4294967296 * 4294967296 ≤ p * a := Int.ediv_mul_le _ (by decide)
    have q2 : p * a < (p * a / 4294967296 + 1) * 4294967296 := Int.lt_ediv_add_one_mul_self _ (by decide)
    generalize p * a / 4294967296 = q at *
    have r1 : q / N * N ≤ q := Int.ediv_mul_le _ (by omega)
    have r2 : q < (q / N + 1) * N := Int.lt_ediv_add_one_mul_self _ hN
    generalize q / N = r at *
    have haa := sq_nonneg a
    -- m a a between
    have e1 : m * (a * a) = m * a * a := (Int.mul_assoc m a a).symm
    have e2 : p * 4294967296 * a = p * a * 4294967296 := Int.mul_right_comm _ _ _
    have s1 : p * 4294967296 * a ≤ m * a * a := Int.mul_le_mul_of_nonneg_right p1 h
    have s2 : m * a * a ≤ (p + 1) * 4294967296 * a := Int.mul_le_mul_of_nonneg_right (by omega) h
    have e3 : (p + 1) * 4294967296 * a = p * a * 4294967296 + 4294967296 * a := by rw [Int.add_mul, Int.add_mul, Int.mul_right_comm p]; omega
    constructor
    · -- r N F F ≤ m a a
      have t1 : r * N * 18446744073709551616 ≤ m * (a * a) := by omega
      have t2 : r * N * 18446744073709551616 * c ≤ m * (a * a) * c := Int.mul_le_mul_of_nonneg_right t1 (by omega)
      have t3 : m * (a * a) * c = m * c * (a * a) := Int.mul_right_comm _ _ _
      have t4 : m * c * (a * a) ≤ aa a k * (a * a) := Int.mul_le_mul_of_nonneg_right l haa
      have t5 : r * (c * (18446744073709551616 * N)) = r * N * 18446744073709551616 * c := by
        rw [Int.mul_comm 18446744073709551616 N, ← Int.mul_assoc c, ← Int.mul_assoc r, Int.mul_right_comm (r * N), ← Int.mul_assoc r, Int.mul_right_comm r c N]
      omega
    · have a2 : a * a ≤ 6746518852 * a := Int.mul_le_mul_of_nonneg_right h1 h
      have e4 : (r + 1) * N = r * N + N := by rw [Int.add_mul]; omega
      have e5 : (r + 3) * N = r * N + 3 * N := by rw [Int.add_mul]
      have t1 : (m + 3) * (a * a) ≤ (r + 3) * N * 18446744073709551616 := by
        have : (m + 3) * (a * a) = m * (a * a) + 3 * (a * a) := Int.add_mul _ _ _
        omega
      have t2 : (m + 3) * (a * a) * c ≤ (r + 3) * N * 18446744073709551616 * c := Int.mul_le_mul_of_nonneg_right t1 (by omega)
      have t3 : (m + 3) * (a * a) * c = (m + 3) * c * (a * a) := Int.mul_right_comm _ _ _
      have t4 : aa a k * (a * a) ≤ (m + 3) * c * (a * a) := Int.mul_le_mul_of_nonneg_right u haa
      have t5 : (r + 3) * (c * (18446744073709551616 * N)) = (r + 3) * N * 18446744073709551616 * c := by
        rw [Int.mul_comm 18446744073709551616 N, ← Int.mul_assoc c, ← Int.mul_assoc (r + 3), Int.mul_right_comm ((r + 3) * N), ← Int.mul_assoc (r + 3), Int.mul_right_comm (r + 3) c N]
      omega

/-- The sum's polynomial: D times the series. -/
def DD : Int := CC 8
def PL : List Int := [0, CC 8 / CC 0, 0, -(CC 8 / CC 1), 0, CC 8 / CC 2, 0, -(CC 8 / CC 3), 0, CC 8 / CC 4, 0, -(CC 8 / CC 5), 0, CC 8 / CC 6, 0, -(CC 8 / CC 7), 0, CC 8 / CC 8]
def GL (q : Int) : List Int := padd (padd (pmul PL PL) (pmul (pcomp PL [q, -1]) (pcomp PL [q, -1]))) [-(DD * 4294967296 * (DD * 4294967296))]
theorem GL_1 : pab (GL 6746518852) 6746518852 ≤ 512 * 4294967296 * (DD * DD) := by decide +kernel
theorem GL_2 : pab (GL 6746518851) 6746518851 ≤ 512 * 4294967296 * (DD * DD) := by decide +kernel
theorem quot (k : Nat) (h : k ≤ 8) : CC 8 / CC k * CC k = CC 8 := by
  have : ∀ k : Fin 9, CC 8 / CC k.val * CC k.val = CC 8 := by decide +kernel
  exact this ⟨k, by omega⟩
/-- One term of the sum, times D. -/
theorem term_in {a : Int} (h : 0 ≤ a) (h1 : a ≤ 6746518852) (k : Nat) (hk : k ≤ 8) : 0 ≤ CC 8 / CC k * aa a k - DD * mg a k ∧ CC 8 / CC k * aa a k - DD * mg a k ≤ 3 * DD := by
  obtain ⟨l, u⟩ := mg_in h h1 k
  have q := quot k hk
  have r0 : 0 ≤ CC 8 / CC k := Int.ediv_nonneg (Int.le_of_lt (CC_pos 8)) (Int.le_of_lt (CC_pos k))
  unfold DD
  generalize CC 8 / CC k = R at *
  have a1 := Int.mul_le_mul_of_nonneg_left l r0
  have a2 := Int.mul_le_mul_of_nonneg_left u r0
  have e1 : R * (mg a k * CC k) = CC 8 * mg a k := by rw [Int.mul_left_comm, q, Int.mul_comm]
  have e2 : R * ((mg a k + 3) * CC k) = CC 8 * mg a k + 3 * CC 8 := by rw [Int.mul_left_comm, q, Int.add_mul, Int.mul_comm]
  omega
theorem aa_pow (a : Int) : aa a 0 = a ∧ aa a 1 = a * (a * a) ∧ ∀ k, aa a (k + 1) = aa a k * (a * a) := ⟨rfl, rfl, fun _ => rfl⟩
theorem pev_PL (a : Int) : pev PL a = CC 8 / CC 0 * aa a 0 - CC 8 / CC 1 * aa a 1 + CC 8 / CC 2 * aa a 2 - CC 8 / CC 3 * aa a 3 + CC 8 / CC 4 * aa a 4 - CC 8 / CC 5 * aa a 5 + CC 8 / CC 6 * aa a 6 - CC 8 / CC 7 * aa a 7 + CC 8 / CC 8 * aa a 8 := by
  unfold PL
  generalize CC 8 / CC 0 = c0
  generalize CC 8 / CC 1 = c1
  generalize CC 8 / CC 2 = c2
  generalize CC 8 / CC 3 = c3
  generalize CC 8 / CC 4 = c4
  generalize CC 8 / CC 5 = c5
  generalize CC 8 / CC 6 = c6
  generalize CC 8 / CC 7 = c7
  generalize CC 8 / CC 8 = c8
  have odd : ∀ (c : Int) (p : List Int), pev (0 :: c :: p) a = a * (c + a * pev p a) := fun c p => by simp only [pev]; omega
  have sh : ∀ (c : Int) (p : List Int), pev (0 :: c :: p) a = c * a + (a * a) * pev p a := fun c p => by rw [odd, Int.mul_add, Int.mul_comm a c, Int.mul_assoc]
  have e0 : ∀ k, aa a (k + 1) = (a * a) * aa a k := fun k => by show aa a k * (a * a) = _; rw [Int.mul_comm]
  -- p(x) = c0 x + x² p1(x), where p1 begins with 0 again
  have s0 : pev [0, c0, 0, -c1, 0, c2, 0, -c3, 0, c4, 0, -c5, 0, c6, 0, -c7, 0, c8] a = c0 * a + (a * a) * (-c1 * a + (a * a) * (c2 * a + (a * a) * (-c3 * a + (a * a) * (c4 * a + (a * a) * (-c5 * a + (a * a) * (c6 * a + (a * a) * (-c7 * a + (a * a) * (c8 * a)))))))) := by
    rw [sh, sh, sh, sh, sh, sh, sh, sh, sh]; simp [pev]
  rw [s0]
  simp only [e0, show aa a 0 = a from rfl]
  generalize a * a = b
  simp only [Int.mul_add, Int.neg_mul, Int.mul_neg, Int.mul_left_comm b]
  omega
theorem uT_sum (a : Int) (h : 0 ≤ a) : uT a 8 = mg a 0 - mg a 1 + mg a 2 - mg a 3 + mg a 4 - mg a 5 + mg a 6 - mg a 7 + mg a 8 := by
  have e : ∀ k, uT a (k + 1) = uT a k + sgk (k + 1) * mg a (k + 1) := fun k => by rw [← tT_mg h (k + 1)]; rfl
  rw [e 7, e 6, e 5, e 4, e 3, e 2, e 1, e 0]
  show a + -1 * mg a 1 + 1 * mg a 2 + -1 * mg a 3 + 1 * mg a 4 + -1 * mg a 5 + 1 * mg a 6 + -1 * mg a 7 + 1 * mg a 8 = a - _ + _ - _ + _ - _ + _ - _ + _
  omega
theorem uT_in {a : Int} (h : 0 ≤ a) (h1 : a ≤ 6746518852) : -(12 * DD) ≤ DD * uT a 8 - pev PL a ∧ DD * uT a 8 - pev PL a ≤ 12 * DD := by
  rw [uT_sum a h, pev_PL]
  have t0 : CC 8 / CC 0 * aa a 0 = DD * mg a 0 := by show CC 8 / CC 0 * a = CC 8 * a; rw [show CC 8 / CC 0 = CC 8 by decide +kernel]
  have t1 := term_in h h1 1 (by decide)
  have t2 := term_in h h1 2 (by decide)
  have t3 := term_in h h1 3 (by decide)
  have t4 := term_in h h1 4 (by decide)
  have t5 := term_in h h1 5 (by decide)
  have t6 := term_in h h1 6 (by decide)
  have t7 := term_in h h1 7 (by decide)
  have t8 := term_in h h1 8 (by decide)
  simp only [Int.mul_add, Int.mul_sub]
  generalize DD = D at *
  omega
theorem GL_ev (q a : Int) : pev (GL q) a = pev PL a * pev PL a + pev PL (q - a) * pev PL (q - a) - DD * 4294967296 * (DD * 4294967296) := by
  have e : pev [q, -1] a = q - a := by simp [pev]; omega
  unfold GL
  rw [pev_add, pev_add, pev_mul, pev_mul, pev_comp, e]
  simp [pev]; omega
theorem mmmm (a b c d : Int) : a * b * (c * d) = a * c * (b * d) := by rw [Int.mul_assoc, Int.mul_assoc, Int.mul_left_comm b c d]
theorem mul_in {p q P Q : Int} (hP : 0 ≤ P) (a1 : -P ≤ p) (a2 : p ≤ P) (b1 : -Q ≤ q) (b2 : q ≤ Q) : -(P * Q) ≤ p * q ∧ p * q ≤ P * Q := by
  have c1 : iabs p ≤ P := by unfold iabs; split <;> omega
  have c2 : iabs q ≤ Q := by unfold iabs; split <;> omega
  have c3 : iabs p * iabs q ≤ P * Q := Int.mul_le_mul c1 c2 (iabs_nonneg q) hP
  have c4 := sgn_mul p q
  have c5 := iabs_mul (a := p) (b := q)
  generalize iabs p * iabs q = z at *
  generalize (!(decide (p < 0) == decide (q < 0))) = n at *
  rw [← c4]
  unfold sv
  cases n <;> simp <;> omega
/-- The sum of the squares of two sums. -/
theorem sq_sum {D u w A B F : Int} (hD : 0 < D) (hF : 1000 ≤ F) (h1 : -(12 * D) ≤ D * u - A ∧ D * u - A ≤ 12 * D) (h2 : -(12 * D) ≤ D * w - B ∧ D * w - B ≤ 12 * D)
    (h3 : -(512 * F * (D * D)) ≤ A * A + B * B - D * F * (D * F) ∧ A * A + B * B - D * F * (D * F) ≤ 512 * F * (D * D)) : -(640 * F) ≤ u * u + w * w - F * F ∧ u * u + w * w - F * F ≤ 640 * F := by
  have hDD : 0 < D * D := Int.mul_pos hD hD
  have eF : D * F * (D * F) = F * F * (D * D) := by rw [mmmm, Int.mul_comm]
  have k1 : 512 * F * (D * D) = 512 * (F * (D * D)) := Int.mul_assoc _ _ _
  rw [eF, k1] at h3
  have hFF : 1000 * F ≤ F * F := Int.mul_le_mul_of_nonneg_right hF (by omega)
  have hFD : 1000 * (D * D) ≤ F * (D * D) := Int.mul_le_mul_of_nonneg_right hF (by omega)
  have hFFD : 1000 * (F * (D * D)) ≤ F * (F * (D * D)) := Int.mul_le_mul_of_nonneg_right hF (by omega)
  have k2 : F * F * (D * D) = F * (F * (D * D)) := Int.mul_assoc _ _ _
  have k3 : (2 * (D * F)) * (2 * (D * F)) = 4 * (F * (F * (D * D))) := by rw [mmmm, eF, k2]; omega
  have p2 : 0 ≤ D * F := Int.mul_nonneg (Int.le_of_lt hD) (by omega)
  -- A and B are at most 2 D F
  have lim : ∀ {X Y : Int}, X * X + Y * Y - F * F * (D * D) ≤ 512 * (F * (D * D)) → -(2 * (D * F)) ≤ X ∧ X ≤ 2 * (D * F) := by
    intro X Y h
    have y := sq_nonneg Y
    have hX : X * X ≤ (2 * (D * F)) * (2 * (D * F)) := by omega
    have hX' : (-X) * (-X) ≤ (2 * (D * F)) * (2 * (D * F)) := by rw [Int.neg_mul_neg]; exact hX
    have a := sq_le_of (show 0 ≤ 2 * (D * F) by omega) hX
    have b := sq_le_of (show 0 ≤ 2 * (D * F) by omega) hX'
    omega
  have lA := lim h3.2
  have lB := lim (X := B) (Y := A) (by omega)
  -- (D u)² and A²
  have near : ∀ {U X : Int}, -(12 * D) ≤ U - X → U - X ≤ 12 * D → -(2 * (D * F)) ≤ X ∧ X ≤ 2 * (D * F) → -(49 * (F * (D * D))) ≤ U * U - X * X ∧ U * U - X * X ≤ 49 * (F * (D * D)) := by
    intro U X l u ⟨xl, xu⟩
    have e : U * U - X * X = (U - X) * (2 * X + (U - X)) := by rw [Int.sub_mul, Int.mul_add, Int.mul_add, Int.mul_sub, Int.mul_sub, Int.mul_left_comm U 2, Int.mul_left_comm X 2, Int.mul_comm X U]; omega
    rw [e]
    have t := mul_in (p := U - X) (q := 2 * X + (U - X)) (P := 12 * D) (Q := 4 * (D * F) + 12 * D) (by omega) (by omega) u (by omega) (by omega)
    have e2 : 12 * D * (4 * (D * F) + 12 * D) = 48 * (F * (D * D)) + 144 * (D * D) := by
      rw [Int.mul_add, mmmm 12 D 4, mmmm 12 D 12, ← Int.mul_assoc D D F, Int.mul_comm (D * D) F]
      omega
    omega
  have nA := near h1.1 h1.2 lA
  have nB := near h2.1 h2.2 lB
  have eu : D * u * (D * u) = u * u * (D * D) := by rw [mmmm, Int.mul_comm]
  have ew : D * w * (D * w) = w * w * (D * D) := by rw [mmmm, Int.mul_comm]
  rw [eu] at nA
  rw [ew] at nB
  have tot : (u * u + w * w - F * F) * (D * D) = u * u * (D * D) + w * w * (D * D) - F * F * (D * D) := by rw [Int.sub_mul, Int.add_mul]
  have b1 : 640 * F * (D * D) = 640 * (F * (D * D)) := Int.mul_assoc _ _ _
  have b2 : -(640 * F) * (D * D) = -(640 * F * (D * D)) := Int.neg_mul _ _
  constructor
  · refine Int.le_of_mul_le_mul_right ?_ hDD
    rw [tot, b2]; omega
  · refine Int.le_of_mul_le_mul_right ?_ hDD
    rw [tot]; omega
theorem circle {a b : Int} (ha : 0 ≤ a) (hb : 0 ≤ b) (h : a + b = 6746518852 ∨ a + b = 6746518851) : -(640 * 4294967296) ≤ uT a 8 * uT a 8 + uT b 8 * uT b 8 - 4294967296 * 4294967296 ∧ uT a 8 * uT a 8 + uT b 8 * uT b 8 - 4294967296 * 4294967296 ≤ 640 * 4294967296 := by
  refine sq_sum (D := DD) (CC_pos 8) (by decide) (uT_in ha (by omega)) (uT_in hb (by omega)) ?_
  rcases h with h | h
  · have e : b = 6746518852 - a := by omega
    rw [e, ← GL_ev]
    have := pev_in ha (show a ≤ 6746518852 by omega) (GL 6746518852)
    have := GL_1
    omega
  · have e : b = 6746518851 - a := by omega
    rw [e, ← GL_ev]
    have := pev_in ha (show a ≤ 6746518851 by omega) (GL 6746518851)
    have := GL_2
    omega
end Go.Proofs.Ytheljpebapokjaa
