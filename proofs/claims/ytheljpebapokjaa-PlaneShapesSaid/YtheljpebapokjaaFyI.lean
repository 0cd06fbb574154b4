/-
  Roots of whole numbers, plain: bit by bit, and Newton's way from above. No program in sight.
-/
import Derived.Test.YtheljpebapokjaaFxMath
set_option maxRecDepth 100000
namespace Go.Proofs.Ytheljpebapokjaa
open Go.SE

/-- The root of m, k bits still to come behind r. -/
def rt : Nat → Int → Int → Int
  | 0, r, _ => r
  | k + 1, r, m => if (r + 2 ^ k) * (r + 2 ^ k) ≤ m then rt k (r + 2 ^ k) m else rt k r m
def isq (m : Int) : Int := rt 64 0 m
theorem sq_le {a b : Int} (h0 : 0 ≤ a) (h : a ≤ b) : a * a ≤ b * b := Int.mul_le_mul h h h0 (by omega)
theorem sq_lt {a b : Int} (h0 : 0 ≤ a) (h : a < b) : a * a < b * b := by
  have h1 := sq_le (a := a + 1) (b := b) (by omega) (by omega)
  have e : (a + 1) * (a + 1) = a * a + 2 * a + 1 := by rw [Int.add_mul, Int.mul_add]; omega
  omega
theorem sq_lt_of {a b : Int} (h0 : 0 ≤ b) (h : a * a < b * b) : a < b := by
  rcases Int.lt_or_le a b with h1 | h1
  · exact h1
  · have := sq_le h0 h1; omega
theorem sq_le_of {a b : Int} (h0 : 0 ≤ b) (h : a * a ≤ b * b) : a ≤ b := by
  rcases Int.lt_or_le b a with h1 | h1
  · have := sq_lt h0 h1; omega
  · exact h1
theorem two_pos (k : Nat) : (0 : Int) < 2 ^ k := by exact_mod_cast Nat.two_pow_pos k
theorem rt_in : ∀ (k : Nat) (r m : Int), 0 ≤ r → r * r ≤ m → m < (r + 2 ^ k) * (r + 2 ^ k) → r ≤ rt k r m ∧ rt k r m < r + 2 ^ k ∧ rt k r m * rt k r m ≤ m ∧ m < (rt k r m + 1) * (rt k r m + 1)
  | 0, r, m, _, h1, h2 => by
    rw [Int.pow_zero] at h2
    exact ⟨Int.le_refl _, by rw [Int.pow_zero]; show r < r + 1; omega, h1, h2⟩
  | k + 1, r, m, h0, h1, h2 => by
    have hp := two_pos k
    have e : r + 2 ^ (k + 1) = r + 2 ^ k + 2 ^ k := by rw [Int.pow_succ]; omega
    unfold rt
    by_cases h : (r + 2 ^ k) * (r + 2 ^ k) ≤ m
    · rw [if_pos h]
      obtain ⟨a, b, c, d⟩ := rt_in k (r + 2 ^ k) m (by omega) h (by rw [← e]; exact h2)
      exact ⟨by omega, by omega, c, d⟩
    · rw [if_neg h]
      obtain ⟨a, b, c, d⟩ := rt_in k r m h0 h1 (by omega)
      exact ⟨a, by omega, c, d⟩
def W128 : Int := 340282366920938463463374607431768211456
theorem isq_in {m : Int} (h0 : 0 ≤ m) (h1 : m < 340282366920938463463374607431768211456) : 0 ≤ isq m ∧ isq m < 18446744073709551616 ∧ isq m * isq m ≤ m ∧ m < (isq m + 1) * (isq m + 1) := by
  have := rt_in 64 0 m (Int.le_refl _) (by simpa using h0) (by show m < (0 + 2 ^ 64) * (0 + 2 ^ 64); exact Int.lt_of_lt_of_le h1 (by decide))
  obtain ⟨a, b, c, d⟩ := this
  exact ⟨a, by have e : (0 : Int) + 2 ^ 64 = 18446744073709551616 := by decide
               rw [e] at b; exact b, c, d⟩
theorem isq_eq {m r : Int} (h0 : 0 ≤ m) (h1 : m < 340282366920938463463374607431768211456) (hr : 0 ≤ r) (h2 : r * r ≤ m) (h3 : m < (r + 1) * (r + 1)) : r = isq m := by
  obtain ⟨a, b, c, d⟩ := isq_in h0 h1
  have x := sq_lt_of (a := isq m) (b := r + 1) (by omega) (by omega)
  have y := sq_lt_of (a := r) (b := isq m + 1) (by omega) (by omega)
  omega
theorem isq_mono {m n : Int} (h0 : 0 ≤ m) (h : m ≤ n) (h1 : n < 340282366920938463463374607431768211456) : isq m ≤ isq n := by
  obtain ⟨a, b, c, d⟩ := isq_in h0 (by omega)
  obtain ⟨a', b', c', d'⟩ := isq_in (m := n) (by omega) h1
  have := sq_lt_of (a := isq m) (b := isq n + 1) (by omega) (by omega)
  omega
theorem isq_sq {a : Int} (h0 : 0 ≤ a) (h1 : a < 18446744073709551616) : isq (a * a) = a := by
  have h2 : a * a < 18446744073709551616 * 18446744073709551616 := sq_lt h0 h1
  have h3 : (a + 1) * (a + 1) = a * a + 2 * a + 1 := by rw [Int.add_mul, Int.mul_add]; omega
  exact (isq_eq (Int.mul_nonneg h0 h0) (by omega) h0 (Int.le_refl _) (by omega)).symm
/-! ### Newton -/
/-- The root, once the quotient is not less. -/
theorem newton_end {m r : Int} (h0 : 0 ≤ m) (h1 : m < 340282366920938463463374607431768211456) (hr : isq m ≤ r) (h : r * r ≤ m) : r = isq m := by
  obtain ⟨a, b, c, d⟩ := isq_in h0 h1
  have := sq_lt_of (a := r) (b := isq m + 1) (by omega) (by omega)
  omega
theorem newton_next {m r : Int} (h0 : 0 ≤ m) (h1 : m < 340282366920938463463374607431768211456) (hr : 0 < r) : isq m ≤ (r + m / r) / 2 := by
  obtain ⟨a, b, c, d⟩ := isq_in h0 h1
  have hq : m < (m / r + 1) * r := Int.lt_ediv_add_one_mul_self m hr
  generalize m / r = q at *
  generalize isq m = s at *
  rcases Int.lt_or_le (r + q) (2 * s) with h | h
  · exfalso
    have e1 : (q + 1) * r ≤ (2 * s - r) * r := Int.mul_le_mul_of_nonneg_right (by omega) (by omega)
    have e2 : 0 ≤ (s - r) * (s - r) := by
      rcases Int.le_total 0 (s - r) with h | h
      · exact Int.mul_nonneg h h
      · have := Int.mul_nonneg (show 0 ≤ -(s - r) by omega) (show 0 ≤ -(s - r) by omega); rw [Int.neg_mul_neg] at this; exact this
    have e3 : (s - r) * (s - r) = s * s - 2 * s * r + r * r := by rw [Int.sub_mul, Int.mul_sub, Int.mul_sub, Int.mul_comm r s, Int.mul_assoc 2 s r]; omega
    have e4 : (2 * s - r) * r = 2 * s * r - r * r := Int.sub_mul _ _ _
    omega
  · omega
theorem rt_first {m : Int} {L h : Nat} (h0 : 0 ≤ m) (h1 : m < 2 ^ L) (h2 : L ≤ 2 * h) (h3 : m < 340282366920938463463374607431768211456) : isq m ≤ 2 ^ h := by
  obtain ⟨a, b, c, d⟩ := isq_in h0 h3
  have e : (2 : Int) ^ L ≤ 2 ^ h * 2 ^ h := by
    rw [← Int.pow_add]
    exact_mod_cast Nat.pow_le_pow_right (by decide) (by omega)
  have := sq_lt_of (a := isq m) (b := 2 ^ h) (Int.le_of_lt (two_pos h)) (by omega)
  omega
end Go.Proofs.Ytheljpebapokjaa
