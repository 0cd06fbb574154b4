/-
  PlaneUnits: what the law reckons.
-/
import Derived.Test.YtheljpebapokjaaPmN
set_option maxRecDepth 100000
set_option linter.unusedSimpArgs false
set_option linter.unusedVariables false
namespace Go.Proofs.Ytheljpebapokjaa
open Go.SE Go.RowKit

def sUnitsL : List SV → Option (Option Prop × SV)
  | [.v (.int .i64 a), .v (.int .i64 b)] => some (some (I64 a ∧ I64 b), .v (.bool true))
  | _ => none
theorem vcUnitsL (a b : Int) (R : SV → Prop) : (vcPure Try.prog ΓG noΛ Try.f8 [.v (.int .i64 a), .v (.int .i64 b)] R) =
((((0 : Int) < 1000) ∧ ((1000 : Int) < 1073741824)) ∧ (((I64 (NB.v (VB.x (kitV a b 1000)))) ∧ (I64 (NB.v (VB.y (kitV a b 1000))))) ∧ 
(sel (NB.v (VB.x (kitV a b 1000)) == 0) 
(sel (NB.v (VB.y (kitV a b 1000)) == 0) 
(sel (!Prod.snd (unitV (kitV a b 1000))) 
(sel (NB.v (VB.x (Prod.fst (unitV (kitV a b 1000)))) == 0 && NB.f (VB.x (Prod.fst (unitV (kitV a b 1000)))) == false && (NB.v (VB.y (Prod.fst (unitV (kitV a b 1000)))) == 0 && NB.f (VB.y (Prod.fst (unitV (kitV a b 1000)))) == false)) (R (SV.v (Value.bool true))) (R (SV.v (Value.bool false)))) (R (SV.v (Value.bool false)))) 
(sel (!Prod.snd (unitV (kitV a b 1000))) (R (SV.v (Value.bool false))) (((I64 (NB.v (VB.x (Prod.fst (unitV (kitV a b 1000)))))) ∧ (I64 (NB.v (VB.y (Prod.fst (unitV (kitV a b 1000))))))) ∧ 
(sel (!nearK (lenV (Prod.fst (unitV (kitV a b 1000)))) { v := 4294967296, f := false } 4096) (R (SV.v (Value.bool false))) (((I64 (NB.v (VB.x (kitV a b 1000)))) ∧ (I64 (NB.v (VB.y (kitV a b 1000))))) ∧ ((((I64 (NB.v (VB.x (Prod.fst (unitV (kitV a b 1000)))))) ∧ (I64 (NB.v (VB.y (Prod.fst (unitV (kitV a b 1000))))))) ∧ (I64 (NB.v (lenV (kitV a b 1000))))) ∧ 
(sel (decide (NB.v (VB.x (kitV a b 1000)) > 0) == decide (NB.v (VB.x (Prod.fst (unitV (kitV a b 1000)))) > 0)) (R (SV.v (Value.bool true))) 
(sel (NB.v (VB.x (Prod.fst (unitV (kitV a b 1000)))) == 0) 
(sel (nearK (VB.x (scaV (Prod.fst (unitV (kitV a b 1000))) (lenV (kitV a b 1000)))) (VB.x (kitV a b 1000)) 1048576) (R (SV.v (Value.bool true))) (R (SV.v (Value.bool false)))) (R (SV.v (Value.bool false))))))))))) 
(sel (!Prod.snd (unitV (kitV a b 1000))) (R (SV.v (Value.bool false))) (((I64 (NB.v (VB.x (Prod.fst (unitV (kitV a b 1000)))))) ∧ (I64 (NB.v (VB.y (Prod.fst (unitV (kitV a b 1000))))))) ∧ 
(sel (!nearK (lenV (Prod.fst (unitV (kitV a b 1000)))) { v := 4294967296, f := false } 4096) (R (SV.v (Value.bool false))) (((I64 (NB.v (VB.x (kitV a b 1000)))) ∧ (I64 (NB.v (VB.y (kitV a b 1000))))) ∧ ((((I64 (NB.v (VB.x (Prod.fst (unitV (kitV a b 1000)))))) ∧ (I64 (NB.v (VB.y (Prod.fst (unitV (kitV a b 1000))))))) ∧ (I64 (NB.v (lenV (kitV a b 1000))))) ∧ 
(sel (decide (NB.v (VB.x (kitV a b 1000)) > 0) == decide (NB.v (VB.x (Prod.fst (unitV (kitV a b 1000)))) > 0)) (R (SV.v (Value.bool true))) 
(sel (NB.v (VB.x (Prod.fst (unitV (kitV a b 1000)))) == 0) 
(sel (nearK (VB.x (scaV (Prod.fst (unitV (kitV a b 1000))) (lenV (kitV a b 1000)))) (VB.x (kitV a b 1000)) 1048576) (R (SV.v (Value.bool true))) (R (SV.v (Value.bool false)))) (R (SV.v (Value.bool false))))))))))))) := by kernel_rfl
theorem selU {b : Bool} {x y : Prop} (h : b = true) (hx : x) : sel b x y := by subst h; exact hx
theorem selW {b : Bool} {x y : Prop} (h : b = false) (hy : y) : sel b x y := by subst h; exact hy
theorem mul4 (a b c d : Int) : a * b * (c * d) = a * c * (b * d) := by rw [Int.mul_assoc, Int.mul_assoc, Int.mul_left_comm b c d]
/-- A quotient, its size. -/
theorem tdiv_abs (A : Int) {n : Int} (hn : 0 < n) : ∃ a P, 0 ≤ a ∧ 0 ≤ P ∧ ((A = a ∧ Int.tdiv (A * 4294967296) n = P) ∨ (A = -a ∧ Int.tdiv (A * 4294967296) n = -P)) ∧ P * n ≤ a * 4294967296 ∧ a * 4294967296 < (P + 1) * n := by
  have key : ∀ a : Int, 0 ≤ a → 0 ≤ a * 4294967296 / n ∧ a * 4294967296 / n * n ≤ a * 4294967296 ∧ a * 4294967296 < (a * 4294967296 / n + 1) * n := fun a h => ⟨Int.ediv_nonneg (by omega) (by omega), Int.ediv_mul_le _ (by omega), Int.lt_ediv_add_one_mul_self _ hn⟩
  by_cases h : 0 ≤ A
  · obtain ⟨k1, k2, k3⟩ := key A h
    exact ⟨A, _, h, k1, .inl ⟨rfl, Int.tdiv_eq_ediv_of_nonneg (by omega)⟩, k2, k3⟩
  · obtain ⟨k1, k2, k3⟩ := key (-A) (by omega)
    refine ⟨-A, _, by omega, k1, .inr ⟨by omega, ?_⟩, k2, k3⟩
    rw [show A * 4294967296 = -(-A * 4294967296) by omega, Int.neg_tdiv, Int.tdiv_eq_ediv_of_nonneg (by omega)]
theorem sq_of {A a : Int} (h : A = a ∨ A = -a) : A * A = a * a := by
  rcases h with rfl | rfl
  · rfl
  · rw [Int.neg_mul, Int.mul_neg, Int.neg_neg]
/-- The length of what a vector is, divided by its length. -/
theorem norm_core {a b n P Q : Int} (ha : 0 ≤ a) (hb : 0 ≤ b) (hP : 0 ≤ P) (hQ : 0 ≤ Q) (hn : 16777216 ≤ n) (h1 : n * n ≤ a * a + b * b) (h2 : a * a + b * b < (n + 1) * (n + 1)) (p1 : P * n ≤ a * 4294967296) (p2 : a * 4294967296 < (P + 1) * n) (q1 : Q * n ≤ b * 4294967296) (q2 : b * 4294967296 < (Q + 1) * n) :
    18446744004990074880 ≤ P * P + Q * Q ∧ P * P + Q * Q ≤ 18446748471756062720 ∧ P ≤ 8589934592 ∧ Q ≤ 8589934592 := by
  have s1 := sq_le (Int.mul_nonneg hP (show 0 ≤ n by omega)) p1
  have s2 := sq_le (Int.mul_nonneg hQ (show 0 ≤ n by omega)) q1
  have s3 := sq_lt (show 0 ≤ a * 4294967296 by omega) p2
  have s4 := sq_lt (show 0 ≤ b * 4294967296 by omega) q2
  rw [mul4 P n P n, mul4 a 4294967296 a 4294967296] at s1
  rw [mul4 Q n Q n, mul4 b 4294967296 b 4294967296] at s2
  rw [mul4 (P + 1) n (P + 1) n, mul4 a 4294967296 a 4294967296] at s3
  rw [mul4 (Q + 1) n (Q + 1) n, mul4 b 4294967296 b 4294967296] at s4
  have e1 : (n + 1) * (n + 1) = n * n + 2 * n + 1 := by rw [Int.add_mul, Int.mul_add]; omega
  have n2 : 16777216 * n ≤ n * n := Int.mul_le_mul_of_nonneg_right hn (by omega)
  rw [e1] at h2
  have d1 : P * P * (n * n) + Q * Q * (n * n) = (P * P + Q * Q) * (n * n) := (Int.add_mul _ _ _).symm
  have d2 : (P + 1) * (P + 1) * (n * n) + (Q + 1) * (Q + 1) * (n * n) = ((P + 1) * (P + 1) + (Q + 1) * (Q + 1)) * (n * n) := (Int.add_mul _ _ _).symm
  have up : P * P + Q * Q ≤ 18446748471756062720 := by
    refine Int.not_lt.1 fun h => ?_
    have := Int.mul_le_mul_of_nonneg_right (show 18446748471756062720 ≤ P * P + Q * Q by omega) (show 0 ≤ n * n by omega)
    omega
  have pP : P ≤ 8589934592 := by
    refine Int.not_lt.1 fun h => ?_
    have := sq_le (show (0 : Int) ≤ 8589934592 by decide) (Int.le_of_lt h)
    have := sq_nonneg Q
    omega
  have pQ : Q ≤ 8589934592 := by
    refine Int.not_lt.1 fun h => ?_
    have := sq_le (show (0 : Int) ≤ 8589934592 by decide) (Int.le_of_lt h)
    have := sq_nonneg P
    omega
  refine ⟨?_, up, pP, pQ⟩
  have lo : 18446744073709551616 < (P + 1) * (P + 1) + (Q + 1) * (Q + 1) := by
    refine Int.not_le.1 fun h => ?_
    have := Int.mul_le_mul_of_nonneg_right h (show 0 ≤ n * n by omega)
    omega
  have e2 : (P + 1) * (P + 1) = P * P + 2 * P + 1 := by rw [Int.add_mul, Int.mul_add]; omega
  have e3 : (Q + 1) * (Q + 1) = Q * Q + 2 * Q + 1 := by rw [Int.add_mul, Int.mul_add]; omega
  omega
def P62 (x : Int) : Prop := -4611686018427387904 ≤ x ∧ x ≤ 4611686018427387904
theorem sq62 {x : Int} (h : P62 x) : 0 ≤ x * x ∧ x * x ≤ 21267647932558653966460912964485513216 := by
  refine ⟨sq_nonneg x, ?_⟩
  have := mul_in (p := x) (q := x) (P := 4611686018427387904) (Q := 4611686018427387904) (by decide) h.1 h.2 h.1 h.2
  exact this.2
theorem isq_62 {A B : Int} (hA : P62 A) (hB : P62 B) : 0 ≤ isq (A * A + B * B) ∧ isq (A * A + B * B) ≤ 9223372036854775807 ∧ isq (A * A + B * B) * isq (A * A + B * B) ≤ A * A + B * B ∧ A * A + B * B < (isq (A * A + B * B) + 1) * (isq (A * A + B * B) + 1) := by
  obtain ⟨a1, a2⟩ := sq62 hA
  obtain ⟨b1, b2⟩ := sq62 hB
  obtain ⟨i1, _, i3, i4⟩ := isq_in (m := A * A + B * B) (by omega) (by omega)
  refine ⟨i1, Int.not_lt.1 fun h => ?_, i3, i4⟩
  have := sq_le (show (0 : Int) ≤ 9223372036854775808 by decide) (show (9223372036854775808 : Int) ≤ isq (A * A + B * B) by omega)
  omega
theorem hyp_62 {A B : Int} (hA : P62 A) (hB : P62 B) : hypN ⟨A, false⟩ ⟨B, false⟩ = ⟨isq (A * A + B * B), false⟩ := by
  have sA : Sd A := ⟨by have := hA.1; omega, by have := hA.2; omega⟩
  have sB : Sd B := ⟨by have := hB.1; omega, by have := hB.2; omega⟩
  obtain ⟨i1, i2, _⟩ := isq_62 hA hB
  unfold hypN
  rw [sA.self, sB.self, sA.flag, sB.flag]
  exact fitN_self ⟨by show _ ≤ isq _; omega, i2⟩
/-- A vector divided by its length: no flag, and a length of almost 1. -/
theorem norm_in {A B n : Int} (hA : P62 A) (hB : P62 B) (hn : n = isq (A * A + B * B)) (h24 : 16777216 ≤ n) : ∃ p q : Int, divN ⟨A, false⟩ ⟨n, false⟩ = ⟨p, false⟩ ∧ divN ⟨B, false⟩ ⟨n, false⟩ = ⟨q, false⟩ ∧ (-8589934592 ≤ p ∧ p ≤ 8589934592) ∧ (-8589934592 ≤ q ∧ q ≤ 8589934592) ∧ 18446744004990074880 ≤ p * p + q * q ∧ p * p + q * q ≤ 18446748471756062720 ∧ (A ≤ 0 → p ≤ 0) ∧ (0 < A → 0 ≤ p ∧ (p = 0 → A * 4294967296 < n)) := by
  obtain ⟨i1, i2, i3, i4⟩ := isq_62 hA hB
  rw [← hn] at i1 i2 i3 i4
  obtain ⟨a, P, a0, P0, eA, p1, p2⟩ := tdiv_abs A (n := n) (by omega)
  obtain ⟨b, Q, b0, Q0, eB, q1, q2⟩ := tdiv_abs B (n := n) (by omega)
  have sa := sq_of (eA.imp (·.1) (·.1))
  have sb := sq_of (eB.imp (·.1) (·.1))
  obtain ⟨c1, c2, c3, c4⟩ := norm_core a0 b0 P0 Q0 h24 (by omega) (by omega) p1 p2 q1 q2
  have sn : Sd n := ⟨by omega, by omega⟩
  have dv : ∀ X Y : Int, P62 X → Int.tdiv (X * 4294967296) n = Y → -8589934592 ≤ Y ∧ Y ≤ 8589934592 → divN ⟨X, false⟩ ⟨n, false⟩ = ⟨Y, false⟩ := fun X Y hX hY hb => by
    have sX : Sd X := ⟨by have := hX.1; omega, by have := hX.2; omega⟩
    have e : ratE X n = Y := hY
    show (⟨ratV (sndV X) (sndV n), ratF (sndV X) (sndV n) || (sndF X false || sndF n false)⟩ : NB) = _
    rw [sX.self, sn.self, sX.flag, sn.flag]
    unfold ratV ratF
    rw [if_neg (by omega), if_neg (by omega), e, fitE_self ⟨by omega, by omega⟩, fitG_self ⟨by omega, by omega⟩]
    rfl
  have sp := sq_of (A := Int.tdiv (A * 4294967296) n) (a := P) (eA.imp (·.2) (·.2))
  have sq := sq_of (A := Int.tdiv (B * 4294967296) n) (a := Q) (eB.imp (·.2) (·.2))
  refine ⟨_, _, dv A _ hA rfl (by rcases eA with ⟨_, h⟩ | ⟨_, h⟩ <;> rw [h] <;> omega), dv B _ hB rfl (by rcases eB with ⟨_, h⟩ | ⟨_, h⟩ <;> rw [h] <;> omega), by rcases eA with ⟨_, h⟩ | ⟨_, h⟩ <;> rw [h] <;> omega, by rcases eB with ⟨_, h⟩ | ⟨_, h⟩ <;> rw [h] <;> omega, by rw [sp, sq]; exact c1, by rw [sp, sq]; exact c2, fun h => ?_, fun h => ?_⟩
  · rcases eA with ⟨h1, h2⟩ | ⟨h1, h2⟩
    · have : a = 0 := by omega
      subst this
      rw [h2]
      rcases Int.lt_or_le 0 P with h' | h'
      · have := Int.mul_le_mul_of_nonneg_right (show 1 ≤ P by omega) (show 0 ≤ n by omega)
        omega
      · exact h'
    · omega
  · rcases eA with ⟨h1, h2⟩ | ⟨h1, h2⟩
    · refine ⟨by omega, fun h0 => ?_⟩
      have : P = 0 := by omega
      subst this
      omega
    · omega
theorem big_24 {A B : Int} (hA : P62 A) (hB : P62 B) (h : 16777216 ≤ A ∨ A ≤ -16777216 ∨ 16777216 ≤ B ∨ B ≤ -16777216) : 16777216 ≤ isq (A * A + B * B) := by
  obtain ⟨i1, i2, i3, i4⟩ := isq_62 hA hB
  refine Int.not_lt.1 fun hl => ?_
  have := sq_le (show 0 ≤ isq (A * A + B * B) + 1 by omega) (show isq (A * A + B * B) + 1 ≤ 16777216 by omega)
  have a0 := sq_nonneg A
  have b0 := sq_nonneg B
  have key : ∀ x : Int, 16777216 ≤ x ∨ x ≤ -16777216 → 281474976710656 ≤ x * x := fun x hx => by
    rcases hx with hx | hx
    · exact sq_le (a := 16777216) (by decide) hx
    · have := sq_le (a := 16777216) (b := -x) (by decide) (by omega)
      rw [Int.neg_mul, Int.mul_neg, Int.neg_neg] at this
      exact this
  rcases h with h | h | h | h
  · have := key A (.inl h); omega
  · have := key A (.inr h); omega
  · have := key B (.inl h); omega
  · have := key B (.inr h); omega
def P42 (x : Int) : Prop := -4398046511104 < x ∧ x < 4398046511104
theorem great_in {x y : Int} (hx : P42 x) (hy : P42 y) (h0 : x ≠ 0 ∨ y ≠ 0) : ∃ A B : Int, greatV ⟨⟨x, false⟩, ⟨y, false⟩⟩ = ⟨⟨A, false⟩, ⟨B, false⟩⟩ ∧ (-281474976710656 ≤ A ∧ A ≤ 281474976710656) ∧ (-281474976710656 ≤ B ∧ B ≤ 281474976710656) ∧ (16777216 ≤ A ∨ A ≤ -16777216 ∨ 16777216 ≤ B ∨ B ≤ -16777216) ∧ (0 < x → x ≤ A) ∧ (x ≤ 0 → A ≤ 0) := by
  obtain ⟨_, _⟩ := hx
  obtain ⟨_, _⟩ := hy
  by_cases h : iabs x < 16777216 ∧ iabs y < 16777216
  · refine ⟨_, _, great_yes h.1 h.2, ?_⟩
    obtain ⟨h1, h2⟩ := h
    unfold iabs at h1 h2
    simp only
    split at h1 <;> split at h2 <;> omega
  · have e : greatV ⟨⟨x, false⟩, ⟨y, false⟩⟩ = ⟨⟨x, false⟩, ⟨y, false⟩⟩ := by
      by_cases h1 : iabs x < 16777216
      · exact great_no2 fun h2 => h ⟨h1, h2⟩
      · exact great_no1 h1
    refine ⟨_, _, e, ?_⟩
    unfold iabs at h
    split at h <;> split at h <;> omega
theorem units_in {x y : Int} (hx : P42 x) (hy : P42 y) (h0 : x ≠ 0 ∨ y ≠ 0) : ∃ p q : Int, unitV ⟨⟨x, false⟩, ⟨y, false⟩⟩ = (⟨⟨p, false⟩, ⟨q, false⟩⟩, true) ∧ (-8589934592 ≤ p ∧ p ≤ 8589934592) ∧ (-8589934592 ≤ q ∧ q ≤ 8589934592) ∧ 18446744004990074880 ≤ p * p + q * q ∧ p * p + q * q ≤ 18446748471756062720 ∧ (x ≤ 0 → p ≤ 0) ∧ (0 < x → 0 ≤ p ∧ (p = 0 → x ≤ 1048576)) := by
  obtain ⟨A, B, e, bA, bB, h24, g1, g2⟩ := great_in hx hy h0
  have hA : P62 A := ⟨by omega, by omega⟩
  have hB : P62 B := ⟨by omega, by omega⟩
  have hn := big_24 hA hB h24
  obtain ⟨i1, i2, i3, i4⟩ := isq_62 hA hB
  obtain ⟨p, q, e1, e2, b1, b2, l, u, s1, s2⟩ := norm_in hA hB rfl hn
  have hl : lenV (greatV ⟨⟨x, false⟩, ⟨y, false⟩⟩) = ⟨isq (A * A + B * B), false⟩ := by rw [e]; exact hyp_62 hA hB
  have hb : badV ⟨⟨x, false⟩, ⟨y, false⟩⟩ = false := by
    have h1 := hx.1
    have h2 := hy.1
    show (sndF x false || sndF y false) = false
    rw [sndF_self (by omega), sndF_self (by omega)]; rfl
  refine ⟨p, q, ?_, b1, b2, l, u, fun h => s1 (g2 h), fun h => ?_⟩
  · rw [unit_d hb (by rw [hl]) (by rw [hl]; exact beq_eq_false_iff_ne.2 (by simp only; omega)), hl, e]
    simp only
    rw [e1, e2]
  · have hxA := g1 h
    obtain ⟨t1, t2⟩ := s2 (by omega)
    refine ⟨t1, fun hp => ?_⟩
    have := t2 hp
    have nb : isq (A * A + B * B) ≤ 1125899906842624 := by
      refine Int.not_lt.1 fun h' => ?_
      have a := sq_le (show (0 : Int) ≤ 1125899906842624 by decide) (Int.le_of_lt h')
      have b := mul_in (p := A) (q := A) (P := 281474976710656) (Q := 281474976710656) (by decide) bA.1 bA.2 bA.1 bA.2
      have c := mul_in (p := B) (q := B) (P := 281474976710656) (Q := 281474976710656) (by decide) bB.1 bB.2 bB.1 bB.2
      omega
    omega
theorem len_one {p q : Int} (h1 : -8589934592 ≤ p ∧ p ≤ 8589934592) (h2 : -8589934592 ≤ q ∧ q ≤ 8589934592) (l : 18446744004990074880 ≤ p * p + q * q) (u : p * p + q * q ≤ 18446748471756062720) : ∃ n : Int, lenV ⟨⟨p, false⟩, ⟨q, false⟩⟩ = ⟨n, false⟩ ∧ 4294963200 ≤ n ∧ n ≤ 4294971392 := by
  have hp : P62 p := ⟨by omega, by omega⟩
  have hq : P62 q := ⟨by omega, by omega⟩
  obtain ⟨i1, i2, i3, i4⟩ := isq_62 hp hq
  refine ⟨_, hyp_62 hp hq, Int.not_lt.1 fun h => ?_, Int.not_lt.1 fun h => ?_⟩
  · have := sq_le (show 0 ≤ isq (p * p + q * q) + 1 by omega) (show isq (p * p + q * q) + 1 ≤ 4294963200 by omega)
    omega
  · have := sq_le (show (0 : Int) ≤ 4294971393 by decide) (show 4294971393 ≤ isq (p * p + q * q) by omega)
    omega
theorem near_yes {a b m : Int} (h1 : -9223372036854775808 ≤ a - b ∧ a - b < 9223372036854775808) (h2 : -9223372036854775808 ≤ b - a ∧ b - a < 9223372036854775808) (h3 : a - b ≤ m) (h4 : b - a ≤ m) : nearK ⟨a, false⟩ ⟨b, false⟩ m = true := by
  unfold nearK
  rw [wrap_i64 h1, wrap_i64 h2, decide_eq_true h3, decide_eq_true h4]; rfl
theorem unit_zero : unitV ⟨⟨0, false⟩, ⟨0, false⟩⟩ = (zeroV, false) := unit_0 (by decide) (by decide +kernel)
theorem kit_42 (a : Int) : P42 (kitK a 1000).v := by
  show P42 (Int.tmod a 4294967296000)
  have h := Int.natAbs_tmod a 4294967296000
  have h1 : a.natAbs % (4294967296000 : Int).natAbs < (4294967296000 : Int).natAbs := Nat.mod_lt _ (by decide)
  exact ⟨by omega, by omega⟩
theorem P42.i {x : Int} (h : P42 x) : I64 x := by obtain ⟨_, _⟩ := h; exact ⟨by omega, by omega⟩
theorem unitsL_vc {a b : Int} : vcPure Try.prog ΓG noΛ Try.f8 [.v (.int .i64 a), .v (.int .i64 b)] (fun y => y = .v (.bool true)) := by
  refine Eq.mpr (vcUnitsL a b _) ?_
  have hv : kitV a b 1000 = ⟨⟨(kitK a 1000).v, false⟩, ⟨(kitK b 1000).v, false⟩⟩ := rfl
  have bx := kit_42 a
  have bY := kit_42 b
  rw [hv]
  generalize (kitK a 1000).v = x at *
  generalize (kitK b 1000).v = y at *
  simp only
  have tail : (x ≠ 0 ∨ y ≠ 0) → sel (!(unitV ⟨⟨x, false⟩, ⟨y, false⟩⟩).2) (SV.v (.bool false) = .v (.bool true)) ((I64 (unitV ⟨⟨x, false⟩, ⟨y, false⟩⟩).1.x.v ∧ I64 (unitV ⟨⟨x, false⟩, ⟨y, false⟩⟩).1.y.v) ∧
      sel (!nearK (lenV (unitV ⟨⟨x, false⟩, ⟨y, false⟩⟩).1) ⟨4294967296, false⟩ 4096) (SV.v (.bool false) = .v (.bool true)) ((I64 x ∧ I64 y) ∧ ((I64 (unitV ⟨⟨x, false⟩, ⟨y, false⟩⟩).1.x.v ∧ I64 (unitV ⟨⟨x, false⟩, ⟨y, false⟩⟩).1.y.v) ∧ I64 (lenV ⟨⟨x, false⟩, ⟨y, false⟩⟩).v) ∧
      sel (decide (x > 0) == decide ((unitV ⟨⟨x, false⟩, ⟨y, false⟩⟩).1.x.v > 0)) True (sel ((unitV ⟨⟨x, false⟩, ⟨y, false⟩⟩).1.x.v == 0) (sel (nearK (scaV (unitV ⟨⟨x, false⟩, ⟨y, false⟩⟩).1 (lenV ⟨⟨x, false⟩, ⟨y, false⟩⟩)).x ⟨x, false⟩ 1048576) True (SV.v (.bool false) = .v (.bool true))) (SV.v (.bool false) = .v (.bool true))))) := fun h0 => by
    obtain ⟨p, q, e, b1, b2, l, u, s1, s2⟩ := units_in bx bY h0
    obtain ⟨n, e2, n1, n2⟩ := len_one b1 b2 l u
    rw [e]
    simp only
    rw [e2]
    have ip : I64 p := ⟨by omega, by omega⟩
    have iq : I64 q := ⟨by omega, by omega⟩
    refine selW rfl ⟨⟨ip, iq⟩, selW (by rw [near_yes ⟨by omega, by omega⟩ ⟨by omega, by omega⟩ (by omega) (by omega)]; rfl) ⟨⟨bx.i, bY.i⟩, ⟨⟨ip, iq⟩, len_i _⟩, ?_⟩⟩
    refine sel_of (fun _ => by trivial) fun hne => ?_
    have hne : decide (x > 0) ≠ decide (p > 0) := by simpa using hne
    rcases Int.lt_or_le 0 x with h | h
    · obtain ⟨t1, t2⟩ := s2 h
      have hp : p = 0 := by
        rcases Int.lt_or_le 0 p with h' | h'
        · rw [decide_eq_true h, decide_eq_true h'] at hne; exact absurd rfl hne
        · omega
      have hx2 := t2 hp
      subst hp
      refine selU rfl (selU ?_ (by trivial))
      have hl : Sd (lenV ⟨⟨x, false⟩, ⟨y, false⟩⟩).v := fitE_sd _
      have hlf : lenV ⟨⟨x, false⟩, ⟨y, false⟩⟩ = ⟨(lenV ⟨⟨x, false⟩, ⟨y, false⟩⟩).v, false⟩ := by
        have := hyp_62 (A := x) (B := y) ⟨by have := bx.1; omega, by have := bx.2; omega⟩ ⟨by have := bY.1; omega, by have := bY.2; omega⟩
        show hypN ⟨x, false⟩ ⟨y, false⟩ = ⟨(hypN ⟨x, false⟩ ⟨y, false⟩).v, false⟩
        rw [this]
      have e0 : (scaV ⟨⟨0, false⟩, ⟨q, false⟩⟩ (lenV ⟨⟨x, false⟩, ⟨y, false⟩⟩)).x = ⟨0, false⟩ := by
        show mulN ⟨0, false⟩ (lenV ⟨⟨x, false⟩, ⟨y, false⟩⟩) = _
        rw [hlf]
        generalize (lenV ⟨⟨x, false⟩, ⟨y, false⟩⟩).v = L at hl ⊢
        have m0 : mulE 0 L = 0 := by unfold mulE; rw [Int.zero_mul]; rfl
        rw [mulN_self (a := ⟨0, false⟩) (b := ⟨L, false⟩) ⟨by decide, by decide⟩ hl (by show Sd (mulE 0 L); rw [m0]; exact ⟨by decide, by decide⟩)]
        show (⟨mulE 0 L, false || false⟩ : NB) = _
        rw [m0]; rfl
      rw [e0]
      exact near_yes ⟨by omega, by omega⟩ ⟨by omega, by omega⟩ (by omega) (by omega)
    · have hp := s1 h
      rw [decide_eq_false (by omega), decide_eq_false (by omega)] at hne
      exact absurd rfl hne
  refine ⟨⟨by decide, by decide⟩, ⟨bx.i, bY.i⟩, sel_of (fun h1 => sel_of (fun h2 => ?_) fun h2 => ?_) fun h1 => ?_⟩
  · have h1 : x = 0 := by simpa using h1
    have h2 : y = 0 := by simpa using h2
    subst h1 h2
    rw [unit_zero]
    exact selU rfl (selU rfl (by trivial))
  · exact tail (.inr (by simpa using h2))
  · exact tail (.inl (by simpa using h1))
theorem UnitsL_spec : PureSpec Try.prog 8 sUnitsL := vc_spec hm ΓG_ok Try.func8 (Λ := fun _ => noΛ) fun args p x h hp => by
  unfold sUnitsL at h
  split at h <;> try (cases h; done)
  cases h
  exact ⟨rfl, rfl, unitsL_vc⟩
end Go.Proofs.Ytheljpebapokjaa
