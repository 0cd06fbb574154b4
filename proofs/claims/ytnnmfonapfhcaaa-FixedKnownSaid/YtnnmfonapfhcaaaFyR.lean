/-
  Texts of numbers, read back: the plain part.
-/
import Derived.Test.YtnnmfonapfhcaaaFxV
set_option maxRecDepth 100000
namespace Go.Proofs.Ytnnmfonapfhcaaa
open Go.SE Go.RowKit

/-! ### bytes -/
def byt (s : ByteArray) : List Int := s.data.toList.map fun b => (b.toNat : Int)
theorem byt_len (s : ByteArray) : (byt s).length = s.size := by unfold byt; rw [List.length_map]; exact Array.length_toList
theorem byt_inj {s t : ByteArray} (h : byt s = byt t) : s = t := by
  have e : ∀ l m : List UInt8, l.map (fun b => (b.toNat : Int)) = m.map (fun b => (b.toNat : Int)) → l = m := by
    intro l
    induction l with
    | nil => intro m hm; cases m with | nil => rfl | cons _ _ => simp at hm
    | cons a l ih =>
      intro m hm
      cases m with
      | nil => simp at hm
      | cons b m =>
        simp only [List.map_cons, List.cons.injEq] at hm
        rw [ih m hm.2, UInt8.toNat_inj.1 (by omega : a.toNat = b.toNat)]
  obtain ⟨⟨l⟩⟩ := s
  obtain ⟨⟨m⟩⟩ := t
  rw [e l m h]
theorem byt_str {l : List Int} (h : ∀ x ∈ l, 0 ≤ x ∧ x < 256) : byt (strOfNums l) = l := by
  unfold byt strOfNums
  simp only [List.map_map]
  conv => rhs; rw [← List.map_id l]
  refine List.map_congr_left fun x hx => ?_
  obtain ⟨h0, h1⟩ := h x hx
  simp only [Function.comp, id_eq, UInt8.toNat_ofNat']
  omega
theorem byt_range (s : ByteArray) : ∀ x ∈ byt s, 0 ≤ x ∧ x < 256 := fun x hx => by
  unfold byt at hx
  obtain ⟨b, _, rfl⟩ := List.mem_map.1 hx
  have := b.toNat_lt
  omega
theorem str_byt (s : ByteArray) : strOfNums (byt s) = s := byt_inj (byt_str (byt_range s))
theorem byt_get (s : ByteArray) (i : Nat) : ((s.data.toList.getD i 0).toNat : Int) = (byt s).getD i 0 := by
  unfold byt
  simp only [List.getD, List.getElem?_map]
  cases s.data.toList[i]? <;> rfl
theorem byt_extract (s : ByteArray) (a b : Nat) : byt (s.extract a b) = ((byt s).take b).drop a := by
  unfold byt
  rw [ByteArray.data_extract, Array.toList_extract]
  simp [List.extract_eq_take_drop, List.map_take, List.map_drop, List.drop_take]
theorem byt_append (s t : ByteArray) : byt (s ++ t) = byt s ++ byt t := by
  unfold byt
  rw [ByteArray.data_append, Array.toList_append, List.map_append]
theorem str_append (l r : List Int) : strOfNums l ++ strOfNums r = strOfNums (l ++ r) := by
  unfold strOfNums
  apply ByteArray.ext
  rw [ByteArray.data_append]
  simp

/-! ### digits -/
def isDig (x : Int) : Bool := decide (48 ≤ x) && decide (x ≤ 57)
def digN : List Int → Nat
  | [] => 0
  | x :: t => bif isDig x then digN t + 1 else 0
theorem digN_le : ∀ l : List Int, digN l ≤ l.length
  | [] => Nat.le_refl _
  | x :: t => by unfold digN; cases isDig x <;> simp [digN_le t]
theorem digN_get : ∀ (l : List Int) (k : Nat), k ≤ digN l → (k < l.length → isDig (l.getD k 0) = true → k + 1 ≤ digN l) ∧ ((k < l.length → isDig (l.getD k 0) = false) → k = digN l)
  | [], k, h => ⟨fun h1 => absurd h1 (Nat.not_lt_zero _), fun _ => by have : digN [] = 0 := rfl; omega⟩
  | x :: t, 0, _ => ⟨fun _ h => by
      have h : isDig x = true := h
      unfold digN; rw [h, cond_true]; omega, fun h => by
      have h : isDig x = false := h (Nat.zero_lt_succ _)
      unfold digN; rw [h]; rfl⟩
  | x :: t, k + 1, h => by
    cases hx : isDig x with
    | false => unfold digN at h; rw [hx, cond_false] at h; omega
    | true =>
      have e : digN (x :: t) = digN t + 1 := by show (bif isDig x then digN t + 1 else 0) = _; rw [hx]; rfl
      rw [e] at h ⊢
      obtain ⟨h1, h2⟩ := digN_get t k (by omega)
      refine ⟨fun g1 g2 => ?_, fun g => ?_⟩
      · have := h1 (by simpa using g1) g2
        omega
      · have := h2 fun g1 => g (by simpa using g1)
        omega
theorem digN_dig : ∀ (l : List Int) (k : Nat), k < digN l → isDig (l.getD k 0) = true
  | [], k, h => absurd h (Nat.not_lt_zero _)
  | x :: t, k, h => by
    cases hx : isDig x with
    | false => unfold digN at h; rw [hx, cond_false] at h; omega
    | true =>
      unfold digN at h; rw [hx, cond_true] at h
      cases k with
      | zero => exact hx
      | succ k => exact digN_dig t k (by omega)
theorem digN_app : ∀ (l r : List Int), (∀ x ∈ l, isDig x = true) → digN r = 0 → digN (l ++ r) = l.length
  | [], r, _, h => h
  | x :: t, r, h, hr => by
    show (bif isDig x then digN (t ++ r) + 1 else 0) = _
    rw [h x List.mem_cons_self, cond_true, digN_app t r (fun y hy => h y (List.mem_cons_of_mem _ hy)) hr]; rfl

/-! ### values -/
/-- The value of the first n digits. -/
def valF (g : Nat → Nat) : Nat → Nat
  | 0 => 0
  | n + 1 => 10 * valF g n + g n
theorem valF_congr {g g' : Nat → Nat} : ∀ {n : Nat}, (∀ i, i < n → g i = g' i) → valF g n = valF g' n
  | 0, _ => rfl
  | n + 1, h => by
    show 10 * valF g n + g n = 10 * valF g' n + g' n
    rw [valF_congr fun i hi => h i (by omega), h n (by omega)]
theorem valF_lt {g : Nat → Nat} : ∀ {n : Nat}, (∀ i, i < n → g i ≤ 9) → valF g n < 10 ^ n
  | 0, _ => by simp [valF]
  | n + 1, h => by
    have h1 := valF_lt (n := n) fun i hi => h i (by omega)
    have h2 := h n (by omega)
    show 10 * valF g n + g n < _
    rw [Nat.pow_succ]; omega
theorem valF_split (g : Nat → Nat) (k : Nat) : ∀ m : Nat, valF g (k + m) = valF g k * 10 ^ m + valF (fun i => g (k + i)) m
  | 0 => by simp [valF]
  | m + 1 => by
    show 10 * valF g (k + m) + g (k + m) = _
    rw [valF_split g k m, Nat.pow_succ]
    show _ = valF g k * (10 ^ m * 10) + (10 * valF (fun i => g (k + i)) m + g (k + m))
    rw [← Nat.mul_assoc (valF g k)]
    omega
/-- The digit at i of a text. -/
def dgt (l : List Int) (i : Nat) : Nat := (l.getD i 0 - 48).toNat
def valN (l : List Int) : Nat := valF (dgt l) l.length
theorem dgt_le {l : List Int} {i : Nat} (h : isDig (l.getD i 0) = true) : dgt l i ≤ 9 := by
  unfold isDig at h
  simp only [Bool.and_eq_true, decide_eq_true_eq] at h
  unfold dgt; omega
theorem getD_left {l r : List Int} {i : Nat} (h : i < l.length) : (l ++ r).getD i 0 = l.getD i 0 := by
  simp only [List.getD, List.getElem?_append_left h]
theorem getD_right {l r : List Int} {i : Nat} (h : l.length ≤ i) : (l ++ r).getD i 0 = r.getD (i - l.length) 0 := by
  simp only [List.getD, List.getElem?_append_right h]
theorem getD_mem {l : List Int} {i : Nat} (h : i < l.length) : l.getD i 0 ∈ l := by
  simp only [List.getD, List.getElem?_eq_getElem h, Option.getD_some]
  exact List.getElem_mem h
theorem ba_beq (a b : ByteArray) : (a == b) = true ↔ a = b := by
  obtain ⟨a⟩ := a
  obtain ⟨b⟩ := b
  show (a == b) = true ↔ _
  rw [beq_iff_eq]
  simp
theorem ba_bne {a b : ByteArray} (h : (a == b) = false) : a ≠ b := fun e => by
  rw [(ba_beq a b).2 e] at h; cases h
theorem valN_app (l r : List Int) : valN (l ++ r) = valN l * 10 ^ r.length + valN r := by
  unfold valN
  rw [List.length_append, valF_split, valF_congr (g' := dgt l) fun i hi => by unfold dgt; rw [getD_left hi], valF_congr (n := r.length) (g' := dgt r) fun i hi => by
    show dgt (l ++ r) (l.length + i) = _
    unfold dgt; rw [getD_right (by omega), Nat.add_sub_cancel_left]]
theorem valN_one (x : Int) : valN [x] = (x - 48).toNat := by simp [valN, valF, dgt]
theorem valN_cons (x : Int) (t : List Int) : valN (x :: t) = (x - 48).toNat * 10 ^ t.length + valN t := by
  have := valN_app [x] t
  rw [valN_one] at this
  exact this

/-! ### the digits of a number -/
theorem decF_val : ∀ (k n : Nat), n < 10 ^ k → valN (decF k n) = n ∧ ∀ x ∈ decF k n, isDig x = true
  | 0, n, h => by
    have : n = 0 := by simpa using h
    subst this
    exact ⟨rfl, fun x hx => by simp [decF] at hx⟩
  | k + 1, n, h => by
    unfold decF
    by_cases hn : n < 10
    · rw [if_pos hn]
      refine ⟨by rw [valN_one]; omega, fun x hx => ?_⟩
      obtain rfl := List.mem_singleton.1 hx
      unfold isDig
      rw [decide_eq_true (by omega), decide_eq_true (by omega)]; rfl
    · rw [if_neg hn]
      obtain ⟨h1, h2⟩ := decF_val k (n / 10) (by rw [Nat.pow_succ] at h; omega)
      refine ⟨?_, fun x hx => ?_⟩
      · rw [valN_app, h1, valN_one]
        simp; omega
      · rcases List.mem_append.1 hx with hx | hx
        · exact h2 x hx
        · obtain rfl := List.mem_singleton.1 hx
          unfold isDig
          rw [decide_eq_true (by omega), decide_eq_true (by omega)]; rfl
theorem decF_len : ∀ (k n m : Nat), n < 10 ^ m → 0 < m → m ≤ k → 1 ≤ (decF k n).length ∧ (decF k n).length ≤ m
  | 0, n, m, _, h1, h2 => by omega
  | k + 1, n, m, h, h1, h2 => by
    unfold decF
    by_cases hn : n < 10
    · rw [if_pos hn]; simp; omega
    · rw [if_neg hn]
      have hm : 1 < m := by
        rcases Nat.lt_or_ge 1 m with g | g
        · exact g
        · exfalso
          have : m = 1 := by omega
          subst this
          rw [Nat.pow_one] at h
          exact hn h
      obtain ⟨m', rfl⟩ : ∃ m', m = m' + 1 := ⟨m - 1, by omega⟩
      have := decF_len k (n / 10) m' (by rw [Nat.pow_succ] at h; omega) (by omega) (by omega)
      simp; omega

/-! ### the digits behind the point -/
theorem fracB_val : ∀ (k r : Nat), k ≤ 32 → r < 4294967296 → 2 ^ (32 - k) ∣ r → valN (fracB k r) * 4294967296 = r * 10 ^ (fracB k r).length ∧ (∀ x ∈ fracB k r, isDig x = true) ∧ (fracB k r).length ≤ k
  | 0, r, _, h, hd => by
    have : r = 0 := by
      obtain ⟨c, hc⟩ := hd
      rw [Nat.sub_zero] at hc
      have : (2 : Nat) ^ 32 = 4294967296 := by decide
      rw [this] at hc
      rcases Nat.eq_zero_or_pos c with h0 | h0
      · rw [h0] at hc; exact hc
      · omega
    subst this
    exact ⟨rfl, fun x hx => by simp [fracB] at hx, Nat.le_refl _⟩
  | k + 1, r, hk, h, hd => by
    unfold fracB
    by_cases hr : r = 0
    · rw [if_pos hr, hr]
      exact ⟨rfl, fun x hx => by simp at hx, Nat.zero_le _⟩
    · rw [if_neg hr]
      have hd' : 2 ^ (32 - k) ∣ r * 10 % 4294967296 := by
        have e : 32 - k = (32 - (k + 1)) + 1 := by omega
        refine (Nat.dvd_mod_iff ?_).2 ?_
        · have := Nat.pow_dvd_pow 2 (show 32 - k ≤ 32 by omega)
          simpa using this
        · rw [e, Nat.pow_succ]
          exact Nat.mul_dvd_mul hd (by decide)
      obtain ⟨h1, h2, h3⟩ := fracB_val k (r * 10 % 4294967296) (by omega) (Nat.mod_lt _ (by decide)) hd'
      refine ⟨?_, fun x hx => ?_, by simp; omega⟩
      · rw [valN_cons, List.length_cons, Nat.pow_succ, Nat.add_mul, h1]
        have e : (48 + ((r * 10 / 4294967296 : Nat) : Int) - 48).toNat = r * 10 / 4294967296 := by omega
        rw [e]
        generalize 10 ^ (fracB k (r * 10 % 4294967296)).length = P
        have e2 : r * 10 = r * 10 / 4294967296 * 4294967296 + r * 10 % 4294967296 := by omega
        generalize r * 10 / 4294967296 = q at *
        generalize r * 10 % 4294967296 = t at *
        have e3 : r * (P * 10) = r * 10 * P := by rw [Nat.mul_comm P 10, ← Nat.mul_assoc]
        have e4 : q * P * 4294967296 = q * 4294967296 * P := by rw [Nat.mul_assoc, Nat.mul_comm P, ← Nat.mul_assoc]
        rw [e3, e2, Nat.add_mul, e4]
      · rcases List.mem_cons.1 hx with rfl | hx
        · unfold isDig
          rw [decide_eq_true (by omega), decide_eq_true (by omega)]; rfl
        · exact h2 x hx

/-! ### doubling digits -/
/-- What is carried when the last m of L digits were doubled. -/
def cry (g : Nat → Nat) (L : Nat) : Nat → Nat
  | 0 => 0
  | m + 1 => (2 * g (L - 1 - m) + cry g L m) / 10
def dbl (g : Nat → Nat) (L j : Nat) : Nat := (2 * g j + cry g L (L - 1 - j)) % 10
/-- The digits after t doublings, and what was carried out, as bits. -/
def dgs (g : Nat → Nat) (L : Nat) : Nat → Nat → Nat
  | 0 => g
  | t + 1 => dbl (dgs g L t) L
def outs (g : Nat → Nat) (L : Nat) : Nat → Nat
  | 0 => 0
  | t + 1 => 2 * outs g L t + cry (dgs g L t) L L
def sfx (g : Nat → Nat) (L : Nat) : Nat → Nat
  | 0 => 0
  | m + 1 => g (L - 1 - m) * 10 ^ m + sfx g L m
theorem cry_le {g : Nat → Nat} {L : Nat} (h : ∀ i, i < L → g i ≤ 9) : ∀ m, m ≤ L → cry g L m ≤ 1
  | 0, _ => by simp [cry]
  | m + 1, hm => by
    have h1 := cry_le h m (by omega)
    have h2 := h (L - 1 - m) (by omega)
    show (2 * g (L - 1 - m) + cry g L m) / 10 ≤ 1
    omega
theorem dbl_le (g : Nat → Nat) (L j : Nat) : dbl g L j ≤ 9 := by unfold dbl; omega
theorem dgs_le {g : Nat → Nat} {L : Nat} (h : ∀ i, i < L → g i ≤ 9) : ∀ t i, i < L → dgs g L t i ≤ 9
  | 0, i, hi => h i hi
  | _ + 1, _, _ => dbl_le _ _ _
theorem sfx_dbl (g : Nat → Nat) (L : Nat) : ∀ m, m ≤ L → 2 * sfx g L m = cry g L m * 10 ^ m + sfx (dbl g L) L m
  | 0, _ => rfl
  | m + 1, hm => by
    have h := sfx_dbl g L m (by omega)
    show 2 * (g (L - 1 - m) * 10 ^ m + sfx g L m) = (2 * g (L - 1 - m) + cry g L m) / 10 * 10 ^ (m + 1) + (dbl g L (L - 1 - m) * 10 ^ m + sfx (dbl g L) L m)
    have e : dbl g L (L - 1 - m) = (2 * g (L - 1 - m) + cry g L m) % 10 := by
      unfold dbl; rw [show L - 1 - (L - 1 - m) = m by omega]
    rw [e, Nat.pow_succ]
    generalize 10 ^ m = P at *
    generalize sfx (dbl g L) L m = S at *
    generalize sfx g L m = T at *
    generalize cry g L m = c at *
    generalize g (L - 1 - m) = d at *
    have k : 2 * d + c = (2 * d + c) / 10 * 10 + (2 * d + c) % 10 := by omega
    generalize (2 * d + c) / 10 = q at *
    generalize (2 * d + c) % 10 = r at *
    have k2 : (2 * d + c) * P = (q * 10 + r) * P := by rw [k]
    rw [Nat.add_mul, Nat.add_mul] at k2
    have k3 : q * (P * 10) = q * 10 * P := by rw [Nat.mul_comm P 10, ← Nat.mul_assoc]
    have k4 : 2 * d * P = 2 * (d * P) := Nat.mul_assoc _ _ _
    rw [k3]
    omega
theorem sfx_val (g : Nat → Nat) (L : Nat) : ∀ m, m ≤ L → valF g L = valF g (L - m) * 10 ^ m + sfx g L m
  | 0, _ => by simp [sfx]
  | m + 1, hm => by
    rw [sfx_val g L m (by omega)]
    have e : L - m = (L - (m + 1)) + 1 := by omega
    rw [e]
    show (10 * valF g (L - (m + 1)) + g (L - (m + 1))) * 10 ^ m + _ = _ * 10 ^ (m + 1) + (g (L - 1 - m) * 10 ^ m + sfx g L m)
    rw [show L - 1 - m = L - (m + 1) by omega, Nat.pow_succ, Nat.add_mul]
    generalize valF g (L - (m + 1)) = a
    have : a * (10 ^ m * 10) = 10 * a * 10 ^ m := by rw [Nat.mul_comm (10 ^ m) 10, ← Nat.mul_assoc, Nat.mul_comm a 10]
    omega
theorem val_dbl (g : Nat → Nat) (L : Nat) : 2 * valF g L = cry g L L * 10 ^ L + valF (dbl g L) L := by
  have h := sfx_dbl g L L (Nat.le_refl _)
  have h1 := sfx_val g L L (Nat.le_refl _)
  have h2 := sfx_val (dbl g L) L L (Nat.le_refl _)
  rw [Nat.sub_self] at h1 h2
  have e : valF g 0 = 0 := rfl
  have e' : valF (dbl g L) 0 = 0 := rfl
  rw [e, Nat.zero_mul, Nat.zero_add] at h1
  rw [e', Nat.zero_mul, Nat.zero_add] at h2
  rw [h1, h2]; exact h
theorem outs_val (g : Nat → Nat) (L : Nat) : ∀ t, outs g L t * 10 ^ L + valF (dgs g L t) L = 2 ^ t * valF g L
  | 0 => by simp [outs, dgs]
  | t + 1 => by
    have h := outs_val g L t
    have h2 := val_dbl (dgs g L t) L
    show (2 * outs g L t + cry (dgs g L t) L L) * 10 ^ L + valF (dbl (dgs g L t) L) L = _
    rw [Nat.add_mul, Nat.pow_succ, Nat.mul_comm (2 ^ t) 2, Nat.mul_assoc 2 (2 ^ t), ← h, Nat.mul_assoc]
    omega
theorem outs_div {g : Nat → Nat} {L : Nat} (h : ∀ i, i < L → g i ≤ 9) (t : Nat) : outs g L t = 2 ^ t * valF g L / 10 ^ L := by
  have h1 := outs_val g L t
  have h2 := valF_lt (dgs_le h t)
  rw [← h1, Nat.add_comm, Nat.add_mul_div_right _ _ (Nat.pow_pos (by decide)), Nat.div_eq_of_lt h2, Nat.zero_add]
theorem outs_lt {g : Nat → Nat} {L : Nat} (h : ∀ i, i < L → g i ≤ 9) (t : Nat) : outs g L t < 2 ^ t := by
  rw [outs_div h]
  refine Nat.div_lt_of_lt_mul ?_
  rw [Nat.mul_comm (10 ^ L)]
  exact Nat.mul_lt_mul_of_pos_left (valF_lt h) (Nat.pow_pos (by decide))
/-- The 32 bits of a fraction. -/
def bits32N (l : List Int) : Nat := outs (dgt l) l.length 32
theorem bits32_frac {r : Nat} (h : r < 4294967296) : bits32N (fracB 32 r) = r := by
  obtain ⟨h1, h2, _⟩ := fracB_val 32 r (Nat.le_refl _) h (by simp)
  unfold bits32N
  rw [outs_div fun i hi => dgt_le (h2 _ (getD_mem hi))]
  have e : (2 : Nat) ^ 32 = 4294967296 := by decide
  rw [e, Nat.mul_comm]
  show valN (fracB 32 r) * 4294967296 / _ = r
  rw [h1]
  exact Nat.mul_div_cancel _ (Nat.pow_pos (by decide))

/-! ### a text, taken apart -/
def negT (s : List Int) : Bool := match s with | x :: _ => x == 45 | [] => false
def tailT (s : List Int) : List Int := bif negT s then s.drop 1 else s
def wholeT (s : List Int) : List Int := (tailT s).take (digN (tailT s))
def afterT (s : List Int) : List Int := (tailT s).drop (digN (tailT s))
def dotT (r : List Int) : Bool := match r with | x :: _ => x == 46 | [] => false
def partT (s : List Int) : List Int := bif dotT (afterT s) then ((afterT s).drop 1).take (digN ((afterT s).drop 1)) else []
def lastT (s : List Int) : List Int := bif dotT (afterT s) then ((afterT s).drop 1).drop (digN ((afterT s).drop 1)) else afterT s
/-- The number that a text is read as. -/
def sizeT' (s : List Int) : Nat := valN (wholeT s) * 4294967296 + bits32N (partT s)
def candV (s : List Int) : Int := bif negT s then -(sizeT' s : Int) else sizeT' s
def candF (s : List Int) : Bool := !(lastT s).isEmpty
theorem dec_dig {n : Nat} (h : n < 10 ^ 20) : valN (decB n) = n ∧ ∀ x ∈ decB n, isDig x = true := decF_val 20 n h
theorem flagB_dig (f : Bool) : digN (flagB f) = 0 ∧ dotT (flagB f) = false ∧ (!(flagB f).isEmpty) = f := by cases f <;> exact ⟨rfl, rfl, rfl⟩
theorem text_parts {v : Int} {f : Bool} (h0 : -9223372036854775807 ≤ v) (h1 : v ≤ 9223372036854775807) : negT (textB v f) = decide (v < 0) ∧ wholeT (textB v f) = decB (Int.toNat (iabs v / 4294967296)) ∧ (partT (textB v f) = fracB 32 (restB v)) ∧ lastT (textB v f) = flagB f := by
  have hb : iabs v ≤ 9223372036854775807 ∧ 0 ≤ iabs v := by unfold iabs; split <;> omega
  generalize hD : decB (Int.toNat (iabs v / 4294967296)) = D
  have hdd := dec_dig (n := Int.toNat (iabs v / 4294967296)) (by omega)
  have hl := decF_len 20 (Int.toNat (iabs v / 4294967296)) 10 (by omega) (by decide) (by decide)
  have hl : 1 ≤ D.length := by rw [← hD]; exact hl.1
  rw [hD] at hdd
  obtain ⟨x, D', rfl⟩ : ∃ x D', D = x :: D' := by cases D with | nil => simp at hl | cons x D' => exact ⟨x, D', rfl⟩
  have hx := hdd.2 x List.mem_cons_self
  have e0 : textB v f = sgnB v ++ (x :: D' ++ (pointB v ++ flagB f)) := by unfold textB headB; rw [hD]; simp
  have hneg : negT (textB v f) = decide (v < 0) := by
    rw [e0]
    unfold sgnB
    by_cases hv : v < 0
    · rw [if_pos hv, decide_eq_true hv]; rfl
    · rw [if_neg hv, decide_eq_false hv]
      show (x == 45) = false
      unfold isDig at hx
      simp only [Bool.and_eq_true, decide_eq_true_eq] at hx
      simp; omega
  have htail : tailT (textB v f) = x :: D' ++ (pointB v ++ flagB f) := by
    unfold tailT
    rw [hneg, e0]
    unfold sgnB
    by_cases hv : v < 0
    · rw [if_pos hv, decide_eq_true hv]; rfl
    · rw [if_neg hv, decide_eq_false hv]; rfl
  have hnd : digN (pointB v ++ flagB f) = 0 := by
    unfold pointB
    split
    · exact (flagB_dig f).1
    · rfl
  have hdg : digN (tailT (textB v f)) = (x :: D').length := by rw [htail]; exact digN_app _ _ hdd.2 hnd
  have hw : wholeT (textB v f) = x :: D' := by unfold wholeT; rw [hdg, htail]; exact List.take_left' rfl
  have ha : afterT (textB v f) = pointB v ++ flagB f := by unfold afterT; rw [hdg, htail]; exact List.drop_left' rfl
  have hr : restB v < 4294967296 := by unfold restB; omega
  refine ⟨hneg, hw, ?_, ?_⟩
  · unfold partT
    rw [ha]
    unfold pointB
    by_cases hz : restB v = 0
    · rw [if_pos hz, hz, List.nil_append, (flagB_dig f).2.1, fracB_zero]; rfl
    · rw [if_neg hz]
      show (fracB 32 (restB v) ++ flagB f).take (digN (fracB 32 (restB v) ++ flagB f)) = _
      rw [digN_app _ _ (fracB_val 32 _ (Nat.le_refl _) hr (by simp)).2.1 (flagB_dig f).1]
      exact List.take_left' rfl
  · unfold lastT
    rw [ha]
    unfold pointB
    by_cases hz : restB v = 0
    · rw [if_pos hz, List.nil_append, (flagB_dig f).2.1]; rfl
    · rw [if_neg hz]
      show (fracB 32 (restB v) ++ flagB f).drop (digN (fracB 32 (restB v) ++ flagB f)) = _
      rw [digN_app _ _ (fracB_val 32 _ (Nat.le_refl _) hr (by simp)).2.1 (flagB_dig f).1]
      exact List.drop_left' rfl
theorem cand_text {v : Int} {f : Bool} (h0 : -9223372036854775807 ≤ v) (h1 : v ≤ 9223372036854775807) : candV (textB v f) = v ∧ candF (textB v f) = f := by
  obtain ⟨p1, p2, p3, p4⟩ := text_parts (f := f) h0 h1
  have hb : iabs v ≤ 9223372036854775807 ∧ 0 ≤ iabs v := by unfold iabs; split <;> omega
  have hr : restB v < 4294967296 := by unfold restB; omega
  constructor
  · unfold candV sizeT'
    rw [p1, p2, p3, (dec_dig (n := Int.toNat (iabs v / 4294967296)) (by omega)).1, bits32_frac hr]
    have e : ((Int.toNat (iabs v / 4294967296) * 4294967296 + restB v : Nat) : Int) = iabs v := by unfold restB; omega
    rw [e]
    unfold iabs
    by_cases hv : v < 0
    · rw [decide_eq_true hv, if_pos hv]; simp
    · rw [decide_eq_false hv, if_neg hv]; rfl
  · unfold candF
    rw [p4]
    exact (flagB_dig f).2.2
/-- Is s the text of the number? -/
def IsText (s : List Int) (v : Int) (f : Bool) : Prop := -9223372036854775807 ≤ v ∧ v ≤ 9223372036854775807 ∧ textB v f = s
theorem IsText.cand {s : List Int} {v : Int} {f : Bool} (h : IsText s v f) : v = candV s ∧ f = candF s := by
  obtain ⟨h0, h1, rfl⟩ := h
  exact ⟨(cand_text h0 h1).1.symm, (cand_text h0 h1).2.symm⟩
/-- What a string is read as: a number if it is one's text. -/
noncomputable def parOk (s : List Int) : Bool := @decide (∃ v f, IsText s v f) (Classical.propDecidable _)
noncomputable def parV (s : List Int) : Int := bif parOk s then candV s else 0
noncomputable def parF (s : List Int) : Bool := parOk s && candF s
noncomputable def parE (s : List Int) : Int := bif parOk s then 0 else 4
theorem par_yes {s : List Int} {v : Int} {f : Bool} (h : IsText s v f) : parV s = v ∧ parF s = f ∧ parE s = 0 := by
  have ho : parOk s = true := @decide_eq_true _ (Classical.propDecidable _) ⟨v, f, h⟩
  unfold parV parF parE
  rw [ho]
  exact ⟨h.cand.1.symm, h.cand.2.symm, rfl⟩
theorem par_no {s : List Int} (h : ∀ v f, ¬ IsText s v f) : parV s = 0 ∧ parF s = false ∧ parE s = 4 := by
  have ho : parOk s = false := @decide_eq_false _ (Classical.propDecidable _) fun ⟨v, f, k⟩ => h v f k
  unfold parV parF parE
  rw [ho]
  exact ⟨rfl, rfl, rfl⟩
/-- The bytes of a text are bytes. -/
theorem text_range {v : Int} {f : Bool} (h0 : -9223372036854775807 ≤ v) (h1 : v ≤ 9223372036854775807) : ∀ x ∈ textB v f, 0 ≤ x ∧ x < 256 := by
  have hb : iabs v ≤ 9223372036854775807 ∧ 0 ≤ iabs v := by unfold iabs; split <;> omega
  have hr : restB v < 4294967296 := by unfold restB; omega
  have hdig : ∀ x, isDig x = true → 0 ≤ x ∧ x < 256 := fun x hx => by
    unfold isDig at hx
    simp only [Bool.and_eq_true, decide_eq_true_eq] at hx
    omega
  intro x hx
  unfold textB headB sgnB pointB flagB at hx
  simp only [List.mem_append] at hx
  rcases hx with ((hx | hx) | hx) | hx
  · split at hx <;> simp at hx; omega
  · exact hdig x ((dec_dig (by omega)).2 x hx)
  · split at hx
    · simp at hx
    · rcases List.mem_cons.1 hx with rfl | hx
      · omega
      · exact hdig x ((fracB_val 32 _ (Nat.le_refl _) hr (by simp)).2.1 x hx)
  · split at hx <;> simp at hx; omega
theorem text_len {v : Int} {f : Bool} (h0 : -9223372036854775807 ≤ v) (h1 : v ≤ 9223372036854775807) : (textB v f).length ≤ 45 := by
  have hb : iabs v ≤ 9223372036854775807 ∧ 0 ≤ iabs v := by unfold iabs; split <;> omega
  have hr : restB v < 4294967296 := by unfold restB; omega
  have hl := decF_len 20 (Int.toNat (iabs v / 4294967296)) 10 (by omega) (by decide) (by decide)
  have hl : (decB (Int.toNat (iabs v / 4294967296))).length ≤ 10 := hl.2
  have h3 := (fracB_val 32 _ (Nat.le_refl _) hr (by simp)).2.2
  unfold textB headB sgnB pointB flagB
  simp only [List.length_append]
  have a1 : (if v < 0 then ([45] : List Int) else []).length ≤ 1 := by split <;> simp
  have a2 : (if restB v = 0 then ([] : List Int) else 46 :: fracB 32 (restB v)).length ≤ 33 := by split <;> simp; omega
  have a3 : (if f = true then ([33] : List Int) else []).length ≤ 1 := by split <;> simp
  omega
/-- A reader that compares the text of what it has read. -/
theorem par_end {s : ByteArray} {v : Int} {f : Bool} (h0 : -9223372036854775807 ≤ v) (h1 : v ≤ 9223372036854775807) (hc : ∀ v' f', IsText (byt s) v' f' → v' = v ∧ f' = f) :
    ((strOfNums (textB v f) == s) = true → parV (byt s) = v ∧ parF (byt s) = f ∧ parE (byt s) = 0) ∧ ((strOfNums (textB v f) == s) = false → parV (byt s) = 0 ∧ parF (byt s) = false ∧ parE (byt s) = 4) := by
  constructor
  · intro h
    have h : strOfNums (textB v f) = s := (ba_beq _ _).1 h
    exact par_yes ⟨h0, h1, by rw [← h, byt_str (text_range h0 h1)]⟩
  · intro h
    have h : ¬ strOfNums (textB v f) = s := ba_bne h
    refine par_no fun v' f' hv => h ?_
    obtain ⟨e1, e2⟩ := hc v' f' hv
    rw [← e1, ← e2, hv.2.2, str_byt]
end Go.Proofs.Ytnnmfonapfhcaaa
