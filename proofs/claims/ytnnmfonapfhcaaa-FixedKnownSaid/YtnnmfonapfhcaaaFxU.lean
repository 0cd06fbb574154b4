/-
  Contracts: the digits and the text of a number.
-/
import Derived.Test.YtnnmfonapfhcaaaFxT
set_option maxRecDepth 100000
namespace Go.Proofs.Ytnnmfonapfhcaaa
open Go.SE Go.RowKit

/-! ### digits -/
/-- The decimal digits of n < 10^k, as bytes. -/
def decF : Nat → Nat → List Int
  | 0, _ => []
  | k + 1, n => if n < 10 then [48 + (n : Int)] else decF k (n / 10) ++ [48 + ((n % 10 : Nat) : Int)]
def decB (n : Nat) : List Int := decF 20 n
/-- Where the digits of n are laid: the last k of 20 places. -/
def decRow (n k i : Nat) : Int := if 20 - k ≤ i ∧ i < 20 then 48 + ((n / 10 ^ (19 - i) % 10 : Nat) : Int) else 0
def arB (f : Nat → Int) : Blk := { elem := 0, size := 1, rw := true, lock := false, lit := false, flat := true, n := 20, row := fun i => [.v (.int .u8 (f i))] }
noncomputable def ΛDec (n : Nat) : Nat → Option LoopSpec := addLoop noΛ Try.f104 0 Nat (fun k => k < 20 ∧ (k = 0 ∨ n / 10 ^ k ≠ 0)) (fun k => 20 - k) [(0, fun k => .v (.int .u64 ((n / 10 ^ k : Nat) : Int))), (4, fun k => .v (.int .i64 (20 - k))), (6, fun k => .v (.int .i64 k))] [(72, fun k => arB (decRow n k))]
def sDecimal (args : List SV) (bs : List Blk) : Option Eff := match args, bs with
  | [.v (.int .u64 n)], [] => some (.det (some (U64 n)) (.sl 1000 1 0 (decB n.toNat).length (decB n.toNat).length) [(1000, bL (decB n.toNat) (decB n.toNat).length)])
  | _, _ => none
theorem vcDecimal (n : Nat) : (vcFn Try.prog noCtrs (ΛDec n) Try.f104 [.v (.int .u64 (n : Int))] (heapOf []) 64 (fun y h' => FinE [] (.det none (.sl 1000 1 0 (decB n).length (decB n).length) [(1000, bL (decB n) (decB n).length)]) y h')) =
((∃ x : Nat, ((((x : Nat) < 20) ∧ (x = 0 ∨ n / 10 ^ x ≠ 0)) ∧ ((((SV.v (Value.int IntKind.u64 ((↑n : Int)))) = (SV.v (Value.int IntKind.u64 ((↑(n / 10 ^ x) : Int))))) ∧ (((SV.v (Value.int IntKind.i64 20)) = (SV.v (Value.int IntKind.i64 (20 - (↑x : Int))))) ∧ ((SV.v (Value.int IntKind.i64 0)) = (SV.v (Value.int IntKind.i64 ((↑x : Int))))))) ∧ (((20 : Nat) = 20) ∧ (((20 : Nat) ≤ 20) ∧ (∀ i : Nat, (((i : Nat) < 20) → ([(SV.v (Value.int IntKind.u8 0))] = [(SV.v (Value.int IntKind.u8 (decRow n x i)))])))))))) ∧ (∀ x : Nat, ((((x : Nat) < 20) ∧ (x = 0 ∨ n / 10 ^ x ≠ 0)) → 
(sel (decide ((↑x : Int) < 20)) ((((0 : Int) ≤ (IntKind.wrap IntKind.i64 (20 - (↑x : Int) - 1))) ∧ (((IntKind.wrap IntKind.i64 (20 - (↑x : Int) - 1)) : Int) < 20)) ∧ 
(sel (IntKind.wrap IntKind.u64 (Int.tdiv (↑(n / 10 ^ x) : Int) 10) == 0) ((((0 : Int) ≤ (IntKind.wrap IntKind.i64 (20 - IntKind.wrap IntKind.i64 (20 - (↑x : Int) - 1)))) ∧ ((((IntKind.wrap IntKind.i64 (20 - IntKind.wrap IntKind.i64 (20 - (↑x : Int) - 1))) : Int) ≤ (IntKind.wrap IntKind.i64 (20 - IntKind.wrap IntKind.i64 (20 - (↑x : Int) - 1)))) ∧ (((1 * IntKind.wrap IntKind.i64 (20 - IntKind.wrap IntKind.i64 (20 - (↑x : Int) - 1))) : Int) ≤ 140737488355328))) ∧ ((((0 : Int) ≤ (Option.getD (some (IntKind.wrap IntKind.i64 (20 - (↑x : Int) - 1))) 0)) ∧ ((((Option.getD (some (IntKind.wrap IntKind.i64 (20 - (↑x : Int) - 1))) 0) : Int) ≤ 20) ∧ ((20 : Int) ≤ 20))) ∧ ((∀ y : Nat, (((y : Nat) < (20 - Int.toNat (Option.getD (some (IntKind.wrap IntKind.i64 (20 - (↑x : Int) - 1))) 0))) → True)) ∧ (((SV.sl 256 1 0 (Int.toNat (IntKind.wrap IntKind.i64 (20 - IntKind.wrap IntKind.i64 (20 - (↑x : Int) - 1)))) (Int.toNat (IntKind.wrap IntKind.i64 (20 - IntKind.wrap IntKind.i64 (20 - (↑x : Int) - 1))))) = (SV.sl 256 1 0 (List.length (decB n)) (List.length (decB n)))) ∧ ((((Int.toNat (IntKind.wrap IntKind.i64 (20 - IntKind.wrap IntKind.i64 (20 - (↑x : Int) - 1)))) : Nat) = (List.length (decB n))) ∧ ((((List.length (decB n)) : Nat) ≤ (Int.toNat (IntKind.wrap IntKind.i64 (20 - IntKind.wrap IntKind.i64 (20 - (↑x : Int) - 1))))) ∧ (∀ i : Nat, (((i : Nat) < (List.length (decB n))) → ([(SV.v (Value.int IntKind.u8 (bop (Nat.ble 0 i && Nat.blt i (0 + min (Int.toNat (IntKind.wrap IntKind.i64 (20 - IntKind.wrap IntKind.i64 (20 - (↑x : Int) - 1)))) (20 - Int.toNat (Option.getD (some (IntKind.wrap IntKind.i64 (20 - (↑x : Int) - 1))) 0)))) (bop (Nat.beq (Int.toNat (Option.getD (some (IntKind.wrap IntKind.i64 (20 - (↑x : Int) - 1))) 0) + (i - 0)) (Int.toNat (IntKind.wrap IntKind.i64 (20 - (↑x : Int) - 1)))) (IntKind.wrap IntKind.u8 (IntKind.wrap IntKind.u64 (48 + Int.tmod (↑(n / 10 ^ x) : Int) 10))) (decRow n x (Int.toNat (Option.getD (some (IntKind.wrap IntKind.i64 (20 - (↑x : Int) - 1))) 0) + (i - 0)))) 0)))] = [(SV.v (Value.int IntKind.u8 (List.getD (decB n) i 0)))]))))))))) (∃ x' : Nat, (((((x' : Nat) < 20) ∧ (x' = 0 ∨ n / 10 ^ x' ≠ 0)) ∧ ((((SV.v (Value.int IntKind.u64 (IntKind.wrap IntKind.u64 (Int.tdiv (↑(n / 10 ^ x) : Int) 10)))) = (SV.v (Value.int IntKind.u64 ((↑(n / 10 ^ x') : Int))))) ∧ (((SV.v (Value.int IntKind.i64 (IntKind.wrap IntKind.i64 (20 - (↑x : Int) - 1)))) = (SV.v (Value.int IntKind.i64 (20 - (↑x' : Int))))) ∧ ((SV.v (Value.int IntKind.i64 (IntKind.wrap IntKind.i64 ((↑x : Int) + 1)))) = (SV.v (Value.int IntKind.i64 ((↑x' : Int))))))) ∧ (((20 : Nat) = 20) ∧ (((20 : Nat) ≤ 20) ∧ (∀ i : Nat, (((i : Nat) < 20) → ([(SV.v (Value.int IntKind.u8 (bop (Nat.beq i (Int.toNat (IntKind.wrap IntKind.i64 (20 - (↑x : Int) - 1)))) (IntKind.wrap IntKind.u8 (IntKind.wrap IntKind.u64 (48 + Int.tmod (↑(n / 10 ^ x) : Int) 10))) (decRow n x i))))] = [(SV.v (Value.int IntKind.u8 (decRow n x' i)))]))))))) ∧ (((20 - x') : Nat) < (20 - x)))))) ((((0 : Int) ≤ (IntKind.wrap IntKind.i64 (20 - (20 - (↑x : Int))))) ∧ ((((IntKind.wrap IntKind.i64 (20 - (20 - (↑x : Int)))) : Int) ≤ (IntKind.wrap IntKind.i64 (20 - (20 - (↑x : Int))))) ∧ (((1 * IntKind.wrap IntKind.i64 (20 - (20 - (↑x : Int)))) : Int) ≤ 140737488355328))) ∧ ((((0 : Int) ≤ (Option.getD (some (20 - (↑x : Int))) 0)) ∧ ((((Option.getD (some (20 - (↑x : Int))) 0) : Int) ≤ 20) ∧ ((20 : Int) ≤ 20))) ∧ ((∀ y : Nat, (((y : Nat) < (20 - Int.toNat (Option.getD (some (20 - (↑x : Int))) 0))) → True)) ∧ (((SV.sl 256 1 0 (Int.toNat (IntKind.wrap IntKind.i64 (20 - (20 - (↑x : Int))))) (Int.toNat (IntKind.wrap IntKind.i64 (20 - (20 - (↑x : Int)))))) = (SV.sl 256 1 0 (List.length (decB n)) (List.length (decB n)))) ∧ ((((Int.toNat (IntKind.wrap IntKind.i64 (20 - (20 - (↑x : Int))))) : Nat) = (List.length (decB n))) ∧ ((((List.length (decB n)) : Nat) ≤ (Int.toNat (IntKind.wrap IntKind.i64 (20 - (20 - (↑x : Int)))))) ∧ (∀ i : Nat, (((i : Nat) < (List.length (decB n))) → ([(SV.v (Value.int IntKind.u8 (bop (Nat.ble 0 i && Nat.blt i (0 + min (Int.toNat (IntKind.wrap IntKind.i64 (20 - (20 - (↑x : Int))))) (20 - Int.toNat (Option.getD (some (20 - (↑x : Int))) 0)))) (decRow n x (Int.toNat (Option.getD (some (20 - (↑x : Int))) 0) + (i - 0))) 0)))] = [(SV.v (Value.int IntKind.u8 (List.getD (decB n) i 0)))]))))))))))))) := by kernel_rfl
theorem decF_spec : ∀ (f k n : Nat), k < f → (k = 0 ∨ n / 10 ^ k ≠ 0) → n / 10 ^ (k + 1) = 0 → (decF f n).length = k + 1 ∧ ∀ i, i ≤ k → (decF f n).getD i 0 = 48 + ((n / 10 ^ (k - i) % 10 : Nat) : Int)
  | 0, k, n, h, _, _ => by omega
  | f + 1, k, n, hf, h1, h2 => by
    unfold decF
    by_cases hn : n < 10
    · have hk : k = 0 := by
        rcases h1 with h1 | h1
        · exact h1
        · rcases Nat.eq_zero_or_pos k with h0 | h0
          · exact h0
          · exfalso
            apply h1
            have : 10 ^ 1 ≤ 10 ^ k := Nat.pow_le_pow_right (by decide) h0
            exact Nat.div_eq_of_lt (by omega)
      subst hk
      rw [if_pos hn]
      refine ⟨rfl, fun i hi => ?_⟩
      have : i = 0 := by omega
      subst this
      simp
      omega
    · rw [if_neg hn]
      have hk : k ≠ 0 := fun h0 => by
        subst h0
        rw [Nat.zero_add, Nat.pow_one] at h2
        omega
      obtain ⟨k', rfl⟩ : ∃ k', k = k' + 1 := ⟨k - 1, by omega⟩
      have e : ∀ j, n / 10 / 10 ^ j = n / 10 ^ (j + 1) := fun j => by rw [Nat.div_div_eq_div_mul, Nat.pow_succ, Nat.mul_comm]
      obtain ⟨g1, g2⟩ := decF_spec f k' (n / 10) (by omega) (by rw [e]; rcases h1 with h1 | h1 <;> first | (exact absurd h1 hk) | exact .inr h1) (by rw [e]; exact h2)
      refine ⟨by simp [g1], fun i hi => ?_⟩
      by_cases hik : i ≤ k'
      · have := g2 i hik
        rw [e, show k' - i + 1 = k' + 1 - i by omega] at this
        rw [← this]
        simp only [List.getD]
        rw [List.getElem?_append_left (by omega)]
      · have : i = k' + 1 := by omega
        subst this
        simp only [List.getD]
        rw [List.getElem?_append_right (by omega), g1]
        simp
theorem decB_spec {k n : Nat} (hk : k < 20) (h1 : k = 0 ∨ n / 10 ^ k ≠ 0) (h2 : n / 10 ^ (k + 1) = 0) : (decB n).length = k + 1 ∧ ∀ i, i ≤ k → (decB n).getD i 0 = 48 + ((n / 10 ^ (k - i) % 10 : Nat) : Int) := decF_spec 20 k n hk h1 h2
theorem tdiv10 (a : Nat) : Int.tdiv (a : Int) 10 = ((a / 10 : Nat) : Int) := by
  rw [Int.tdiv_eq_ediv_of_nonneg (by omega)]; omega
theorem tmod10 (a : Nat) : Int.tmod (a : Int) 10 = ((a % 10 : Nat) : Int) := by
  rw [Int.tmod_eq_emod_of_nonneg (by omega)]; omega
theorem Decimal_spec : HpSpec Try.prog 104 sDecimal := hp_spec hm noCtrs_ok Try.func104 (Λ := fun args _ => match args with | [.v (.int .u64 n)] => ΛDec n.toNat | _ => noΛ) fun args bs e hs hp => by
  unfold sDecimal at hs
  split at hs <;> try (cases hs; done)
  rename_i n0
  cases hs
  obtain ⟨h0, h1⟩ := hp _ rfl
  obtain ⟨n, rfl⟩ := Int.eq_ofNat_of_zero_le h0
  rw [Int.toNat_natCast]
  refine ⟨[], trivial, ?_⟩
  have hn : n < 18446744073709551616 := by omega
  show vcFn _ _ (ΛDec (Int.toNat (n : Int))) _ _ _ _ _
  rw [Int.toNat_natCast]
  refine Eq.mpr (vcDecimal n) ?_
  refine ⟨⟨0, ⟨by omega, .inl rfl⟩, ⟨by simp, by simp, by simp⟩, rfl, Nat.le_refl _, fun i hi => ?_⟩, fun x hx => ?_⟩
  · unfold decRow; rw [if_neg (by omega)]
  obtain ⟨hx1, hx2⟩ := hx
  have w1 : IntKind.i64.wrap (20 - (x : Int) - 1) = 19 - x := by rw [wrap_i64 ⟨by omega, by omega⟩]; omega
  have w2 : IntKind.i64.wrap (20 - (19 - (x : Int))) = x + 1 := by rw [wrap_i64 ⟨by omega, by omega⟩]; omega
  have hle : n / 10 ^ x ≤ n := Nat.div_le_self _ _
  have e1 : n / 10 ^ (x + 1) = n / 10 ^ x / 10 := by rw [Nat.div_div_eq_div_mul, Nat.pow_succ]
  have w3 : IntKind.u64.wrap (Int.tdiv ((n / 10 ^ x : Nat) : Int) 10) = ((n / 10 ^ (x + 1) : Nat) : Int) := by rw [tdiv10, wrap_u64, e1]; generalize n / 10 ^ x = a at hle; omega
  have w4 : IntKind.u8.wrap (IntKind.u64.wrap (48 + Int.tmod ((n / 10 ^ x : Nat) : Int) 10)) = 48 + ((n / 10 ^ x % 10 : Nat) : Int) := by rw [tmod10, wrap_u64, wrap_u8]; generalize n / 10 ^ x = a; omega
  have w5 : IntKind.i64.wrap ((x : Int) + 1) = x + 1 := wrap_i64 ⟨by omega, by omega⟩
  have t1 : Int.toNat (19 - (x : Int)) = 19 - x := by omega
  have t2 : Int.toNat ((x : Int) + 1) = x + 1 := by omega
  simp only [w1, w2, w3, w4, w5, Option.getD_some, t1, t2]
  refine sel_of (fun _ => ?_) fun h => absurd (of_decide_eq_false h) (by omega)
  -- what is laid
  have hrow : ∀ i, i < 20 → bop (Nat.beq i (19 - x)) (48 + ((n / 10 ^ x % 10 : Nat) : Int)) (decRow n x i) = decRow n (x + 1) i := fun i hi => by
    by_cases he : i = 19 - x
    · subst he
      rw [Nat.beq_refl]
      rw [show ∀ a b : Int, bop true a b = a from fun _ _ => rfl]
      unfold decRow
      rw [if_pos ⟨by omega, by omega⟩, show 19 - (19 - x) = x by omega]
    · rw [beq_false he]
      rw [show ∀ a b : Int, bop false a b = b from fun _ _ => rfl]
      unfold decRow
      by_cases hc : 20 - x ≤ i
      · rw [if_pos ⟨by omega, hi⟩, if_pos ⟨by omega, hi⟩]
      · rw [if_neg (by omega), if_neg (by omega)]
  refine ⟨⟨by omega, by omega⟩, sel_of (fun hz => ?_) fun hz => ?_⟩
  · have hz : n / 10 ^ (x + 1) = 0 := by have h := eq_of_beq hz; generalize n / 10 ^ (x + 1) = a at h; omega
    obtain ⟨l1, l2⟩ := decB_spec hx1 hx2 hz
    refine ⟨⟨by omega, by omega, by omega⟩, ⟨by omega, by omega, by omega⟩, fun _ _ => trivial, by rw [l1], l1.symm, by omega, fun i hi => ?_⟩
    rw [l1] at hi
    have hb : (Nat.ble 0 i && Nat.blt i (0 + min (x + 1) (20 - (19 - x)))) = true := by
      rw [Nat.ble_eq_true_of_le (Nat.zero_le i), Bool.true_and]
      exact Nat.ble_eq_true_of_le (by omega)
    rw [hb]
    show [SV.v (.int .u8 (bop (Nat.beq (19 - x + (i - 0)) (19 - x)) _ _))] = _
    rw [hrow (19 - x + (i - 0)) (by omega), l2 i (by omega)]
    unfold decRow
    rw [if_pos ⟨by omega, by omega⟩, show 19 - (19 - x + (i - 0)) = x - i by omega]
  · have hz : n / 10 ^ (x + 1) ≠ 0 := fun h => by rw [h] at hz; exact absurd hz (by decide)
    have hx3 : x + 1 < 20 := by
      rcases Nat.lt_or_ge (x + 1) 20 with h | h
      · exact h
      · exfalso
        apply hz
        have : 10 ^ 20 ≤ 10 ^ (x + 1) := Nat.pow_le_pow_right (by decide) h
        exact Nat.div_eq_of_lt (Nat.lt_of_lt_of_le (by omega) this)
    refine ⟨x + 1, ⟨⟨hx3, .inr hz⟩, ⟨rfl, int_mk (by omega), int_mk (by omega)⟩, by trivial, Nat.le_refl _, fun i hi => ?_⟩, by omega⟩
    rw [hrow i hi]
end Go.Proofs.Ytnnmfonapfhcaaa
