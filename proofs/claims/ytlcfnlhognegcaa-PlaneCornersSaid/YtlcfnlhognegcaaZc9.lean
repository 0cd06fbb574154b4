/-
  What the proof uses, part 9.
-/
import Derived.Laws.BitsAllLaws
import Derived.Laws.MathBits
import Derived.Test.YtlcfnlhognegcaaZc8
set_option maxRecDepth 100000
set_option linter.unusedSimpArgs false
set_option linter.unusedVariables false

section
namespace Go.Proofs.Ytlcfnlhognegcaa
open Go.SE
def U64 (x : Int) : Prop := 0 ≤ x ∧ x < 18446744073709551616
def I64 (x : Int) : Prop := -9223372036854775808 ≤ x ∧ x < 9223372036854775808
def bor (x y : Int) : Int := if x < y then 1 else 0
def iabs (v : Int) : Int := if v < 0 then -v else v
theorem iabs_nonneg (v : Int) : 0 ≤ iabs v := by unfold iabs; split <;> omega
theorem iabs_le {v : Int} (h : I64 v) : iabs v ≤ 9223372036854775808 := by obtain ⟨h1, h2⟩ := h; unfold iabs; split <;> omega
theorem iabs_u64 {v : Int} (h : I64 v) : U64 (iabs v) := ⟨iabs_nonneg v, by have := iabs_le h; omega⟩
def MM (lo hi : Int) : Int := hi * 18446744073709551616 + lo
theorem MM_split (m : Int) : MM (m % 18446744073709551616) (m / 18446744073709551616) = m := by unfold MM; omega
theorem MM_nonneg {lo hi : Int} (h1 : U64 lo) (h2 : U64 hi) : 0 ≤ MM lo hi := by obtain ⟨_, _⟩ := h1; obtain ⟨_, _⟩ := h2; unfold MM; omega
theorem MM_lt {lo hi : Int} (h1 : U64 lo) (h2 : U64 hi) : MM lo hi < 340282366920938463463374607431768211456 := by obtain ⟨_, _⟩ := h1; obtain ⟨_, _⟩ := h2; unfold MM; omega
theorem mod_u64 (m : Int) : U64 (m % 18446744073709551616) := ⟨by omega, by omega⟩
theorem div_u64 {m : Int} (h0 : 0 ≤ m) (h1 : m < 340282366920938463463374607431768211456) : U64 (m / 18446744073709551616) := ⟨by omega, by omega⟩
theorem wrap_u64 (n : Int) : IntKind.u64.wrap n = n % 18446744073709551616 := by simp [IntKind.wrap, IntKind.bits, IntKind.signed]
theorem wrap_u8 (n : Int) : IntKind.u8.wrap n = n % 256 := by simp [IntKind.wrap, IntKind.bits, IntKind.signed]
theorem wrap_i64e (n : Int) : IntKind.i64.wrap n = if n % 18446744073709551616 ≥ 9223372036854775808 then n % 18446744073709551616 - 18446744073709551616 else n % 18446744073709551616 := by
  simp [IntKind.wrap, IntKind.bits, IntKind.signed]
theorem wrap_i64 {n : Int} (h : I64 n) : IntKind.i64.wrap n = n := by
  obtain ⟨h1, h2⟩ := h
  rw [wrap_i64e]; split <;> omega
theorem u64_in {n : Int} (h : U64 n) : IntKind.u64.wrap n = n := by obtain ⟨h1, h2⟩ := h; rw [wrap_u64]; omega
theorem and_mask32 {x : Int} (h : U64 x) : bits .and .u64 x 4294967295 = x % 4294967296 := by
  obtain ⟨h1, h2⟩ := h
  rw [u64_and x 4294967295 h1 h2 (by decide) (by decide)]
  have : x.toNat &&& (4294967295 : Int).toNat = x.toNat % 4294967296 := Nat.and_two_pow_sub_one_eq_mod x.toNat 32
  rw [this]; omega
theorem or_join {a b : Int} (ha : 0 ≤ a) (ha' : a < 4294967296) (hb : 0 ≤ b) (hb' : b < 4294967296) : bits .or .u64 (a * 4294967296) b = a * 4294967296 + b := by
  rw [u64_or (a * 4294967296) b (by omega) (by omega) hb (by omega)]
  have h := nat_join 32 (a * 4294967296).toNat b.toNat (by omega) (by omega)
  rw [h]; omega
theorem or_shift {hi lo : Int} (h1 : U64 hi) (h2 : U64 lo) : bits .or .u64 (IntKind.u64.wrap (hi * 4294967296)) (lo / 4294967296) = (hi * 4294967296) % 18446744073709551616 + lo / 4294967296 := by
  obtain ⟨_, _⟩ := h1; obtain ⟨_, _⟩ := h2
  rw [wrap_u64]
  have e : (hi * 4294967296) % 18446744073709551616 = (hi % 4294967296) * 4294967296 := by omega
  rw [e, or_join (by omega) (by omega) (by omega) (by omega)]
def exS (n : Bool) (lo hi : Int) : SV := .agg [.v (.bool n), .v (.int .u64 lo), .v (.int .u64 hi)]
def wiS (n : Bool) (hi lo : Int) : SV := .agg [.v (.bool n), .v (.int .u64 hi), .v (.int .u64 lo)]
def numS (v : Int) (f : Bool) : SV := .agg [.v (.int .i64 v), .v (.bool f)]
def woS (lo hi : Int) : SV := .agg [.v (.int .u64 lo), .v (.int .u64 hi)]
def exM (n : Bool) (m : Int) : SV := exS n (m % 18446744073709551616) (m / 18446744073709551616)
def wiM (n : Bool) (m : Int) : SV := wiS n (m / 18446744073709551616) (m % 18446744073709551616)
theorem ex_mk {n n' : Bool} {lo lo' hi hi' : Int} (h1 : n = n') (h2 : lo = lo') (h3 : hi = hi') : SV.agg [.v (.bool n), .v (.int .u64 lo), .v (.int .u64 hi)] = exS n' lo' hi' := by subst h1 h2 h3; rfl
theorem num_mk {v v' : Int} {f f' : Bool} (h1 : v = v') (h2 : f = f') : SV.agg [.v (.int .i64 v), .v (.bool f)] = numS v' f' := by subst h1 h2; rfl
theorem int_mk {k : IntKind} {v v' : Int} (h1 : v = v') : SV.v (.int k v) = .v (.int k v') := by rw [h1]
theorem bool_mk {v v' : Bool} (h1 : v = v') : SV.v (.bool v) = .v (.bool v') := by rw [h1]
def sndV (v : Int) : Int := if v = -9223372036854775808 then -9223372036854775807 else v
def sndF (v : Int) (f : Bool) : Bool := if v = -9223372036854775808 then true else f
theorem sndV_in {v : Int} (h : I64 v) : -9223372036854775807 ≤ sndV v ∧ sndV v ≤ 9223372036854775807 := by obtain ⟨_, _⟩ := h; unfold sndV; split <;> omega
theorem sndV_i64 {v : Int} (h : I64 v) : I64 (sndV v) := by have := sndV_in h; exact ⟨by omega, by omega⟩
theorem sndV_self {v : Int} (h1 : -9223372036854775807 ≤ v) : sndV v = v := by unfold sndV; rw [if_neg (by omega)]
theorem sndF_self {v : Int} {f : Bool} (h1 : -9223372036854775807 ≤ v) : sndF v f = f := by unfold sndF; rw [if_neg (by omega)]
def fitV (n : Bool) (m : Int) : Int := if m ≤ 9223372036854775807 then (if n then -m else m) else (if n then -9223372036854775807 else 9223372036854775807)
def fitF (m : Int) (f : Bool) : Bool := if m ≤ 9223372036854775807 then f else true
def plN (n1 : Bool) (m1 : Int) (n2 : Bool) (m2 : Int) : Bool := if n1 = n2 then n1 else if m1 < m2 then n2 else n1
def plM (n1 : Bool) (m1 : Int) (n2 : Bool) (m2 : Int) : Int := if n1 = n2 then m1 + m2 else iabs (m1 - m2)
def sv (n : Bool) (m : Int) : Int := if n then -m else m
theorem pl_sv (n1 : Bool) (m1 : Int) (n2 : Bool) (m2 : Int) : sv (plN n1 m1 n2 m2) (plM n1 m1 n2 m2) = sv n1 m1 + sv n2 m2 := by
  unfold plN plM
  by_cases hn : n1 = n2
  · subst hn
    rw [if_pos rfl, if_pos rfl]
    unfold sv; cases n1 <;> simp <;> omega
  · rw [if_neg hn, if_neg hn]
    by_cases hm : m1 < m2
    · rw [if_pos hm]
      unfold sv iabs
      cases n1 <;> cases n2 <;> simp_all <;> (repeat' split) <;> omega
    · rw [if_neg hm]
      unfold sv iabs
      cases n1 <;> cases n2 <;> simp_all <;> (repeat' split) <;> omega
theorem plM_nonneg {n1 n2 : Bool} {m1 m2 : Int} (h1 : 0 ≤ m1) (h2 : 0 ≤ m2) : 0 ≤ plM n1 m1 n2 m2 := by unfold plM; split; omega; exact iabs_nonneg _
theorem plM_eq {n1 n2 : Bool} {m1 m2 : Int} (h1 : 0 ≤ m1) (h2 : 0 ≤ m2) : plM n1 m1 n2 m2 = iabs (sv n1 m1 + sv n2 m2) := by
  unfold plM sv iabs
  cases n1 <;> cases n2 <;> simp <;> (try split) <;> (try split) <;> omega
def fitE (e : Int) : Int := if e > 9223372036854775807 then 9223372036854775807 else if e < -9223372036854775807 then -9223372036854775807 else e
def fitG (e : Int) (f : Bool) : Bool := if iabs e ≤ 9223372036854775807 then f else true
theorem fitV_E (n : Bool) {m : Int} (h : 0 ≤ m) : fitV n m = fitE (sv n m) := by unfold fitV fitE sv; cases n <;> simp <;> (repeat' split) <;> omega
theorem iabs_sv (n : Bool) {m : Int} (h : 0 ≤ m) : iabs (sv n m) = m := by unfold sv iabs; cases n <;> simp <;> omega
theorem fitF_G (n : Bool) {m : Int} (f : Bool) (h : 0 ≤ m) : fitF m f = fitG (sv n m) f := by unfold fitF fitG; rw [iabs_sv n h]
def cmpI (x y : Int) : Int := if x < y then -1 else if x > y then 1 else 0
end Go.Proofs.Ytlcfnlhognegcaa
end
