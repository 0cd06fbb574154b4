/-
  Contracts: quotients.
-/
import Derived.Test.YtheljpebapokjaaFxD
import Derived.Test.YtheljpebapokjaaFxE
import Derived.Test.YtheljpebapokjaaFxX
set_option maxRecDepth 100000
namespace Go.Proofs.Ytheljpebapokjaa
open Go.SE Go.RowKit

def ratE (a b : Int) : Int := Int.tdiv (a * 4294967296) b
def ratV (a b : Int) : Int := if b = 0 then noneV a else fitE (ratE a b)
def ratF (a b : Int) : Bool := if b = 0 then true else fitG (ratE a b) false
def sRatio : List SV → Option (Option Prop × SV)
  | [.v (.int .i64 a), .v (.int .i64 b)] => some (some (I64 a ∧ I64 b), numS (ratV a b) (ratF a b))
  | _ => none
def sOver : List SV → Option (Option Prop × SV)
  | [.agg [.v (.bool n), .v (.int .u64 hi), .v (.int .u64 lo)], .v (.int .u64 d)] => some (some (U64 lo ∧ U64 hi ∧ 0 < d ∧ d ≤ 9223372036854775808), wiM n (MM lo hi / d))
  | _ => none
def sDiv : List SV → Option (Option Prop × SV)
  | [.agg [.v (.int .i64 v), .v (.bool f)], .agg [.v (.int .i64 u), .v (.bool g)]] => some (some (I64 v ∧ I64 u), numS (ratV (sndV v) (sndV u)) (ratF (sndV v) (sndV u) || (sndF v f || sndF u g)))
  | _ => none
def ovQ (m d : Int) (k : Nat) : Int := m / 2 ^ k / d
def ovR (m d : Int) (k : Nat) : Int := m / 2 ^ k % d
noncomputable def ΛOver (n : Bool) (m d : Int) : Nat → Option LoopSpec := addLoop noΛ Try.f138 0 Nat (fun k => k ≤ 128) (fun k => k) [(6, fun k => .v (.int .u64 (ovR m d k))), (7, fun k => .v (.int .i64 ((k : Int) - 1)))]
  [(104, fun k => varBlk 130 [.v (.bool n), .v (.int .u64 (ovQ m d k / 18446744073709551616)), .v (.int .u64 (ovQ m d k % 18446744073709551616))])]
def ΓY0 : Ctrs := addCtr ΓC 133 (pureCtr sDiv64)
def ΓY1 : Ctrs := addCtr ΓC 138 (pureCtr sOver)
theorem vcOver (n : Bool) (hi lo d : Int) (m d' : Int) (R : SV → Prop) : (vcPure Try.prog noCtrs (ΛOver n m d') Try.f138 [wiS n hi lo, .v (.int .u64 d)] R) =
((∃ x : Nat, ((Nat.le x 128) ∧ ((((SV.v (Value.int IntKind.u64 0)) = (SV.v (Value.int IntKind.u64 (ovR m d' x)))) ∧ ((SV.v (Value.int IntKind.i64 127)) = (SV.v (Value.int IntKind.i64 ((↑x : Int) - 1))))) ∧ (((1 : Nat) = 1) ∧ (((1 : Nat) ≤ 1) ∧ (∀ i : Nat, (((i : Nat) < 1) → ([(SV.v (Value.bool n)), (SV.v (Value.int IntKind.u64 0)), (SV.v (Value.int IntKind.u64 0))] = [(SV.v (Value.bool n)), (SV.v (Value.int IntKind.u64 (ovQ m d' x / 18446744073709551616))), (SV.v (Value.int IntKind.u64 (ovQ m d' x % 18446744073709551616)))])))))))) ∧ (∀ x : Nat, ((Nat.le x 128) → 
(sel (decide ((↑x : Int) - 1 ≥ 0)) (((0 : Int) ≤ (IntKind.wrap IntKind.u64 ((↑x : Int) - 1))) ∧ 
(sel (decide ((↑x : Int) - 1 ≥ 64)) (((0 : Int) ≤ (IntKind.wrap IntKind.u64 (IntKind.wrap IntKind.i64 ((↑x : Int) - 1 - 64)))) ∧ 
(sel (decide (bits BinOp.or IntKind.u64 (IntKind.wrap IntKind.u64 (ovR m d' x * 2)) (bits BinOp.and IntKind.u64 (hi / 2 ^ min (Int.toNat (IntKind.wrap IntKind.u64 (IntKind.wrap IntKind.i64 ((↑x : Int) - 1 - 64)))) 64) 1) ≥ d)) (∃ x' : Nat, (((Nat.le x' 128) ∧ ((((SV.v (Value.int IntKind.u64 (IntKind.wrap IntKind.u64 (bits BinOp.or IntKind.u64 (IntKind.wrap IntKind.u64 (ovR m d' x * 2)) (bits BinOp.and IntKind.u64 (hi / 2 ^ min (Int.toNat (IntKind.wrap IntKind.u64 (IntKind.wrap IntKind.i64 ((↑x : Int) - 1 - 64)))) 64) 1) - d)))) = (SV.v (Value.int IntKind.u64 (ovR m d' x')))) ∧ ((SV.v (Value.int IntKind.i64 (IntKind.wrap IntKind.i64 ((↑x : Int) - 1 - 1)))) = (SV.v (Value.int IntKind.i64 ((↑x' : Int) - 1))))) ∧ (((1 : Nat) = 1) ∧ (((1 : Nat) ≤ 1) ∧ (∀ i : Nat, (((i : Nat) < 1) → ([(SV.v (Value.bool n)), (SV.v (Value.int IntKind.u64 (bits BinOp.or IntKind.u64 (IntKind.wrap IntKind.u64 (ovQ m d' x / 18446744073709551616 * 2)) (ovQ m d' x % 18446744073709551616 / 9223372036854775808)))), (SV.v (Value.int IntKind.u64 (bits BinOp.or IntKind.u64 (IntKind.wrap IntKind.u64 (ovQ m d' x % 18446744073709551616 * 2)) 1)))] = [(SV.v (Value.bool n)), (SV.v (Value.int IntKind.u64 (ovQ m d' x' / 18446744073709551616))), (SV.v (Value.int IntKind.u64 (ovQ m d' x' % 18446744073709551616)))]))))))) ∧ ((x' : Nat) < x))) (∃ x' : Nat, (((Nat.le x' 128) ∧ ((((SV.v (Value.int IntKind.u64 (bits BinOp.or IntKind.u64 (IntKind.wrap IntKind.u64 (ovR m d' x * 2)) (bits BinOp.and IntKind.u64 (hi / 2 ^ min (Int.toNat (IntKind.wrap IntKind.u64 (IntKind.wrap IntKind.i64 ((↑x : Int) - 1 - 64)))) 64) 1)))) = (SV.v (Value.int IntKind.u64 (ovR m d' x')))) ∧ ((SV.v (Value.int IntKind.i64 (IntKind.wrap IntKind.i64 ((↑x : Int) - 1 - 1)))) = (SV.v (Value.int IntKind.i64 ((↑x' : Int) - 1))))) ∧ (((1 : Nat) = 1) ∧ (((1 : Nat) ≤ 1) ∧ (∀ i : Nat, (((i : Nat) < 1) → ([(SV.v (Value.bool n)), (SV.v (Value.int IntKind.u64 (bits BinOp.or IntKind.u64 (IntKind.wrap IntKind.u64 (ovQ m d' x / 18446744073709551616 * 2)) (ovQ m d' x % 18446744073709551616 / 9223372036854775808)))), (SV.v (Value.int IntKind.u64 (IntKind.wrap IntKind.u64 (ovQ m d' x % 18446744073709551616 * 2))))] = [(SV.v (Value.bool n)), (SV.v (Value.int IntKind.u64 (ovQ m d' x' / 18446744073709551616))), (SV.v (Value.int IntKind.u64 (ovQ m d' x' % 18446744073709551616)))]))))))) ∧ ((x' : Nat) < x))))) 
(sel (decide (bits BinOp.or IntKind.u64 (IntKind.wrap IntKind.u64 (ovR m d' x * 2)) (bits BinOp.and IntKind.u64 (lo / 2 ^ min (Int.toNat (IntKind.wrap IntKind.u64 ((↑x : Int) - 1))) 64) 1) ≥ d)) (∃ x' : Nat, (((Nat.le x' 128) ∧ ((((SV.v (Value.int IntKind.u64 (IntKind.wrap IntKind.u64 (bits BinOp.or IntKind.u64 (IntKind.wrap IntKind.u64 (ovR m d' x * 2)) (bits BinOp.and IntKind.u64 (lo / 2 ^ min (Int.toNat (IntKind.wrap IntKind.u64 ((↑x : Int) - 1))) 64) 1) - d)))) = (SV.v (Value.int IntKind.u64 (ovR m d' x')))) ∧ ((SV.v (Value.int IntKind.i64 (IntKind.wrap IntKind.i64 ((↑x : Int) - 1 - 1)))) = (SV.v (Value.int IntKind.i64 ((↑x' : Int) - 1))))) ∧ (((1 : Nat) = 1) ∧ (((1 : Nat) ≤ 1) ∧ (∀ i : Nat, (((i : Nat) < 1) → ([(SV.v (Value.bool n)), (SV.v (Value.int IntKind.u64 (bits BinOp.or IntKind.u64 (IntKind.wrap IntKind.u64 (ovQ m d' x / 18446744073709551616 * 2)) (ovQ m d' x % 18446744073709551616 / 9223372036854775808)))), (SV.v (Value.int IntKind.u64 (bits BinOp.or IntKind.u64 (IntKind.wrap IntKind.u64 (ovQ m d' x % 18446744073709551616 * 2)) 1)))] = [(SV.v (Value.bool n)), (SV.v (Value.int IntKind.u64 (ovQ m d' x' / 18446744073709551616))), (SV.v (Value.int IntKind.u64 (ovQ m d' x' % 18446744073709551616)))]))))))) ∧ ((x' : Nat) < x))) (∃ x' : Nat, (((Nat.le x' 128) ∧ ((((SV.v (Value.int IntKind.u64 (bits BinOp.or IntKind.u64 (IntKind.wrap IntKind.u64 (ovR m d' x * 2)) (bits BinOp.and IntKind.u64 (lo / 2 ^ min (Int.toNat (IntKind.wrap IntKind.u64 ((↑x : Int) - 1))) 64) 1)))) = (SV.v (Value.int IntKind.u64 (ovR m d' x')))) ∧ ((SV.v (Value.int IntKind.i64 (IntKind.wrap IntKind.i64 ((↑x : Int) - 1 - 1)))) = (SV.v (Value.int IntKind.i64 ((↑x' : Int) - 1))))) ∧ (((1 : Nat) = 1) ∧ (((1 : Nat) ≤ 1) ∧ (∀ i : Nat, (((i : Nat) < 1) → ([(SV.v (Value.bool n)), (SV.v (Value.int IntKind.u64 (bits BinOp.or IntKind.u64 (IntKind.wrap IntKind.u64 (ovQ m d' x / 18446744073709551616 * 2)) (ovQ m d' x % 18446744073709551616 / 9223372036854775808)))), (SV.v (Value.int IntKind.u64 (IntKind.wrap IntKind.u64 (ovQ m d' x % 18446744073709551616 * 2))))] = [(SV.v (Value.bool n)), (SV.v (Value.int IntKind.u64 (ovQ m d' x' / 18446744073709551616))), (SV.v (Value.int IntKind.u64 (ovQ m d' x' % 18446744073709551616)))]))))))) ∧ ((x' : Nat) < x)))))) (R (SV.agg [(SV.v (Value.bool n)), (SV.v (Value.int IntKind.u64 (ovQ m d' x / 18446744073709551616))), (SV.v (Value.int IntKind.u64 (ovQ m d' x % 18446744073709551616)))])))))) := by kernel_rfl
theorem vcRatio (a b : Int) (R : SV → Prop) : (vcPure Try.prog ΓY0 noΛ Try.f87 [.v (.int .i64 a), .v (.int .i64 b)] R) =

(sel (b == 0) (R (SV.agg [(SV.v (Value.int IntKind.i64 (IntKind.wrap IntKind.i64 (cmpI a 0 * 9223372036854775807)))), (SV.v (Value.bool true))])) ((I64 a) ∧ (((U64 (iabs a)) ∧ ((U64 0) ∧ (((MM (iabs a) 0) : Int) < 79228162514264337593543950336))) ∧ ((I64 b) ∧ ((((iabs b) : Int) ≠ 0) ∧ ((((iabs b) : Int) ≠ 0) ∧ (((U64 (Int.tmod (MM (iabs a) 0 * 4294967296 / 18446744073709551616) (iabs b))) ∧ ((U64 (MM (iabs a) 0 * 4294967296 % 18446744073709551616)) ∧ ((U64 (iabs b)) ∧ (((Int.tmod (MM (iabs a) 0 * 4294967296 / 18446744073709551616) (iabs b)) : Int) < (iabs b))))) ∧ (((U64 (MM (MM (iabs a) 0 * 4294967296 % 18446744073709551616) (Int.tmod (MM (iabs a) 0 * 4294967296 / 18446744073709551616) (iabs b)) / iabs b)) ∧ (U64 (IntKind.wrap IntKind.u64 (Int.tdiv (MM (iabs a) 0 * 4294967296 / 18446744073709551616) (iabs b))))) ∧ (R (SV.agg [(SV.v (Value.int IntKind.i64 (fitV (!decide (a < 0) == decide (b < 0)) (MM (MM (MM (iabs a) 0 * 4294967296 % 18446744073709551616) (Int.tmod (MM (iabs a) 0 * 4294967296 / 18446744073709551616) (iabs b)) / iabs b) (IntKind.wrap IntKind.u64 (Int.tdiv (MM (iabs a) 0 * 4294967296 / 18446744073709551616) (iabs b))))))), (SV.v (Value.bool (fitF (MM (MM (MM (iabs a) 0 * 4294967296 % 18446744073709551616) (Int.tmod (MM (iabs a) 0 * 4294967296 / 18446744073709551616) (iabs b)) / iabs b) (IntKind.wrap IntKind.u64 (Int.tdiv (MM (iabs a) 0 * 4294967296 / 18446744073709551616) (iabs b)))) false)))])))))))))) := by kernel_rfl
theorem vcRRatio (a b : Int) (R : SV → Prop) : (vcPure Try.prog ΓY1 noΛ Try.f92 [.v (.int .i64 a), .v (.int .i64 b)] R) =

(sel (b == 0) (R (SV.agg [(SV.v (Value.int IntKind.i64 (noneV a))), (SV.v (Value.bool true))])) ((I64 a) ∧ (((U64 (iabs a)) ∧ ((U64 0) ∧ (((MM (iabs a) 0) : Int) < 79228162514264337593543950336))) ∧ ((I64 b) ∧ (((U64 (MM (iabs a) 0 * 4294967296 % 18446744073709551616)) ∧ ((U64 (MM (iabs a) 0 * 4294967296 / 18446744073709551616)) ∧ (((0 : Int) < (iabs b)) ∧ (((iabs b) : Int) ≤ 9223372036854775808)))) ∧ (((U64 (MM (MM (iabs a) 0 * 4294967296 % 18446744073709551616) (MM (iabs a) 0 * 4294967296 / 18446744073709551616) / iabs b % 18446744073709551616)) ∧ (U64 (MM (MM (iabs a) 0 * 4294967296 % 18446744073709551616) (MM (iabs a) 0 * 4294967296 / 18446744073709551616) / iabs b / 18446744073709551616))) ∧ (R (SV.agg [(SV.v (Value.int IntKind.i64 (fitV (!decide (a < 0) == decide (b < 0)) (MM (MM (MM (iabs a) 0 * 4294967296 % 18446744073709551616) (MM (iabs a) 0 * 4294967296 / 18446744073709551616) / iabs b % 18446744073709551616) (MM (MM (iabs a) 0 * 4294967296 % 18446744073709551616) (MM (iabs a) 0 * 4294967296 / 18446744073709551616) / iabs b / 18446744073709551616))))), (SV.v (Value.bool (fitF (MM (MM (MM (iabs a) 0 * 4294967296 % 18446744073709551616) (MM (iabs a) 0 * 4294967296 / 18446744073709551616) / iabs b % 18446744073709551616) (MM (MM (iabs a) 0 * 4294967296 % 18446744073709551616) (MM (iabs a) 0 * 4294967296 / 18446744073709551616) / iabs b / 18446744073709551616)) false)))])))))))) := by kernel_rfl
def ΓY2 : Ctrs := addCtr (addCtr (addCtr ΓC 87 (pureCtr sRatio)) 92 (pureCtr sRatio)) 126 (roCtr sFlags)
theorem vcDiv (v : Int) (f : Bool) (u : Int) (g : Bool) (R : SV → Prop) : (vcPure Try.prog ΓY2 noΛ Try.f81 [numS v f, numS u g] R) =
(((I64 (sndV v)) ∧ (I64 (sndV u))) ∧ 
(sel (ratF (sndV v) (sndV u)) (R (SV.agg [(SV.v (Value.int IntKind.i64 (ratV (sndV v) (sndV u)))), (SV.v (Value.bool true))])) ((((isN [SV.v (Value.int IntKind.i64 (sndV v)), SV.v (Value.bool (sndF v f))]) ∧ ((isN [SV.v (Value.int IntKind.i64 (sndV u)), SV.v (Value.bool (sndF u g))]) ∧ True)) ∧ (((2 : Nat) = 2) ∧ ((2 : Nat) < 4611686018427387904))) ∧ (R (SV.agg [(SV.v (Value.int IntKind.i64 (ratV (sndV v) (sndV u)))), (SV.v (Value.bool (anyF [[SV.v (Value.int IntKind.i64 (sndV v)), SV.v (Value.bool (sndF v f))], [SV.v (Value.int IntKind.i64 (sndV u)), SV.v (Value.bool (sndF u g))]])))]))))) := by kernel_rfl
theorem vcRDiv (v : Int) (f : Bool) (u : Int) (g : Bool) (R : SV → Prop) : (vcPure Try.prog ΓY2 noΛ Try.f84 [numS v f, numS u g] R) =

(sel (sndV u == 0) (R (SV.agg [(SV.v (Value.int IntKind.i64 (noneV (sndV v)))), (SV.v (Value.bool true))])) (((I64 (sndV v)) ∧ (I64 (sndV u))) ∧ 
(sel (ratF (sndV v) (sndV u)) (R (SV.agg [(SV.v (Value.int IntKind.i64 (ratV (sndV v) (sndV u)))), (SV.v (Value.bool true))])) 
(sel (sndF v f) (R (SV.agg [(SV.v (Value.int IntKind.i64 (ratV (sndV v) (sndV u)))), (SV.v (Value.bool true))])) (R (SV.agg [(SV.v (Value.int IntKind.i64 (ratV (sndV v) (sndV u)))), (SV.v (Value.bool (sndF u g)))])))))) := by kernel_rfl
theorem vcMul (v : Int) (f : Bool) (u : Int) (g : Bool) (R : SV → Prop) : (vcPure Try.prog ΓY2 noΛ Try.f98 [numS v f, numS u g] R) =
(((I64 (sndV v)) ∧ (I64 (sndV u))) ∧ (((U64 (iabs (sndV v) * iabs (sndV u) % 18446744073709551616)) ∧ (U64 (iabs (sndV v) * iabs (sndV u) / 18446744073709551616))) ∧ ((((isN [SV.v (Value.int IntKind.i64 (sndV v)), SV.v (Value.bool (sndF v f))]) ∧ ((isN [SV.v (Value.int IntKind.i64 (sndV u)), SV.v (Value.bool (sndF u g))]) ∧ True)) ∧ (((2 : Nat) = 2) ∧ ((2 : Nat) < 4611686018427387904))) ∧ (((U64 (MM (iabs (sndV v) * iabs (sndV u) % 18446744073709551616) (iabs (sndV v) * iabs (sndV u) / 18446744073709551616) / 4294967296 % 18446744073709551616)) ∧ (U64 (MM (iabs (sndV v) * iabs (sndV u) % 18446744073709551616) (iabs (sndV v) * iabs (sndV u) / 18446744073709551616) / 4294967296 / 18446744073709551616))) ∧ (R (SV.agg [(SV.v (Value.int IntKind.i64 (fitV (!decide (sndV v < 0) == decide (sndV u < 0)) (MM (MM (iabs (sndV v) * iabs (sndV u) % 18446744073709551616) (iabs (sndV v) * iabs (sndV u) / 18446744073709551616) / 4294967296 % 18446744073709551616) (MM (iabs (sndV v) * iabs (sndV u) % 18446744073709551616) (iabs (sndV v) * iabs (sndV u) / 18446744073709551616) / 4294967296 / 18446744073709551616))))), (SV.v (Value.bool (fitF (MM (MM (iabs (sndV v) * iabs (sndV u) % 18446744073709551616) (iabs (sndV v) * iabs (sndV u) / 18446744073709551616) / 4294967296 % 18446744073709551616) (MM (iabs (sndV v) * iabs (sndV u) % 18446744073709551616) (iabs (sndV v) * iabs (sndV u) / 18446744073709551616) / 4294967296 / 18446744073709551616)) (anyF [[SV.v (Value.int IntKind.i64 (sndV v)), SV.v (Value.bool (sndF v f))], [SV.v (Value.int IntKind.i64 (sndV u)), SV.v (Value.bool (sndF u g))]]))))])))))) := by kernel_rfl
theorem and_one {x : Int} (h : U64 x) : bits .and .u64 x 1 = x % 2 := by
  obtain ⟨h1, h2⟩ := h
  rw [u64_and x 1 h1 h2 (by decide) (by decide)]
  have : x.toNat &&& (1 : Int).toNat = x.toNat % 2 := Nat.and_two_pow_sub_one_eq_mod x.toNat 1
  rw [this]; omega
theorem or_bit {c b : Int} (hc : 0 ≤ c) (hc1 : c < 9223372036854775808) (h0 : 0 ≤ b) (h1 : b ≤ 1) : bits .or .u64 (IntKind.u64.wrap (c * 2)) b = 2 * c + b := by
  have h := shl_or (c := c) (d := b) (s := 1) hc h0 (by omega) (by omega) (by omega)
  rw [u64_in ⟨by omega, by omega⟩]
  have e : c * 2 ^ 1 = c * 2 := by omega
  rw [e] at h
  omega
theorem or_bit' {c b : Int} (h0 : 0 ≤ b) (h1 : b ≤ 1) : bits .or .u64 (IntKind.u64.wrap (c * 2)) b = (2 * c) % 18446744073709551616 + b := by
  rw [wrap_u64]
  have e : c * 2 % 18446744073709551616 = (c % 9223372036854775808) * 2 := by omega
  have h := or_bit (c := c % 9223372036854775808) (b := b) (by omega) (by omega) h0 h1
  rw [u64_in ⟨by omega, by omega⟩] at h
  rw [e, h]
  omega
theorem pow_pos2 (k : Nat) : (0 : Int) < 2 ^ k := by exact_mod_cast Nat.two_pow_pos k
theorem half_step (m : Int) (k : Nat) : m / 2 ^ k = 2 * (m / 2 ^ (k + 1)) + m / 2 ^ k % 2 := by
  have e : m / 2 ^ (k + 1) = m / 2 ^ k / 2 := by rw [Int.pow_succ, Int.ediv_ediv_of_nonneg (Int.le_of_lt (pow_pos2 k))]
  rw [e]; omega
theorem div_eq {x d q r : Int} (hd : 0 < d) (h : x = d * q + r) (h0 : 0 ≤ r) (h1 : r < d) : x / d = q ∧ x % d = r := by
  subst h
  rw [Int.add_comm, Int.add_mul_ediv_left _ _ (by omega), Int.add_mul_emod_self_left, Int.ediv_eq_zero_of_lt h0 h1, Int.emod_eq_of_lt h0 h1]
  exact ⟨by omega, rfl⟩
theorem ov_r {m d : Int} (k : Nat) (hd : 0 < d) : 0 ≤ ovR m d k ∧ ovR m d k < d := ⟨Int.emod_nonneg _ (by omega), Int.emod_lt_of_pos _ hd⟩
theorem ov_step {m d : Int} (k : Nat) (hd : 0 < d) : (d ≤ 2 * ovR m d (k + 1) + m / 2 ^ k % 2 → ovQ m d k = 2 * ovQ m d (k + 1) + 1 ∧ ovR m d k = 2 * ovR m d (k + 1) + m / 2 ^ k % 2 - d) ∧
    (2 * ovR m d (k + 1) + m / 2 ^ k % 2 < d → ovQ m d k = 2 * ovQ m d (k + 1) ∧ ovR m d k = 2 * ovR m d (k + 1) + m / 2 ^ k % 2) := by
  have h := half_step m k
  have b0 : 0 ≤ m / 2 ^ k % 2 ∧ m / 2 ^ k % 2 ≤ 1 := by omega
  unfold ovQ ovR
  generalize m / 2 ^ k % 2 = b at *
  rw [h]
  generalize m / 2 ^ (k + 1) = P at *
  have h1 := Int.mul_ediv_add_emod P d
  have r0 : 0 ≤ P % d := Int.emod_nonneg _ (by omega)
  have r1 : P % d < d := Int.emod_lt_of_pos _ hd
  generalize P / d = q at *
  generalize P % d = r at *
  have e : d * (2 * q) = 2 * (d * q) := by rw [← Int.mul_assoc, Int.mul_comm d 2, Int.mul_assoc]
  constructor
  · intro g
    exact div_eq hd (by rw [Int.mul_add, e]; omega) (by omega) (by omega)
  · intro g
    exact div_eq hd (by rw [e]; omega) (by omega) (by omega)
theorem ov_q {m d : Int} (k : Nat) (hk : 1 ≤ k) (hm : 0 ≤ m) (hm1 : m < 340282366920938463463374607431768211456) (hd : 0 < d) : 0 ≤ ovQ m d k ∧ ovQ m d k < 170141183460469231731687303715884105728 := by
  have h1 : 0 ≤ m / 2 ^ k := Int.ediv_nonneg hm (Int.le_of_lt (pow_pos2 k))
  have h2 : m / 2 ^ k ≤ m / 2 := by
    obtain ⟨j, rfl⟩ : ∃ j, k = j + 1 := ⟨k - 1, by omega⟩
    have e : m / 2 ^ (j + 1) = m / 2 / 2 ^ j := by rw [Int.pow_succ, Int.mul_comm, Int.ediv_ediv_of_nonneg (by decide)]
    rw [e]
    exact Int.ediv_le_self _ (by omega)
  refine ⟨Int.ediv_nonneg h1 (by omega), ?_⟩
  have := Int.ediv_le_self d h1
  unfold ovQ
  omega
theorem wi_row {n : Bool} {a b a' b' : Int} (h1 : a = a') (h2 : b = b') : [SV.v (.bool n), .v (.int .u64 a), .v (.int .u64 b)] = [SV.v (.bool n), .v (.int .u64 a'), .v (.int .u64 b')] := by rw [h1, h2]
theorem over_sel (n : Bool) {m d : Int} {x : Nat} (hx : 1 ≤ x) (hx2 : x ≤ 128) (hm : 0 ≤ m) (hm1 : m < 340282366920938463463374607431768211456) (hd : 0 < d) (hd1 : d ≤ 9223372036854775808) {b : Int} (hb : b = m / 2 ^ (x - 1) % 2) :
    sel (decide (bits BinOp.or IntKind.u64 (IntKind.wrap IntKind.u64 (ovR m d x * 2)) b ≥ d))
      (∃ x' : Nat, (((Nat.le x' 128) ∧ ((((SV.v (Value.int IntKind.u64 (IntKind.wrap IntKind.u64 (bits BinOp.or IntKind.u64 (IntKind.wrap IntKind.u64 (ovR m d x * 2)) b - d)))) = (SV.v (Value.int IntKind.u64 (ovR m d x')))) ∧ ((SV.v (Value.int IntKind.i64 (IntKind.wrap IntKind.i64 ((x : Int) - 1 - 1)))) = (SV.v (Value.int IntKind.i64 ((x' : Int) - 1))))) ∧ (((1 : Nat) = 1) ∧ (((1 : Nat) ≤ 1) ∧ (∀ i : Nat, (((i : Nat) < 1) → ([(SV.v (Value.bool n)), (SV.v (Value.int IntKind.u64 (bits BinOp.or IntKind.u64 (IntKind.wrap IntKind.u64 (ovQ m d x / 18446744073709551616 * 2)) (ovQ m d x % 18446744073709551616 / 9223372036854775808)))), (SV.v (Value.int IntKind.u64 (bits BinOp.or IntKind.u64 (IntKind.wrap IntKind.u64 (ovQ m d x % 18446744073709551616 * 2)) 1)))] = [(SV.v (Value.bool n)), (SV.v (Value.int IntKind.u64 (ovQ m d x' / 18446744073709551616))), (SV.v (Value.int IntKind.u64 (ovQ m d x' % 18446744073709551616)))]))))))) ∧ ((x' : Nat) < x)))
      (∃ x' : Nat, (((Nat.le x' 128) ∧ ((((SV.v (Value.int IntKind.u64 (bits BinOp.or IntKind.u64 (IntKind.wrap IntKind.u64 (ovR m d x * 2)) b))) = (SV.v (Value.int IntKind.u64 (ovR m d x')))) ∧ ((SV.v (Value.int IntKind.i64 (IntKind.wrap IntKind.i64 ((x : Int) - 1 - 1)))) = (SV.v (Value.int IntKind.i64 ((x' : Int) - 1))))) ∧ (((1 : Nat) = 1) ∧ (((1 : Nat) ≤ 1) ∧ (∀ i : Nat, (((i : Nat) < 1) → ([(SV.v (Value.bool n)), (SV.v (Value.int IntKind.u64 (bits BinOp.or IntKind.u64 (IntKind.wrap IntKind.u64 (ovQ m d x / 18446744073709551616 * 2)) (ovQ m d x % 18446744073709551616 / 9223372036854775808)))), (SV.v (Value.int IntKind.u64 (IntKind.wrap IntKind.u64 (ovQ m d x % 18446744073709551616 * 2))))] = [(SV.v (Value.bool n)), (SV.v (Value.int IntKind.u64 (ovQ m d x' / 18446744073709551616))), (SV.v (Value.int IntKind.u64 (ovQ m d x' % 18446744073709551616)))]))))))) ∧ ((x' : Nat) < x))) := by
  obtain ⟨k, rfl⟩ : ∃ k, x = k + 1 := ⟨x - 1, by omega⟩
  have hs := ov_step (m := m) k hd
  rw [Nat.add_sub_cancel] at hb
  rw [← hb] at hs
  have b0 : 0 ≤ b ∧ b ≤ 1 := by omega
  have hr := ov_r (m := m) (k + 1) hd
  have hq := ov_q (k + 1) hx hm hm1 hd
  have e1 : bits .or .u64 (IntKind.u64.wrap (ovR m d (k + 1) * 2)) b = 2 * ovR m d (k + 1) + b := or_bit hr.1 (by omega) b0.1 b0.2
  have e2 : bits .or .u64 (IntKind.u64.wrap (ovQ m d (k + 1) / 18446744073709551616 * 2)) (ovQ m d (k + 1) % 18446744073709551616 / 9223372036854775808) = 2 * (ovQ m d (k + 1) / 18446744073709551616) + ovQ m d (k + 1) % 18446744073709551616 / 9223372036854775808 :=
    or_bit (by omega) (by omega) (by omega) (by omega)
  have e3 : bits .or .u64 (IntKind.u64.wrap (ovQ m d (k + 1) % 18446744073709551616 * 2)) 1 = (2 * (ovQ m d (k + 1) % 18446744073709551616)) % 18446744073709551616 + 1 := or_bit' (by decide) (by decide)
  have e4 : IntKind.u64.wrap (ovQ m d (k + 1) % 18446744073709551616 * 2) = (2 * (ovQ m d (k + 1) % 18446744073709551616)) % 18446744073709551616 := by rw [wrap_u64]; omega
  have e5 : IntKind.i64.wrap (((k + 1 : Nat) : Int) - 1 - 1) = (k : Int) - 1 := by rw [wrap_i64 ⟨by omega, by omega⟩]; omega
  rw [e1, e2, e3, e4, e5]
  refine sel_of (fun g => ?_) fun g => ?_
  · have g := of_decide_eq_true g
    obtain ⟨f1, f2⟩ := hs.1 g
    refine ⟨k, ⟨Nat.le_of_succ_le hx2, ⟨int_mk ?_, rfl⟩, rfl, Nat.le_refl _, fun i _ => wi_row ?_ ?_⟩, Nat.lt_succ_self k⟩
    · rw [f2, u64_in ⟨by omega, by omega⟩]
    · rw [f1]; omega
    · rw [f1]; omega
  · have g := of_decide_eq_false g
    obtain ⟨f1, f2⟩ := hs.2 (by omega)
    refine ⟨k, ⟨Nat.le_of_succ_le hx2, ⟨int_mk f2.symm, rfl⟩, rfl, Nat.le_refl _, fun i _ => wi_row ?_ ?_⟩, Nat.lt_succ_self k⟩
    · rw [f1]; omega
    · rw [f1]; omega
theorem Over_spec : PureSpec Try.prog 138 sOver := vc_spec hm noCtrs_ok Try.func138 (Λ := fun args => match args with | [.agg [.v (.bool n), .v (.int .u64 hi), .v (.int .u64 lo)], .v (.int .u64 d)] => ΛOver n (MM lo hi) d | _ => noΛ) fun args p x h hp => by
  unfold sOver at h
  split at h <;> try (cases h; done)
  rename_i n hi lo d
  cases h
  obtain ⟨h1, h2, h3, h4⟩ := hp _ rfl
  refine ⟨rfl, rfl, ?_⟩
  refine Eq.mpr (vcOver n hi lo d _ _ _) ?_
  have m0 := MM_nonneg h1 h2
  have m1 := MM_lt h1 h2
  have hM : MM lo hi = lo + hi * 18446744073709551616 := by unfold MM; omega
  refine ⟨⟨128, ⟨Nat.le_refl _, ⟨int_mk ?_, rfl⟩, rfl, Nat.le_refl _, fun i _ => wi_row ?_ ?_⟩⟩, fun x hx => ?_⟩
  · have e : MM lo hi / 2 ^ 128 = 0 := Int.ediv_eq_zero_of_lt m0 m1
    unfold ovR; rw [e]; simp
  · have e : MM lo hi / 2 ^ 128 = 0 := Int.ediv_eq_zero_of_lt m0 m1
    unfold ovQ; rw [e]; simp
  · have e : MM lo hi / 2 ^ 128 = 0 := Int.ediv_eq_zero_of_lt m0 m1
    unfold ovQ; rw [e]; simp
  · have hx : x ≤ 128 := hx
    refine sel_of (fun g => ?_) fun g => ?_
    · have g := of_decide_eq_true g
      have e1 : IntKind.u64.wrap ((x : Int) - 1) = (x : Int) - 1 := u64_in ⟨by omega, by omega⟩
      rw [e1]
      refine ⟨by omega, sel_of (fun g' => ?_) fun g' => ?_⟩
      · have g' := of_decide_eq_true g'
        have e2 : IntKind.i64.wrap ((x : Int) - 1 - 64) = ((x - 65 : Nat) : Int) := by rw [wrap_i64 ⟨by omega, by omega⟩]; omega
        have e3 : IntKind.u64.wrap ((x - 65 : Nat) : Int) = ((x - 65 : Nat) : Int) := u64_in ⟨by omega, by omega⟩
        rw [e2, e3, Int.toNat_natCast, Nat.min_eq_left (by omega)]
        have hu : U64 (hi / 2 ^ (x - 65)) := ⟨Int.ediv_nonneg h2.1 (Int.le_of_lt (pow_pos2 _)), by have := Int.ediv_le_self (2 ^ (x - 65)) h2.1; have := h2.2; omega⟩
        rw [and_one hu]
        refine ⟨by omega, over_sel n (by omega) hx m0 m1 h3 h4 ?_⟩
        have e4 : MM lo hi / 2 ^ (x - 1) = hi / 2 ^ (x - 65) := by
          rw [show x - 1 = 64 + (x - 65) by omega, Int.pow_add, ← Int.ediv_ediv_of_nonneg (by decide)]
          have : MM lo hi / 2 ^ 64 = hi := MM_hi h1
          rw [this]
        rw [e4]
      · have g' := of_decide_eq_false g'
        have e3 : Int.toNat ((x : Int) - 1) = x - 1 := by omega
        rw [e3, Nat.min_eq_left (by omega)]
        have hu : U64 (lo / 2 ^ (x - 1)) := ⟨Int.ediv_nonneg h1.1 (Int.le_of_lt (pow_pos2 _)), by have := Int.ediv_le_self (2 ^ (x - 1)) h1.1; have := h1.2; omega⟩
        rw [and_one hu]
        refine over_sel n (by omega) hx m0 m1 h3 h4 ?_
        have e4 : MM lo hi = lo + (hi * 2 ^ (64 - x) * 2) * 2 ^ (x - 1) := by
          have : (2 : Int) ^ (64 - x) * 2 * 2 ^ (x - 1) = 18446744073709551616 := by
            rw [← Int.pow_succ, ← Int.pow_add, show 64 - x + 1 + (x - 1) = 64 by omega]
            rfl
          rw [hM, ← this]
          simp only [Int.mul_assoc]
        rw [e4, Int.add_mul_ediv_right _ _ (Int.ne_of_gt (pow_pos2 _)), Int.add_mul_emod_self_right]
    · have g := of_decide_eq_false g
      have e : x = 0 := by omega
      subst e
      unfold ovQ
      have e : MM lo hi / 2 ^ 0 = MM lo hi := by rw [Int.pow_zero, Int.ediv_one]
      rw [e]
      rfl
theorem noneV_cmp (a : Int) : IntKind.i64.wrap (cmpI a 0 * 9223372036854775807) = noneV a := by
  unfold noneV cmpI
  by_cases h : a < 0
  · rw [if_pos h, if_neg (by omega), if_pos h]; rfl
  · by_cases h' : 0 < a
    · rw [if_neg h, if_pos h', if_pos h']; rfl
    · rw [if_neg h, if_neg h', if_neg (by omega), if_neg h]; rfl
theorem ratE_sv (a b : Int) : sv (!(decide (a < 0) == decide (b < 0))) (iabs a * 4294967296 / iabs b) = ratE a b := by
  unfold ratE
  have h : 0 ≤ iabs a * 4294967296 := by have := iabs_nonneg a; omega
  rw [← Int.tdiv_eq_ediv_of_nonneg h]
  unfold sv
  by_cases ha : a < 0 <;> by_cases hb : b < 0
  · rw [iabs_neg ha, iabs_neg hb]; simp [ha, hb, Int.neg_tdiv, Int.tdiv_neg, Int.neg_mul]
  · rw [iabs_neg ha, iabs_pos hb]; simp [ha, hb, Int.neg_tdiv, Int.neg_mul]
  · rw [iabs_pos ha, iabs_neg hb]; simp [ha, hb, Int.tdiv_neg]
  · rw [iabs_pos ha, iabs_pos hb]; simp [ha, hb]
theorem ΓY0_ok : ∀ f g, ΓY0 f = some g → g.ok Try.prog f := addCtr_ok ΓC_ok (pure_ok Try.func133 (by kernel_rfl) (by kernel_rfl) Div64_spec)
theorem two_step {X d : Int} (h0 : 0 ≤ X) (hd : 0 < d) : MM (MM (X % 18446744073709551616) (X / 18446744073709551616 % d) / d) (X / 18446744073709551616 / d) = X / d ∧ U64 (MM (X % 18446744073709551616) (X / 18446744073709551616 % d) / d) := by
  have q0 : 0 ≤ X / 18446744073709551616 := by omega
  have hr0 : 0 ≤ X / 18446744073709551616 % d := Int.emod_nonneg _ (by omega)
  have hr1 : X / 18446744073709551616 % d < d := Int.emod_lt_of_pos _ hd
  have hq := Int.mul_ediv_add_emod (X / 18446744073709551616) d
  have hX : X = X / 18446744073709551616 * 18446744073709551616 + X % 18446744073709551616 := by omega
  have hl : 0 ≤ X % 18446744073709551616 ∧ X % 18446744073709551616 < 18446744073709551616 := by omega
  generalize X / 18446744073709551616 = Y at *
  generalize X % 18446744073709551616 = l at *
  generalize Y / d = q at *
  generalize Y % d = r at *
  have e : MM l r = r * 18446744073709551616 + l := by unfold MM; omega
  rw [e]
  refine ⟨?_, Int.ediv_nonneg (by omega) (by omega), Int.ediv_lt_of_lt_mul hd (by omega)⟩
  have e2 : X = (r * 18446744073709551616 + l) + d * (q * 18446744073709551616) := by rw [← Int.mul_assoc]; omega
  rw [e2, Int.add_mul_ediv_left _ _ (by omega)]
  unfold MM; omega
theorem Ratio_spec : PureSpec Try.prog 87 sRatio := vc_spec hm ΓY0_ok Try.func87 (Λ := fun _ => noΛ) fun args p x h hp => by
  unfold sRatio at h
  split at h <;> try (cases h; done)
  rename_i a b
  cases h
  obtain ⟨h1, h2⟩ := hp _ rfl
  refine ⟨rfl, rfl, ?_⟩
  refine Eq.mpr (vcRatio a b _) ?_
  refine sel_of (fun g => ?_) fun g => ?_
  · have g : b = 0 := by simpa using g
    unfold ratV ratF
    rw [if_pos g, if_pos g, noneV_cmp]; rfl
  · have g : b ≠ 0 := by simpa using g
    unfold ratV ratF
    rw [if_neg g, if_neg g]
    have ua := iabs_u64 h1
    have ub := iabs_u64 h2
    have la := iabs_le h1
    have hb : 0 < iabs b := by unfold iabs; split <;> omega
    have hs := ratE_sv a b
    rw [MM_0]
    obtain ⟨ua0, ua1⟩ := ua
    generalize hX : iabs a * 4294967296 = X at *
    have X0 : 0 ≤ X := by omega
    have hY0 : 0 ≤ X / 18446744073709551616 := by omega
    obtain ⟨t1, t2⟩ := two_step X0 hb
    rw [Int.tdiv_eq_ediv_of_nonneg hY0, Int.tmod_eq_emod_of_nonneg hY0]
    have hr0 : 0 ≤ X / 18446744073709551616 % iabs b := Int.emod_nonneg _ (by omega)
    have hr1 : X / 18446744073709551616 % iabs b < iabs b := Int.emod_lt_of_pos _ hb
    have hq0 : 0 ≤ X / 18446744073709551616 / iabs b := Int.ediv_nonneg hY0 ub.1
    have hq1 : X / 18446744073709551616 / iabs b ≤ X / 18446744073709551616 := Int.ediv_le_self _ hY0
    have uq : U64 (X / 18446744073709551616 / iabs b) := ⟨hq0, by omega⟩
    rw [u64_in uq, t1]
    have x0 : 0 ≤ X / iabs b := Int.ediv_nonneg X0 ub.1
    refine ⟨h1, ⟨⟨ua0, ua1⟩, ⟨by omega, by omega⟩, by omega⟩, h2, by omega, by omega, ⟨⟨hr0, by have := ub.2; omega⟩, mod_u64 _, ub, hr1⟩, ⟨t2, uq⟩, ?_⟩
    rw [fitV_E _ x0, fitF_G (!(decide (a < 0) == decide (b < 0))) _ x0, hs]; rfl
theorem ΓY1_ok : ∀ f g, ΓY1 f = some g → g.ok Try.prog f := addCtr_ok ΓC_ok (pure_ok Try.func138 (by kernel_rfl) (by kernel_rfl) Over_spec)
theorem RRatio_spec : PureSpec Try.prog 92 sRatio := vc_spec hm ΓY1_ok Try.func92 (Λ := fun _ => noΛ) fun args p x h hp => by
  unfold sRatio at h
  split at h <;> try (cases h; done)
  rename_i a b
  cases h
  obtain ⟨h1, h2⟩ := hp _ rfl
  refine ⟨rfl, rfl, ?_⟩
  refine Eq.mpr (vcRRatio a b _) ?_
  refine sel_of (fun g => ?_) fun g => ?_
  · have g : b = 0 := by simpa using g
    unfold ratV ratF
    rw [if_pos g, if_pos g]; rfl
  · have g : b ≠ 0 := by simpa using g
    unfold ratV ratF
    rw [if_neg g, if_neg g]
    have ua := iabs_u64 h1
    have ub := iabs_u64 h2
    have la := iabs_le h1
    have lb := iabs_le h2
    have hb : 0 < iabs b := by unfold iabs; split <;> omega
    have hs := ratE_sv a b
    obtain ⟨ua0, ua1⟩ := ua
    rw [MM_0, MM_split, MM_split]
    generalize hX : iabs a * 4294967296 = X at *
    have X0 : 0 ≤ X := by omega
    have x0 : 0 ≤ X / iabs b := Int.ediv_nonneg X0 ub.1
    have x1 : X / iabs b ≤ X := Int.ediv_le_self _ X0
    refine ⟨h1, ⟨⟨ua0, ua1⟩, ⟨by omega, by omega⟩, by omega⟩, h2, ⟨mod_u64 _, div_u64 X0 (by omega), hb, lb⟩, ⟨mod_u64 _, div_u64 x0 (by omega)⟩, ?_⟩
    rw [fitV_E _ x0, fitF_G (!(decide (a < 0) == decide (b < 0))) _ x0, hs]; rfl
theorem ΓY2_ok : ∀ f g, ΓY2 f = some g → g.ok Try.prog f := addCtr_ok (addCtr_ok (addCtr_ok ΓC_ok (pure_ok Try.func87 (by kernel_rfl) (by kernel_rfl) Ratio_spec)) (pure_ok Try.func92 (by kernel_rfl) (by kernel_rfl) RRatio_spec)) (ro_ok Try.func126 (by kernel_rfl) (by kernel_rfl) Flags_spec)
theorem Div_spec : PureSpec Try.prog 81 sDiv := vc_spec hm ΓY2_ok Try.func81 (Λ := fun _ => noΛ) fun args p x h hp => by
  unfold sDiv at h
  split at h <;> try (cases h; done)
  rename_i v f u g
  cases h
  obtain ⟨h1, h2⟩ := hp _ rfl
  refine ⟨rfl, rfl, ?_⟩
  refine Eq.mpr (vcDiv v f u g _) ?_
  refine ⟨⟨sndV_i64 h1, sndV_i64 h2⟩, sel_of (fun hf => num_mk rfl ?_) fun hf => ⟨⟨⟨trivial, trivial, trivial⟩, rfl, by decide⟩, num_mk rfl ?_⟩⟩
  · rw [hf, Bool.true_or]
  · rw [hf, Bool.false_or]; simp [anyF, rowF]
theorem RDiv_spec : PureSpec Try.prog 84 sDiv := vc_spec hm ΓY2_ok Try.func84 (Λ := fun _ => noΛ) fun args p x h hp => by
  unfold sDiv at h
  split at h <;> try (cases h; done)
  rename_i v f u g
  cases h
  obtain ⟨h1, h2⟩ := hp _ rfl
  refine ⟨rfl, rfl, ?_⟩
  refine Eq.mpr (vcRDiv v f u g _) ?_
  refine sel_of (fun hz => ?_) fun hz => ?_
  · have hz : sndV u = 0 := by simpa using hz
    unfold ratV ratF
    rw [if_pos hz, if_pos hz, Bool.true_or]; rfl
  · refine ⟨⟨sndV_i64 h1, sndV_i64 h2⟩, sel_of (fun hf => num_mk rfl ?_) fun hf => sel_of (fun hg => num_mk rfl ?_) fun hg => num_mk rfl ?_⟩
    · rw [hf, Bool.true_or]
    · rw [hg, Bool.true_or, Bool.or_true]
    · rw [hf, hg, Bool.false_or, Bool.false_or]
theorem Mul_spec : PureSpec Try.prog 98 sMul := vc_spec hm ΓY2_ok Try.func98 (Λ := fun _ => noΛ) fun args p x h hp => by
  unfold sMul at h
  split at h <;> try (cases h; done)
  rename_i v f u g
  cases h
  obtain ⟨h1, h2⟩ := hp _ rfl
  have h1 := sndV_i64 h1
  have h2 := sndV_i64 h2
  refine ⟨rfl, rfl, ?_⟩
  refine Eq.mpr (vcMul v f u g _) ?_
  rw [MM_split, MM_split]
  have l1 := iabs_mul_lt h1 h2
  have n1 := iabs_mul (a := sndV v) (b := sndV u)
  have s1 := sgn_mul (sndV v) (sndV u)
  generalize iabs (sndV v) * iabs (sndV u) = m at *
  have e : sv (!(decide (sndV v < 0) == decide (sndV u < 0))) (m / 4294967296) = mulE (sndV v) (sndV u) := by rw [sv_tdiv _ n1, s1]; rfl
  refine ⟨⟨h1, h2⟩, ⟨mod_u64 _, div_u64 n1 (by omega)⟩, ⟨⟨trivial, trivial, trivial⟩, rfl, by decide⟩, ⟨mod_u64 _, div_u64 (by omega) (by omega)⟩, num_mk ?_ ?_⟩
  · rw [fitV_E _ (by omega), e]
  · rw [fitF_G (!(decide (sndV v < 0) == decide (sndV u < 0))) _ (by omega), e]
    simp [anyF, rowF]
end Go.Proofs.Ytheljpebapokjaa
