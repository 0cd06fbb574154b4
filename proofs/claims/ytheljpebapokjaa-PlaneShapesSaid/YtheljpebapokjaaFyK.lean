/-
  Contracts: roots, sums of two products.
-/
import Derived.Test.YtheljpebapokjaaFxY
import Derived.Test.YtheljpebapokjaaFyI
set_option maxRecDepth 100000
namespace Go.Proofs.Ytheljpebapokjaa
open Go.SE Go.RowKit

def sRoot : List SV → Option (Option Prop × SV)
  | [.agg [.v (.int .u64 lo), .v (.int .u64 hi)]] => some (some (U64 lo ∧ U64 hi), .v (.int .u64 (isq (MM lo hi))))
  | _ => none
def sRRoot : List SV → Option (Option Prop × SV)
  | [.agg [.v (.bool _), .v (.int .u64 hi), .v (.int .u64 lo)]] => some (some (U64 lo ∧ U64 hi), wiS false 0 (isq (MM lo hi)))
  | _ => none
def sqrtV (v : Int) : Int := if sndV v < 0 then 0 else isq (sndV v * 4294967296)
def sqrtF (v : Int) (f : Bool) : Bool := if sndV v < 0 then true else f
def sSqrt : List SV → Option (Option Prop × SV)
  | [.agg [.v (.int .i64 v), .v (.bool f)]] => some (some (I64 v), numS (sqrtV v) (sqrtF v f))
  | _ => none
def hypE (a b : Int) : Int := isq (a * a + b * b)
def sHypot : List SV → Option (Option Prop × SV)
  | [.agg [.v (.int .i64 v), .v (.bool f)], .agg [.v (.int .i64 u), .v (.bool g)]] => some (some (I64 v ∧ I64 u), numS (fitE (hypE (sndV v) (sndV u))) (fitG (hypE (sndV v) (sndV u)) (sndF v f || sndF u g)))
  | _ => none
def dotE (a b c d : Int) : Int := Int.tdiv (a * b + c * d) 4294967296
def sDot : List SV → Option (Option Prop × SV)
  | [.agg [.v (.int .i64 a), .v (.bool fa)], .agg [.v (.int .i64 b), .v (.bool fb)], .agg [.v (.int .i64 c), .v (.bool fc)], .agg [.v (.int .i64 d), .v (.bool fd)]] =>
    some (some ((I64 a ∧ I64 b) ∧ I64 c ∧ I64 d), numS (fitE (dotE (sndV a) (sndV b) (sndV c) (sndV d))) (fitG (dotE (sndV a) (sndV b) (sndV c) (sndV d)) ((sndF a fa || sndF b fb) || (sndF c fc || sndF d fd))))
  | _ => none
structure KR where
  k : Nat
  r : Int
noncomputable def ΛRoot (m : Int) : Nat → Option LoopSpec := addLoop noΛ Try.f142 0 Int (fun r => isq m ≤ r ∧ 0 < r ∧ r < 18446744073709551616) (fun r => r.toNat) [(4, fun r => .v (.int .u64 r))] []
noncomputable def ΛRRoot (m : Int) : Nat → Option LoopSpec := addLoop noΛ Try.f150 0 KR (fun x => x.k ≤ 64 ∧ 0 ≤ x.r ∧ x.r % 2 ^ x.k = 0 ∧ x.r + 2 ^ x.k ≤ 18446744073709551616 ∧ rt x.k x.r m = isq m) (fun x => x.k) [(3, fun x => .v (.int .u64 x.r)), (4, fun x => .v (.int .i64 ((x.k : Int) - 1)))] []
def ΓR0 : Ctrs := addCtr ΓY0 164 (pureCtr sLen64)
theorem vcRoot (m lo hi : Int) (R : SV → Prop) : (vcPure Try.prog ΓR0 (ΛRoot m) Try.f142 [woS lo hi] R) =

(sel (hi == 0) 
(sel (lo == 0) (R (SV.v (Value.int IntKind.u64 0))) ((U64 lo) ∧ 
(sel (hi != 0) ((U64 hi) ∧ 
(sel (decide (IntKind.wrap IntKind.i64 (Int.tdiv (IntKind.wrap IntKind.i64 (IntKind.wrap IntKind.i64 (64 + lenI hi) + 1)) 2) < 64)) (((0 : Int) ≤ (IntKind.wrap IntKind.i64 (Int.tdiv (IntKind.wrap IntKind.i64 (IntKind.wrap IntKind.i64 (64 + lenI hi) + 1)) 2))) ∧ ((∃ x : Int, (((((isq m) : Int) ≤ x) ∧ (((0 : Int) < x) ∧ ((x : Int) < 18446744073709551616))) ∧ (((SV.v (Value.int IntKind.u64 (IntKind.wrap IntKind.u64 (1 * 2 ^ min (Int.toNat (IntKind.wrap IntKind.i64 (Int.tdiv (IntKind.wrap IntKind.i64 (IntKind.wrap IntKind.i64 (64 + lenI hi) + 1)) 2))) 64)))) = (SV.v (Value.int IntKind.u64 x))) ∧ True))) ∧ (∀ x : Int, (((((isq m) : Int) ≤ x) ∧ (((0 : Int) < x) ∧ ((x : Int) < 18446744073709551616))) → 
(sel (decide (hi ≥ x)) (R (SV.v (Value.int IntKind.u64 x))) (((U64 hi) ∧ ((U64 lo) ∧ ((U64 x) ∧ ((hi : Int) < x)))) ∧ 
(sel (decide (MM lo hi / x ≥ x)) (R (SV.v (Value.int IntKind.u64 x))) (((U64 x) ∧ ((U64 (MM lo hi / x)) ∧ (((0 : Int) ≤ 0) ∧ ((0 : Int) ≤ 1)))) ∧ (∃ x' : Int, ((((((isq m) : Int) ≤ x') ∧ (((0 : Int) < x') ∧ ((x' : Int) < 18446744073709551616))) ∧ (((SV.v (Value.int IntKind.u64 (bits BinOp.or IntKind.u64 ((x + MM lo hi / x + 0) % 18446744073709551616 / 2) (IntKind.wrap IntKind.u64 ((x + MM lo hi / x + 0) / 18446744073709551616 * 9223372036854775808))))) = (SV.v (Value.int IntKind.u64 x'))) ∧ True)) ∧ (((Int.toNat x') : Nat) < (Int.toNat x)))))))))))) ((∃ x : Int, (((((isq m) : Int) ≤ x) ∧ (((0 : Int) < x) ∧ ((x : Int) < 18446744073709551616))) ∧ (((SV.v (Value.int IntKind.u64 18446744073709551615)) = (SV.v (Value.int IntKind.u64 x))) ∧ True))) ∧ (∀ x : Int, (((((isq m) : Int) ≤ x) ∧ (((0 : Int) < x) ∧ ((x : Int) < 18446744073709551616))) → 
(sel (decide (hi ≥ x)) (R (SV.v (Value.int IntKind.u64 x))) (((U64 hi) ∧ ((U64 lo) ∧ ((U64 x) ∧ ((hi : Int) < x)))) ∧ 
(sel (decide (MM lo hi / x ≥ x)) (R (SV.v (Value.int IntKind.u64 x))) (((U64 x) ∧ ((U64 (MM lo hi / x)) ∧ (((0 : Int) ≤ 0) ∧ ((0 : Int) ≤ 1)))) ∧ (∃ x' : Int, ((((((isq m) : Int) ≤ x') ∧ (((0 : Int) < x') ∧ ((x' : Int) < 18446744073709551616))) ∧ (((SV.v (Value.int IntKind.u64 (bits BinOp.or IntKind.u64 ((x + MM lo hi / x + 0) % 18446744073709551616 / 2) (IntKind.wrap IntKind.u64 ((x + MM lo hi / x + 0) / 18446744073709551616 * 9223372036854775808))))) = (SV.v (Value.int IntKind.u64 x'))) ∧ True)) ∧ (((Int.toNat x') : Nat) < (Int.toNat x))))))))))))) 
(sel (decide (IntKind.wrap IntKind.i64 (Int.tdiv (IntKind.wrap IntKind.i64 (lenI lo + 1)) 2) < 64)) (((0 : Int) ≤ (IntKind.wrap IntKind.i64 (Int.tdiv (IntKind.wrap IntKind.i64 (lenI lo + 1)) 2))) ∧ ((∃ x : Int, (((((isq m) : Int) ≤ x) ∧ (((0 : Int) < x) ∧ ((x : Int) < 18446744073709551616))) ∧ (((SV.v (Value.int IntKind.u64 (IntKind.wrap IntKind.u64 (1 * 2 ^ min (Int.toNat (IntKind.wrap IntKind.i64 (Int.tdiv (IntKind.wrap IntKind.i64 (lenI lo + 1)) 2))) 64)))) = (SV.v (Value.int IntKind.u64 x))) ∧ True))) ∧ (∀ x : Int, (((((isq m) : Int) ≤ x) ∧ (((0 : Int) < x) ∧ ((x : Int) < 18446744073709551616))) → 
(sel (decide (hi ≥ x)) (R (SV.v (Value.int IntKind.u64 x))) (((U64 hi) ∧ ((U64 lo) ∧ ((U64 x) ∧ ((hi : Int) < x)))) ∧ 
(sel (decide (MM lo hi / x ≥ x)) (R (SV.v (Value.int IntKind.u64 x))) (((U64 x) ∧ ((U64 (MM lo hi / x)) ∧ (((0 : Int) ≤ 0) ∧ ((0 : Int) ≤ 1)))) ∧ (∃ x' : Int, ((((((isq m) : Int) ≤ x') ∧ (((0 : Int) < x') ∧ ((x' : Int) < 18446744073709551616))) ∧ (((SV.v (Value.int IntKind.u64 (bits BinOp.or IntKind.u64 ((x + MM lo hi / x + 0) % 18446744073709551616 / 2) (IntKind.wrap IntKind.u64 ((x + MM lo hi / x + 0) / 18446744073709551616 * 9223372036854775808))))) = (SV.v (Value.int IntKind.u64 x'))) ∧ True)) ∧ (((Int.toNat x') : Nat) < (Int.toNat x)))))))))))) ((∃ x : Int, (((((isq m) : Int) ≤ x) ∧ (((0 : Int) < x) ∧ ((x : Int) < 18446744073709551616))) ∧ (((SV.v (Value.int IntKind.u64 18446744073709551615)) = (SV.v (Value.int IntKind.u64 x))) ∧ True))) ∧ (∀ x : Int, (((((isq m) : Int) ≤ x) ∧ (((0 : Int) < x) ∧ ((x : Int) < 18446744073709551616))) → 
(sel (decide (hi ≥ x)) (R (SV.v (Value.int IntKind.u64 x))) (((U64 hi) ∧ ((U64 lo) ∧ ((U64 x) ∧ ((hi : Int) < x)))) ∧ 
(sel (decide (MM lo hi / x ≥ x)) (R (SV.v (Value.int IntKind.u64 x))) (((U64 x) ∧ ((U64 (MM lo hi / x)) ∧ (((0 : Int) ≤ 0) ∧ ((0 : Int) ≤ 1)))) ∧ (∃ x' : Int, ((((((isq m) : Int) ≤ x') ∧ (((0 : Int) < x') ∧ ((x' : Int) < 18446744073709551616))) ∧ (((SV.v (Value.int IntKind.u64 (bits BinOp.or IntKind.u64 ((x + MM lo hi / x + 0) % 18446744073709551616 / 2) (IntKind.wrap IntKind.u64 ((x + MM lo hi / x + 0) / 18446744073709551616 * 9223372036854775808))))) = (SV.v (Value.int IntKind.u64 x'))) ∧ True)) ∧ (((Int.toNat x') : Nat) < (Int.toNat x))))))))))))))) ((U64 lo) ∧ 
(sel (hi != 0) ((U64 hi) ∧ 
(sel (decide (IntKind.wrap IntKind.i64 (Int.tdiv (IntKind.wrap IntKind.i64 (IntKind.wrap IntKind.i64 (64 + lenI hi) + 1)) 2) < 64)) (((0 : Int) ≤ (IntKind.wrap IntKind.i64 (Int.tdiv (IntKind.wrap IntKind.i64 (IntKind.wrap IntKind.i64 (64 + lenI hi) + 1)) 2))) ∧ ((∃ x : Int, (((((isq m) : Int) ≤ x) ∧ (((0 : Int) < x) ∧ ((x : Int) < 18446744073709551616))) ∧ (((SV.v (Value.int IntKind.u64 (IntKind.wrap IntKind.u64 (1 * 2 ^ min (Int.toNat (IntKind.wrap IntKind.i64 (Int.tdiv (IntKind.wrap IntKind.i64 (IntKind.wrap IntKind.i64 (64 + lenI hi) + 1)) 2))) 64)))) = (SV.v (Value.int IntKind.u64 x))) ∧ True))) ∧ (∀ x : Int, (((((isq m) : Int) ≤ x) ∧ (((0 : Int) < x) ∧ ((x : Int) < 18446744073709551616))) → 
(sel (decide (hi ≥ x)) (R (SV.v (Value.int IntKind.u64 x))) (((U64 hi) ∧ ((U64 lo) ∧ ((U64 x) ∧ ((hi : Int) < x)))) ∧ 
(sel (decide (MM lo hi / x ≥ x)) (R (SV.v (Value.int IntKind.u64 x))) (((U64 x) ∧ ((U64 (MM lo hi / x)) ∧ (((0 : Int) ≤ 0) ∧ ((0 : Int) ≤ 1)))) ∧ (∃ x' : Int, ((((((isq m) : Int) ≤ x') ∧ (((0 : Int) < x') ∧ ((x' : Int) < 18446744073709551616))) ∧ (((SV.v (Value.int IntKind.u64 (bits BinOp.or IntKind.u64 ((x + MM lo hi / x + 0) % 18446744073709551616 / 2) (IntKind.wrap IntKind.u64 ((x + MM lo hi / x + 0) / 18446744073709551616 * 9223372036854775808))))) = (SV.v (Value.int IntKind.u64 x'))) ∧ True)) ∧ (((Int.toNat x') : Nat) < (Int.toNat x)))))))))))) ((∃ x : Int, (((((isq m) : Int) ≤ x) ∧ (((0 : Int) < x) ∧ ((x : Int) < 18446744073709551616))) ∧ (((SV.v (Value.int IntKind.u64 18446744073709551615)) = (SV.v (Value.int IntKind.u64 x))) ∧ True))) ∧ (∀ x : Int, (((((isq m) : Int) ≤ x) ∧ (((0 : Int) < x) ∧ ((x : Int) < 18446744073709551616))) → 
(sel (decide (hi ≥ x)) (R (SV.v (Value.int IntKind.u64 x))) (((U64 hi) ∧ ((U64 lo) ∧ ((U64 x) ∧ ((hi : Int) < x)))) ∧ 
(sel (decide (MM lo hi / x ≥ x)) (R (SV.v (Value.int IntKind.u64 x))) (((U64 x) ∧ ((U64 (MM lo hi / x)) ∧ (((0 : Int) ≤ 0) ∧ ((0 : Int) ≤ 1)))) ∧ (∃ x' : Int, ((((((isq m) : Int) ≤ x') ∧ (((0 : Int) < x') ∧ ((x' : Int) < 18446744073709551616))) ∧ (((SV.v (Value.int IntKind.u64 (bits BinOp.or IntKind.u64 ((x + MM lo hi / x + 0) % 18446744073709551616 / 2) (IntKind.wrap IntKind.u64 ((x + MM lo hi / x + 0) / 18446744073709551616 * 9223372036854775808))))) = (SV.v (Value.int IntKind.u64 x'))) ∧ True)) ∧ (((Int.toNat x') : Nat) < (Int.toNat x))))))))))))) 
(sel (decide (IntKind.wrap IntKind.i64 (Int.tdiv (IntKind.wrap IntKind.i64 (lenI lo + 1)) 2) < 64)) (((0 : Int) ≤ (IntKind.wrap IntKind.i64 (Int.tdiv (IntKind.wrap IntKind.i64 (lenI lo + 1)) 2))) ∧ ((∃ x : Int, (((((isq m) : Int) ≤ x) ∧ (((0 : Int) < x) ∧ ((x : Int) < 18446744073709551616))) ∧ (((SV.v (Value.int IntKind.u64 (IntKind.wrap IntKind.u64 (1 * 2 ^ min (Int.toNat (IntKind.wrap IntKind.i64 (Int.tdiv (IntKind.wrap IntKind.i64 (lenI lo + 1)) 2))) 64)))) = (SV.v (Value.int IntKind.u64 x))) ∧ True))) ∧ (∀ x : Int, (((((isq m) : Int) ≤ x) ∧ (((0 : Int) < x) ∧ ((x : Int) < 18446744073709551616))) → 
(sel (decide (hi ≥ x)) (R (SV.v (Value.int IntKind.u64 x))) (((U64 hi) ∧ ((U64 lo) ∧ ((U64 x) ∧ ((hi : Int) < x)))) ∧ 
(sel (decide (MM lo hi / x ≥ x)) (R (SV.v (Value.int IntKind.u64 x))) (((U64 x) ∧ ((U64 (MM lo hi / x)) ∧ (((0 : Int) ≤ 0) ∧ ((0 : Int) ≤ 1)))) ∧ (∃ x' : Int, ((((((isq m) : Int) ≤ x') ∧ (((0 : Int) < x') ∧ ((x' : Int) < 18446744073709551616))) ∧ (((SV.v (Value.int IntKind.u64 (bits BinOp.or IntKind.u64 ((x + MM lo hi / x + 0) % 18446744073709551616 / 2) (IntKind.wrap IntKind.u64 ((x + MM lo hi / x + 0) / 18446744073709551616 * 9223372036854775808))))) = (SV.v (Value.int IntKind.u64 x'))) ∧ True)) ∧ (((Int.toNat x') : Nat) < (Int.toNat x)))))))))))) ((∃ x : Int, (((((isq m) : Int) ≤ x) ∧ (((0 : Int) < x) ∧ ((x : Int) < 18446744073709551616))) ∧ (((SV.v (Value.int IntKind.u64 18446744073709551615)) = (SV.v (Value.int IntKind.u64 x))) ∧ True))) ∧ (∀ x : Int, (((((isq m) : Int) ≤ x) ∧ (((0 : Int) < x) ∧ ((x : Int) < 18446744073709551616))) → 
(sel (decide (hi ≥ x)) (R (SV.v (Value.int IntKind.u64 x))) (((U64 hi) ∧ ((U64 lo) ∧ ((U64 x) ∧ ((hi : Int) < x)))) ∧ 
(sel (decide (MM lo hi / x ≥ x)) (R (SV.v (Value.int IntKind.u64 x))) (((U64 x) ∧ ((U64 (MM lo hi / x)) ∧ (((0 : Int) ≤ 0) ∧ ((0 : Int) ≤ 1)))) ∧ (∃ x' : Int, ((((((isq m) : Int) ≤ x') ∧ (((0 : Int) < x') ∧ ((x' : Int) < 18446744073709551616))) ∧ (((SV.v (Value.int IntKind.u64 (bits BinOp.or IntKind.u64 ((x + MM lo hi / x + 0) % 18446744073709551616 / 2) (IntKind.wrap IntKind.u64 ((x + MM lo hi / x + 0) / 18446744073709551616 * 9223372036854775808))))) = (SV.v (Value.int IntKind.u64 x'))) ∧ True)) ∧ (((Int.toNat x') : Nat) < (Int.toNat x))))))))))))))) := by kernel_rfl
theorem vcRRoot (m : Int) (n : Bool) (lo hi : Int) (R : SV → Prop) : (vcPure Try.prog ΓC (ΛRRoot m) Try.f150 [wiS n hi lo] R) =
((∃ x : KR, (((((KR.k x) : Nat) ≤ 64) ∧ (((0 : Int) ≤ (KR.r x)) ∧ ((((KR.r x % 2 ^ KR.k x) : Int) = 0) ∧ ((((KR.r x + 2 ^ KR.k x) : Int) ≤ 18446744073709551616) ∧ (((rt (KR.k x) (KR.r x) m) : Int) = (isq m)))))) ∧ ((((SV.v (Value.int IntKind.u64 0)) = (SV.v (Value.int IntKind.u64 (KR.r x)))) ∧ ((SV.v (Value.int IntKind.i64 63)) = (SV.v (Value.int IntKind.i64 ((↑(KR.k x) : Int) - 1))))) ∧ True))) ∧ (∀ x : KR, (((((KR.k x) : Nat) ≤ 64) ∧ (((0 : Int) ≤ (KR.r x)) ∧ ((((KR.r x % 2 ^ KR.k x) : Int) = 0) ∧ ((((KR.r x + 2 ^ KR.k x) : Int) ≤ 18446744073709551616) ∧ (((rt (KR.k x) (KR.r x) m) : Int) = (isq m)))))) → 
(sel (decide ((↑(KR.k x) : Int) - 1 ≥ 0)) (((0 : Int) ≤ (IntKind.wrap IntKind.u64 ((↑(KR.k x) : Int) - 1))) ∧ (((U64 (bits BinOp.or IntKind.u64 (KR.r x) (IntKind.wrap IntKind.u64 (1 * 2 ^ min (Int.toNat (IntKind.wrap IntKind.u64 ((↑(KR.k x) : Int) - 1))) 64)))) ∧ (U64 (bits BinOp.or IntKind.u64 (KR.r x) (IntKind.wrap IntKind.u64 (1 * 2 ^ min (Int.toNat (IntKind.wrap IntKind.u64 ((↑(KR.k x) : Int) - 1))) 64))))) ∧ (((U64 lo) ∧ (U64 (bits BinOp.or IntKind.u64 (KR.r x) (IntKind.wrap IntKind.u64 (1 * 2 ^ min (Int.toNat (IntKind.wrap IntKind.u64 ((↑(KR.k x) : Int) - 1))) 64)) * bits BinOp.or IntKind.u64 (KR.r x) (IntKind.wrap IntKind.u64 (1 * 2 ^ min (Int.toNat (IntKind.wrap IntKind.u64 ((↑(KR.k x) : Int) - 1))) 64)) % 18446744073709551616))) ∧ 
(sel (!decide (MM lo hi < MM (bits BinOp.or IntKind.u64 (KR.r x) (IntKind.wrap IntKind.u64 (1 * 2 ^ min (Int.toNat (IntKind.wrap IntKind.u64 ((↑(KR.k x) : Int) - 1))) 64)) * bits BinOp.or IntKind.u64 (KR.r x) (IntKind.wrap IntKind.u64 (1 * 2 ^ min (Int.toNat (IntKind.wrap IntKind.u64 ((↑(KR.k x) : Int) - 1))) 64)) % 18446744073709551616) (bits BinOp.or IntKind.u64 (KR.r x) (IntKind.wrap IntKind.u64 (1 * 2 ^ min (Int.toNat (IntKind.wrap IntKind.u64 ((↑(KR.k x) : Int) - 1))) 64)) * bits BinOp.or IntKind.u64 (KR.r x) (IntKind.wrap IntKind.u64 (1 * 2 ^ min (Int.toNat (IntKind.wrap IntKind.u64 ((↑(KR.k x) : Int) - 1))) 64)) / 18446744073709551616))) (∃ x' : KR, ((((((KR.k x') : Nat) ≤ 64) ∧ (((0 : Int) ≤ (KR.r x')) ∧ ((((KR.r x' % 2 ^ KR.k x') : Int) = 0) ∧ ((((KR.r x' + 2 ^ KR.k x') : Int) ≤ 18446744073709551616) ∧ (((rt (KR.k x') (KR.r x') m) : Int) = (isq m)))))) ∧ ((((SV.v (Value.int IntKind.u64 (bits BinOp.or IntKind.u64 (KR.r x) (IntKind.wrap IntKind.u64 (1 * 2 ^ min (Int.toNat (IntKind.wrap IntKind.u64 ((↑(KR.k x) : Int) - 1))) 64))))) = (SV.v (Value.int IntKind.u64 (KR.r x')))) ∧ ((SV.v (Value.int IntKind.i64 (IntKind.wrap IntKind.i64 ((↑(KR.k x) : Int) - 1 - 1)))) = (SV.v (Value.int IntKind.i64 ((↑(KR.k x') : Int) - 1))))) ∧ True)) ∧ (((KR.k x') : Nat) < (KR.k x)))) (∃ x' : KR, ((((((KR.k x') : Nat) ≤ 64) ∧ (((0 : Int) ≤ (KR.r x')) ∧ ((((KR.r x' % 2 ^ KR.k x') : Int) = 0) ∧ ((((KR.r x' + 2 ^ KR.k x') : Int) ≤ 18446744073709551616) ∧ (((rt (KR.k x') (KR.r x') m) : Int) = (isq m)))))) ∧ ((((SV.v (Value.int IntKind.u64 (KR.r x))) = (SV.v (Value.int IntKind.u64 (KR.r x')))) ∧ ((SV.v (Value.int IntKind.i64 (IntKind.wrap IntKind.i64 ((↑(KR.k x) : Int) - 1 - 1)))) = (SV.v (Value.int IntKind.i64 ((↑(KR.k x') : Int) - 1))))) ∧ True)) ∧ (((KR.k x') : Nat) < (KR.k x)))))))) (R (SV.agg [(SV.v (Value.bool false)), (SV.v (Value.int IntKind.u64 0)), (SV.v (Value.int IntKind.u64 (KR.r x)))])))))) := by kernel_rfl
def ΓR1 : Ctrs := addCtr (addCtr (addCtr ΓC 142 (pureCtr sRoot)) 150 (pureCtr sRRoot)) 126 (roCtr sFlags)
theorem vcHypot (v : Int) (f : Bool) (u : Int) (g : Bool) (R : SV → Prop) : (vcPure Try.prog ΓR1 noΛ Try.f97 [numS v f, numS u g] R) =
(((I64 (sndV v)) ∧ (I64 (sndV v))) ∧ (((I64 (sndV u)) ∧ (I64 (sndV u))) ∧ ((((U64 (iabs (sndV v) * iabs (sndV v) % 18446744073709551616)) ∧ (U64 (iabs (sndV v) * iabs (sndV v) / 18446744073709551616))) ∧ (((U64 (iabs (sndV u) * iabs (sndV u) % 18446744073709551616)) ∧ (U64 (iabs (sndV u) * iabs (sndV u) / 18446744073709551616))) ∧ (((MM (iabs (sndV v) * iabs (sndV v) % 18446744073709551616) (iabs (sndV v) * iabs (sndV v) / 18446744073709551616) + MM (iabs (sndV u) * iabs (sndV u) % 18446744073709551616) (iabs (sndV u) * iabs (sndV u) / 18446744073709551616)) : Int) < 340282366920938463463374607431768211456))) ∧ (((U64 (plM (!decide (sndV v < 0) == decide (sndV v < 0)) (MM (iabs (sndV v) * iabs (sndV v) % 18446744073709551616) (iabs (sndV v) * iabs (sndV v) / 18446744073709551616)) (!decide (sndV u < 0) == decide (sndV u < 0)) (MM (iabs (sndV u) * iabs (sndV u) % 18446744073709551616) (iabs (sndV u) * iabs (sndV u) / 18446744073709551616)) % 18446744073709551616)) ∧ (U64 (plM (!decide (sndV v < 0) == decide (sndV v < 0)) (MM (iabs (sndV v) * iabs (sndV v) % 18446744073709551616) (iabs (sndV v) * iabs (sndV v) / 18446744073709551616)) (!decide (sndV u < 0) == decide (sndV u < 0)) (MM (iabs (sndV u) * iabs (sndV u) % 18446744073709551616) (iabs (sndV u) * iabs (sndV u) / 18446744073709551616)) / 18446744073709551616))) ∧ ((((isN [SV.v (Value.int IntKind.i64 (sndV v)), SV.v (Value.bool (sndF v f))]) ∧ ((isN [SV.v (Value.int IntKind.i64 (sndV u)), SV.v (Value.bool (sndF u g))]) ∧ True)) ∧ (((2 : Nat) = 2) ∧ ((2 : Nat) < 4611686018427387904))) ∧ (((U64 (isq (MM (plM (!decide (sndV v < 0) == decide (sndV v < 0)) (MM (iabs (sndV v) * iabs (sndV v) % 18446744073709551616) (iabs (sndV v) * iabs (sndV v) / 18446744073709551616)) (!decide (sndV u < 0) == decide (sndV u < 0)) (MM (iabs (sndV u) * iabs (sndV u) % 18446744073709551616) (iabs (sndV u) * iabs (sndV u) / 18446744073709551616)) % 18446744073709551616) (plM (!decide (sndV v < 0) == decide (sndV v < 0)) (MM (iabs (sndV v) * iabs (sndV v) % 18446744073709551616) (iabs (sndV v) * iabs (sndV v) / 18446744073709551616)) (!decide (sndV u < 0) == decide (sndV u < 0)) (MM (iabs (sndV u) * iabs (sndV u) % 18446744073709551616) (iabs (sndV u) * iabs (sndV u) / 18446744073709551616)) / 18446744073709551616)))) ∧ (U64 0)) ∧ (R (SV.agg [(SV.v (Value.int IntKind.i64 (fitV false (MM (isq (MM (plM (!decide (sndV v < 0) == decide (sndV v < 0)) (MM (iabs (sndV v) * iabs (sndV v) % 18446744073709551616) (iabs (sndV v) * iabs (sndV v) / 18446744073709551616)) (!decide (sndV u < 0) == decide (sndV u < 0)) (MM (iabs (sndV u) * iabs (sndV u) % 18446744073709551616) (iabs (sndV u) * iabs (sndV u) / 18446744073709551616)) % 18446744073709551616) (plM (!decide (sndV v < 0) == decide (sndV v < 0)) (MM (iabs (sndV v) * iabs (sndV v) % 18446744073709551616) (iabs (sndV v) * iabs (sndV v) / 18446744073709551616)) (!decide (sndV u < 0) == decide (sndV u < 0)) (MM (iabs (sndV u) * iabs (sndV u) % 18446744073709551616) (iabs (sndV u) * iabs (sndV u) / 18446744073709551616)) / 18446744073709551616))) 0)))), (SV.v (Value.bool (fitF (MM (isq (MM (plM (!decide (sndV v < 0) == decide (sndV v < 0)) (MM (iabs (sndV v) * iabs (sndV v) % 18446744073709551616) (iabs (sndV v) * iabs (sndV v) / 18446744073709551616)) (!decide (sndV u < 0) == decide (sndV u < 0)) (MM (iabs (sndV u) * iabs (sndV u) % 18446744073709551616) (iabs (sndV u) * iabs (sndV u) / 18446744073709551616)) % 18446744073709551616) (plM (!decide (sndV v < 0) == decide (sndV v < 0)) (MM (iabs (sndV v) * iabs (sndV v) % 18446744073709551616) (iabs (sndV v) * iabs (sndV v) / 18446744073709551616)) (!decide (sndV u < 0) == decide (sndV u < 0)) (MM (iabs (sndV u) * iabs (sndV u) % 18446744073709551616) (iabs (sndV u) * iabs (sndV u) / 18446744073709551616)) / 18446744073709551616))) 0) (anyF [[SV.v (Value.int IntKind.i64 (sndV v)), SV.v (Value.bool (sndF v f))], [SV.v (Value.int IntKind.i64 (sndV u)), SV.v (Value.bool (sndF u g))]]))))])))))))) := by kernel_rfl
theorem vcRHypot (v : Int) (f : Bool) (u : Int) (g : Bool) (R : SV → Prop) : (vcPure Try.prog ΓR1 noΛ Try.f113 [numS v f, numS u g] R) =
(((I64 (sndV v)) ∧ (I64 (sndV v))) ∧ (((I64 (sndV u)) ∧ (I64 (sndV u))) ∧ ((((U64 (iabs (sndV v) * iabs (sndV v) % 18446744073709551616)) ∧ (U64 (iabs (sndV v) * iabs (sndV v) / 18446744073709551616))) ∧ (((U64 (iabs (sndV u) * iabs (sndV u) % 18446744073709551616)) ∧ (U64 (iabs (sndV u) * iabs (sndV u) / 18446744073709551616))) ∧ (((MM (iabs (sndV v) * iabs (sndV v) % 18446744073709551616) (iabs (sndV v) * iabs (sndV v) / 18446744073709551616) + MM (iabs (sndV u) * iabs (sndV u) % 18446744073709551616) (iabs (sndV u) * iabs (sndV u) / 18446744073709551616)) : Int) < 340282366920938463463374607431768211456))) ∧ (((U64 (plM (!decide (sndV v < 0) == decide (sndV v < 0) && sndV v != 0 && sndV v != 0) (MM (iabs (sndV v) * iabs (sndV v) % 18446744073709551616) (iabs (sndV v) * iabs (sndV v) / 18446744073709551616)) (!decide (sndV u < 0) == decide (sndV u < 0) && sndV u != 0 && sndV u != 0) (MM (iabs (sndV u) * iabs (sndV u) % 18446744073709551616) (iabs (sndV u) * iabs (sndV u) / 18446744073709551616)) % 18446744073709551616)) ∧ (U64 (plM (!decide (sndV v < 0) == decide (sndV v < 0) && sndV v != 0 && sndV v != 0) (MM (iabs (sndV v) * iabs (sndV v) % 18446744073709551616) (iabs (sndV v) * iabs (sndV v) / 18446744073709551616)) (!decide (sndV u < 0) == decide (sndV u < 0) && sndV u != 0 && sndV u != 0) (MM (iabs (sndV u) * iabs (sndV u) % 18446744073709551616) (iabs (sndV u) * iabs (sndV u) / 18446744073709551616)) / 18446744073709551616))) ∧ 
(sel (sndF v f) (((U64 (isq (MM (plM (!decide (sndV v < 0) == decide (sndV v < 0) && sndV v != 0 && sndV v != 0) (MM (iabs (sndV v) * iabs (sndV v) % 18446744073709551616) (iabs (sndV v) * iabs (sndV v) / 18446744073709551616)) (!decide (sndV u < 0) == decide (sndV u < 0) && sndV u != 0 && sndV u != 0) (MM (iabs (sndV u) * iabs (sndV u) % 18446744073709551616) (iabs (sndV u) * iabs (sndV u) / 18446744073709551616)) % 18446744073709551616) (plM (!decide (sndV v < 0) == decide (sndV v < 0) && sndV v != 0 && sndV v != 0) (MM (iabs (sndV v) * iabs (sndV v) % 18446744073709551616) (iabs (sndV v) * iabs (sndV v) / 18446744073709551616)) (!decide (sndV u < 0) == decide (sndV u < 0) && sndV u != 0 && sndV u != 0) (MM (iabs (sndV u) * iabs (sndV u) % 18446744073709551616) (iabs (sndV u) * iabs (sndV u) / 18446744073709551616)) / 18446744073709551616)))) ∧ (U64 0)) ∧ (R (SV.agg [(SV.v (Value.int IntKind.i64 (fitV false (MM (isq (MM (plM (!decide (sndV v < 0) == decide (sndV v < 0) && sndV v != 0 && sndV v != 0) (MM (iabs (sndV v) * iabs (sndV v) % 18446744073709551616) (iabs (sndV v) * iabs (sndV v) / 18446744073709551616)) (!decide (sndV u < 0) == decide (sndV u < 0) && sndV u != 0 && sndV u != 0) (MM (iabs (sndV u) * iabs (sndV u) % 18446744073709551616) (iabs (sndV u) * iabs (sndV u) / 18446744073709551616)) % 18446744073709551616) (plM (!decide (sndV v < 0) == decide (sndV v < 0) && sndV v != 0 && sndV v != 0) (MM (iabs (sndV v) * iabs (sndV v) % 18446744073709551616) (iabs (sndV v) * iabs (sndV v) / 18446744073709551616)) (!decide (sndV u < 0) == decide (sndV u < 0) && sndV u != 0 && sndV u != 0) (MM (iabs (sndV u) * iabs (sndV u) % 18446744073709551616) (iabs (sndV u) * iabs (sndV u) / 18446744073709551616)) / 18446744073709551616))) 0)))), (SV.v (Value.bool (fitF (MM (isq (MM (plM (!decide (sndV v < 0) == decide (sndV v < 0) && sndV v != 0 && sndV v != 0) (MM (iabs (sndV v) * iabs (sndV v) % 18446744073709551616) (iabs (sndV v) * iabs (sndV v) / 18446744073709551616)) (!decide (sndV u < 0) == decide (sndV u < 0) && sndV u != 0 && sndV u != 0) (MM (iabs (sndV u) * iabs (sndV u) % 18446744073709551616) (iabs (sndV u) * iabs (sndV u) / 18446744073709551616)) % 18446744073709551616) (plM (!decide (sndV v < 0) == decide (sndV v < 0) && sndV v != 0 && sndV v != 0) (MM (iabs (sndV v) * iabs (sndV v) % 18446744073709551616) (iabs (sndV v) * iabs (sndV v) / 18446744073709551616)) (!decide (sndV u < 0) == decide (sndV u < 0) && sndV u != 0 && sndV u != 0) (MM (iabs (sndV u) * iabs (sndV u) % 18446744073709551616) (iabs (sndV u) * iabs (sndV u) / 18446744073709551616)) / 18446744073709551616))) 0) true)))]))) (((U64 (isq (MM (plM (!decide (sndV v < 0) == decide (sndV v < 0) && sndV v != 0 && sndV v != 0) (MM (iabs (sndV v) * iabs (sndV v) % 18446744073709551616) (iabs (sndV v) * iabs (sndV v) / 18446744073709551616)) (!decide (sndV u < 0) == decide (sndV u < 0) && sndV u != 0 && sndV u != 0) (MM (iabs (sndV u) * iabs (sndV u) % 18446744073709551616) (iabs (sndV u) * iabs (sndV u) / 18446744073709551616)) % 18446744073709551616) (plM (!decide (sndV v < 0) == decide (sndV v < 0) && sndV v != 0 && sndV v != 0) (MM (iabs (sndV v) * iabs (sndV v) % 18446744073709551616) (iabs (sndV v) * iabs (sndV v) / 18446744073709551616)) (!decide (sndV u < 0) == decide (sndV u < 0) && sndV u != 0 && sndV u != 0) (MM (iabs (sndV u) * iabs (sndV u) % 18446744073709551616) (iabs (sndV u) * iabs (sndV u) / 18446744073709551616)) / 18446744073709551616)))) ∧ (U64 0)) ∧ (R (SV.agg [(SV.v (Value.int IntKind.i64 (fitV false (MM (isq (MM (plM (!decide (sndV v < 0) == decide (sndV v < 0) && sndV v != 0 && sndV v != 0) (MM (iabs (sndV v) * iabs (sndV v) % 18446744073709551616) (iabs (sndV v) * iabs (sndV v) / 18446744073709551616)) (!decide (sndV u < 0) == decide (sndV u < 0) && sndV u != 0 && sndV u != 0) (MM (iabs (sndV u) * iabs (sndV u) % 18446744073709551616) (iabs (sndV u) * iabs (sndV u) / 18446744073709551616)) % 18446744073709551616) (plM (!decide (sndV v < 0) == decide (sndV v < 0) && sndV v != 0 && sndV v != 0) (MM (iabs (sndV v) * iabs (sndV v) % 18446744073709551616) (iabs (sndV v) * iabs (sndV v) / 18446744073709551616)) (!decide (sndV u < 0) == decide (sndV u < 0) && sndV u != 0 && sndV u != 0) (MM (iabs (sndV u) * iabs (sndV u) % 18446744073709551616) (iabs (sndV u) * iabs (sndV u) / 18446744073709551616)) / 18446744073709551616))) 0)))), (SV.v (Value.bool (fitF (MM (isq (MM (plM (!decide (sndV v < 0) == decide (sndV v < 0) && sndV v != 0 && sndV v != 0) (MM (iabs (sndV v) * iabs (sndV v) % 18446744073709551616) (iabs (sndV v) * iabs (sndV v) / 18446744073709551616)) (!decide (sndV u < 0) == decide (sndV u < 0) && sndV u != 0 && sndV u != 0) (MM (iabs (sndV u) * iabs (sndV u) % 18446744073709551616) (iabs (sndV u) * iabs (sndV u) / 18446744073709551616)) % 18446744073709551616) (plM (!decide (sndV v < 0) == decide (sndV v < 0) && sndV v != 0 && sndV v != 0) (MM (iabs (sndV v) * iabs (sndV v) % 18446744073709551616) (iabs (sndV v) * iabs (sndV v) / 18446744073709551616)) (!decide (sndV u < 0) == decide (sndV u < 0) && sndV u != 0 && sndV u != 0) (MM (iabs (sndV u) * iabs (sndV u) % 18446744073709551616) (iabs (sndV u) * iabs (sndV u) / 18446744073709551616)) / 18446744073709551616))) 0) (sndF u g))))])))))))) := by kernel_rfl
theorem vcDot (a : Int) (fa : Bool) (b : Int) (fb : Bool) (c : Int) (fc : Bool) (d : Int) (fd : Bool) (R : SV → Prop) : (vcPure Try.prog ΓR1 noΛ Try.f99 [numS a fa, numS b fb, numS c fc, numS d fd] R) =
(((I64 (sndV a)) ∧ (I64 (sndV b))) ∧ (((I64 (sndV c)) ∧ (I64 (sndV d))) ∧ ((((U64 (iabs (sndV a) * iabs (sndV b) % 18446744073709551616)) ∧ (U64 (iabs (sndV a) * iabs (sndV b) / 18446744073709551616))) ∧ (((U64 (iabs (sndV c) * iabs (sndV d) % 18446744073709551616)) ∧ (U64 (iabs (sndV c) * iabs (sndV d) / 18446744073709551616))) ∧ (((MM (iabs (sndV a) * iabs (sndV b) % 18446744073709551616) (iabs (sndV a) * iabs (sndV b) / 18446744073709551616) + MM (iabs (sndV c) * iabs (sndV d) % 18446744073709551616) (iabs (sndV c) * iabs (sndV d) / 18446744073709551616)) : Int) < 340282366920938463463374607431768211456))) ∧ (((U64 (plM (!decide (sndV a < 0) == decide (sndV b < 0)) (MM (iabs (sndV a) * iabs (sndV b) % 18446744073709551616) (iabs (sndV a) * iabs (sndV b) / 18446744073709551616)) (!decide (sndV c < 0) == decide (sndV d < 0)) (MM (iabs (sndV c) * iabs (sndV d) % 18446744073709551616) (iabs (sndV c) * iabs (sndV d) / 18446744073709551616)) % 18446744073709551616)) ∧ (U64 (plM (!decide (sndV a < 0) == decide (sndV b < 0)) (MM (iabs (sndV a) * iabs (sndV b) % 18446744073709551616) (iabs (sndV a) * iabs (sndV b) / 18446744073709551616)) (!decide (sndV c < 0) == decide (sndV d < 0)) (MM (iabs (sndV c) * iabs (sndV d) % 18446744073709551616) (iabs (sndV c) * iabs (sndV d) / 18446744073709551616)) / 18446744073709551616))) ∧ ((((isN [SV.v (Value.int IntKind.i64 (sndV a)), SV.v (Value.bool (sndF a fa))]) ∧ ((isN [SV.v (Value.int IntKind.i64 (sndV b)), SV.v (Value.bool (sndF b fb))]) ∧ ((isN [SV.v (Value.int IntKind.i64 (sndV c)), SV.v (Value.bool (sndF c fc))]) ∧ ((isN [SV.v (Value.int IntKind.i64 (sndV d)), SV.v (Value.bool (sndF d fd))]) ∧ True)))) ∧ (((4 : Nat) = 4) ∧ ((4 : Nat) < 4611686018427387904))) ∧ (((U64 (MM (plM (!decide (sndV a < 0) == decide (sndV b < 0)) (MM (iabs (sndV a) * iabs (sndV b) % 18446744073709551616) (iabs (sndV a) * iabs (sndV b) / 18446744073709551616)) (!decide (sndV c < 0) == decide (sndV d < 0)) (MM (iabs (sndV c) * iabs (sndV d) % 18446744073709551616) (iabs (sndV c) * iabs (sndV d) / 18446744073709551616)) % 18446744073709551616) (plM (!decide (sndV a < 0) == decide (sndV b < 0)) (MM (iabs (sndV a) * iabs (sndV b) % 18446744073709551616) (iabs (sndV a) * iabs (sndV b) / 18446744073709551616)) (!decide (sndV c < 0) == decide (sndV d < 0)) (MM (iabs (sndV c) * iabs (sndV d) % 18446744073709551616) (iabs (sndV c) * iabs (sndV d) / 18446744073709551616)) / 18446744073709551616) / 4294967296 % 18446744073709551616)) ∧ (U64 (MM (plM (!decide (sndV a < 0) == decide (sndV b < 0)) (MM (iabs (sndV a) * iabs (sndV b) % 18446744073709551616) (iabs (sndV a) * iabs (sndV b) / 18446744073709551616)) (!decide (sndV c < 0) == decide (sndV d < 0)) (MM (iabs (sndV c) * iabs (sndV d) % 18446744073709551616) (iabs (sndV c) * iabs (sndV d) / 18446744073709551616)) % 18446744073709551616) (plM (!decide (sndV a < 0) == decide (sndV b < 0)) (MM (iabs (sndV a) * iabs (sndV b) % 18446744073709551616) (iabs (sndV a) * iabs (sndV b) / 18446744073709551616)) (!decide (sndV c < 0) == decide (sndV d < 0)) (MM (iabs (sndV c) * iabs (sndV d) % 18446744073709551616) (iabs (sndV c) * iabs (sndV d) / 18446744073709551616)) / 18446744073709551616) / 4294967296 / 18446744073709551616))) ∧ (R (SV.agg [(SV.v (Value.int IntKind.i64 (fitV (plN (!decide (sndV a < 0) == decide (sndV b < 0)) (MM (iabs (sndV a) * iabs (sndV b) % 18446744073709551616) (iabs (sndV a) * iabs (sndV b) / 18446744073709551616)) (!decide (sndV c < 0) == decide (sndV d < 0)) (MM (iabs (sndV c) * iabs (sndV d) % 18446744073709551616) (iabs (sndV c) * iabs (sndV d) / 18446744073709551616))) (MM (MM (plM (!decide (sndV a < 0) == decide (sndV b < 0)) (MM (iabs (sndV a) * iabs (sndV b) % 18446744073709551616) (iabs (sndV a) * iabs (sndV b) / 18446744073709551616)) (!decide (sndV c < 0) == decide (sndV d < 0)) (MM (iabs (sndV c) * iabs (sndV d) % 18446744073709551616) (iabs (sndV c) * iabs (sndV d) / 18446744073709551616)) % 18446744073709551616) (plM (!decide (sndV a < 0) == decide (sndV b < 0)) (MM (iabs (sndV a) * iabs (sndV b) % 18446744073709551616) (iabs (sndV a) * iabs (sndV b) / 18446744073709551616)) (!decide (sndV c < 0) == decide (sndV d < 0)) (MM (iabs (sndV c) * iabs (sndV d) % 18446744073709551616) (iabs (sndV c) * iabs (sndV d) / 18446744073709551616)) / 18446744073709551616) / 4294967296 % 18446744073709551616) (MM (plM (!decide (sndV a < 0) == decide (sndV b < 0)) (MM (iabs (sndV a) * iabs (sndV b) % 18446744073709551616) (iabs (sndV a) * iabs (sndV b) / 18446744073709551616)) (!decide (sndV c < 0) == decide (sndV d < 0)) (MM (iabs (sndV c) * iabs (sndV d) % 18446744073709551616) (iabs (sndV c) * iabs (sndV d) / 18446744073709551616)) % 18446744073709551616) (plM (!decide (sndV a < 0) == decide (sndV b < 0)) (MM (iabs (sndV a) * iabs (sndV b) % 18446744073709551616) (iabs (sndV a) * iabs (sndV b) / 18446744073709551616)) (!decide (sndV c < 0) == decide (sndV d < 0)) (MM (iabs (sndV c) * iabs (sndV d) % 18446744073709551616) (iabs (sndV c) * iabs (sndV d) / 18446744073709551616)) / 18446744073709551616) / 4294967296 / 18446744073709551616))))), (SV.v (Value.bool (fitF (MM (MM (plM (!decide (sndV a < 0) == decide (sndV b < 0)) (MM (iabs (sndV a) * iabs (sndV b) % 18446744073709551616) (iabs (sndV a) * iabs (sndV b) / 18446744073709551616)) (!decide (sndV c < 0) == decide (sndV d < 0)) (MM (iabs (sndV c) * iabs (sndV d) % 18446744073709551616) (iabs (sndV c) * iabs (sndV d) / 18446744073709551616)) % 18446744073709551616) (plM (!decide (sndV a < 0) == decide (sndV b < 0)) (MM (iabs (sndV a) * iabs (sndV b) % 18446744073709551616) (iabs (sndV a) * iabs (sndV b) / 18446744073709551616)) (!decide (sndV c < 0) == decide (sndV d < 0)) (MM (iabs (sndV c) * iabs (sndV d) % 18446744073709551616) (iabs (sndV c) * iabs (sndV d) / 18446744073709551616)) / 18446744073709551616) / 4294967296 % 18446744073709551616) (MM (plM (!decide (sndV a < 0) == decide (sndV b < 0)) (MM (iabs (sndV a) * iabs (sndV b) % 18446744073709551616) (iabs (sndV a) * iabs (sndV b) / 18446744073709551616)) (!decide (sndV c < 0) == decide (sndV d < 0)) (MM (iabs (sndV c) * iabs (sndV d) % 18446744073709551616) (iabs (sndV c) * iabs (sndV d) / 18446744073709551616)) % 18446744073709551616) (plM (!decide (sndV a < 0) == decide (sndV b < 0)) (MM (iabs (sndV a) * iabs (sndV b) % 18446744073709551616) (iabs (sndV a) * iabs (sndV b) / 18446744073709551616)) (!decide (sndV c < 0) == decide (sndV d < 0)) (MM (iabs (sndV c) * iabs (sndV d) % 18446744073709551616) (iabs (sndV c) * iabs (sndV d) / 18446744073709551616)) / 18446744073709551616) / 4294967296 / 18446744073709551616)) (anyF [[SV.v (Value.int IntKind.i64 (sndV a)), SV.v (Value.bool (sndF a fa))], [SV.v (Value.int IntKind.i64 (sndV b)), SV.v (Value.bool (sndF b fb))], [SV.v (Value.int IntKind.i64 (sndV c)), SV.v (Value.bool (sndF c fc))], [SV.v (Value.int IntKind.i64 (sndV d)), SV.v (Value.bool (sndF d fd))]]))))])))))))) := by kernel_rfl
theorem vcRDot (a : Int) (fa : Bool) (b : Int) (fb : Bool) (c : Int) (fc : Bool) (d : Int) (fd : Bool) (R : SV → Prop) : (vcPure Try.prog ΓR1 noΛ Try.f101 [numS a fa, numS b fb, numS c fc, numS d fd] R) =
(((I64 (sndV a)) ∧ (I64 (sndV b))) ∧ (((I64 (sndV c)) ∧ (I64 (sndV d))) ∧ ((((U64 (iabs (sndV a) * iabs (sndV b) % 18446744073709551616)) ∧ (U64 (iabs (sndV a) * iabs (sndV b) / 18446744073709551616))) ∧ (((U64 (iabs (sndV c) * iabs (sndV d) % 18446744073709551616)) ∧ (U64 (iabs (sndV c) * iabs (sndV d) / 18446744073709551616))) ∧ (((MM (iabs (sndV a) * iabs (sndV b) % 18446744073709551616) (iabs (sndV a) * iabs (sndV b) / 18446744073709551616) + MM (iabs (sndV c) * iabs (sndV d) % 18446744073709551616) (iabs (sndV c) * iabs (sndV d) / 18446744073709551616)) : Int) < 340282366920938463463374607431768211456))) ∧ (((U64 (plM (!decide (sndV a < 0) == decide (sndV b < 0) && sndV a != 0 && sndV b != 0) (MM (iabs (sndV a) * iabs (sndV b) % 18446744073709551616) (iabs (sndV a) * iabs (sndV b) / 18446744073709551616)) (!decide (sndV c < 0) == decide (sndV d < 0) && sndV c != 0 && sndV d != 0) (MM (iabs (sndV c) * iabs (sndV d) % 18446744073709551616) (iabs (sndV c) * iabs (sndV d) / 18446744073709551616)) % 18446744073709551616)) ∧ (U64 (plM (!decide (sndV a < 0) == decide (sndV b < 0) && sndV a != 0 && sndV b != 0) (MM (iabs (sndV a) * iabs (sndV b) % 18446744073709551616) (iabs (sndV a) * iabs (sndV b) / 18446744073709551616)) (!decide (sndV c < 0) == decide (sndV d < 0) && sndV c != 0 && sndV d != 0) (MM (iabs (sndV c) * iabs (sndV d) % 18446744073709551616) (iabs (sndV c) * iabs (sndV d) / 18446744073709551616)) / 18446744073709551616))) ∧ 
(sel (sndF a fa) (((U64 (MM (plM (!decide (sndV a < 0) == decide (sndV b < 0) && sndV a != 0 && sndV b != 0) (MM (iabs (sndV a) * iabs (sndV b) % 18446744073709551616) (iabs (sndV a) * iabs (sndV b) / 18446744073709551616)) (!decide (sndV c < 0) == decide (sndV d < 0) && sndV c != 0 && sndV d != 0) (MM (iabs (sndV c) * iabs (sndV d) % 18446744073709551616) (iabs (sndV c) * iabs (sndV d) / 18446744073709551616)) % 18446744073709551616) (plM (!decide (sndV a < 0) == decide (sndV b < 0) && sndV a != 0 && sndV b != 0) (MM (iabs (sndV a) * iabs (sndV b) % 18446744073709551616) (iabs (sndV a) * iabs (sndV b) / 18446744073709551616)) (!decide (sndV c < 0) == decide (sndV d < 0) && sndV c != 0 && sndV d != 0) (MM (iabs (sndV c) * iabs (sndV d) % 18446744073709551616) (iabs (sndV c) * iabs (sndV d) / 18446744073709551616)) / 18446744073709551616) / 4294967296 % 18446744073709551616)) ∧ (U64 (MM (plM (!decide (sndV a < 0) == decide (sndV b < 0) && sndV a != 0 && sndV b != 0) (MM (iabs (sndV a) * iabs (sndV b) % 18446744073709551616) (iabs (sndV a) * iabs (sndV b) / 18446744073709551616)) (!decide (sndV c < 0) == decide (sndV d < 0) && sndV c != 0 && sndV d != 0) (MM (iabs (sndV c) * iabs (sndV d) % 18446744073709551616) (iabs (sndV c) * iabs (sndV d) / 18446744073709551616)) % 18446744073709551616) (plM (!decide (sndV a < 0) == decide (sndV b < 0) && sndV a != 0 && sndV b != 0) (MM (iabs (sndV a) * iabs (sndV b) % 18446744073709551616) (iabs (sndV a) * iabs (sndV b) / 18446744073709551616)) (!decide (sndV c < 0) == decide (sndV d < 0) && sndV c != 0 && sndV d != 0) (MM (iabs (sndV c) * iabs (sndV d) % 18446744073709551616) (iabs (sndV c) * iabs (sndV d) / 18446744073709551616)) / 18446744073709551616) / 4294967296 / 18446744073709551616))) ∧ (R (SV.agg [(SV.v (Value.int IntKind.i64 (fitV (plZ (!decide (sndV a < 0) == decide (sndV b < 0) && sndV a != 0 && sndV b != 0) (MM (iabs (sndV a) * iabs (sndV b) % 18446744073709551616) (iabs (sndV a) * iabs (sndV b) / 18446744073709551616)) (!decide (sndV c < 0) == decide (sndV d < 0) && sndV c != 0 && sndV d != 0) (MM (iabs (sndV c) * iabs (sndV d) % 18446744073709551616) (iabs (sndV c) * iabs (sndV d) / 18446744073709551616))) (MM (MM (plM (!decide (sndV a < 0) == decide (sndV b < 0) && sndV a != 0 && sndV b != 0) (MM (iabs (sndV a) * iabs (sndV b) % 18446744073709551616) (iabs (sndV a) * iabs (sndV b) / 18446744073709551616)) (!decide (sndV c < 0) == decide (sndV d < 0) && sndV c != 0 && sndV d != 0) (MM (iabs (sndV c) * iabs (sndV d) % 18446744073709551616) (iabs (sndV c) * iabs (sndV d) / 18446744073709551616)) % 18446744073709551616) (plM (!decide (sndV a < 0) == decide (sndV b < 0) && sndV a != 0 && sndV b != 0) (MM (iabs (sndV a) * iabs (sndV b) % 18446744073709551616) (iabs (sndV a) * iabs (sndV b) / 18446744073709551616)) (!decide (sndV c < 0) == decide (sndV d < 0) && sndV c != 0 && sndV d != 0) (MM (iabs (sndV c) * iabs (sndV d) % 18446744073709551616) (iabs (sndV c) * iabs (sndV d) / 18446744073709551616)) / 18446744073709551616) / 4294967296 % 18446744073709551616) (MM (plM (!decide (sndV a < 0) == decide (sndV b < 0) && sndV a != 0 && sndV b != 0) (MM (iabs (sndV a) * iabs (sndV b) % 18446744073709551616) (iabs (sndV a) * iabs (sndV b) / 18446744073709551616)) (!decide (sndV c < 0) == decide (sndV d < 0) && sndV c != 0 && sndV d != 0) (MM (iabs (sndV c) * iabs (sndV d) % 18446744073709551616) (iabs (sndV c) * iabs (sndV d) / 18446744073709551616)) % 18446744073709551616) (plM (!decide (sndV a < 0) == decide (sndV b < 0) && sndV a != 0 && sndV b != 0) (MM (iabs (sndV a) * iabs (sndV b) % 18446744073709551616) (iabs (sndV a) * iabs (sndV b) / 18446744073709551616)) (!decide (sndV c < 0) == decide (sndV d < 0) && sndV c != 0 && sndV d != 0) (MM (iabs (sndV c) * iabs (sndV d) % 18446744073709551616) (iabs (sndV c) * iabs (sndV d) / 18446744073709551616)) / 18446744073709551616) / 4294967296 / 18446744073709551616))))), (SV.v (Value.bool (fitF (MM (MM (plM (!decide (sndV a < 0) == decide (sndV b < 0) && sndV a != 0 && sndV b != 0) (MM (iabs (sndV a) * iabs (sndV b) % 18446744073709551616) (iabs (sndV a) * iabs (sndV b) / 18446744073709551616)) (!decide (sndV c < 0) == decide (sndV d < 0) && sndV c != 0 && sndV d != 0) (MM (iabs (sndV c) * iabs (sndV d) % 18446744073709551616) (iabs (sndV c) * iabs (sndV d) / 18446744073709551616)) % 18446744073709551616) (plM (!decide (sndV a < 0) == decide (sndV b < 0) && sndV a != 0 && sndV b != 0) (MM (iabs (sndV a) * iabs (sndV b) % 18446744073709551616) (iabs (sndV a) * iabs (sndV b) / 18446744073709551616)) (!decide (sndV c < 0) == decide (sndV d < 0) && sndV c != 0 && sndV d != 0) (MM (iabs (sndV c) * iabs (sndV d) % 18446744073709551616) (iabs (sndV c) * iabs (sndV d) / 18446744073709551616)) / 18446744073709551616) / 4294967296 % 18446744073709551616) (MM (plM (!decide (sndV a < 0) == decide (sndV b < 0) && sndV a != 0 && sndV b != 0) (MM (iabs (sndV a) * iabs (sndV b) % 18446744073709551616) (iabs (sndV a) * iabs (sndV b) / 18446744073709551616)) (!decide (sndV c < 0) == decide (sndV d < 0) && sndV c != 0 && sndV d != 0) (MM (iabs (sndV c) * iabs (sndV d) % 18446744073709551616) (iabs (sndV c) * iabs (sndV d) / 18446744073709551616)) % 18446744073709551616) (plM (!decide (sndV a < 0) == decide (sndV b < 0) && sndV a != 0 && sndV b != 0) (MM (iabs (sndV a) * iabs (sndV b) % 18446744073709551616) (iabs (sndV a) * iabs (sndV b) / 18446744073709551616)) (!decide (sndV c < 0) == decide (sndV d < 0) && sndV c != 0 && sndV d != 0) (MM (iabs (sndV c) * iabs (sndV d) % 18446744073709551616) (iabs (sndV c) * iabs (sndV d) / 18446744073709551616)) / 18446744073709551616) / 4294967296 / 18446744073709551616)) true)))]))) 
(sel (sndF b fb) (((U64 (MM (plM (!decide (sndV a < 0) == decide (sndV b < 0) && sndV a != 0 && sndV b != 0) (MM (iabs (sndV a) * iabs (sndV b) % 18446744073709551616) (iabs (sndV a) * iabs (sndV b) / 18446744073709551616)) (!decide (sndV c < 0) == decide (sndV d < 0) && sndV c != 0 && sndV d != 0) (MM (iabs (sndV c) * iabs (sndV d) % 18446744073709551616) (iabs (sndV c) * iabs (sndV d) / 18446744073709551616)) % 18446744073709551616) (plM (!decide (sndV a < 0) == decide (sndV b < 0) && sndV a != 0 && sndV b != 0) (MM (iabs (sndV a) * iabs (sndV b) % 18446744073709551616) (iabs (sndV a) * iabs (sndV b) / 18446744073709551616)) (!decide (sndV c < 0) == decide (sndV d < 0) && sndV c != 0 && sndV d != 0) (MM (iabs (sndV c) * iabs (sndV d) % 18446744073709551616) (iabs (sndV c) * iabs (sndV d) / 18446744073709551616)) / 18446744073709551616) / 4294967296 % 18446744073709551616)) ∧ (U64 (MM (plM (!decide (sndV a < 0) == decide (sndV b < 0) && sndV a != 0 && sndV b != 0) (MM (iabs (sndV a) * iabs (sndV b) % 18446744073709551616) (iabs (sndV a) * iabs (sndV b) / 18446744073709551616)) (!decide (sndV c < 0) == decide (sndV d < 0) && sndV c != 0 && sndV d != 0) (MM (iabs (sndV c) * iabs (sndV d) % 18446744073709551616) (iabs (sndV c) * iabs (sndV d) / 18446744073709551616)) % 18446744073709551616) (plM (!decide (sndV a < 0) == decide (sndV b < 0) && sndV a != 0 && sndV b != 0) (MM (iabs (sndV a) * iabs (sndV b) % 18446744073709551616) (iabs (sndV a) * iabs (sndV b) / 18446744073709551616)) (!decide (sndV c < 0) == decide (sndV d < 0) && sndV c != 0 && sndV d != 0) (MM (iabs (sndV c) * iabs (sndV d) % 18446744073709551616) (iabs (sndV c) * iabs (sndV d) / 18446744073709551616)) / 18446744073709551616) / 4294967296 / 18446744073709551616))) ∧ (R (SV.agg [(SV.v (Value.int IntKind.i64 (fitV (plZ (!decide (sndV a < 0) == decide (sndV b < 0) && sndV a != 0 && sndV b != 0) (MM (iabs (sndV a) * iabs (sndV b) % 18446744073709551616) (iabs (sndV a) * iabs (sndV b) / 18446744073709551616)) (!decide (sndV c < 0) == decide (sndV d < 0) && sndV c != 0 && sndV d != 0) (MM (iabs (sndV c) * iabs (sndV d) % 18446744073709551616) (iabs (sndV c) * iabs (sndV d) / 18446744073709551616))) (MM (MM (plM (!decide (sndV a < 0) == decide (sndV b < 0) && sndV a != 0 && sndV b != 0) (MM (iabs (sndV a) * iabs (sndV b) % 18446744073709551616) (iabs (sndV a) * iabs (sndV b) / 18446744073709551616)) (!decide (sndV c < 0) == decide (sndV d < 0) && sndV c != 0 && sndV d != 0) (MM (iabs (sndV c) * iabs (sndV d) % 18446744073709551616) (iabs (sndV c) * iabs (sndV d) / 18446744073709551616)) % 18446744073709551616) (plM (!decide (sndV a < 0) == decide (sndV b < 0) && sndV a != 0 && sndV b != 0) (MM (iabs (sndV a) * iabs (sndV b) % 18446744073709551616) (iabs (sndV a) * iabs (sndV b) / 18446744073709551616)) (!decide (sndV c < 0) == decide (sndV d < 0) && sndV c != 0 && sndV d != 0) (MM (iabs (sndV c) * iabs (sndV d) % 18446744073709551616) (iabs (sndV c) * iabs (sndV d) / 18446744073709551616)) / 18446744073709551616) / 4294967296 % 18446744073709551616) (MM (plM (!decide (sndV a < 0) == decide (sndV b < 0) && sndV a != 0 && sndV b != 0) (MM (iabs (sndV a) * iabs (sndV b) % 18446744073709551616) (iabs (sndV a) * iabs (sndV b) / 18446744073709551616)) (!decide (sndV c < 0) == decide (sndV d < 0) && sndV c != 0 && sndV d != 0) (MM (iabs (sndV c) * iabs (sndV d) % 18446744073709551616) (iabs (sndV c) * iabs (sndV d) / 18446744073709551616)) % 18446744073709551616) (plM (!decide (sndV a < 0) == decide (sndV b < 0) && sndV a != 0 && sndV b != 0) (MM (iabs (sndV a) * iabs (sndV b) % 18446744073709551616) (iabs (sndV a) * iabs (sndV b) / 18446744073709551616)) (!decide (sndV c < 0) == decide (sndV d < 0) && sndV c != 0 && sndV d != 0) (MM (iabs (sndV c) * iabs (sndV d) % 18446744073709551616) (iabs (sndV c) * iabs (sndV d) / 18446744073709551616)) / 18446744073709551616) / 4294967296 / 18446744073709551616))))), (SV.v (Value.bool (fitF (MM (MM (plM (!decide (sndV a < 0) == decide (sndV b < 0) && sndV a != 0 && sndV b != 0) (MM (iabs (sndV a) * iabs (sndV b) % 18446744073709551616) (iabs (sndV a) * iabs (sndV b) / 18446744073709551616)) (!decide (sndV c < 0) == decide (sndV d < 0) && sndV c != 0 && sndV d != 0) (MM (iabs (sndV c) * iabs (sndV d) % 18446744073709551616) (iabs (sndV c) * iabs (sndV d) / 18446744073709551616)) % 18446744073709551616) (plM (!decide (sndV a < 0) == decide (sndV b < 0) && sndV a != 0 && sndV b != 0) (MM (iabs (sndV a) * iabs (sndV b) % 18446744073709551616) (iabs (sndV a) * iabs (sndV b) / 18446744073709551616)) (!decide (sndV c < 0) == decide (sndV d < 0) && sndV c != 0 && sndV d != 0) (MM (iabs (sndV c) * iabs (sndV d) % 18446744073709551616) (iabs (sndV c) * iabs (sndV d) / 18446744073709551616)) / 18446744073709551616) / 4294967296 % 18446744073709551616) (MM (plM (!decide (sndV a < 0) == decide (sndV b < 0) && sndV a != 0 && sndV b != 0) (MM (iabs (sndV a) * iabs (sndV b) % 18446744073709551616) (iabs (sndV a) * iabs (sndV b) / 18446744073709551616)) (!decide (sndV c < 0) == decide (sndV d < 0) && sndV c != 0 && sndV d != 0) (MM (iabs (sndV c) * iabs (sndV d) % 18446744073709551616) (iabs (sndV c) * iabs (sndV d) / 18446744073709551616)) % 18446744073709551616) (plM (!decide (sndV a < 0) == decide (sndV b < 0) && sndV a != 0 && sndV b != 0) (MM (iabs (sndV a) * iabs (sndV b) % 18446744073709551616) (iabs (sndV a) * iabs (sndV b) / 18446744073709551616)) (!decide (sndV c < 0) == decide (sndV d < 0) && sndV c != 0 && sndV d != 0) (MM (iabs (sndV c) * iabs (sndV d) % 18446744073709551616) (iabs (sndV c) * iabs (sndV d) / 18446744073709551616)) / 18446744073709551616) / 4294967296 / 18446744073709551616)) true)))]))) 
(sel (sndF c fc) (((U64 (MM (plM (!decide (sndV a < 0) == decide (sndV b < 0) && sndV a != 0 && sndV b != 0) (MM (iabs (sndV a) * iabs (sndV b) % 18446744073709551616) (iabs (sndV a) * iabs (sndV b) / 18446744073709551616)) (!decide (sndV c < 0) == decide (sndV d < 0) && sndV c != 0 && sndV d != 0) (MM (iabs (sndV c) * iabs (sndV d) % 18446744073709551616) (iabs (sndV c) * iabs (sndV d) / 18446744073709551616)) % 18446744073709551616) (plM (!decide (sndV a < 0) == decide (sndV b < 0) && sndV a != 0 && sndV b != 0) (MM (iabs (sndV a) * iabs (sndV b) % 18446744073709551616) (iabs (sndV a) * iabs (sndV b) / 18446744073709551616)) (!decide (sndV c < 0) == decide (sndV d < 0) && sndV c != 0 && sndV d != 0) (MM (iabs (sndV c) * iabs (sndV d) % 18446744073709551616) (iabs (sndV c) * iabs (sndV d) / 18446744073709551616)) / 18446744073709551616) / 4294967296 % 18446744073709551616)) ∧ (U64 (MM (plM (!decide (sndV a < 0) == decide (sndV b < 0) && sndV a != 0 && sndV b != 0) (MM (iabs (sndV a) * iabs (sndV b) % 18446744073709551616) (iabs (sndV a) * iabs (sndV b) / 18446744073709551616)) (!decide (sndV c < 0) == decide (sndV d < 0) && sndV c != 0 && sndV d != 0) (MM (iabs (sndV c) * iabs (sndV d) % 18446744073709551616) (iabs (sndV c) * iabs (sndV d) / 18446744073709551616)) % 18446744073709551616) (plM (!decide (sndV a < 0) == decide (sndV b < 0) && sndV a != 0 && sndV b != 0) (MM (iabs (sndV a) * iabs (sndV b) % 18446744073709551616) (iabs (sndV a) * iabs (sndV b) / 18446744073709551616)) (!decide (sndV c < 0) == decide (sndV d < 0) && sndV c != 0 && sndV d != 0) (MM (iabs (sndV c) * iabs (sndV d) % 18446744073709551616) (iabs (sndV c) * iabs (sndV d) / 18446744073709551616)) / 18446744073709551616) / 4294967296 / 18446744073709551616))) ∧ (R (SV.agg [(SV.v (Value.int IntKind.i64 (fitV (plZ (!decide (sndV a < 0) == decide (sndV b < 0) && sndV a != 0 && sndV b != 0) (MM (iabs (sndV a) * iabs (sndV b) % 18446744073709551616) (iabs (sndV a) * iabs (sndV b) / 18446744073709551616)) (!decide (sndV c < 0) == decide (sndV d < 0) && sndV c != 0 && sndV d != 0) (MM (iabs (sndV c) * iabs (sndV d) % 18446744073709551616) (iabs (sndV c) * iabs (sndV d) / 18446744073709551616))) (MM (MM (plM (!decide (sndV a < 0) == decide (sndV b < 0) && sndV a != 0 && sndV b != 0) (MM (iabs (sndV a) * iabs (sndV b) % 18446744073709551616) (iabs (sndV a) * iabs (sndV b) / 18446744073709551616)) (!decide (sndV c < 0) == decide (sndV d < 0) && sndV c != 0 && sndV d != 0) (MM (iabs (sndV c) * iabs (sndV d) % 18446744073709551616) (iabs (sndV c) * iabs (sndV d) / 18446744073709551616)) % 18446744073709551616) (plM (!decide (sndV a < 0) == decide (sndV b < 0) && sndV a != 0 && sndV b != 0) (MM (iabs (sndV a) * iabs (sndV b) % 18446744073709551616) (iabs (sndV a) * iabs (sndV b) / 18446744073709551616)) (!decide (sndV c < 0) == decide (sndV d < 0) && sndV c != 0 && sndV d != 0) (MM (iabs (sndV c) * iabs (sndV d) % 18446744073709551616) (iabs (sndV c) * iabs (sndV d) / 18446744073709551616)) / 18446744073709551616) / 4294967296 % 18446744073709551616) (MM (plM (!decide (sndV a < 0) == decide (sndV b < 0) && sndV a != 0 && sndV b != 0) (MM (iabs (sndV a) * iabs (sndV b) % 18446744073709551616) (iabs (sndV a) * iabs (sndV b) / 18446744073709551616)) (!decide (sndV c < 0) == decide (sndV d < 0) && sndV c != 0 && sndV d != 0) (MM (iabs (sndV c) * iabs (sndV d) % 18446744073709551616) (iabs (sndV c) * iabs (sndV d) / 18446744073709551616)) % 18446744073709551616) (plM (!decide (sndV a < 0) == decide (sndV b < 0) && sndV a != 0 && sndV b != 0) (MM (iabs (sndV a) * iabs (sndV b) % 18446744073709551616) (iabs (sndV a) * iabs (sndV b) / 18446744073709551616)) (!decide (sndV c < 0) == decide (sndV d < 0) && sndV c != 0 && sndV d != 0) (MM (iabs (sndV c) * iabs (sndV d) % 18446744073709551616) (iabs (sndV c) * iabs (sndV d) / 18446744073709551616)) / 18446744073709551616) / 4294967296 / 18446744073709551616))))), (SV.v (Value.bool (fitF (MM (MM (plM (!decide (sndV a < 0) == decide (sndV b < 0) && sndV a != 0 && sndV b != 0) (MM (iabs (sndV a) * iabs (sndV b) % 18446744073709551616) (iabs (sndV a) * iabs (sndV b) / 18446744073709551616)) (!decide (sndV c < 0) == decide (sndV d < 0) && sndV c != 0 && sndV d != 0) (MM (iabs (sndV c) * iabs (sndV d) % 18446744073709551616) (iabs (sndV c) * iabs (sndV d) / 18446744073709551616)) % 18446744073709551616) (plM (!decide (sndV a < 0) == decide (sndV b < 0) && sndV a != 0 && sndV b != 0) (MM (iabs (sndV a) * iabs (sndV b) % 18446744073709551616) (iabs (sndV a) * iabs (sndV b) / 18446744073709551616)) (!decide (sndV c < 0) == decide (sndV d < 0) && sndV c != 0 && sndV d != 0) (MM (iabs (sndV c) * iabs (sndV d) % 18446744073709551616) (iabs (sndV c) * iabs (sndV d) / 18446744073709551616)) / 18446744073709551616) / 4294967296 % 18446744073709551616) (MM (plM (!decide (sndV a < 0) == decide (sndV b < 0) && sndV a != 0 && sndV b != 0) (MM (iabs (sndV a) * iabs (sndV b) % 18446744073709551616) (iabs (sndV a) * iabs (sndV b) / 18446744073709551616)) (!decide (sndV c < 0) == decide (sndV d < 0) && sndV c != 0 && sndV d != 0) (MM (iabs (sndV c) * iabs (sndV d) % 18446744073709551616) (iabs (sndV c) * iabs (sndV d) / 18446744073709551616)) % 18446744073709551616) (plM (!decide (sndV a < 0) == decide (sndV b < 0) && sndV a != 0 && sndV b != 0) (MM (iabs (sndV a) * iabs (sndV b) % 18446744073709551616) (iabs (sndV a) * iabs (sndV b) / 18446744073709551616)) (!decide (sndV c < 0) == decide (sndV d < 0) && sndV c != 0 && sndV d != 0) (MM (iabs (sndV c) * iabs (sndV d) % 18446744073709551616) (iabs (sndV c) * iabs (sndV d) / 18446744073709551616)) / 18446744073709551616) / 4294967296 / 18446744073709551616)) true)))]))) (((U64 (MM (plM (!decide (sndV a < 0) == decide (sndV b < 0) && sndV a != 0 && sndV b != 0) (MM (iabs (sndV a) * iabs (sndV b) % 18446744073709551616) (iabs (sndV a) * iabs (sndV b) / 18446744073709551616)) (!decide (sndV c < 0) == decide (sndV d < 0) && sndV c != 0 && sndV d != 0) (MM (iabs (sndV c) * iabs (sndV d) % 18446744073709551616) (iabs (sndV c) * iabs (sndV d) / 18446744073709551616)) % 18446744073709551616) (plM (!decide (sndV a < 0) == decide (sndV b < 0) && sndV a != 0 && sndV b != 0) (MM (iabs (sndV a) * iabs (sndV b) % 18446744073709551616) (iabs (sndV a) * iabs (sndV b) / 18446744073709551616)) (!decide (sndV c < 0) == decide (sndV d < 0) && sndV c != 0 && sndV d != 0) (MM (iabs (sndV c) * iabs (sndV d) % 18446744073709551616) (iabs (sndV c) * iabs (sndV d) / 18446744073709551616)) / 18446744073709551616) / 4294967296 % 18446744073709551616)) ∧ (U64 (MM (plM (!decide (sndV a < 0) == decide (sndV b < 0) && sndV a != 0 && sndV b != 0) (MM (iabs (sndV a) * iabs (sndV b) % 18446744073709551616) (iabs (sndV a) * iabs (sndV b) / 18446744073709551616)) (!decide (sndV c < 0) == decide (sndV d < 0) && sndV c != 0 && sndV d != 0) (MM (iabs (sndV c) * iabs (sndV d) % 18446744073709551616) (iabs (sndV c) * iabs (sndV d) / 18446744073709551616)) % 18446744073709551616) (plM (!decide (sndV a < 0) == decide (sndV b < 0) && sndV a != 0 && sndV b != 0) (MM (iabs (sndV a) * iabs (sndV b) % 18446744073709551616) (iabs (sndV a) * iabs (sndV b) / 18446744073709551616)) (!decide (sndV c < 0) == decide (sndV d < 0) && sndV c != 0 && sndV d != 0) (MM (iabs (sndV c) * iabs (sndV d) % 18446744073709551616) (iabs (sndV c) * iabs (sndV d) / 18446744073709551616)) / 18446744073709551616) / 4294967296 / 18446744073709551616))) ∧ (R (SV.agg [(SV.v (Value.int IntKind.i64 (fitV (plZ (!decide (sndV a < 0) == decide (sndV b < 0) && sndV a != 0 && sndV b != 0) (MM (iabs (sndV a) * iabs (sndV b) % 18446744073709551616) (iabs (sndV a) * iabs (sndV b) / 18446744073709551616)) (!decide (sndV c < 0) == decide (sndV d < 0) && sndV c != 0 && sndV d != 0) (MM (iabs (sndV c) * iabs (sndV d) % 18446744073709551616) (iabs (sndV c) * iabs (sndV d) / 18446744073709551616))) (MM (MM (plM (!decide (sndV a < 0) == decide (sndV b < 0) && sndV a != 0 && sndV b != 0) (MM (iabs (sndV a) * iabs (sndV b) % 18446744073709551616) (iabs (sndV a) * iabs (sndV b) / 18446744073709551616)) (!decide (sndV c < 0) == decide (sndV d < 0) && sndV c != 0 && sndV d != 0) (MM (iabs (sndV c) * iabs (sndV d) % 18446744073709551616) (iabs (sndV c) * iabs (sndV d) / 18446744073709551616)) % 18446744073709551616) (plM (!decide (sndV a < 0) == decide (sndV b < 0) && sndV a != 0 && sndV b != 0) (MM (iabs (sndV a) * iabs (sndV b) % 18446744073709551616) (iabs (sndV a) * iabs (sndV b) / 18446744073709551616)) (!decide (sndV c < 0) == decide (sndV d < 0) && sndV c != 0 && sndV d != 0) (MM (iabs (sndV c) * iabs (sndV d) % 18446744073709551616) (iabs (sndV c) * iabs (sndV d) / 18446744073709551616)) / 18446744073709551616) / 4294967296 % 18446744073709551616) (MM (plM (!decide (sndV a < 0) == decide (sndV b < 0) && sndV a != 0 && sndV b != 0) (MM (iabs (sndV a) * iabs (sndV b) % 18446744073709551616) (iabs (sndV a) * iabs (sndV b) / 18446744073709551616)) (!decide (sndV c < 0) == decide (sndV d < 0) && sndV c != 0 && sndV d != 0) (MM (iabs (sndV c) * iabs (sndV d) % 18446744073709551616) (iabs (sndV c) * iabs (sndV d) / 18446744073709551616)) % 18446744073709551616) (plM (!decide (sndV a < 0) == decide (sndV b < 0) && sndV a != 0 && sndV b != 0) (MM (iabs (sndV a) * iabs (sndV b) % 18446744073709551616) (iabs (sndV a) * iabs (sndV b) / 18446744073709551616)) (!decide (sndV c < 0) == decide (sndV d < 0) && sndV c != 0 && sndV d != 0) (MM (iabs (sndV c) * iabs (sndV d) % 18446744073709551616) (iabs (sndV c) * iabs (sndV d) / 18446744073709551616)) / 18446744073709551616) / 4294967296 / 18446744073709551616))))), (SV.v (Value.bool (fitF (MM (MM (plM (!decide (sndV a < 0) == decide (sndV b < 0) && sndV a != 0 && sndV b != 0) (MM (iabs (sndV a) * iabs (sndV b) % 18446744073709551616) (iabs (sndV a) * iabs (sndV b) / 18446744073709551616)) (!decide (sndV c < 0) == decide (sndV d < 0) && sndV c != 0 && sndV d != 0) (MM (iabs (sndV c) * iabs (sndV d) % 18446744073709551616) (iabs (sndV c) * iabs (sndV d) / 18446744073709551616)) % 18446744073709551616) (plM (!decide (sndV a < 0) == decide (sndV b < 0) && sndV a != 0 && sndV b != 0) (MM (iabs (sndV a) * iabs (sndV b) % 18446744073709551616) (iabs (sndV a) * iabs (sndV b) / 18446744073709551616)) (!decide (sndV c < 0) == decide (sndV d < 0) && sndV c != 0 && sndV d != 0) (MM (iabs (sndV c) * iabs (sndV d) % 18446744073709551616) (iabs (sndV c) * iabs (sndV d) / 18446744073709551616)) / 18446744073709551616) / 4294967296 % 18446744073709551616) (MM (plM (!decide (sndV a < 0) == decide (sndV b < 0) && sndV a != 0 && sndV b != 0) (MM (iabs (sndV a) * iabs (sndV b) % 18446744073709551616) (iabs (sndV a) * iabs (sndV b) / 18446744073709551616)) (!decide (sndV c < 0) == decide (sndV d < 0) && sndV c != 0 && sndV d != 0) (MM (iabs (sndV c) * iabs (sndV d) % 18446744073709551616) (iabs (sndV c) * iabs (sndV d) / 18446744073709551616)) % 18446744073709551616) (plM (!decide (sndV a < 0) == decide (sndV b < 0) && sndV a != 0 && sndV b != 0) (MM (iabs (sndV a) * iabs (sndV b) % 18446744073709551616) (iabs (sndV a) * iabs (sndV b) / 18446744073709551616)) (!decide (sndV c < 0) == decide (sndV d < 0) && sndV c != 0 && sndV d != 0) (MM (iabs (sndV c) * iabs (sndV d) % 18446744073709551616) (iabs (sndV c) * iabs (sndV d) / 18446744073709551616)) / 18446744073709551616) / 4294967296 / 18446744073709551616)) (sndF d fd))))])))))))))) := by kernel_rfl
theorem u64_zero : U64 0 := ⟨by decide, by decide⟩
theorem sv_false (m : Int) : sv false m = m := by simp [sv]
theorem half_or {t : Int} (h0 : 0 ≤ t) (h1 : t < 36893488147419103232) : bits .or .u64 (t % 18446744073709551616 / 2) (IntKind.u64.wrap (t / 18446744073709551616 * 9223372036854775808)) = t / 2 := by
  have e : IntKind.u64.wrap (t / 18446744073709551616 * 9223372036854775808) = t / 18446744073709551616 * 9223372036854775808 := u64_in ⟨by omega, by omega⟩
  rw [e, u64_or _ _ (by omega) (by omega) (by omega) (by omega), Nat.or_comm, nat_join 63 _ _ (by omega) (by omega)]
  omega
theorem root_loop {lo hi : Int} (h1 : U64 lo) (h2 : U64 hi) (hpos : 0 < MM lo hi) : ∀ x : Int, (isq (MM lo hi) ≤ x ∧ 0 < x ∧ x < 18446744073709551616) → sel (decide (hi ≥ x)) (SV.v (.int .u64 x) = SV.v (.int .u64 (isq (MM lo hi)))) ((U64 hi ∧ U64 lo ∧ U64 x ∧ hi < x) ∧
    sel (decide (MM lo hi / x ≥ x)) (SV.v (.int .u64 x) = SV.v (.int .u64 (isq (MM lo hi)))) ((U64 x ∧ U64 (MM lo hi / x) ∧ (0 : Int) ≤ 0 ∧ (0 : Int) ≤ 1) ∧ ∃ x' : Int, ((isq (MM lo hi) ≤ x' ∧ 0 < x' ∧ x' < 18446744073709551616) ∧
      (SV.v (.int .u64 (bits .or .u64 ((x + MM lo hi / x + 0) % 18446744073709551616 / 2) (IntKind.u64.wrap ((x + MM lo hi / x + 0) / 18446744073709551616 * 9223372036854775808)))) = SV.v (.int .u64 x')) ∧ True) ∧ x'.toNat < x.toNat)) := by
  intro x ⟨x1, x2, x3⟩
  have m0 := MM_nonneg h1 h2
  have m1 := MM_lt h1 h2
  have hM : MM lo hi = hi * 18446744073709551616 + lo := rfl
  obtain ⟨l0, l1⟩ := h1
  obtain ⟨i0, i1⟩ := h2
  refine sel_of (fun g => ?_) fun g => ?_
  · have g := of_decide_eq_true g
    refine int_mk (newton_end m0 m1 x1 ?_)
    have a1 : x * x ≤ hi * x := Int.mul_le_mul_of_nonneg_right g (by omega)
    have a2 : hi * x ≤ hi * 18446744073709551616 := Int.mul_le_mul_of_nonneg_left (by omega) i0
    omega
  · have g := of_decide_eq_false g
    have q0 : 0 ≤ MM lo hi / x := Int.ediv_nonneg m0 (by omega)
    have q1 : MM lo hi / x < 18446744073709551616 := Int.ediv_lt_of_lt_mul x2 (by
      have : hi + 1 ≤ x := by omega
      have := Int.mul_le_mul_of_nonneg_left this (show (0 : Int) ≤ 18446744073709551616 by decide)
      omega)
    refine ⟨⟨⟨i0, i1⟩, ⟨l0, l1⟩, ⟨by omega, x3⟩, by omega⟩, sel_of (fun g' => ?_) fun g' => ?_⟩
    · have g' := of_decide_eq_true g'
      refine int_mk (newton_end m0 m1 x1 ?_)
      have a1 := Int.mul_le_of_le_ediv x2 g'
      exact a1
    · have g' := of_decide_eq_false g'
      have n1 := newton_next m0 m1 x2
      have n0 : 0 ≤ MM lo hi / x := q0
      rw [Int.add_zero, half_or (by omega) (by omega)]
      refine ⟨⟨⟨by omega, x3⟩, ⟨q0, q1⟩, by decide, by decide⟩, (x + MM lo hi / x) / 2, ⟨⟨n1, ?_, by omega⟩, rfl, trivial⟩, by omega⟩
      rcases Int.lt_or_le 0 ((x + MM lo hi / x) / 2) with h | h
      · exact h
      · exfalso
        have hx : x = 1 := by omega
        subst hx
        rw [Int.ediv_one] at g' h
        omega
theorem root_first {m L : Int} {A : Prop} (hm0 : 0 < m) (hm1 : m < 340282366920938463463374607431768211456) (hL0 : 0 ≤ L) (hL1 : L ≤ 128) (hL : m < 2 ^ L.toNat) (hA : A) : sel (decide (IntKind.i64.wrap (Int.tdiv (IntKind.i64.wrap (L + 1)) 2) < 64))
    ((0 : Int) ≤ IntKind.i64.wrap (Int.tdiv (IntKind.i64.wrap (L + 1)) 2) ∧ (∃ x : Int, (isq m ≤ x ∧ 0 < x ∧ x < 18446744073709551616) ∧ (SV.v (.int .u64 (IntKind.u64.wrap (1 * 2 ^ min (Int.toNat (IntKind.i64.wrap (Int.tdiv (IntKind.i64.wrap (L + 1)) 2))) 64))) = SV.v (.int .u64 x)) ∧ True) ∧ A)
    ((∃ x : Int, (isq m ≤ x ∧ 0 < x ∧ x < 18446744073709551616) ∧ (SV.v (.int .u64 18446744073709551615) = SV.v (.int .u64 x)) ∧ True) ∧ A) := by
  have e : IntKind.i64.wrap (Int.tdiv (IntKind.i64.wrap (L + 1)) 2) = (L + 1) / 2 := by
    rw [wrap_i64 (n := L + 1) ⟨by omega, by omega⟩, Int.tdiv_eq_ediv_of_nonneg (by omega), wrap_i64 ⟨by omega, by omega⟩]
  rw [e]
  refine sel_of (fun g => ?_) fun g => ?_
  · have g := of_decide_eq_true g
    rw [Nat.min_eq_left (by omega)]
    have p := two_pos ((L + 1) / 2).toNat
    have p2 : (2 : Int) ^ ((L + 1) / 2).toNat ≤ 2 ^ 63 := by exact_mod_cast Nat.pow_le_pow_right (by decide) (by omega)
    have p2 : (2 : Int) ^ ((L + 1) / 2).toNat ≤ 9223372036854775808 := p2
    rw [Int.one_mul, u64_in ⟨by omega, by omega⟩]
    exact ⟨by omega, ⟨_, ⟨rt_first (by omega) hL (by omega) hm1, p, by omega⟩, rfl, trivial⟩, hA⟩
  · have := (isq_in (m := m) (by omega) hm1).2.1
    exact ⟨⟨_, ⟨by omega, by decide, by decide⟩, rfl, trivial⟩, hA⟩
theorem len_lo {lo : Int} (h : U64 lo) (h0 : lo ≠ 0) : 0 ≤ lenI lo ∧ lenI lo ≤ 64 ∧ lo < 2 ^ (lenI lo).toNat := by
  obtain ⟨a, b⟩ := lenI_64 h
  obtain ⟨n, e, l1, l2⟩ := lenI_ge (x := lo) (by have := h.1; omega)
  refine ⟨a, b, ?_⟩
  rw [e]
  have : ((n : Int) + 1).toNat = n + 1 := by omega
  rw [this]; exact l2
theorem len_hi {lo hi : Int} (h1 : U64 lo) (h2 : U64 hi) (h0 : hi ≠ 0) : 0 ≤ 64 + lenI hi ∧ 64 + lenI hi ≤ 128 ∧ MM lo hi < 2 ^ (64 + lenI hi).toNat := by
  obtain ⟨a, b, c⟩ := len_lo h2 h0
  refine ⟨by omega, by omega, ?_⟩
  rw [show (64 + lenI hi).toNat = (lenI hi).toNat + 64 by omega, Int.pow_add]
  generalize (2 : Int) ^ (lenI hi).toNat = p at *
  have e : (2 : Int) ^ 64 = 18446744073709551616 := by decide
  rw [e]
  obtain ⟨_, _⟩ := h1
  unfold MM
  have : (hi + 1) * 18446744073709551616 ≤ p * 18446744073709551616 := Int.mul_le_mul_of_nonneg_right (by omega) (by decide)
  omega
theorem ΓR0_ok : ∀ f g, ΓR0 f = some g → g.ok Try.prog f := addCtr_ok ΓY0_ok (pure_ok Try.func164 (by kernel_rfl) (by kernel_rfl) Len64_spec)
theorem Root_spec : PureSpec Try.prog 142 sRoot := vc_spec hm ΓR0_ok Try.func142 (Λ := fun args => match args with | [.agg [.v (.int .u64 lo), .v (.int .u64 hi)]] => ΛRoot (MM lo hi) | _ => noΛ) fun args p x h hp => by
  unfold sRoot at h
  split at h <;> try (cases h; done)
  rename_i lo hi
  cases h
  obtain ⟨h1, h2⟩ := hp _ rfl
  refine ⟨rfl, rfl, ?_⟩
  refine Eq.mpr (vcRoot (MM lo hi) lo hi _) ?_
  have m1 := MM_lt h1 h2
  have m0 := MM_nonneg h1 h2
  have hM : MM lo hi = hi * 18446744073709551616 + lo := rfl
  have tail : ∀ {A : Prop}, 0 < MM lo hi → A → U64 lo ∧ sel (hi != 0) (U64 hi ∧ sel (decide (IntKind.i64.wrap (Int.tdiv (IntKind.i64.wrap (IntKind.i64.wrap (64 + lenI hi) + 1)) 2) < 64))
    ((0 : Int) ≤ IntKind.i64.wrap (Int.tdiv (IntKind.i64.wrap (IntKind.i64.wrap (64 + lenI hi) + 1)) 2) ∧ (∃ x : Int, (isq (MM lo hi) ≤ x ∧ 0 < x ∧ x < 18446744073709551616) ∧ (SV.v (.int .u64 (IntKind.u64.wrap (1 * 2 ^ min (Int.toNat (IntKind.i64.wrap (Int.tdiv (IntKind.i64.wrap (IntKind.i64.wrap (64 + lenI hi) + 1)) 2))) 64))) = SV.v (.int .u64 x)) ∧ True) ∧ A)
    ((∃ x : Int, (isq (MM lo hi) ≤ x ∧ 0 < x ∧ x < 18446744073709551616) ∧ (SV.v (.int .u64 18446744073709551615) = SV.v (.int .u64 x)) ∧ True) ∧ A)) (sel (decide (IntKind.i64.wrap (Int.tdiv (IntKind.i64.wrap (lenI lo + 1)) 2) < 64))
    ((0 : Int) ≤ IntKind.i64.wrap (Int.tdiv (IntKind.i64.wrap (lenI lo + 1)) 2) ∧ (∃ x : Int, (isq (MM lo hi) ≤ x ∧ 0 < x ∧ x < 18446744073709551616) ∧ (SV.v (.int .u64 (IntKind.u64.wrap (1 * 2 ^ min (Int.toNat (IntKind.i64.wrap (Int.tdiv (IntKind.i64.wrap (lenI lo + 1)) 2))) 64))) = SV.v (.int .u64 x)) ∧ True) ∧ A)
    ((∃ x : Int, (isq (MM lo hi) ≤ x ∧ 0 < x ∧ x < 18446744073709551616) ∧ (SV.v (.int .u64 18446744073709551615) = SV.v (.int .u64 x)) ∧ True) ∧ A)) := by
    intro A hpos hA
    refine ⟨h1, sel_of (fun g => ?_) fun g => ?_⟩
    · have g : hi ≠ 0 := by simpa using g
      obtain ⟨a, b, c⟩ := len_hi h1 h2 g
      rw [wrap_i64 (n := 64 + lenI hi) ⟨by omega, by omega⟩]
      exact ⟨h2, root_first hpos m1 a b c hA⟩
    · have g : hi = 0 := by simpa using g
      subst g
      rw [MM_0] at *
      obtain ⟨a, b, c⟩ := len_lo h1 (by omega)
      exact root_first hpos m1 a (by omega) c hA
  refine sel_of (fun g => sel_of (fun g' => ?_) fun g' => ?_) fun g => ?_
  · have g : hi = 0 := by simpa using g
    have g' : lo = 0 := by simpa using g'
    subst g g'
    exact int_mk (by decide +kernel)
  · have g' : lo ≠ 0 := by simpa using g'
    exact tail (by have := h1.1; have := h2.1; omega) (root_loop h1 h2 (by have := h1.1; have := h2.1; omega))
  · have g : hi ≠ 0 := by simpa using g
    exact tail (by have := h1.1; have := h2.1; omega) (root_loop h1 h2 (by have := h1.1; have := h2.1; omega))
theorem sq_split (c : Int) : MM (c * c % 18446744073709551616) (c * c / 18446744073709551616) = c * c := MM_split _
theorem RRoot_spec : PureSpec Try.prog 150 sRRoot := vc_spec hm ΓC_ok Try.func150 (Λ := fun args => match args with | [.agg [.v (.bool _), .v (.int .u64 hi), .v (.int .u64 lo)]] => ΛRRoot (MM lo hi) | _ => noΛ) fun args p x h hp => by
  unfold sRRoot at h
  split at h <;> try (cases h; done)
  rename_i n hi lo
  cases h
  obtain ⟨h1, h2⟩ := hp _ rfl
  refine ⟨rfl, rfl, ?_⟩
  refine Eq.mpr (vcRRoot (MM lo hi) n lo hi _) ?_
  have m0 := MM_nonneg h1 h2
  have m1 := MM_lt h1 h2
  refine ⟨⟨⟨64, 0⟩, ⟨Nat.le_refl _, Int.le_refl _, by decide, by decide, rfl⟩, ⟨rfl, rfl⟩, trivial⟩, fun x ⟨x1, x2, x3, x4, x5⟩ => ?_⟩
  obtain ⟨k, r⟩ := x
  simp only at x1 x2 x3 x4 x5 ⊢
  refine sel_of (fun g => ?_) fun g => ?_
  · have g := of_decide_eq_true g
    obtain ⟨k, rfl⟩ : ∃ j, k = j + 1 := ⟨k - 1, by omega⟩
    have e1 : IntKind.u64.wrap (((k + 1 : Nat) : Int) - 1) = (k : Int) := by rw [u64_in ⟨by omega, by omega⟩]; omega
    have e2 : IntKind.i64.wrap (((k + 1 : Nat) : Int) - 1 - 1) = (k : Int) - 1 := by rw [wrap_i64 ⟨by omega, by omega⟩]; omega
    have p := two_pos k
    have p1 : (2 : Int) ^ (k + 1) = 2 * 2 ^ k := by rw [Int.pow_succ]; omega
    have pn : ((2 ^ k : Nat) : Int) = 2 ^ k := by exact_mod_cast rfl
    have p63 : (2 : Int) ^ k ≤ 9223372036854775808 := by
      have : (2 : Int) ^ k ≤ 2 ^ 63 := by exact_mod_cast Nat.pow_le_pow_right (by decide) (by omega)
      exact this
    rw [p1] at x3 x4
    have x3' : r % 2 ^ k = 0 := by
      have := Int.emod_emod_of_dvd r (show (2 : Int) ^ k ∣ 2 * 2 ^ k from ⟨2, Int.mul_comm _ _⟩)
      rw [x3] at this; simpa using this.symm
    have e3 : bits .or .u64 r (IntKind.u64.wrap (1 * 2 ^ min (Int.toNat (k : Int)) 64)) = r + 2 ^ k := by
      rw [Int.toNat_natCast, Nat.min_eq_left (by omega), Int.one_mul, u64_in ⟨by omega, by omega⟩, u64_or _ _ x2 (by omega) (by omega) (by omega), nat_join (k + 1) _ _ ?_ ?_]
      · omega
      · have hq : (r.toNat : Int) = r := by omega
        have : ((r.toNat % 2 ^ (k + 1) : Nat) : Int) = 0 := by rw [Int.natCast_emod, hq, Int.natCast_pow]; show r % 2 ^ (k + 1) = 0; rw [p1]; exact x3
        omega
      · have : ((2 ^ (k + 1) : Nat) : Int) = 2 ^ (k + 1) := by exact_mod_cast rfl
        omega
    rw [e1, e3, e2, sq_split]
    have sq : (r + 2 ^ k) * (r + 2 ^ k) < 340282366920938463463374607431768211456 := by
      have := sq_lt (a := r + 2 ^ k) (b := 18446744073709551616) (by omega) (by omega)
      omega
    have sq0 : 0 ≤ (r + 2 ^ k) * (r + 2 ^ k) := Int.mul_nonneg (by omega) (by omega)
    have u : U64 (r + 2 ^ k) := ⟨by omega, by omega⟩
    have step : rt (k + 1) r (MM lo hi) = if (r + 2 ^ k) * (r + 2 ^ k) ≤ MM lo hi then rt k (r + 2 ^ k) (MM lo hi) else rt k r (MM lo hi) := rfl
    rw [step] at x5
    refine ⟨by omega, ⟨u, u⟩, ⟨h1, mod_u64 _⟩, sel_of (fun g' => ?_) fun g' => ?_⟩
    · have g' : ¬ MM lo hi < (r + 2 ^ k) * (r + 2 ^ k) := by simpa using g'
      rw [if_pos (by omega)] at x5
      refine ⟨⟨k, r + 2 ^ k⟩, ⟨⟨by show k ≤ 64; omega, u.1, ?_, by show r + 2 ^ k + 2 ^ k ≤ _; omega, x5⟩, ⟨rfl, rfl⟩, trivial⟩, Nat.lt_succ_self k⟩
      show (r + 2 ^ k) % 2 ^ k = 0
      rw [Int.add_emod_right]; exact x3'
    · have g' : MM lo hi < (r + 2 ^ k) * (r + 2 ^ k) := by simpa using g'
      rw [if_neg (by omega)] at x5
      exact ⟨⟨k, r⟩, ⟨⟨by show k ≤ 64; omega, x2, x3', by show r + 2 ^ k ≤ _; omega, x5⟩, ⟨rfl, rfl⟩, trivial⟩, Nat.lt_succ_self k⟩
  · have g := of_decide_eq_false g
    have : k = 0 := by omega
    subst this
    have x5 : r = isq (MM lo hi) := x5
    rw [x5]; rfl
theorem ΓR1_ok : ∀ f g, ΓR1 f = some g → g.ok Try.prog f := addCtr_ok (addCtr_ok (addCtr_ok ΓC_ok (pure_ok Try.func142 (by kernel_rfl) (by kernel_rfl) Root_spec)) (pure_ok Try.func150 (by kernel_rfl) (by kernel_rfl) RRoot_spec)) (ro_ok Try.func126 (by kernel_rfl) (by kernel_rfl) Flags_spec)
theorem sqrt_in {x : Int} (h0 : 0 ≤ x) (h1 : x < 9223372036854775808) : 0 ≤ isq (x * 4294967296) ∧ isq (x * 4294967296) < 281474976710656 := by
  obtain ⟨a, b, c, d⟩ := isq_in (m := x * 4294967296) (by omega) (by omega)
  exact ⟨a, sq_lt_of (by decide) (by omega)⟩
theorem pl_mul (a b c d : Int) : plM (!(decide (a < 0) == decide (b < 0))) (iabs a * iabs b) (!(decide (c < 0) == decide (d < 0))) (iabs c * iabs d) = iabs (a * b + c * d) := by rw [plM_eq iabs_mul iabs_mul, sgn_mul, sgn_mul]
theorem pl_mul' (a b c d : Int) : plM (!(decide (a < 0) == decide (b < 0)) && a != 0 && b != 0) (iabs a * iabs b) (!(decide (c < 0) == decide (d < 0)) && c != 0 && d != 0) (iabs c * iabs d) = iabs (a * b + c * d) := by rw [plM_eq iabs_mul iabs_mul, sgn_mul', sgn_mul']
theorem sq_nonneg (a : Int) : 0 ≤ a * a := by
  rcases Int.le_total 0 a with h | h
  · exact Int.mul_nonneg h h
  · have := Int.mul_nonneg (show 0 ≤ -a by omega) (show 0 ≤ -a by omega); rwa [Int.neg_mul_neg] at this
theorem iabs_sq (a : Int) : iabs a * iabs a = a * a := by unfold iabs; split; rw [Int.neg_mul_neg]; rfl
theorem hyp_in {a b : Int} (ha : I64 a) (hb : I64 b) : 0 ≤ a * a + b * b ∧ a * a + b * b ≤ 170141183460469231731687303715884105728 := by
  have h1 := iabs_mul_lt ha ha
  have h2 := iabs_mul_lt hb hb
  rw [iabs_sq] at h1 h2
  have := sq_nonneg a
  have := sq_nonneg b
  omega
theorem Hypot_spec : PureSpec Try.prog 97 sHypot := vc_spec hm ΓR1_ok Try.func97 (Λ := fun _ => noΛ) fun args p x h hp => by
  unfold sHypot at h
  split at h <;> try (cases h; done)
  rename_i v f u g
  cases h
  obtain ⟨h1, h2⟩ := hp _ rfl
  have h1 := sndV_i64 h1
  have h2 := sndV_i64 h2
  refine ⟨rfl, rfl, ?_⟩
  refine Eq.mpr (vcHypot v f u g _) ?_
  simp only [MM_split, MM_0, pl_mul]
  have l1 := iabs_mul_lt h1 h1
  have l2 := iabs_mul_lt h2 h2
  have n1 := iabs_mul (a := sndV v) (b := sndV v)
  have n2 := iabs_mul (a := sndV u) (b := sndV u)
  obtain ⟨y0, y1⟩ := hyp_in h1 h2
  have ea : iabs (sndV v * sndV v + sndV u * sndV u) = sndV v * sndV v + sndV u * sndV u := iabs_pos (by omega)
  rw [ea]
  obtain ⟨a, b, _, _⟩ := isq_in y0 (by omega)
  refine ⟨⟨h1, h1⟩, ⟨h2, h2⟩, ⟨⟨mod_u64 _, div_u64 n1 (by omega)⟩, ⟨mod_u64 _, div_u64 n2 (by omega)⟩, by omega⟩, ⟨mod_u64 _, div_u64 y0 (by omega)⟩, ⟨⟨trivial, trivial, trivial⟩, trivial, by decide⟩, ⟨⟨a, b⟩, u64_zero⟩, num_mk ?_ ?_⟩
  · rw [fitV_E false a, sv_false]; rfl
  · rw [fitF_G false _ a, sv_false]; simp [anyF, rowF, hypE]
theorem RHypot_spec : PureSpec Try.prog 113 sHypot := vc_spec hm ΓR1_ok Try.func113 (Λ := fun _ => noΛ) fun args p x h hp => by
  unfold sHypot at h
  split at h <;> try (cases h; done)
  rename_i v f u g
  cases h
  obtain ⟨h1, h2⟩ := hp _ rfl
  have h1 := sndV_i64 h1
  have h2 := sndV_i64 h2
  refine ⟨rfl, rfl, ?_⟩
  refine Eq.mpr (vcRHypot v f u g _) ?_
  simp only [MM_split, MM_0, pl_mul']
  have l1 := iabs_mul_lt h1 h1
  have l2 := iabs_mul_lt h2 h2
  have n1 := iabs_mul (a := sndV v) (b := sndV v)
  have n2 := iabs_mul (a := sndV u) (b := sndV u)
  obtain ⟨y0, y1⟩ := hyp_in h1 h2
  have ea : iabs (sndV v * sndV v + sndV u * sndV u) = sndV v * sndV v + sndV u * sndV u := iabs_pos (by omega)
  rw [ea]
  obtain ⟨a, b, _, _⟩ := isq_in y0 (by omega)
  refine ⟨⟨h1, h1⟩, ⟨h2, h2⟩, ⟨⟨mod_u64 _, div_u64 n1 (by omega)⟩, ⟨mod_u64 _, div_u64 n2 (by omega)⟩, by omega⟩, ⟨mod_u64 _, div_u64 y0 (by omega)⟩, sel_of (fun hf => ⟨⟨⟨a, b⟩, u64_zero⟩, num_mk ?_ ?_⟩) fun hf => ⟨⟨⟨a, b⟩, u64_zero⟩, num_mk ?_ ?_⟩⟩
  · rw [fitV_E false a, sv_false]; rfl
  · rw [fitF_G false _ a, sv_false, hf, Bool.true_or]; rfl
  · rw [fitV_E false a, sv_false]; rfl
  · rw [fitF_G false _ a, sv_false, hf, Bool.false_or]; rfl
theorem dot_sv (a b c d : Int) : sv (plN (!(decide (a < 0) == decide (b < 0))) (iabs a * iabs b) (!(decide (c < 0) == decide (d < 0))) (iabs c * iabs d)) (iabs (a * b + c * d)) = a * b + c * d := by rw [← pl_mul, pl_sv, sgn_mul, sgn_mul]
theorem dot_svZ (a b c d : Int) : sv (plZ (!(decide (a < 0) == decide (b < 0)) && a != 0 && b != 0) (iabs a * iabs b) (!(decide (c < 0) == decide (d < 0)) && c != 0 && d != 0) (iabs c * iabs d)) (iabs (a * b + c * d)) = a * b + c * d := by
  rw [← pl_mul']
  have key := pl_sv (!(decide (a < 0) == decide (b < 0)) && a != 0 && b != 0) (iabs a * iabs b) (!(decide (c < 0) == decide (d < 0)) && c != 0 && d != 0) (iabs c * iabs d)
  rw [sgn_mul', sgn_mul'] at key
  rw [← key]
  generalize (!(decide (a < 0) == decide (b < 0)) && a != 0 && b != 0) = n1
  generalize (!(decide (c < 0) == decide (d < 0)) && c != 0 && d != 0) = n2
  generalize iabs a * iabs b = m1
  generalize iabs c * iabs d = m2
  unfold plZ plN
  by_cases hn : n1 = n2
  · simp only [if_pos hn]
  · simp only [if_neg hn]
    by_cases hm : m1 < m2
    · simp only [if_pos hm]
    · simp only [if_neg hm]
      by_cases he : m1 = m2
      · have e0 : plM n1 m1 n2 m2 = 0 := by unfold plM; rw [if_neg hn, he, Int.sub_self]; rfl
        rw [e0]
        have z : ∀ n, sv n 0 = 0 := fun n => by cases n <;> rfl
        rw [z, z]
      · have e : (m1 != m2) = true := bne_iff_ne.2 he
        rw [e, Bool.and_true]
theorem dot_abs {a b c d : Int} (ha : I64 a) (hb : I64 b) (hc : I64 c) (hd : I64 d) : 0 ≤ iabs (a * b + c * d) ∧ iabs (a * b + c * d) ≤ 170141183460469231731687303715884105728 := by
  have h1 := iabs_mul_lt ha hb
  have h2 := iabs_mul_lt hc hd
  refine ⟨iabs_nonneg _, ?_⟩
  have e := plM_eq (n1 := !(decide (a < 0) == decide (b < 0))) (n2 := !(decide (c < 0) == decide (d < 0))) (iabs_mul (a := a) (b := b)) (iabs_mul (a := c) (b := d))
  rw [sgn_mul, sgn_mul] at e
  rw [← e]
  have n1 := iabs_mul (a := a) (b := b)
  have n2 := iabs_mul (a := c) (b := d)
  generalize iabs a * iabs b = x at *
  generalize iabs c * iabs d = y at *
  unfold plM iabs
  split <;> (try split) <;> omega
theorem Dot_spec : PureSpec Try.prog 99 sDot := vc_spec hm ΓR1_ok Try.func99 (Λ := fun _ => noΛ) fun args p x h hp => by
  unfold sDot at h
  split at h <;> try (cases h; done)
  rename_i a fa b fb c fc d fd
  cases h
  obtain ⟨⟨ha, hb⟩, hc, hd⟩ := hp _ rfl
  have ha := sndV_i64 ha
  have hb := sndV_i64 hb
  have hc := sndV_i64 hc
  have hd := sndV_i64 hd
  refine ⟨rfl, rfl, ?_⟩
  refine Eq.mpr (vcDot a fa b fb c fc d fd _) ?_
  simp only [MM_split, pl_mul]
  have l1 := iabs_mul_lt ha hb
  have l2 := iabs_mul_lt hc hd
  have n1 := iabs_mul (a := sndV a) (b := sndV b)
  have n2 := iabs_mul (a := sndV c) (b := sndV d)
  obtain ⟨y0, y1⟩ := dot_abs ha hb hc hd
  have es := dot_sv (sndV a) (sndV b) (sndV c) (sndV d)
  have e : ∀ n, sv n (iabs (sndV a * sndV b + sndV c * sndV d)) = sndV a * sndV b + sndV c * sndV d → sv n (iabs (sndV a * sndV b + sndV c * sndV d) / 4294967296) = dotE (sndV a) (sndV b) (sndV c) (sndV d) := fun n h => by rw [sv_tdiv n y0, h]; rfl
  refine ⟨⟨ha, hb⟩, ⟨hc, hd⟩, ⟨⟨mod_u64 _, div_u64 n1 (by omega)⟩, ⟨mod_u64 _, div_u64 n2 (by omega)⟩, by omega⟩, ⟨mod_u64 _, div_u64 y0 (by omega)⟩, ⟨⟨trivial, trivial, trivial, trivial, trivial⟩, trivial, by decide⟩, ⟨mod_u64 _, div_u64 (by omega) (by omega)⟩, num_mk ?_ ?_⟩
  · rw [fitV_E _ (by omega), e _ es]
  · rw [fitF_G _ _ (by omega), e _ es]; simp [anyF, rowF, Bool.or_assoc]
theorem RDot_spec : PureSpec Try.prog 101 sDot := vc_spec hm ΓR1_ok Try.func101 (Λ := fun _ => noΛ) fun args p x h hp => by
  unfold sDot at h
  split at h <;> try (cases h; done)
  rename_i a fa b fb c fc d fd
  cases h
  obtain ⟨⟨ha, hb⟩, hc, hd⟩ := hp _ rfl
  have ha := sndV_i64 ha
  have hb := sndV_i64 hb
  have hc := sndV_i64 hc
  have hd := sndV_i64 hd
  refine ⟨rfl, rfl, ?_⟩
  refine Eq.mpr (vcRDot a fa b fb c fc d fd _) ?_
  simp only [MM_split, pl_mul']
  have l1 := iabs_mul_lt ha hb
  have l2 := iabs_mul_lt hc hd
  have n1 := iabs_mul (a := sndV a) (b := sndV b)
  have n2 := iabs_mul (a := sndV c) (b := sndV d)
  obtain ⟨y0, y1⟩ := dot_abs ha hb hc hd
  have es := dot_svZ (sndV a) (sndV b) (sndV c) (sndV d)
  have e : ∀ n, sv n (iabs (sndV a * sndV b + sndV c * sndV d)) = sndV a * sndV b + sndV c * sndV d → sv n (iabs (sndV a * sndV b + sndV c * sndV d) / 4294967296) = dotE (sndV a) (sndV b) (sndV c) (sndV d) := fun n h => by rw [sv_tdiv n y0, h]; rfl
  have fin : ∀ fl, fl = ((sndF a fa || sndF b fb) || (sndF c fc || sndF d fd)) → (U64 (iabs (sndV a * sndV b + sndV c * sndV d) / 4294967296 % 18446744073709551616) ∧ U64 (iabs (sndV a * sndV b + sndV c * sndV d) / 4294967296 / 18446744073709551616)) ∧ SV.agg [SV.v (.int .i64 (fitV (plZ (!(decide (sndV a < 0) == decide (sndV b < 0)) && sndV a != 0 && sndV b != 0) (iabs (sndV a) * iabs (sndV b)) (!(decide (sndV c < 0) == decide (sndV d < 0)) && sndV c != 0 && sndV d != 0) (iabs (sndV c) * iabs (sndV d))) (iabs (sndV a * sndV b + sndV c * sndV d) / 4294967296))), SV.v (.bool (fitF (iabs (sndV a * sndV b + sndV c * sndV d) / 4294967296) fl))] = numS (fitE (dotE (sndV a) (sndV b) (sndV c) (sndV d))) (fitG (dotE (sndV a) (sndV b) (sndV c) (sndV d)) ((sndF a fa || sndF b fb) || (sndF c fc || sndF d fd))) := by
    intro fl hf
    refine ⟨⟨mod_u64 _, div_u64 (by omega) (by omega)⟩, num_mk ?_ ?_⟩
    · rw [fitV_E _ (by omega), e _ es]
    · rw [fitF_G _ _ (by omega), e _ es, hf]
  refine ⟨⟨ha, hb⟩, ⟨hc, hd⟩, ⟨⟨mod_u64 _, div_u64 n1 (by omega)⟩, ⟨mod_u64 _, div_u64 n2 (by omega)⟩, by omega⟩, ⟨mod_u64 _, div_u64 y0 (by omega)⟩, ?_⟩
  exact sel_of (fun g1 => fin _ (by rw [g1]; simp)) fun g1 => sel_of (fun g2 => fin _ (by simp [g1, g2])) fun g2 => sel_of (fun g3 => fin _ (by simp [g1, g2, g3])) fun g3 => fin _ (by simp [g1, g2, g3])
end Go.Proofs.Ytheljpebapokjaa
