/-
 What the proof uses, part 11.
-/
import Derived.Test.YteekigmbopdfjaaGreatZf10
set_option maxRecDepth 100000
set_option linter.unusedSimpArgs false
set_option linter.unusedVariables false

section
namespace Go.Proofs.YteekigmbopdfjaaGreat
open Go.SE Go.RowKit
def Zcd : List SV → Option (Option Prop × SV)
 | [.agg [.v (.int .u64 lo), .v (.int .u64 hi)]] => some (some (U64 lo ∧ U64 hi), .v (.int .u64 (isq (MM lo hi))))
 | _ => none
def sRRoot : List SV → Option (Option Prop × SV)
 | [.agg [.v (.bool _), .v (.int .u64 hi), .v (.int .u64 lo)]] => some (some (U64 lo ∧ U64 hi), wiS false 0 (isq (MM lo hi)))
 | _ => none
def Zlk (v : Int) : Int := if Qaa v < 0 then 0 else isq (Qaa v * 4294967296)
def Zll (v : Int) (f : Bool) : Bool := if Qaa v < 0 then true else f
def sSqrt : List SV → Option (Option Prop × SV)
 | [.agg [.v (.int .i64 v), .v (.bool f)]] => some (some (I64 v), Qcy (Zlk v) (Zll v f))
 | _ => none
def Zjz (a b : Int) : Int := isq (a * a + b * b)
def Q88 : List SV → Option (Option Prop × SV)
 | [.agg [.v (.int .i64 v), .v (.bool f)], .agg [.v (.int .i64 u), .v (.bool g)]] => some (some (I64 v ∧ I64 u), Qcy (Qas (Zjz (Qaa v) (Qaa u))) (Qc9 (Zjz (Qaa v) (Qaa u)) (Qat v f || Qat u g)))
 | _ => none
def Qyc (a b c d : Int) : Int := Int.tdiv (a * b + c * d) 4294967296
def Zjq : List SV → Option (Option Prop × SV)
 | [.agg [.v (.int .i64 a), .v (.bool fa)], .agg [.v (.int .i64 b), .v (.bool fb)], .agg [.v (.int .i64 c), .v (.bool fc)], .agg [.v (.int .i64 d), .v (.bool fd)]] =>
   some (some ((I64 a ∧ I64 b) ∧ I64 c ∧ I64 d), Qcy (Qas (Qyc (Qaa a) (Qaa b) (Qaa c) (Qaa d))) (Qc9 (Qyc (Qaa a) (Qaa b) (Qaa c) (Qaa d)) ((Qat a fa || Qat b fb) || (Qat c fc || Qat d fd))))
 | _ => none
noncomputable def Q8p (m : Int) : Nat → Option LoopSpec := Qcp Qax Tryz.f168 0 Int (fun r => isq m ≤ r ∧ 0 < r ∧ r < 18446744073709551616) (fun r => r.toNat) [(4, fun r => .v (.int .u64 r))] []
def ΓR0 : Qb8 := Qah Zj4 223 (Qaj Qv5)
@[reducible] noncomputable def Ql8 (m : Int) (lo : Int) (hi : Int) (R : SV→Prop) := (∀ x : Int,(((((isq m) : Int) ≤ x)∧(((0 : Int) < x)∧((x : Int) < 18446744073709551616)))→(sel (decide (hi ≥ x)) (R (SV.v (.int .u64 x))) (((U64 hi)∧((U64 lo)∧((U64 x)∧((hi : Int) < x))))∧(sel (decide (MM lo hi / x ≥ x)) (R (SV.v (.int .u64 x))) (((U64 x)∧((U64 (MM lo hi / x))∧(((0 : Int) ≤ 0)∧((0 : Int) ≤ 1))))∧(∃ x' : Int,((((((isq m) : Int) ≤ x')∧(((0 : Int) < x')∧((x' : Int) < 18446744073709551616)))∧(((SV.v (.int .u64 (bits BinOp.or IntKind.u64 ((x + MM lo hi / x + 0) % 18446744073709551616 / 2) (IntKind.wrap IntKind.u64 ((x + MM lo hi / x + 0) / 18446744073709551616 * 9223372036854775808))))) = (SV.v (.int .u64 x')))∧True))∧(((Int.toNat x') : Nat) < (Int.toNat x))))))))))
@[reducible] noncomputable def Qvu (m : Int) (lo : Int) (hi : Int) (R : SV→Prop) := ((U64 lo)∧(sel (hi != 0) ((U64 hi)∧(sel (decide (IntKind.wrap IntKind.i64 (Int.tdiv (IntKind.wrap IntKind.i64 (IntKind.wrap IntKind.i64 (64 + Qc8 hi) + 1)) 2) < 64)) (((0 : Int) ≤ (IntKind.wrap IntKind.i64 (Int.tdiv (IntKind.wrap IntKind.i64 (IntKind.wrap IntKind.i64 (64 + Qc8 hi) + 1)) 2)))∧((∃ x : Int,(((((isq m) : Int) ≤ x)∧(((0 : Int) < x)∧((x : Int) < 18446744073709551616)))∧(((SV.v (.int .u64 (IntKind.wrap IntKind.u64 (1 * 2 ^ min (Int.toNat (IntKind.wrap IntKind.i64 (Int.tdiv (IntKind.wrap IntKind.i64 (IntKind.wrap IntKind.i64 (64 + Qc8 hi) + 1)) 2))) 64)))) = (SV.v (.int .u64 x)))∧True)))∧(Ql8 m lo hi R))) ((∃ x : Int,(((((isq m) : Int) ≤ x)∧(((0 : Int) < x)∧((x : Int) < 18446744073709551616)))∧(((SV.v (.int .u64 18446744073709551615)) = (SV.v (.int .u64 x)))∧True)))∧(Ql8 m lo hi R)))) (sel (decide (IntKind.wrap IntKind.i64 (Int.tdiv (IntKind.wrap IntKind.i64 (Qc8 lo + 1)) 2) < 64)) (((0 : Int) ≤ (IntKind.wrap IntKind.i64 (Int.tdiv (IntKind.wrap IntKind.i64 (Qc8 lo + 1)) 2)))∧((∃ x : Int,(((((isq m) : Int) ≤ x)∧(((0 : Int) < x)∧((x : Int) < 18446744073709551616)))∧(((SV.v (.int .u64 (IntKind.wrap IntKind.u64 (1 * 2 ^ min (Int.toNat (IntKind.wrap IntKind.i64 (Int.tdiv (IntKind.wrap IntKind.i64 (Qc8 lo + 1)) 2))) 64)))) = (SV.v (.int .u64 x)))∧True)))∧(Ql8 m lo hi R))) ((∃ x : Int,(((((isq m) : Int) ≤ x)∧(((0 : Int) < x)∧((x : Int) < 18446744073709551616)))∧(((SV.v (.int .u64 18446744073709551615)) = (SV.v (.int .u64 x)))∧True)))∧(Ql8 m lo hi R)))))
theorem Zfw (m lo hi : Int) (R : SV→Prop) : (Qav Tryz.prog ΓR0 (Q8p m) Tryz.f168 [woS lo hi] R) =
(sel (hi == 0) (sel (lo == 0) (R (SV.v (.int .u64 0))) (Qvu m lo hi R)) (Qvu m lo hi R)) := by kernel_rfl
def Zjh : Qb8 := Qah (Qah ΓC 168 (Qaj Zcd)) 78 (Qc7 Qv6)
@[reducible] noncomputable def Qju (v : Int) (u : Int) := (isq (MM (plM (!decide (Qaa v < 0) == decide (Qaa v < 0)) (MM (Qag (Qaa v) * Qag (Qaa v) % 18446744073709551616) (Qag (Qaa v) * Qag (Qaa v) / 18446744073709551616)) (!decide (Qaa u < 0) == decide (Qaa u < 0)) (MM (Qag (Qaa u) * Qag (Qaa u) % 18446744073709551616) (Qag (Qaa u) * Qag (Qaa u) / 18446744073709551616)) % 18446744073709551616) (plM (!decide (Qaa v < 0) == decide (Qaa v < 0)) (MM (Qag (Qaa v) * Qag (Qaa v) % 18446744073709551616) (Qag (Qaa v) * Qag (Qaa v) / 18446744073709551616)) (!decide (Qaa u < 0) == decide (Qaa u < 0)) (MM (Qag (Qaa u) * Qag (Qaa u) % 18446744073709551616) (Qag (Qaa u) * Qag (Qaa u) / 18446744073709551616)) / 18446744073709551616)))
theorem Zbr (v : Int) (f : Bool) (u : Int) (g : Bool) (R : SV→Prop) : (Qav Tryz.prog Zjh Qax Tryz.f99 [Qcy v f,Qcy u g] R) =
(((I64 (Qaa v))∧(I64 (Qaa v)))∧(((I64 (Qaa u))∧(I64 (Qaa u)))∧((((U64 (Qag (Qaa v) * Qag (Qaa v) % 18446744073709551616))∧(U64 (Qag (Qaa v) * Qag (Qaa v) / 18446744073709551616)))∧(((U64 (Qag (Qaa u) * Qag (Qaa u) % 18446744073709551616))∧(U64 (Qag (Qaa u) * Qag (Qaa u) / 18446744073709551616)))∧(((MM (Qag (Qaa v) * Qag (Qaa v) % 18446744073709551616) (Qag (Qaa v) * Qag (Qaa v) / 18446744073709551616) + MM (Qag (Qaa u) * Qag (Qaa u) % 18446744073709551616) (Qag (Qaa u) * Qag (Qaa u) / 18446744073709551616)) : Int) < 340282366920938463463374607431768211456)))∧(((U64 (plM (!decide (Qaa v < 0) == decide (Qaa v < 0)) (MM (Qag (Qaa v) * Qag (Qaa v) % 18446744073709551616) (Qag (Qaa v) * Qag (Qaa v) / 18446744073709551616)) (!decide (Qaa u < 0) == decide (Qaa u < 0)) (MM (Qag (Qaa u) * Qag (Qaa u) % 18446744073709551616) (Qag (Qaa u) * Qag (Qaa u) / 18446744073709551616)) % 18446744073709551616))∧(U64 (plM (!decide (Qaa v < 0) == decide (Qaa v < 0)) (MM (Qag (Qaa v) * Qag (Qaa v) % 18446744073709551616) (Qag (Qaa v) * Qag (Qaa v) / 18446744073709551616)) (!decide (Qaa u < 0) == decide (Qaa u < 0)) (MM (Qag (Qaa u) * Qag (Qaa u) % 18446744073709551616) (Qag (Qaa u) * Qag (Qaa u) / 18446744073709551616)) / 18446744073709551616)))∧((((isN [SV.v (.int .i64 (Qaa v)),SV.v (.bool (Qat v f))])∧((isN [SV.v (.int .i64 (Qaa u)),SV.v (.bool (Qat u g))])∧True))∧(((2 : Nat) = 2)∧((2 : Nat) < 4611686018427387904)))∧(((U64 (Qju v u))∧(U64 0))∧(R (SV.agg [(SV.v (.int .i64 (Ql3 false (MM (Qju v u) 0)))),(SV.v (.bool (Qkn (MM (Qju v u) 0) (Qry [[SV.v (.int .i64 (Qaa v)),SV.v (.bool (Qat v f))],[SV.v (.int .i64 (Qaa u)),SV.v (.bool (Qat u g))]]))))])))))))) := by kernel_rfl
@[reducible] noncomputable def Qhp (a : Int) (b : Int) (c : Int) (d : Int) := (plM (!decide (Qaa a < 0) == decide (Qaa b < 0)) (MM (Qag (Qaa a) * Qag (Qaa b) % 18446744073709551616) (Qag (Qaa a) * Qag (Qaa b) / 18446744073709551616)) (!decide (Qaa c < 0) == decide (Qaa d < 0)) (MM (Qag (Qaa c) * Qag (Qaa d) % 18446744073709551616) (Qag (Qaa c) * Qag (Qaa d) / 18446744073709551616)) % 18446744073709551616)
@[reducible] noncomputable def Qho (a : Int) (b : Int) (c : Int) (d : Int) := (plM (!decide (Qaa a < 0) == decide (Qaa b < 0)) (MM (Qag (Qaa a) * Qag (Qaa b) % 18446744073709551616) (Qag (Qaa a) * Qag (Qaa b) / 18446744073709551616)) (!decide (Qaa c < 0) == decide (Qaa d < 0)) (MM (Qag (Qaa c) * Qag (Qaa d) % 18446744073709551616) (Qag (Qaa c) * Qag (Qaa d) / 18446744073709551616)) / 18446744073709551616)
theorem Zla (a : Int) (fa : Bool) (b : Int) (fb : Bool) (c : Int) (fc : Bool) (d : Int) (fd : Bool) (R : SV→Prop) : (Qav Tryz.prog Zjh Qax Tryz.f154 [Qcy a fa,Qcy b fb,Qcy c fc,Qcy d fd] R) =
(((I64 (Qaa a))∧(I64 (Qaa b)))∧(((I64 (Qaa c))∧(I64 (Qaa d)))∧((((U64 (Qag (Qaa a) * Qag (Qaa b) % 18446744073709551616))∧(U64 (Qag (Qaa a) * Qag (Qaa b) / 18446744073709551616)))∧(((U64 (Qag (Qaa c) * Qag (Qaa d) % 18446744073709551616))∧(U64 (Qag (Qaa c) * Qag (Qaa d) / 18446744073709551616)))∧(((MM (Qag (Qaa a) * Qag (Qaa b) % 18446744073709551616) (Qag (Qaa a) * Qag (Qaa b) / 18446744073709551616) + MM (Qag (Qaa c) * Qag (Qaa d) % 18446744073709551616) (Qag (Qaa c) * Qag (Qaa d) / 18446744073709551616)) : Int) < 340282366920938463463374607431768211456)))∧(((U64 (Qhp a b c d))∧(U64 (Qho a b c d)))∧((((isN [SV.v (.int .i64 (Qaa a)),SV.v (.bool (Qat a fa))])∧((isN [SV.v (.int .i64 (Qaa b)),SV.v (.bool (Qat b fb))])∧((isN [SV.v (.int .i64 (Qaa c)),SV.v (.bool (Qat c fc))])∧((isN [SV.v (.int .i64 (Qaa d)),SV.v (.bool (Qat d fd))])∧True))))∧(((4 : Nat) = 4)∧((4 : Nat) < 4611686018427387904)))∧(((U64 (MM (Qhp a b c d) (Qho a b c d) / 4294967296 % 18446744073709551616))∧(U64 (MM (Qhp a b c d) (Qho a b c d) / 4294967296 / 18446744073709551616)))∧(R (SV.agg [(SV.v (.int .i64 (Ql3 (plN (!decide (Qaa a < 0) == decide (Qaa b < 0)) (MM (Qag (Qaa a) * Qag (Qaa b) % 18446744073709551616) (Qag (Qaa a) * Qag (Qaa b) / 18446744073709551616)) (!decide (Qaa c < 0) == decide (Qaa d < 0)) (MM (Qag (Qaa c) * Qag (Qaa d) % 18446744073709551616) (Qag (Qaa c) * Qag (Qaa d) / 18446744073709551616))) (MM (MM (Qhp a b c d) (Qho a b c d) / 4294967296 % 18446744073709551616) (MM (Qhp a b c d) (Qho a b c d) / 4294967296 / 18446744073709551616))))),(SV.v (.bool (Qkn (MM (MM (Qhp a b c d) (Qho a b c d) / 4294967296 % 18446744073709551616) (MM (Qhp a b c d) (Qho a b c d) / 4294967296 / 18446744073709551616)) (Qry [[SV.v (.int .i64 (Qaa a)),SV.v (.bool (Qat a fa))],[SV.v (.int .i64 (Qaa b)),SV.v (.bool (Qat b fb))],[SV.v (.int .i64 (Qaa c)),SV.v (.bool (Qat c fc))],[SV.v (.int .i64 (Qaa d)),SV.v (.bool (Qat d fd))]]))))])))))))) := by kernel_rfl
@[reducible] noncomputable def Qih (a : Int) (b : Int) (c : Int) (d : Int) := (MM (MM (plM (!decide (Qaa a < 0) == decide (Qaa b < 0)&&Qaa a != 0&&Qaa b != 0) (MM (Qag (Qaa a) * Qag (Qaa b) % 18446744073709551616) (Qag (Qaa a) * Qag (Qaa b) / 18446744073709551616)) (!decide (Qaa c < 0) == decide (Qaa d < 0)&&Qaa c != 0&&Qaa d != 0) (MM (Qag (Qaa c) * Qag (Qaa d) % 18446744073709551616) (Qag (Qaa c) * Qag (Qaa d) / 18446744073709551616)) % 18446744073709551616) (plM (!decide (Qaa a < 0) == decide (Qaa b < 0)&&Qaa a != 0&&Qaa b != 0) (MM (Qag (Qaa a) * Qag (Qaa b) % 18446744073709551616) (Qag (Qaa a) * Qag (Qaa b) / 18446744073709551616)) (!decide (Qaa c < 0) == decide (Qaa d < 0)&&Qaa c != 0&&Qaa d != 0) (MM (Qag (Qaa c) * Qag (Qaa d) % 18446744073709551616) (Qag (Qaa c) * Qag (Qaa d) / 18446744073709551616)) / 18446744073709551616) / 4294967296 % 18446744073709551616) (MM (plM (!decide (Qaa a < 0) == decide (Qaa b < 0)&&Qaa a != 0&&Qaa b != 0) (MM (Qag (Qaa a) * Qag (Qaa b) % 18446744073709551616) (Qag (Qaa a) * Qag (Qaa b) / 18446744073709551616)) (!decide (Qaa c < 0) == decide (Qaa d < 0)&&Qaa c != 0&&Qaa d != 0) (MM (Qag (Qaa c) * Qag (Qaa d) % 18446744073709551616) (Qag (Qaa c) * Qag (Qaa d) / 18446744073709551616)) % 18446744073709551616) (plM (!decide (Qaa a < 0) == decide (Qaa b < 0)&&Qaa a != 0&&Qaa b != 0) (MM (Qag (Qaa a) * Qag (Qaa b) % 18446744073709551616) (Qag (Qaa a) * Qag (Qaa b) / 18446744073709551616)) (!decide (Qaa c < 0) == decide (Qaa d < 0)&&Qaa c != 0&&Qaa d != 0) (MM (Qag (Qaa c) * Qag (Qaa d) % 18446744073709551616) (Qag (Qaa c) * Qag (Qaa d) / 18446744073709551616)) / 18446744073709551616) / 4294967296 / 18446744073709551616))
@[reducible] noncomputable def Qjt (a : Int) (b : Int) (c : Int) (d : Int) := ((U64 (MM (plM (!decide (Qaa a < 0) == decide (Qaa b < 0)&&Qaa a != 0&&Qaa b != 0) (MM (Qag (Qaa a) * Qag (Qaa b) % 18446744073709551616) (Qag (Qaa a) * Qag (Qaa b) / 18446744073709551616)) (!decide (Qaa c < 0) == decide (Qaa d < 0)&&Qaa c != 0&&Qaa d != 0) (MM (Qag (Qaa c) * Qag (Qaa d) % 18446744073709551616) (Qag (Qaa c) * Qag (Qaa d) / 18446744073709551616)) % 18446744073709551616) (plM (!decide (Qaa a < 0) == decide (Qaa b < 0)&&Qaa a != 0&&Qaa b != 0) (MM (Qag (Qaa a) * Qag (Qaa b) % 18446744073709551616) (Qag (Qaa a) * Qag (Qaa b) / 18446744073709551616)) (!decide (Qaa c < 0) == decide (Qaa d < 0)&&Qaa c != 0&&Qaa d != 0) (MM (Qag (Qaa c) * Qag (Qaa d) % 18446744073709551616) (Qag (Qaa c) * Qag (Qaa d) / 18446744073709551616)) / 18446744073709551616) / 4294967296 % 18446744073709551616))∧(U64 (MM (plM (!decide (Qaa a < 0) == decide (Qaa b < 0)&&Qaa a != 0&&Qaa b != 0) (MM (Qag (Qaa a) * Qag (Qaa b) % 18446744073709551616) (Qag (Qaa a) * Qag (Qaa b) / 18446744073709551616)) (!decide (Qaa c < 0) == decide (Qaa d < 0)&&Qaa c != 0&&Qaa d != 0) (MM (Qag (Qaa c) * Qag (Qaa d) % 18446744073709551616) (Qag (Qaa c) * Qag (Qaa d) / 18446744073709551616)) % 18446744073709551616) (plM (!decide (Qaa a < 0) == decide (Qaa b < 0)&&Qaa a != 0&&Qaa b != 0) (MM (Qag (Qaa a) * Qag (Qaa b) % 18446744073709551616) (Qag (Qaa a) * Qag (Qaa b) / 18446744073709551616)) (!decide (Qaa c < 0) == decide (Qaa d < 0)&&Qaa c != 0&&Qaa d != 0) (MM (Qag (Qaa c) * Qag (Qaa d) % 18446744073709551616) (Qag (Qaa c) * Qag (Qaa d) / 18446744073709551616)) / 18446744073709551616) / 4294967296 / 18446744073709551616)))
@[reducible] noncomputable def Qjs (a : Int) (b : Int) (c : Int) (d : Int) := (SV.v (.int .i64 (Ql3 (plZ (!decide (Qaa a < 0) == decide (Qaa b < 0)&&Qaa a != 0&&Qaa b != 0) (MM (Qag (Qaa a) * Qag (Qaa b) % 18446744073709551616) (Qag (Qaa a) * Qag (Qaa b) / 18446744073709551616)) (!decide (Qaa c < 0) == decide (Qaa d < 0)&&Qaa c != 0&&Qaa d != 0) (MM (Qag (Qaa c) * Qag (Qaa d) % 18446744073709551616) (Qag (Qaa c) * Qag (Qaa d) / 18446744073709551616))) (Qih a b c d))))
theorem Zf6 (a : Int) (fa : Bool) (b : Int) (fb : Bool) (c : Int) (fc : Bool) (d : Int) (fd : Bool) (R : SV→Prop) : (Qav Tryz.prog Zjh Qax Tryz.f240 [Qcy a fa,Qcy b fb,Qcy c fc,Qcy d fd] R) =
(((I64 (Qaa a))∧(I64 (Qaa b)))∧(((I64 (Qaa c))∧(I64 (Qaa d)))∧((((U64 (Qag (Qaa a) * Qag (Qaa b) % 18446744073709551616))∧(U64 (Qag (Qaa a) * Qag (Qaa b) / 18446744073709551616)))∧(((U64 (Qag (Qaa c) * Qag (Qaa d) % 18446744073709551616))∧(U64 (Qag (Qaa c) * Qag (Qaa d) / 18446744073709551616)))∧(((MM (Qag (Qaa a) * Qag (Qaa b) % 18446744073709551616) (Qag (Qaa a) * Qag (Qaa b) / 18446744073709551616) + MM (Qag (Qaa c) * Qag (Qaa d) % 18446744073709551616) (Qag (Qaa c) * Qag (Qaa d) / 18446744073709551616)) : Int) < 340282366920938463463374607431768211456)))∧(((U64 (plM (!decide (Qaa a < 0) == decide (Qaa b < 0)&&Qaa a != 0&&Qaa b != 0) (MM (Qag (Qaa a) * Qag (Qaa b) % 18446744073709551616) (Qag (Qaa a) * Qag (Qaa b) / 18446744073709551616)) (!decide (Qaa c < 0) == decide (Qaa d < 0)&&Qaa c != 0&&Qaa d != 0) (MM (Qag (Qaa c) * Qag (Qaa d) % 18446744073709551616) (Qag (Qaa c) * Qag (Qaa d) / 18446744073709551616)) % 18446744073709551616))∧(U64 (plM (!decide (Qaa a < 0) == decide (Qaa b < 0)&&Qaa a != 0&&Qaa b != 0) (MM (Qag (Qaa a) * Qag (Qaa b) % 18446744073709551616) (Qag (Qaa a) * Qag (Qaa b) / 18446744073709551616)) (!decide (Qaa c < 0) == decide (Qaa d < 0)&&Qaa c != 0&&Qaa d != 0) (MM (Qag (Qaa c) * Qag (Qaa d) % 18446744073709551616) (Qag (Qaa c) * Qag (Qaa d) / 18446744073709551616)) / 18446744073709551616)))∧(sel (Qat a fa) ((Qjt a b c d)∧(R (SV.agg [(Qjs a b c d),(SV.v (.bool (Qkn (Qih a b c d) true)))]))) (sel (Qat b fb) ((Qjt a b c d)∧(R (SV.agg [(Qjs a b c d),(SV.v (.bool (Qkn (Qih a b c d) true)))]))) (sel (Qat c fc) ((Qjt a b c d)∧(R (SV.agg [(Qjs a b c d),(SV.v (.bool (Qkn (Qih a b c d) true)))]))) ((Qjt a b c d)∧(R (SV.agg [(Qjs a b c d),(SV.v (.bool (Qkn (Qih a b c d) (Qat d fd))))])))))))))) := by kernel_rfl
theorem Q6a : U64 0 := ⟨by decide, by decide⟩
theorem Qvx (m : Int) : sv false m = m := by simp [sv]
theorem Zdj {t : Int} (h0 : 0 ≤ t) (h1 : t < 36893488147419103232) : bits .or .u64 (t % 18446744073709551616 / 2) (IntKind.u64.wrap (t / 18446744073709551616 * 9223372036854775808)) = t / 2 := by
 have e : IntKind.u64.wrap (t / 18446744073709551616 * 9223372036854775808) = t / 18446744073709551616 * 9223372036854775808 := Qdm ⟨by omega, by omega⟩
 rw [e, u64_or _ _ (by omega) (by omega) (by omega) (by omega), Nat.or_comm, nat_join 63 _ _ (by omega) (by omega)]
 omega
theorem Qr9 {lo hi : Int} (h1 : U64 lo) (h2 : U64 hi) (hpos : 0 < MM lo hi) : ∀ x : Int, (isq (MM lo hi) ≤ x ∧ 0 < x ∧ x < 18446744073709551616) → sel (decide (hi ≥ x)) (SV.v (.int .u64 x) = SV.v (.int .u64 (isq (MM lo hi)))) ((U64 hi ∧ U64 lo ∧ U64 x ∧ hi < x) ∧
   sel (decide (MM lo hi / x ≥ x)) (SV.v (.int .u64 x) = SV.v (.int .u64 (isq (MM lo hi)))) ((U64 x ∧ U64 (MM lo hi / x) ∧ (0 : Int) ≤ 0 ∧ (0 : Int) ≤ 1) ∧ ∃ x' : Int, ((isq (MM lo hi) ≤ x' ∧ 0 < x' ∧ x' < 18446744073709551616) ∧
     (SV.v (.int .u64 (bits .or .u64 ((x + MM lo hi / x + 0) % 18446744073709551616 / 2) (IntKind.u64.wrap ((x + MM lo hi / x + 0) / 18446744073709551616 * 9223372036854775808)))) = SV.v (.int .u64 x')) ∧ True) ∧ x'.toNat < x.toNat)) := by
 intro x ⟨x1, x2, x3⟩
 have m0 := Qkl h1 h2
 have m1 := Zeg h1 h2
 have hM : MM lo hi = hi * 18446744073709551616 + lo := rfl
 obtain ⟨l0, l1⟩ := h1
 obtain ⟨i0, i1⟩ := h2
 refine Qad (fun g => ?_) fun g => ?_
 · have g := of_decide_eq_true g
   refine Qbh (Qo7 m0 m1 x1 ?_)
   have a1 : x * x ≤ hi * x := Int.mul_le_mul_of_nonneg_right g (by omega)
   have a2 : hi * x ≤ hi * 18446744073709551616 := Int.mul_le_mul_of_nonneg_left (by omega) i0
   omega
 · have g := of_decide_eq_false g
   have q0 : 0 ≤ MM lo hi / x := Int.ediv_nonneg m0 (by omega)
   have q1 : MM lo hi / x < 18446744073709551616 := Int.ediv_lt_of_lt_mul x2 (by
     have : hi + 1 ≤ x := by omega
     have := Int.mul_le_mul_of_nonneg_left this (show (0 : Int) ≤ 18446744073709551616 by decide)
     omega)
   refine ⟨⟨⟨i0, i1⟩, ⟨l0, l1⟩, ⟨by omega, x3⟩, by omega⟩, Qad (fun g' => ?_) fun g' => ?_⟩
   · have g' := of_decide_eq_true g'
     refine Qbh (Qo7 m0 m1 x1 ?_)
     have a1 := Int.mul_le_of_le_ediv x2 g'
     exact a1
   · have g' := of_decide_eq_false g'
     have n1 := Quq m0 m1 x2
     have n0 : 0 ≤ MM lo hi / x := q0
     rw [Int.add_zero, Zdj (by omega) (by omega)]
     refine ⟨⟨⟨by omega, x3⟩, ⟨q0, q1⟩, by decide, by decide⟩, (x + MM lo hi / x) / 2, ⟨⟨n1, ?_, by omega⟩, rfl, trivial⟩, by omega⟩
     rcases Int.lt_or_le 0 ((x + MM lo hi / x) / 2) with h | h
     · exact h
     · exfalso
       have hx : x = 1 := by omega
       subst hx
       rw [Int.ediv_one] at g' h
       omega
theorem Qo2 {m L : Int} {A : Prop} (hm0 : 0 < m) (hm1 : m < 340282366920938463463374607431768211456) (hL0 : 0 ≤ L) (hL1 : L ≤ 128) (hL : m < 2 ^ L.toNat) (hA : A) : sel (decide (IntKind.i64.wrap (Int.tdiv (IntKind.i64.wrap (L + 1)) 2) < 64))
   ((0 : Int) ≤ IntKind.i64.wrap (Int.tdiv (IntKind.i64.wrap (L + 1)) 2) ∧ (∃ x : Int, (isq m ≤ x ∧ 0 < x ∧ x < 18446744073709551616) ∧ (SV.v (.int .u64 (IntKind.u64.wrap (1 * 2 ^ min (Int.toNat (IntKind.i64.wrap (Int.tdiv (IntKind.i64.wrap (L + 1)) 2))) 64))) = SV.v (.int .u64 x)) ∧ True) ∧ A)
   ((∃ x : Int, (isq m ≤ x ∧ 0 < x ∧ x < 18446744073709551616) ∧ (SV.v (.int .u64 18446744073709551615) = SV.v (.int .u64 x)) ∧ True) ∧ A) := by
 have e : IntKind.i64.wrap (Int.tdiv (IntKind.i64.wrap (L + 1)) 2) = (L + 1) / 2 := by
   rw [Qaf (n := L + 1) ⟨by omega, by omega⟩, Int.tdiv_eq_ediv_of_nonneg (by omega), Qaf ⟨by omega, by omega⟩]
 rw [e]
 refine Qad (fun g => ?_) fun g => ?_
 · have g := of_decide_eq_true g
   rw [Nat.min_eq_left (by omega)]
   have p := Qt7 ((L + 1) / 2).toNat
   have p2 : (2 : Int) ^ ((L + 1) / 2).toNat ≤ 2 ^ 63 := by exact_mod_cast Nat.pow_le_pow_right (by decide) (by omega)
   have p2 : (2 : Int) ^ ((L + 1) / 2).toNat ≤ 9223372036854775808 := p2
   rw [Int.one_mul, Qdm ⟨by omega, by omega⟩]
   exact ⟨by omega, ⟨_, ⟨Q6p (by omega) hL (by omega) hm1, p, by omega⟩, rfl, trivial⟩, hA⟩
 · have := (Qnr (m := m) (by omega) hm1).2.1
   exact ⟨⟨_, ⟨by omega, by decide, by decide⟩, rfl, trivial⟩, hA⟩
theorem Q9k {lo : Int} (h : U64 lo) (h0 : lo ≠ 0) : 0 ≤ Qc8 lo ∧ Qc8 lo ≤ 64 ∧ lo < 2 ^ (Qc8 lo).toNat := by
 obtain ⟨a, b⟩ := Qut h
 obtain ⟨n, e, l1, l2⟩ := Qnp (x := lo) (by have := h.1; omega)
 refine ⟨a, b, ?_⟩
 rw [e]
 have : ((n : Int) + 1).toNat = n + 1 := by omega
 rw [this]; exact l2
theorem Zia {lo hi : Int} (h1 : U64 lo) (h2 : U64 hi) (h0 : hi ≠ 0) : 0 ≤ 64 + Qc8 hi ∧ 64 + Qc8 hi ≤ 128 ∧ MM lo hi < 2 ^ (64 + Qc8 hi).toNat := by
 obtain ⟨a, b, c⟩ := Q9k h2 h0
 refine ⟨by omega, by omega, ?_⟩
 rw [show (64 + Qc8 hi).toNat = (Qc8 hi).toNat + 64 by omega, Int.pow_add]
 generalize (2 : Int) ^ (Qc8 hi).toNat = p at *
 have e : (2 : Int) ^ 64 = 18446744073709551616 := by decide
 rw [e]
 obtain ⟨_, _⟩ := h1
 unfold MM
 have : (hi + 1) * 18446744073709551616 ≤ p * 18446744073709551616 := Int.mul_le_mul_of_nonneg_right (by omega) (by decide)
 omega
theorem Zat : ∀ f g, ΓR0 f = some g → g.ok Tryz.prog f := Qab Qzm (Qal Tryz.func223 (by kernel_rfl) (by kernel_rfl) Qpu)
theorem Q34 : Qai Tryz.prog 168 Zcd := Qao hm Zat Tryz.func168 (Λ := fun args => match args with | [.agg [.v (.int .u64 lo), .v (.int .u64 hi)]] => Q8p (MM lo hi) | _ => Qax) fun args p x h hp => by
 unfold Zcd at h
 split at h <;> try (cases h; done)
 rename_i lo hi
 cases h
 obtain ⟨h1, h2⟩ := hp _ rfl
 refine ⟨rfl, rfl, ?_⟩
 refine Eq.mpr (Zfw (MM lo hi) lo hi _) ?_
 have m1 := Zeg h1 h2
 have m0 := Qkl h1 h2
 have hM : MM lo hi = hi * 18446744073709551616 + lo := rfl
 have tail : ∀ {A : Prop}, 0 < MM lo hi → A → U64 lo ∧ sel (hi != 0) (U64 hi ∧ sel (decide (IntKind.i64.wrap (Int.tdiv (IntKind.i64.wrap (IntKind.i64.wrap (64 + Qc8 hi) + 1)) 2) < 64))
   ((0 : Int) ≤ IntKind.i64.wrap (Int.tdiv (IntKind.i64.wrap (IntKind.i64.wrap (64 + Qc8 hi) + 1)) 2) ∧ (∃ x : Int, (isq (MM lo hi) ≤ x ∧ 0 < x ∧ x < 18446744073709551616) ∧ (SV.v (.int .u64 (IntKind.u64.wrap (1 * 2 ^ min (Int.toNat (IntKind.i64.wrap (Int.tdiv (IntKind.i64.wrap (IntKind.i64.wrap (64 + Qc8 hi) + 1)) 2))) 64))) = SV.v (.int .u64 x)) ∧ True) ∧ A)
   ((∃ x : Int, (isq (MM lo hi) ≤ x ∧ 0 < x ∧ x < 18446744073709551616) ∧ (SV.v (.int .u64 18446744073709551615) = SV.v (.int .u64 x)) ∧ True) ∧ A)) (sel (decide (IntKind.i64.wrap (Int.tdiv (IntKind.i64.wrap (Qc8 lo + 1)) 2) < 64))
   ((0 : Int) ≤ IntKind.i64.wrap (Int.tdiv (IntKind.i64.wrap (Qc8 lo + 1)) 2) ∧ (∃ x : Int, (isq (MM lo hi) ≤ x ∧ 0 < x ∧ x < 18446744073709551616) ∧ (SV.v (.int .u64 (IntKind.u64.wrap (1 * 2 ^ min (Int.toNat (IntKind.i64.wrap (Int.tdiv (IntKind.i64.wrap (Qc8 lo + 1)) 2))) 64))) = SV.v (.int .u64 x)) ∧ True) ∧ A)
   ((∃ x : Int, (isq (MM lo hi) ≤ x ∧ 0 < x ∧ x < 18446744073709551616) ∧ (SV.v (.int .u64 18446744073709551615) = SV.v (.int .u64 x)) ∧ True) ∧ A)) := by
   intro A hpos hA
   refine ⟨h1, Qad (fun g => ?_) fun g => ?_⟩
   · have g : hi ≠ 0 := by simpa using g
     obtain ⟨a, b, c⟩ := Zia h1 h2 g
     rw [Qaf (n := 64 + Qc8 hi) ⟨by omega, by omega⟩]
     exact ⟨h2, Qo2 hpos m1 a b c hA⟩
   · have g : hi = 0 := by simpa using g
     subst g
     rw [Q99] at *
     obtain ⟨a, b, c⟩ := Q9k h1 (by omega)
     exact Qo2 hpos m1 a (by omega) c hA
 refine Qad (fun g => Qad (fun g' => ?_) fun g' => ?_) fun g => ?_
 · have g : hi = 0 := by simpa using g
   have g' : lo = 0 := by simpa using g'
   subst g g'
   exact Qbh (by decide +kernel)
 · have g' : lo ≠ 0 := by simpa using g'
   exact tail (by have := h1.1; have := h2.1; omega) (Qr9 h1 h2 (by have := h1.1; have := h2.1; omega))
 · have g : hi ≠ 0 := by simpa using g
   exact tail (by have := h1.1; have := h2.1; omega) (Qr9 h1 h2 (by have := h1.1; have := h2.1; omega))
theorem Qtx : ∀ f g, Zjh f = some g → g.ok Tryz.prog f := Qab (Qab Qde (Qal Tryz.func168 (by kernel_rfl) (by kernel_rfl) Q34)) (Qdc Tryz.func78 (by kernel_rfl) (by kernel_rfl) Qpv)
theorem Q16 (a b c d : Int) : plM (!(decide (a < 0) == decide (b < 0))) (Qag a * Qag b) (!(decide (c < 0) == decide (d < 0))) (Qag c * Qag d) = Qag (a * b + c * d) := by rw [Q17 Qcx Qcx, Qgq, Qgq]
theorem Q15 (a b c d : Int) : plM (!(decide (a < 0) == decide (b < 0)) && a != 0 && b != 0) (Qag a * Qag b) (!(decide (c < 0) == decide (d < 0)) && c != 0 && d != 0) (Qag c * Qag d) = Qag (a * b + c * d) := by rw [Q17 Qcx Qcx, Qjy, Qjy]
theorem Qbu (a : Int) : 0 ≤ a * a := by
 rcases Int.le_total 0 a with h | h
 · exact Int.mul_nonneg h h
 · have := Int.mul_nonneg (show 0 ≤ -a by omega) (show 0 ≤ -a by omega); rwa [Int.neg_mul_neg] at this
theorem Zdi (a : Int) : Qag a * Qag a = a * a := by unfold Qag; split; rw [Int.neg_mul_neg]; rfl
theorem Zie {a b : Int} (ha : I64 a) (hb : I64 b) : 0 ≤ a * a + b * b ∧ a * a + b * b ≤ 170141183460469231731687303715884105728 := by
 have h1 := Qck ha ha
 have h2 := Qck hb hb
 rw [Zdi] at h1 h2
 have := Qbu a
 have := Qbu b
 omega
theorem Qy8 : Qai Tryz.prog 99 Q88 := Qao hm Qtx Tryz.func99 (Λ := fun _ => Qax) fun args p x h hp => by
 unfold Q88 at h
 split at h <;> try (cases h; done)
 rename_i v f u g
 cases h
 obtain ⟨h1, h2⟩ := hp _ rfl
 have h1 := Qcd h1
 have h2 := Qcd h2
 refine ⟨rfl, rfl, ?_⟩
 refine Eq.mpr (Zbr v f u g _) ?_
 repeat (first | unfold Qju)
 refine ?_
 simp only [Qdk, Q99, Q16]
 have l1 := Qck h1 h1
 have l2 := Qck h2 h2
 have n1 := Qcx (a := Qaa v) (b := Qaa v)
 have n2 := Qcx (a := Qaa u) (b := Qaa u)
 obtain ⟨y0, y1⟩ := Zie h1 h2
 have ea : Qag (Qaa v * Qaa v + Qaa u * Qaa u) = Qaa v * Qaa v + Qaa u * Qaa u := Qee (by omega)
 rw [ea]
 obtain ⟨a, b, _, _⟩ := Qnr y0 (by omega)
 refine ⟨⟨h1, h1⟩, ⟨h2, h2⟩, ⟨⟨Qb7 _, Qcn n1 (by omega)⟩, ⟨Qb7 _, Qcn n2 (by omega)⟩, by omega⟩, ⟨Qb7 _, Qcn y0 (by omega)⟩, ⟨⟨trivial, trivial, trivial⟩, trivial, by decide⟩, ⟨⟨a, b⟩, Q6a⟩, Qbz ?_ ?_⟩
 · rw [Qha false a, Qvx]; rfl
 · rw [Qhb false _ a, Qvx]; simp [Qry, Qfc, Zjz]
theorem Zil (a b c d : Int) : sv (plN (!(decide (a < 0) == decide (b < 0))) (Qag a * Qag b) (!(decide (c < 0) == decide (d < 0))) (Qag c * Qag d)) (Qag (a * b + c * d)) = a * b + c * d := by rw [← Q16, Zc5, Qgq, Qgq]
theorem Zdt (a b c d : Int) : sv (plZ (!(decide (a < 0) == decide (b < 0)) && a != 0 && b != 0) (Qag a * Qag b) (!(decide (c < 0) == decide (d < 0)) && c != 0 && d != 0) (Qag c * Qag d)) (Qag (a * b + c * d)) = a * b + c * d := by
 rw [← Q15]
 have key := Zc5 (!(decide (a < 0) == decide (b < 0)) && a != 0 && b != 0) (Qag a * Qag b) (!(decide (c < 0) == decide (d < 0)) && c != 0 && d != 0) (Qag c * Qag d)
 rw [Qjy, Qjy] at key
 rw [← key]
 generalize (!(decide (a < 0) == decide (b < 0)) && a != 0 && b != 0) = n1
 generalize (!(decide (c < 0) == decide (d < 0)) && c != 0 && d != 0) = n2
 generalize Qag a * Qag b = m1
 generalize Qag c * Qag d = m2
 unfold plZ plN
 by_cases hn : n1 = n2
 · simp only [if_pos hn]
 · simp only [if_neg hn]
   by_cases hm : m1 < m2
   · simp only [if_pos hm]
   · simp only [if_neg hm]
     by_cases he : m1 = m2
     · have e0 : plM n1 m1 n2 m2 = 0 := by unfold plM; rw [if_neg hn, he, Int.sub_self]; rfl
       rw [e0]
       have z : ∀ n, sv n 0 = 0 := fun n => by cases n <;> rfl
       rw [z, z]
     · have e : (m1 != m2) = true := bne_iff_ne.2 he
       rw [e, Bool.and_true]
theorem Q25 {a b c d : Int} (ha : I64 a) (hb : I64 b) (hc : I64 c) (hd : I64 d) : 0 ≤ Qag (a * b + c * d) ∧ Qag (a * b + c * d) ≤ 170141183460469231731687303715884105728 := by
 have h1 := Qck ha hb
 have h2 := Qck hc hd
 refine ⟨Qb2 _, ?_⟩
 have e := Q17 (n1 := !(decide (a < 0) == decide (b < 0))) (n2 := !(decide (c < 0) == decide (d < 0))) (Qcx (a := a) (b := b)) (Qcx (a := c) (b := d))
 rw [Qgq, Qgq] at e
 rw [← e]
 have n1 := Qcx (a := a) (b := b)
 have n2 := Qcx (a := c) (b := d)
 generalize Qag a * Qag b = x at *
 generalize Qag c * Qag d = y at *
 unfold plM Qag
 split <;> (try split) <;> omega
theorem Q8h : Qai Tryz.prog 154 Zjq := Qao hm Qtx Tryz.func154 (Λ := fun _ => Qax) fun args p x h hp => by
 unfold Zjq at h
 split at h <;> try (cases h; done)
 rename_i a fa b fb c fc d fd
 cases h
 obtain ⟨⟨ha, hb⟩, hc, hd⟩ := hp _ rfl
 have ha := Qcd ha
 have hb := Qcd hb
 have hc := Qcd hc
 have hd := Qcd hd
 refine ⟨rfl, rfl, ?_⟩
 refine Eq.mpr (Zla a fa b fb c fc d fd _) ?_
 repeat (first | unfold Qho | unfold Qhp)
 refine ?_
 simp only [Qdk, Q16]
 have l1 := Qck ha hb
 have l2 := Qck hc hd
 have n1 := Qcx (a := Qaa a) (b := Qaa b)
 have n2 := Qcx (a := Qaa c) (b := Qaa d)
 obtain ⟨y0, y1⟩ := Q25 ha hb hc hd
 have es := Zil (Qaa a) (Qaa b) (Qaa c) (Qaa d)
 have e : ∀ n, sv n (Qag (Qaa a * Qaa b + Qaa c * Qaa d)) = Qaa a * Qaa b + Qaa c * Qaa d → sv n (Qag (Qaa a * Qaa b + Qaa c * Qaa d) / 4294967296) = Qyc (Qaa a) (Qaa b) (Qaa c) (Qaa d) := fun n h => by rw [Qp9 n y0, h]; rfl
 refine ⟨⟨ha, hb⟩, ⟨hc, hd⟩, ⟨⟨Qb7 _, Qcn n1 (by omega)⟩, ⟨Qb7 _, Qcn n2 (by omega)⟩, by omega⟩, ⟨Qb7 _, Qcn y0 (by omega)⟩, ⟨⟨trivial, trivial, trivial, trivial, trivial⟩, trivial, by decide⟩, ⟨Qb7 _, Qcn (by omega) (by omega)⟩, Qbz ?_ ?_⟩
 · rw [Qha _ (by omega), e _ es]
 · rw [Qhb _ _ (by omega), e _ es]; simp [Qry, Qfc, Bool.or_assoc]
theorem Q4a : Qai Tryz.prog 240 Zjq := Qao hm Qtx Tryz.func240 (Λ := fun _ => Qax) fun args p x h hp => by
 unfold Zjq at h
 split at h <;> try (cases h; done)
 rename_i a fa b fb c fc d fd
 cases h
 obtain ⟨⟨ha, hb⟩, hc, hd⟩ := hp _ rfl
 have ha := Qcd ha
 have hb := Qcd hb
 have hc := Qcd hc
 have hd := Qcd hd
 refine ⟨rfl, rfl, ?_⟩
 refine Eq.mpr (Zf6 a fa b fb c fc d fd _) ?_
 repeat (first | unfold Qjs | unfold Qjt | unfold Qih)
 refine ?_
 simp only [Qdk, Q15]
 have l1 := Qck ha hb
 have l2 := Qck hc hd
 have n1 := Qcx (a := Qaa a) (b := Qaa b)
 have n2 := Qcx (a := Qaa c) (b := Qaa d)
 obtain ⟨y0, y1⟩ := Q25 ha hb hc hd
 have es := Zdt (Qaa a) (Qaa b) (Qaa c) (Qaa d)
 have e : ∀ n, sv n (Qag (Qaa a * Qaa b + Qaa c * Qaa d)) = Qaa a * Qaa b + Qaa c * Qaa d → sv n (Qag (Qaa a * Qaa b + Qaa c * Qaa d) / 4294967296) = Qyc (Qaa a) (Qaa b) (Qaa c) (Qaa d) := fun n h => by rw [Qp9 n y0, h]; rfl
 have fin : ∀ fl, fl = ((Qat a fa || Qat b fb) || (Qat c fc || Qat d fd)) → (U64 (Qag (Qaa a * Qaa b + Qaa c * Qaa d) / 4294967296 % 18446744073709551616) ∧ U64 (Qag (Qaa a * Qaa b + Qaa c * Qaa d) / 4294967296 / 18446744073709551616)) ∧ SV.agg [SV.v (.int .i64 (Ql3 (plZ (!(decide (Qaa a < 0) == decide (Qaa b < 0)) && Qaa a != 0 && Qaa b != 0) (Qag (Qaa a) * Qag (Qaa b)) (!(decide (Qaa c < 0) == decide (Qaa d < 0)) && Qaa c != 0 && Qaa d != 0) (Qag (Qaa c) * Qag (Qaa d))) (Qag (Qaa a * Qaa b + Qaa c * Qaa d) / 4294967296))), SV.v (.bool (Qkn (Qag (Qaa a * Qaa b + Qaa c * Qaa d) / 4294967296) fl))] = Qcy (Qas (Qyc (Qaa a) (Qaa b) (Qaa c) (Qaa d))) (Qc9 (Qyc (Qaa a) (Qaa b) (Qaa c) (Qaa d)) ((Qat a fa || Qat b fb) || (Qat c fc || Qat d fd))) := by
   intro fl hf
   refine ⟨⟨Qb7 _, Qcn (by omega) (by omega)⟩, Qbz ?_ ?_⟩
   · rw [Qha _ (by omega), e _ es]
   · rw [Qhb _ _ (by omega), e _ es, hf]
 refine ⟨⟨ha, hb⟩, ⟨hc, hd⟩, ⟨⟨Qb7 _, Qcn n1 (by omega)⟩, ⟨Qb7 _, Qcn n2 (by omega)⟩, by omega⟩, ⟨Qb7 _, Qcn y0 (by omega)⟩, ?_⟩
 exact Qad (fun g1 => fin _ (by rw [g1]; simp)) fun g1 => Qad (fun g2 => fin _ (by simp [g1, g2])) fun g2 => Qad (fun g3 => fin _ (by simp [g1, g2, g3])) fun g3 => fin _ (by simp [g1, g2, g3])
end Go.Proofs.YteekigmbopdfjaaGreat
end
section
namespace Go.Proofs.YteekigmbopdfjaaGreat
open Go.SE
structure NB where
 v : Int
 f : Bool
def nS (a : NB) : SV := Qcy a.v a.f
def snd (a : NB) : NB := ⟨Qaa a.v, Qat a.v a.f⟩
def Qra (e : Int) (f : Bool) : NB := ⟨Qas e, Qc9 e f⟩
def Qfx (n : Int) : NB := Qra (n * 4294967296) false
def Qc1 (a : NB) : NB := ⟨-Qaa a.v, Qat a.v a.f⟩
def Qyj (a : NB) : NB := ⟨Qag (Qaa a.v), Qat a.v a.f⟩
def Qzh (a b : NB) : NB := Qra (Qaa a.v + Qaa b.v) (Qat a.v a.f || Qat b.v b.f)
def Q6f (a b : NB) : NB := Qra (Qaa a.v - Qaa b.v) (Qat a.v a.f || Qat b.v b.f)
def Qdg (a b : NB) : NB := Qra (Qa1 (Qaa a.v) (Qaa b.v)) (Qat a.v a.f || Qat b.v b.f)
def Qa2 (a b : Int) : NB := ⟨Qdd a b, Qjf a b⟩
def Qdh (a b : NB) : NB := ⟨Qdd (Qaa a.v) (Qaa b.v), Qjf (Qaa a.v) (Qaa b.v) || (Qat a.v a.f || Qat b.v b.f)⟩
def Q5d (a : NB) : NB := ⟨Qau (Qaa a.v), Qat a.v a.f⟩
def Qpl (x l h : NB) : NB := ⟨Qnm (Qaa l.v) (Qlr (Qaa x.v) (Qaa h.v)), Qat l.v l.f || (Qat x.v x.f || Qat h.v h.f)⟩
def Qrv (a b : NB) : NB := Qra (Zjz (Qaa a.v) (Qaa b.v)) (Qat a.v a.f || Qat b.v b.f)
def Qcl (a b c d : NB) : NB := Qra (Qyc (Qaa a.v) (Qaa b.v) (Qaa c.v) (Qaa d.v)) ((Qat a.v a.f || Qat b.v b.f) || (Qat c.v c.f || Qat d.v d.f))
def Qh6 (v : Int) : Int := if v > 6746518852 then 13493037704 - v else if v < -6746518852 then -13493037704 - v else v
def Zmb (a : NB) : NB := ⟨Qh6 a.v, a.f⟩
def Qgp (y t : NB) (k : Nat) : NB := Qc1 (Qdh (Qdg (Qdg t y) y) (Qfx ((2 * (k + 1)) * (2 * (k + 1) + 1))))
def Qba (y : NB) : Nat → NB
 | 0 => y
 | k + 1 => Qgp y (Qba y k) k
def Qb9 (y : NB) : Nat → NB
 | 0 => y
 | k + 1 => Qzh (Qb9 y k) (Qba y (k + 1))
def Qm4 (a : NB) : NB := Zmb (Q5d a)
def Qi0 (a : NB) : NB := Qpl (Qb9 (Qm4 a) 8) ⟨-4294967296, false⟩ ⟨4294967296, false⟩
def Ql6 (a : NB) : NB := Qi0 (Qzh (Q5d a) ⟨6746518852, false⟩)
def Sd (v : Int) : Prop := -9223372036854775807 ≤ v ∧ v ≤ 9223372036854775807
theorem Sd.i64 {v : Int} (h : Sd v) : I64 v := by obtain ⟨_, _⟩ := h; exact ⟨by omega, by omega⟩
theorem Sd.self {v : Int} (h : Sd v) : Qaa v = v := Qcf h.1
theorem Sd.flag {v : Int} {f : Bool} (h : Sd v) : Qat v f = f := Qcr h.1
theorem Q0y {v : Int} (h : I64 v) : Sd (Qaa v) := Qei h
theorem Qbk (e : Int) : Sd (Qas e) := by unfold Qas; constructor <;> (repeat' split) <;> omega
theorem Q6y (a : Int) : Sd (Qni a) := by unfold Qni; constructor <;> (repeat' split) <;> omega
theorem Qfv (a b : Int) : Sd (Qdd a b) := by unfold Qdd; split; exact Q6y a; exact Qbk _
theorem Q2i {v : Int} (h : Sd v) : Sd (-v) := by obtain ⟨_, _⟩ := h; exact ⟨by omega, by omega⟩
theorem Qf1 {v : Int} : -13493037704 ≤ Qau v ∧ Qau v ≤ 13493037704 := by
 have h1 := Int.tmod_lt_of_pos v (show (0 : Int) < 26986075409 by decide)
 have h2 : -26986075409 < Int.tmod v 26986075409 := by
   have := Int.neg_tmod v 26986075409
   have h3 := Int.tmod_lt_of_pos (-v) (show (0 : Int) < 26986075409 by decide)
   omega
 unfold Qau
 constructor <;> (repeat' split) <;> omega
theorem Q7a {v : Int} (h : -13493037704 ≤ v ∧ v ≤ 13493037704) : -6746518852 ≤ Qh6 v ∧ Qh6 v ≤ 6746518852 := by obtain ⟨_, _⟩ := h; unfold Qh6; constructor <;> (repeat' split) <;> omega
theorem Q01 (a : NB) : -6746518852 ≤ (Qm4 a).v ∧ (Qm4 a).v ≤ 6746518852 := Q7a Qf1
theorem Q00 (a : NB) : Sd (Qm4 a).v := by have := Q01 a; exact ⟨by omega, by omega⟩
theorem Qe5 {y : NB} (h : Sd y.v) : ∀ k, Sd (Qba y k).v
 | 0 => h
 | k + 1 => Q2i (by
     have := Qfv (Qaa (Qdg (Qdg (Qba y k) y) y).v) (Qaa (Qfx ((2 * ((k : Int) + 1)) * (2 * ((k : Int) + 1) + 1))).v)
     show Sd (Qaa (Qdd _ _))
     rw [this.self]; exact this)
theorem Qks {y : NB} (h : Sd y.v) : ∀ k, Sd (Qb9 y k).v
 | 0 => h
 | _ + 1 => Qbk _
theorem Q3f (x : NB) : -4294967296 ≤ (Qpl x ⟨-4294967296, false⟩ ⟨4294967296, false⟩).v ∧ (Qpl x ⟨-4294967296, false⟩ ⟨4294967296, false⟩).v ≤ 4294967296 := by
 have e1 : Qaa (-4294967296) = -4294967296 := by decide
 have e2 : Qaa 4294967296 = 4294967296 := by decide
 show -4294967296 ≤ Qnm (Qaa (-4294967296)) (Qlr (Qaa x.v) (Qaa 4294967296)) ∧ Qnm (Qaa (-4294967296)) (Qlr (Qaa x.v) (Qaa 4294967296)) ≤ 4294967296
 rw [e1, e2]
 unfold Qnm Qlr
 constructor <;> (repeat' split) <;> omega
theorem Quc (a : NB) : -4294967296 ≤ (Qi0 a).v ∧ (Qi0 a).v ≤ 4294967296 := Q3f _
end Go.Proofs.YteekigmbopdfjaaGreat
end
section
namespace Go.Proofs.YteekigmbopdfjaaGreat
open Go.SE Go.RowKit
def Zjg : Qb8 := Qah (Qah (Qah (Qah (Qah (Qah (Qah (Qah (Qah (Qah (Qah (Qah (Qah (Qah ΓC 228 (Qaj Qxw)) 16 (Qaj Zes)) 63 (Qaj Zet)) 156 (Qaj Zeu)) 155 (Qaj Q87)) 205 (Qaj Zex)) 150 (Qaj Qm8)) 234 (Qaj Qxw)) 236 (Qaj Zes)) 218 (Qaj Zet)) 219 (Qaj Zeu)) 235 (Qaj Q87)) 233 (Qaj Zex)) 237 (Qaj Qm8)
def Zeo : List SV → Option (Option Prop × SV)
 | [.agg [.v (.int .i64 v), .v (.bool f)]] => some (some (I64 v), nS (Qi0 ⟨v, f⟩))
 | _ => none
def Zjr : List SV → Option (Option Prop × SV)
 | [.agg [.v (.int .i64 v), .v (.bool f)]] => some (some (I64 v), nS (Ql6 ⟨v, f⟩))
 | _ => none
def vN (a : NB) : Blk := Qdz 30 [.v (.int .i64 a.v), .v (.bool a.f)]
noncomputable def Ze7 (y : NB) : Nat → Option LoopSpec := Qyi (Qcp Qax Tryz.f158 1 Nat (fun k => k ≤ 8) (fun k => 8 - k) [(28, fun k => .v (.int .i64 k))] [(272, fun k => vN (Qba y k)), (280, fun k => vN (Qb9 y k))]) 6 [(4, fun nx => nx + 16), (5, fun nx => nx + 24)]
noncomputable def Q8r (y : NB) : Nat → Option LoopSpec := Qyi (Qcp Qax Tryz.f162 0 Nat (fun k => k ≤ 8) (fun k => 8 - k) [(6, fun k => .v (.int .i64 ((k : Int) + 1)))] [(256, fun k => vN (Qba y k)), (264, fun k => vN (Qb9 y k))]) 6 [(4, fun nx => nx + 16), (5, fun nx => nx + 24)]
@[reducible] noncomputable def Qbt (v : Int) := (Qaa (IntKind.wrap IntKind.i64 (-13493037704 - Qau (Qaa v))))
@[reducible] noncomputable def Qbs (v : Int) := (Qaa (IntKind.wrap IntKind.i64 (13493037704 - Qau (Qaa v))))
theorem Zkn (y : NB) (v : Int) (f : Bool) (R : SV→Prop) : (Qav Tryz.prog Zjg (Ze7 y) Tryz.f158 [Qcy v f] R) =
((I64 v)∧(sel (decide (Qau (Qaa v) > 6746518852)) ((∃ x : Nat,((Nat.le x 8)∧(((SV.v (.int .i64 0)) = (SV.v (.int .i64 ((↑x : Int)))))∧((((1 : Nat) = 1)∧(((1 : Nat) ≤ 1)∧(∀ i : Nat,(((i : Nat) < 1)→([(SV.v (.int .i64 (IntKind.wrap IntKind.i64 (13493037704 - Qau (Qaa v))))),(SV.v (.bool (Qat v f)))] = [(SV.v (.int .i64 (NB.v (Qba y x)))),(SV.v (.bool (NB.f (Qba y x))))])))))∧(((1 : Nat) = 1)∧(((1 : Nat) ≤ 1)∧(∀ i : Nat,(((i : Nat) < 1)→([(SV.v (.int .i64 (IntKind.wrap IntKind.i64 (13493037704 - Qau (Qaa v))))),(SV.v (.bool (Qat v f)))] = [(SV.v (.int .i64 (NB.v (Qb9 y x)))),(SV.v (.bool (NB.f (Qb9 y x))))])))))))))∧(∀ x : Nat,((Nat.le x 8)→(sel (decide ((↑x : Int) < 8)) (((I64 (NB.v (Qba y x)))∧(I64 (IntKind.wrap IntKind.i64 (13493037704 - Qau (Qaa v)))))∧(((I64 (Qas (Qa1 (Qaa (NB.v (Qba y x))) (Qbs v))))∧(I64 (IntKind.wrap IntKind.i64 (13493037704 - Qau (Qaa v)))))∧((I64 (IntKind.wrap IntKind.i64 (IntKind.wrap IntKind.i64 (2 * IntKind.wrap IntKind.i64 ((↑x : Int) + 1)) * IntKind.wrap IntKind.i64 (IntKind.wrap IntKind.i64 (2 * IntKind.wrap IntKind.i64 ((↑x : Int) + 1)) + 1))))∧(((I64 (Qas (Qa1 (Qaa (Qas (Qa1 (Qaa (NB.v (Qba y x))) (Qbs v)))) (Qbs v))))∧(I64 (Qas (IntKind.wrap IntKind.i64 (IntKind.wrap IntKind.i64 (2 * IntKind.wrap IntKind.i64 ((↑x : Int) + 1)) * IntKind.wrap IntKind.i64 (IntKind.wrap IntKind.i64 (2 * IntKind.wrap IntKind.i64 ((↑x : Int) + 1)) + 1)) * 4294967296))))∧((I64 (Qdd (Qaa (Qas (Qa1 (Qaa (Qas (Qa1 (Qaa (NB.v (Qba y x))) (Qbs v)))) (Qbs v)))) (Qaa (Qas (IntKind.wrap IntKind.i64 (IntKind.wrap IntKind.i64 (2 * IntKind.wrap IntKind.i64 ((↑x : Int) + 1)) * IntKind.wrap IntKind.i64 (IntKind.wrap IntKind.i64 (2 * IntKind.wrap IntKind.i64 ((↑x : Int) + 1)) + 1)) * 4294967296)))))∧(((I64 (NB.v (Qb9 y x)))∧(I64 (-Qaa (Qdd (Qaa (Qas (Qa1 (Qaa (Qas (Qa1 (Qaa (NB.v (Qba y x))) (Qbs v)))) (Qbs v)))) (Qaa (Qas (IntKind.wrap IntKind.i64 (IntKind.wrap IntKind.i64 (2 * IntKind.wrap IntKind.i64 ((↑x : Int) + 1)) * IntKind.wrap IntKind.i64 (IntKind.wrap IntKind.i64 (2 * IntKind.wrap IntKind.i64 ((↑x : Int) + 1)) + 1)) * 4294967296)))))))∧(∃ x' : Nat,(((Nat.le x' 8)∧(((SV.v (.int .i64 (IntKind.wrap IntKind.i64 ((↑x : Int) + 1)))) = (SV.v (.int .i64 ((↑x' : Int)))))∧((((1 : Nat) = 1)∧(((1 : Nat) ≤ 1)∧(∀ i : Nat,(((i : Nat) < 1)→([(SV.v (.int .i64 (-Qaa (Qdd (Qaa (Qas (Qa1 (Qaa (Qas (Qa1 (Qaa (NB.v (Qba y x))) (Qbs v)))) (Qbs v)))) (Qaa (Qas (IntKind.wrap IntKind.i64 (IntKind.wrap IntKind.i64 (2 * IntKind.wrap IntKind.i64 ((↑x : Int) + 1)) * IntKind.wrap IntKind.i64 (IntKind.wrap IntKind.i64 (2 * IntKind.wrap IntKind.i64 ((↑x : Int) + 1)) + 1)) * 4294967296))))))),(SV.v (.bool (Qat (Qdd (Qaa (Qas (Qa1 (Qaa (Qas (Qa1 (Qaa (NB.v (Qba y x))) (Qbs v)))) (Qbs v)))) (Qaa (Qas (IntKind.wrap IntKind.i64 (IntKind.wrap IntKind.i64 (2 * IntKind.wrap IntKind.i64 ((↑x : Int) + 1)) * IntKind.wrap IntKind.i64 (IntKind.wrap IntKind.i64 (2 * IntKind.wrap IntKind.i64 ((↑x : Int) + 1)) + 1)) * 4294967296)))) (Qjf (Qaa (Qas (Qa1 (Qaa (Qas (Qa1 (Qaa (NB.v (Qba y x))) (Qbs v)))) (Qbs v)))) (Qaa (Qas (IntKind.wrap IntKind.i64 (IntKind.wrap IntKind.i64 (2 * IntKind.wrap IntKind.i64 ((↑x : Int) + 1)) * IntKind.wrap IntKind.i64 (IntKind.wrap IntKind.i64 (2 * IntKind.wrap IntKind.i64 ((↑x : Int) + 1)) + 1)) * 4294967296)))||(Qat (Qas (Qa1 (Qaa (Qas (Qa1 (Qaa (NB.v (Qba y x))) (Qbs v)))) (Qbs v))) (Qc9 (Qa1 (Qaa (Qas (Qa1 (Qaa (NB.v (Qba y x))) (Qbs v)))) (Qbs v)) (Qat (Qas (Qa1 (Qaa (NB.v (Qba y x))) (Qbs v))) (Qc9 (Qa1 (Qaa (NB.v (Qba y x))) (Qbs v)) (Qat (NB.v (Qba y x)) (NB.f (Qba y x))||Qat (IntKind.wrap IntKind.i64 (13493037704 - Qau (Qaa v))) (Qat v f)))||Qat (IntKind.wrap IntKind.i64 (13493037704 - Qau (Qaa v))) (Qat v f)))||Qat (Qas (IntKind.wrap IntKind.i64 (IntKind.wrap IntKind.i64 (2 * IntKind.wrap IntKind.i64 ((↑x : Int) + 1)) * IntKind.wrap IntKind.i64 (IntKind.wrap IntKind.i64 (2 * IntKind.wrap IntKind.i64 ((↑x : Int) + 1)) + 1)) * 4294967296)) (Qc9 (IntKind.wrap IntKind.i64 (IntKind.wrap IntKind.i64 (2 * IntKind.wrap IntKind.i64 ((↑x : Int) + 1)) * IntKind.wrap IntKind.i64 (IntKind.wrap IntKind.i64 (2 * IntKind.wrap IntKind.i64 ((↑x : Int) + 1)) + 1)) * 4294967296) false))))))] = [(SV.v (.int .i64 (NB.v (Qba y x')))),(SV.v (.bool (NB.f (Qba y x'))))])))))∧(((1 : Nat) = 1)∧(((1 : Nat) ≤ 1)∧(∀ i : Nat,(((i : Nat) < 1)→([(SV.v (.int .i64 (Qas (Qaa (NB.v (Qb9 y x)) + Qaa (-Qaa (Qdd (Qaa (Qas (Qa1 (Qaa (Qas (Qa1 (Qaa (NB.v (Qba y x))) (Qbs v)))) (Qbs v)))) (Qaa (Qas (IntKind.wrap IntKind.i64 (IntKind.wrap IntKind.i64 (2 * IntKind.wrap IntKind.i64 ((↑x : Int) + 1)) * IntKind.wrap IntKind.i64 (IntKind.wrap IntKind.i64 (2 * IntKind.wrap IntKind.i64 ((↑x : Int) + 1)) + 1)) * 4294967296))))))))),(SV.v (.bool (Qc9 (Qaa (NB.v (Qb9 y x)) + Qaa (-Qaa (Qdd (Qaa (Qas (Qa1 (Qaa (Qas (Qa1 (Qaa (NB.v (Qba y x))) (Qbs v)))) (Qbs v)))) (Qaa (Qas (IntKind.wrap IntKind.i64 (IntKind.wrap IntKind.i64 (2 * IntKind.wrap IntKind.i64 ((↑x : Int) + 1)) * IntKind.wrap IntKind.i64 (IntKind.wrap IntKind.i64 (2 * IntKind.wrap IntKind.i64 ((↑x : Int) + 1)) + 1)) * 4294967296)))))) (Qat (NB.v (Qb9 y x)) (NB.f (Qb9 y x))||Qat (-Qaa (Qdd (Qaa (Qas (Qa1 (Qaa (Qas (Qa1 (Qaa (NB.v (Qba y x))) (Qbs v)))) (Qbs v)))) (Qaa (Qas (IntKind.wrap IntKind.i64 (IntKind.wrap IntKind.i64 (2 * IntKind.wrap IntKind.i64 ((↑x : Int) + 1)) * IntKind.wrap IntKind.i64 (IntKind.wrap IntKind.i64 (2 * IntKind.wrap IntKind.i64 ((↑x : Int) + 1)) + 1)) * 4294967296))))) (Qat (Qdd (Qaa (Qas (Qa1 (Qaa (Qas (Qa1 (Qaa (NB.v (Qba y x))) (Qbs v)))) (Qbs v)))) (Qaa (Qas (IntKind.wrap IntKind.i64 (IntKind.wrap IntKind.i64 (2 * IntKind.wrap IntKind.i64 ((↑x : Int) + 1)) * IntKind.wrap IntKind.i64 (IntKind.wrap IntKind.i64 (2 * IntKind.wrap IntKind.i64 ((↑x : Int) + 1)) + 1)) * 4294967296)))) (Qjf (Qaa (Qas (Qa1 (Qaa (Qas (Qa1 (Qaa (NB.v (Qba y x))) (Qbs v)))) (Qbs v)))) (Qaa (Qas (IntKind.wrap IntKind.i64 (IntKind.wrap IntKind.i64 (2 * IntKind.wrap IntKind.i64 ((↑x : Int) + 1)) * IntKind.wrap IntKind.i64 (IntKind.wrap IntKind.i64 (2 * IntKind.wrap IntKind.i64 ((↑x : Int) + 1)) + 1)) * 4294967296)))||(Qat (Qas (Qa1 (Qaa (Qas (Qa1 (Qaa (NB.v (Qba y x))) (Qbs v)))) (Qbs v))) (Qc9 (Qa1 (Qaa (Qas (Qa1 (Qaa (NB.v (Qba y x))) (Qbs v)))) (Qbs v)) (Qat (Qas (Qa1 (Qaa (NB.v (Qba y x))) (Qbs v))) (Qc9 (Qa1 (Qaa (NB.v (Qba y x))) (Qbs v)) (Qat (NB.v (Qba y x)) (NB.f (Qba y x))||Qat (IntKind.wrap IntKind.i64 (13493037704 - Qau (Qaa v))) (Qat v f)))||Qat (IntKind.wrap IntKind.i64 (13493037704 - Qau (Qaa v))) (Qat v f)))||Qat (Qas (IntKind.wrap IntKind.i64 (IntKind.wrap IntKind.i64 (2 * IntKind.wrap IntKind.i64 ((↑x : Int) + 1)) * IntKind.wrap IntKind.i64 (IntKind.wrap IntKind.i64 (2 * IntKind.wrap IntKind.i64 ((↑x : Int) + 1)) + 1)) * 4294967296)) (Qc9 (IntKind.wrap IntKind.i64 (IntKind.wrap IntKind.i64 (2 * IntKind.wrap IntKind.i64 ((↑x : Int) + 1)) * IntKind.wrap IntKind.i64 (IntKind.wrap IntKind.i64 (2 * IntKind.wrap IntKind.i64 ((↑x : Int) + 1)) + 1)) * 4294967296) false))))))))] = [(SV.v (.int .i64 (NB.v (Qb9 y x')))),(SV.v (.bool (NB.f (Qb9 y x'))))]))))))))∧(((8 - x') : Nat) < (8 - x)))))))))) ((I64 (-1))∧((I64 1)∧(((I64 (NB.v (Qb9 y x)))∧((I64 (-4294967296))∧(I64 4294967296)))∧(R (SV.agg [(SV.v (.int .i64 (Qnm (-4294967296) (Qlr (Qaa (NB.v (Qb9 y x))) 4294967296)))),(SV.v (.bool (false||(Qat (NB.v (Qb9 y x)) (NB.f (Qb9 y x))||false))))]))))))))) (sel (decide (Qau (Qaa v) < -6746518852)) ((∃ x : Nat,((Nat.le x 8)∧(((SV.v (.int .i64 0)) = (SV.v (.int .i64 ((↑x : Int)))))∧((((1 : Nat) = 1)∧(((1 : Nat) ≤ 1)∧(∀ i : Nat,(((i : Nat) < 1)→([(SV.v (.int .i64 (IntKind.wrap IntKind.i64 (-13493037704 - Qau (Qaa v))))),(SV.v (.bool (Qat v f)))] = [(SV.v (.int .i64 (NB.v (Qba y x)))),(SV.v (.bool (NB.f (Qba y x))))])))))∧(((1 : Nat) = 1)∧(((1 : Nat) ≤ 1)∧(∀ i : Nat,(((i : Nat) < 1)→([(SV.v (.int .i64 (IntKind.wrap IntKind.i64 (-13493037704 - Qau (Qaa v))))),(SV.v (.bool (Qat v f)))] = [(SV.v (.int .i64 (NB.v (Qb9 y x)))),(SV.v (.bool (NB.f (Qb9 y x))))])))))))))∧(∀ x : Nat,((Nat.le x 8)→(sel (decide ((↑x : Int) < 8)) (((I64 (NB.v (Qba y x)))∧(I64 (IntKind.wrap IntKind.i64 (-13493037704 - Qau (Qaa v)))))∧(((I64 (Qas (Qa1 (Qaa (NB.v (Qba y x))) (Qbt v))))∧(I64 (IntKind.wrap IntKind.i64 (-13493037704 - Qau (Qaa v)))))∧((I64 (IntKind.wrap IntKind.i64 (IntKind.wrap IntKind.i64 (2 * IntKind.wrap IntKind.i64 ((↑x : Int) + 1)) * IntKind.wrap IntKind.i64 (IntKind.wrap IntKind.i64 (2 * IntKind.wrap IntKind.i64 ((↑x : Int) + 1)) + 1))))∧(((I64 (Qas (Qa1 (Qaa (Qas (Qa1 (Qaa (NB.v (Qba y x))) (Qbt v)))) (Qbt v))))∧(I64 (Qas (IntKind.wrap IntKind.i64 (IntKind.wrap IntKind.i64 (2 * IntKind.wrap IntKind.i64 ((↑x : Int) + 1)) * IntKind.wrap IntKind.i64 (IntKind.wrap IntKind.i64 (2 * IntKind.wrap IntKind.i64 ((↑x : Int) + 1)) + 1)) * 4294967296))))∧((I64 (Qdd (Qaa (Qas (Qa1 (Qaa (Qas (Qa1 (Qaa (NB.v (Qba y x))) (Qbt v)))) (Qbt v)))) (Qaa (Qas (IntKind.wrap IntKind.i64 (IntKind.wrap IntKind.i64 (2 * IntKind.wrap IntKind.i64 ((↑x : Int) + 1)) * IntKind.wrap IntKind.i64 (IntKind.wrap IntKind.i64 (2 * IntKind.wrap IntKind.i64 ((↑x : Int) + 1)) + 1)) * 4294967296)))))∧(((I64 (NB.v (Qb9 y x)))∧(I64 (-Qaa (Qdd (Qaa (Qas (Qa1 (Qaa (Qas (Qa1 (Qaa (NB.v (Qba y x))) (Qbt v)))) (Qbt v)))) (Qaa (Qas (IntKind.wrap IntKind.i64 (IntKind.wrap IntKind.i64 (2 * IntKind.wrap IntKind.i64 ((↑x : Int) + 1)) * IntKind.wrap IntKind.i64 (IntKind.wrap IntKind.i64 (2 * IntKind.wrap IntKind.i64 ((↑x : Int) + 1)) + 1)) * 4294967296)))))))∧(∃ x' : Nat,(((Nat.le x' 8)∧(((SV.v (.int .i64 (IntKind.wrap IntKind.i64 ((↑x : Int) + 1)))) = (SV.v (.int .i64 ((↑x' : Int)))))∧((((1 : Nat) = 1)∧(((1 : Nat) ≤ 1)∧(∀ i : Nat,(((i : Nat) < 1)→([(SV.v (.int .i64 (-Qaa (Qdd (Qaa (Qas (Qa1 (Qaa (Qas (Qa1 (Qaa (NB.v (Qba y x))) (Qbt v)))) (Qbt v)))) (Qaa (Qas (IntKind.wrap IntKind.i64 (IntKind.wrap IntKind.i64 (2 * IntKind.wrap IntKind.i64 ((↑x : Int) + 1)) * IntKind.wrap IntKind.i64 (IntKind.wrap IntKind.i64 (2 * IntKind.wrap IntKind.i64 ((↑x : Int) + 1)) + 1)) * 4294967296))))))),(SV.v (.bool (Qat (Qdd (Qaa (Qas (Qa1 (Qaa (Qas (Qa1 (Qaa (NB.v (Qba y x))) (Qbt v)))) (Qbt v)))) (Qaa (Qas (IntKind.wrap IntKind.i64 (IntKind.wrap IntKind.i64 (2 * IntKind.wrap IntKind.i64 ((↑x : Int) + 1)) * IntKind.wrap IntKind.i64 (IntKind.wrap IntKind.i64 (2 * IntKind.wrap IntKind.i64 ((↑x : Int) + 1)) + 1)) * 4294967296)))) (Qjf (Qaa (Qas (Qa1 (Qaa (Qas (Qa1 (Qaa (NB.v (Qba y x))) (Qbt v)))) (Qbt v)))) (Qaa (Qas (IntKind.wrap IntKind.i64 (IntKind.wrap IntKind.i64 (2 * IntKind.wrap IntKind.i64 ((↑x : Int) + 1)) * IntKind.wrap IntKind.i64 (IntKind.wrap IntKind.i64 (2 * IntKind.wrap IntKind.i64 ((↑x : Int) + 1)) + 1)) * 4294967296)))||(Qat (Qas (Qa1 (Qaa (Qas (Qa1 (Qaa (NB.v (Qba y x))) (Qbt v)))) (Qbt v))) (Qc9 (Qa1 (Qaa (Qas (Qa1 (Qaa (NB.v (Qba y x))) (Qbt v)))) (Qbt v)) (Qat (Qas (Qa1 (Qaa (NB.v (Qba y x))) (Qbt v))) (Qc9 (Qa1 (Qaa (NB.v (Qba y x))) (Qbt v)) (Qat (NB.v (Qba y x)) (NB.f (Qba y x))||Qat (IntKind.wrap IntKind.i64 (-13493037704 - Qau (Qaa v))) (Qat v f)))||Qat (IntKind.wrap IntKind.i64 (-13493037704 - Qau (Qaa v))) (Qat v f)))||Qat (Qas (IntKind.wrap IntKind.i64 (IntKind.wrap IntKind.i64 (2 * IntKind.wrap IntKind.i64 ((↑x : Int) + 1)) * IntKind.wrap IntKind.i64 (IntKind.wrap IntKind.i64 (2 * IntKind.wrap IntKind.i64 ((↑x : Int) + 1)) + 1)) * 4294967296)) (Qc9 (IntKind.wrap IntKind.i64 (IntKind.wrap IntKind.i64 (2 * IntKind.wrap IntKind.i64 ((↑x : Int) + 1)) * IntKind.wrap IntKind.i64 (IntKind.wrap IntKind.i64 (2 * IntKind.wrap IntKind.i64 ((↑x : Int) + 1)) + 1)) * 4294967296) false))))))] = [(SV.v (.int .i64 (NB.v (Qba y x')))),(SV.v (.bool (NB.f (Qba y x'))))])))))∧(((1 : Nat) = 1)∧(((1 : Nat) ≤ 1)∧(∀ i : Nat,(((i : Nat) < 1)→([(SV.v (.int .i64 (Qas (Qaa (NB.v (Qb9 y x)) + Qaa (-Qaa (Qdd (Qaa (Qas (Qa1 (Qaa (Qas (Qa1 (Qaa (NB.v (Qba y x))) (Qbt v)))) (Qbt v)))) (Qaa (Qas (IntKind.wrap IntKind.i64 (IntKind.wrap IntKind.i64 (2 * IntKind.wrap IntKind.i64 ((↑x : Int) + 1)) * IntKind.wrap IntKind.i64 (IntKind.wrap IntKind.i64 (2 * IntKind.wrap IntKind.i64 ((↑x : Int) + 1)) + 1)) * 4294967296))))))))),(SV.v (.bool (Qc9 (Qaa (NB.v (Qb9 y x)) + Qaa (-Qaa (Qdd (Qaa (Qas (Qa1 (Qaa (Qas (Qa1 (Qaa (NB.v (Qba y x))) (Qbt v)))) (Qbt v)))) (Qaa (Qas (IntKind.wrap IntKind.i64 (IntKind.wrap IntKind.i64 (2 * IntKind.wrap IntKind.i64 ((↑x : Int) + 1)) * IntKind.wrap IntKind.i64 (IntKind.wrap IntKind.i64 (2 * IntKind.wrap IntKind.i64 ((↑x : Int) + 1)) + 1)) * 4294967296)))))) (Qat (NB.v (Qb9 y x)) (NB.f (Qb9 y x))||Qat (-Qaa (Qdd (Qaa (Qas (Qa1 (Qaa (Qas (Qa1 (Qaa (NB.v (Qba y x))) (Qbt v)))) (Qbt v)))) (Qaa (Qas (IntKind.wrap IntKind.i64 (IntKind.wrap IntKind.i64 (2 * IntKind.wrap IntKind.i64 ((↑x : Int) + 1)) * IntKind.wrap IntKind.i64 (IntKind.wrap IntKind.i64 (2 * IntKind.wrap IntKind.i64 ((↑x : Int) + 1)) + 1)) * 4294967296))))) (Qat (Qdd (Qaa (Qas (Qa1 (Qaa (Qas (Qa1 (Qaa (NB.v (Qba y x))) (Qbt v)))) (Qbt v)))) (Qaa (Qas (IntKind.wrap IntKind.i64 (IntKind.wrap IntKind.i64 (2 * IntKind.wrap IntKind.i64 ((↑x : Int) + 1)) * IntKind.wrap IntKind.i64 (IntKind.wrap IntKind.i64 (2 * IntKind.wrap IntKind.i64 ((↑x : Int) + 1)) + 1)) * 4294967296)))) (Qjf (Qaa (Qas (Qa1 (Qaa (Qas (Qa1 (Qaa (NB.v (Qba y x))) (Qbt v)))) (Qbt v)))) (Qaa (Qas (IntKind.wrap IntKind.i64 (IntKind.wrap IntKind.i64 (2 * IntKind.wrap IntKind.i64 ((↑x : Int) + 1)) * IntKind.wrap IntKind.i64 (IntKind.wrap IntKind.i64 (2 * IntKind.wrap IntKind.i64 ((↑x : Int) + 1)) + 1)) * 4294967296)))||(Qat (Qas (Qa1 (Qaa (Qas (Qa1 (Qaa (NB.v (Qba y x))) (Qbt v)))) (Qbt v))) (Qc9 (Qa1 (Qaa (Qas (Qa1 (Qaa (NB.v (Qba y x))) (Qbt v)))) (Qbt v)) (Qat (Qas (Qa1 (Qaa (NB.v (Qba y x))) (Qbt v))) (Qc9 (Qa1 (Qaa (NB.v (Qba y x))) (Qbt v)) (Qat (NB.v (Qba y x)) (NB.f (Qba y x))||Qat (IntKind.wrap IntKind.i64 (-13493037704 - Qau (Qaa v))) (Qat v f)))||Qat (IntKind.wrap IntKind.i64 (-13493037704 - Qau (Qaa v))) (Qat v f)))||Qat (Qas (IntKind.wrap IntKind.i64 (IntKind.wrap IntKind.i64 (2 * IntKind.wrap IntKind.i64 ((↑x : Int) + 1)) * IntKind.wrap IntKind.i64 (IntKind.wrap IntKind.i64 (2 * IntKind.wrap IntKind.i64 ((↑x : Int) + 1)) + 1)) * 4294967296)) (Qc9 (IntKind.wrap IntKind.i64 (IntKind.wrap IntKind.i64 (2 * IntKind.wrap IntKind.i64 ((↑x : Int) + 1)) * IntKind.wrap IntKind.i64 (IntKind.wrap IntKind.i64 (2 * IntKind.wrap IntKind.i64 ((↑x : Int) + 1)) + 1)) * 4294967296) false))))))))] = [(SV.v (.int .i64 (NB.v (Qb9 y x')))),(SV.v (.bool (NB.f (Qb9 y x'))))]))))))))∧(((8 - x') : Nat) < (8 - x)))))))))) ((I64 (-1))∧((I64 1)∧(((I64 (NB.v (Qb9 y x)))∧((I64 (-4294967296))∧(I64 4294967296)))∧(R (SV.agg [(SV.v (.int .i64 (Qnm (-4294967296) (Qlr (Qaa (NB.v (Qb9 y x))) 4294967296)))),(SV.v (.bool (false||(Qat (NB.v (Qb9 y x)) (NB.f (Qb9 y x))||false))))]))))))))) ((∃ x : Nat,((Nat.le x 8)∧(((SV.v (.int .i64 0)) = (SV.v (.int .i64 ((↑x : Int)))))∧((((1 : Nat) = 1)∧(((1 : Nat) ≤ 1)∧(∀ i : Nat,(((i : Nat) < 1)→([(SV.v (.int .i64 (Qau (Qaa v)))),(SV.v (.bool (Qat v f)))] = [(SV.v (.int .i64 (NB.v (Qba y x)))),(SV.v (.bool (NB.f (Qba y x))))])))))∧(((1 : Nat) = 1)∧(((1 : Nat) ≤ 1)∧(∀ i : Nat,(((i : Nat) < 1)→([(SV.v (.int .i64 (Qau (Qaa v)))),(SV.v (.bool (Qat v f)))] = [(SV.v (.int .i64 (NB.v (Qb9 y x)))),(SV.v (.bool (NB.f (Qb9 y x))))])))))))))∧(∀ x : Nat,((Nat.le x 8)→(sel (decide ((↑x : Int) < 8)) (((I64 (NB.v (Qba y x)))∧(I64 (Qau (Qaa v))))∧(((I64 (Qas (Qa1 (Qaa (NB.v (Qba y x))) (Qaa (Qau (Qaa v))))))∧(I64 (Qau (Qaa v))))∧((I64 (IntKind.wrap IntKind.i64 (IntKind.wrap IntKind.i64 (2 * IntKind.wrap IntKind.i64 ((↑x : Int) + 1)) * IntKind.wrap IntKind.i64 (IntKind.wrap IntKind.i64 (2 * IntKind.wrap IntKind.i64 ((↑x : Int) + 1)) + 1))))∧(((I64 (Qas (Qa1 (Qaa (Qas (Qa1 (Qaa (NB.v (Qba y x))) (Qaa (Qau (Qaa v)))))) (Qaa (Qau (Qaa v))))))∧(I64 (Qas (IntKind.wrap IntKind.i64 (IntKind.wrap IntKind.i64 (2 * IntKind.wrap IntKind.i64 ((↑x : Int) + 1)) * IntKind.wrap IntKind.i64 (IntKind.wrap IntKind.i64 (2 * IntKind.wrap IntKind.i64 ((↑x : Int) + 1)) + 1)) * 4294967296))))∧((I64 (Qdd (Qaa (Qas (Qa1 (Qaa (Qas (Qa1 (Qaa (NB.v (Qba y x))) (Qaa (Qau (Qaa v)))))) (Qaa (Qau (Qaa v)))))) (Qaa (Qas (IntKind.wrap IntKind.i64 (IntKind.wrap IntKind.i64 (2 * IntKind.wrap IntKind.i64 ((↑x : Int) + 1)) * IntKind.wrap IntKind.i64 (IntKind.wrap IntKind.i64 (2 * IntKind.wrap IntKind.i64 ((↑x : Int) + 1)) + 1)) * 4294967296)))))∧(((I64 (NB.v (Qb9 y x)))∧(I64 (-Qaa (Qdd (Qaa (Qas (Qa1 (Qaa (Qas (Qa1 (Qaa (NB.v (Qba y x))) (Qaa (Qau (Qaa v)))))) (Qaa (Qau (Qaa v)))))) (Qaa (Qas (IntKind.wrap IntKind.i64 (IntKind.wrap IntKind.i64 (2 * IntKind.wrap IntKind.i64 ((↑x : Int) + 1)) * IntKind.wrap IntKind.i64 (IntKind.wrap IntKind.i64 (2 * IntKind.wrap IntKind.i64 ((↑x : Int) + 1)) + 1)) * 4294967296)))))))∧(∃ x' : Nat,(((Nat.le x' 8)∧(((SV.v (.int .i64 (IntKind.wrap IntKind.i64 ((↑x : Int) + 1)))) = (SV.v (.int .i64 ((↑x' : Int)))))∧((((1 : Nat) = 1)∧(((1 : Nat) ≤ 1)∧(∀ i : Nat,(((i : Nat) < 1)→([(SV.v (.int .i64 (-Qaa (Qdd (Qaa (Qas (Qa1 (Qaa (Qas (Qa1 (Qaa (NB.v (Qba y x))) (Qaa (Qau (Qaa v)))))) (Qaa (Qau (Qaa v)))))) (Qaa (Qas (IntKind.wrap IntKind.i64 (IntKind.wrap IntKind.i64 (2 * IntKind.wrap IntKind.i64 ((↑x : Int) + 1)) * IntKind.wrap IntKind.i64 (IntKind.wrap IntKind.i64 (2 * IntKind.wrap IntKind.i64 ((↑x : Int) + 1)) + 1)) * 4294967296))))))),(SV.v (.bool (Qat (Qdd (Qaa (Qas (Qa1 (Qaa (Qas (Qa1 (Qaa (NB.v (Qba y x))) (Qaa (Qau (Qaa v)))))) (Qaa (Qau (Qaa v)))))) (Qaa (Qas (IntKind.wrap IntKind.i64 (IntKind.wrap IntKind.i64 (2 * IntKind.wrap IntKind.i64 ((↑x : Int) + 1)) * IntKind.wrap IntKind.i64 (IntKind.wrap IntKind.i64 (2 * IntKind.wrap IntKind.i64 ((↑x : Int) + 1)) + 1)) * 4294967296)))) (Qjf (Qaa (Qas (Qa1 (Qaa (Qas (Qa1 (Qaa (NB.v (Qba y x))) (Qaa (Qau (Qaa v)))))) (Qaa (Qau (Qaa v)))))) (Qaa (Qas (IntKind.wrap IntKind.i64 (IntKind.wrap IntKind.i64 (2 * IntKind.wrap IntKind.i64 ((↑x : Int) + 1)) * IntKind.wrap IntKind.i64 (IntKind.wrap IntKind.i64 (2 * IntKind.wrap IntKind.i64 ((↑x : Int) + 1)) + 1)) * 4294967296)))||(Qat (Qas (Qa1 (Qaa (Qas (Qa1 (Qaa (NB.v (Qba y x))) (Qaa (Qau (Qaa v)))))) (Qaa (Qau (Qaa v))))) (Qc9 (Qa1 (Qaa (Qas (Qa1 (Qaa (NB.v (Qba y x))) (Qaa (Qau (Qaa v)))))) (Qaa (Qau (Qaa v)))) (Qat (Qas (Qa1 (Qaa (NB.v (Qba y x))) (Qaa (Qau (Qaa v))))) (Qc9 (Qa1 (Qaa (NB.v (Qba y x))) (Qaa (Qau (Qaa v)))) (Qat (NB.v (Qba y x)) (NB.f (Qba y x))||Qat (Qau (Qaa v)) (Qat v f)))||Qat (Qau (Qaa v)) (Qat v f)))||Qat (Qas (IntKind.wrap IntKind.i64 (IntKind.wrap IntKind.i64 (2 * IntKind.wrap IntKind.i64 ((↑x : Int) + 1)) * IntKind.wrap IntKind.i64 (IntKind.wrap IntKind.i64 (2 * IntKind.wrap IntKind.i64 ((↑x : Int) + 1)) + 1)) * 4294967296)) (Qc9 (IntKind.wrap IntKind.i64 (IntKind.wrap IntKind.i64 (2 * IntKind.wrap IntKind.i64 ((↑x : Int) + 1)) * IntKind.wrap IntKind.i64 (IntKind.wrap IntKind.i64 (2 * IntKind.wrap IntKind.i64 ((↑x : Int) + 1)) + 1)) * 4294967296) false))))))] = [(SV.v (.int .i64 (NB.v (Qba y x')))),(SV.v (.bool (NB.f (Qba y x'))))])))))∧(((1 : Nat) = 1)∧(((1 : Nat) ≤ 1)∧(∀ i : Nat,(((i : Nat) < 1)→([(SV.v (.int .i64 (Qas (Qaa (NB.v (Qb9 y x)) + Qaa (-Qaa (Qdd (Qaa (Qas (Qa1 (Qaa (Qas (Qa1 (Qaa (NB.v (Qba y x))) (Qaa (Qau (Qaa v)))))) (Qaa (Qau (Qaa v)))))) (Qaa (Qas (IntKind.wrap IntKind.i64 (IntKind.wrap IntKind.i64 (2 * IntKind.wrap IntKind.i64 ((↑x : Int) + 1)) * IntKind.wrap IntKind.i64 (IntKind.wrap IntKind.i64 (2 * IntKind.wrap IntKind.i64 ((↑x : Int) + 1)) + 1)) * 4294967296))))))))),(SV.v (.bool (Qc9 (Qaa (NB.v (Qb9 y x)) + Qaa (-Qaa (Qdd (Qaa (Qas (Qa1 (Qaa (Qas (Qa1 (Qaa (NB.v (Qba y x))) (Qaa (Qau (Qaa v)))))) (Qaa (Qau (Qaa v)))))) (Qaa (Qas (IntKind.wrap IntKind.i64 (IntKind.wrap IntKind.i64 (2 * IntKind.wrap IntKind.i64 ((↑x : Int) + 1)) * IntKind.wrap IntKind.i64 (IntKind.wrap IntKind.i64 (2 * IntKind.wrap IntKind.i64 ((↑x : Int) + 1)) + 1)) * 4294967296)))))) (Qat (NB.v (Qb9 y x)) (NB.f (Qb9 y x))||Qat (-Qaa (Qdd (Qaa (Qas (Qa1 (Qaa (Qas (Qa1 (Qaa (NB.v (Qba y x))) (Qaa (Qau (Qaa v)))))) (Qaa (Qau (Qaa v)))))) (Qaa (Qas (IntKind.wrap IntKind.i64 (IntKind.wrap IntKind.i64 (2 * IntKind.wrap IntKind.i64 ((↑x : Int) + 1)) * IntKind.wrap IntKind.i64 (IntKind.wrap IntKind.i64 (2 * IntKind.wrap IntKind.i64 ((↑x : Int) + 1)) + 1)) * 4294967296))))) (Qat (Qdd (Qaa (Qas (Qa1 (Qaa (Qas (Qa1 (Qaa (NB.v (Qba y x))) (Qaa (Qau (Qaa v)))))) (Qaa (Qau (Qaa v)))))) (Qaa (Qas (IntKind.wrap IntKind.i64 (IntKind.wrap IntKind.i64 (2 * IntKind.wrap IntKind.i64 ((↑x : Int) + 1)) * IntKind.wrap IntKind.i64 (IntKind.wrap IntKind.i64 (2 * IntKind.wrap IntKind.i64 ((↑x : Int) + 1)) + 1)) * 4294967296)))) (Qjf (Qaa (Qas (Qa1 (Qaa (Qas (Qa1 (Qaa (NB.v (Qba y x))) (Qaa (Qau (Qaa v)))))) (Qaa (Qau (Qaa v)))))) (Qaa (Qas (IntKind.wrap IntKind.i64 (IntKind.wrap IntKind.i64 (2 * IntKind.wrap IntKind.i64 ((↑x : Int) + 1)) * IntKind.wrap IntKind.i64 (IntKind.wrap IntKind.i64 (2 * IntKind.wrap IntKind.i64 ((↑x : Int) + 1)) + 1)) * 4294967296)))||(Qat (Qas (Qa1 (Qaa (Qas (Qa1 (Qaa (NB.v (Qba y x))) (Qaa (Qau (Qaa v)))))) (Qaa (Qau (Qaa v))))) (Qc9 (Qa1 (Qaa (Qas (Qa1 (Qaa (NB.v (Qba y x))) (Qaa (Qau (Qaa v)))))) (Qaa (Qau (Qaa v)))) (Qat (Qas (Qa1 (Qaa (NB.v (Qba y x))) (Qaa (Qau (Qaa v))))) (Qc9 (Qa1 (Qaa (NB.v (Qba y x))) (Qaa (Qau (Qaa v)))) (Qat (NB.v (Qba y x)) (NB.f (Qba y x))||Qat (Qau (Qaa v)) (Qat v f)))||Qat (Qau (Qaa v)) (Qat v f)))||Qat (Qas (IntKind.wrap IntKind.i64 (IntKind.wrap IntKind.i64 (2 * IntKind.wrap IntKind.i64 ((↑x : Int) + 1)) * IntKind.wrap IntKind.i64 (IntKind.wrap IntKind.i64 (2 * IntKind.wrap IntKind.i64 ((↑x : Int) + 1)) + 1)) * 4294967296)) (Qc9 (IntKind.wrap IntKind.i64 (IntKind.wrap IntKind.i64 (2 * IntKind.wrap IntKind.i64 ((↑x : Int) + 1)) * IntKind.wrap IntKind.i64 (IntKind.wrap IntKind.i64 (2 * IntKind.wrap IntKind.i64 ((↑x : Int) + 1)) + 1)) * 4294967296) false))))))))] = [(SV.v (.int .i64 (NB.v (Qb9 y x')))),(SV.v (.bool (NB.f (Qb9 y x'))))]))))))))∧(((8 - x') : Nat) < (8 - x)))))))))) ((I64 (-1))∧((I64 1)∧(((I64 (NB.v (Qb9 y x)))∧((I64 (-4294967296))∧(I64 4294967296)))∧(R (SV.agg [(SV.v (.int .i64 (Qnm (-4294967296) (Qlr (Qaa (NB.v (Qb9 y x))) 4294967296)))),(SV.v (.bool (false||(Qat (NB.v (Qb9 y x)) (NB.f (Qb9 y x))||false))))])))))))))))) := by kernel_rfl
@[reducible] noncomputable def Qbb (v : Int) := (IntKind.wrap IntKind.i64 (-13493037704 - IntKind.wrap IntKind.i64 (13493037704 - Qau (Qaa v))))
@[reducible] noncomputable def Qbj (v : Int) := (Qaa (IntKind.wrap IntKind.i64 (-13493037704 - Qau (Qaa v))))
@[reducible] noncomputable def Qbi (v : Int) := (Qaa (IntKind.wrap IntKind.i64 (13493037704 - Qau (Qaa v))))
theorem Zfy (y : NB) (v : Int) (f : Bool) (R : SV→Prop) : (Qav Tryz.prog Zjg (Q8r y) Tryz.f162 [Qcy v f] R) =
((I64 v)∧(sel (decide (Qau (Qaa v) > 6746518852)) (sel (decide (IntKind.wrap IntKind.i64 (13493037704 - Qau (Qaa v)) < -6746518852)) ((∃ x : Nat,((Nat.le x 8)∧(((SV.v (.int .i64 1)) = (SV.v (.int .i64 ((↑x : Int) + 1))))∧((((1 : Nat) = 1)∧(((1 : Nat) ≤ 1)∧(∀ i : Nat,(((i : Nat) < 1)→([(SV.v (.int .i64 (Qbb v))),(SV.v (.bool (Qat v f)))] = [(SV.v (.int .i64 (NB.v (Qba y x)))),(SV.v (.bool (NB.f (Qba y x))))])))))∧(((1 : Nat) = 1)∧(((1 : Nat) ≤ 1)∧(∀ i : Nat,(((i : Nat) < 1)→([(SV.v (.int .i64 (Qbb v))),(SV.v (.bool (Qat v f)))] = [(SV.v (.int .i64 (NB.v (Qb9 y x)))),(SV.v (.bool (NB.f (Qb9 y x))))])))))))))∧(∀ x : Nat,((Nat.le x 8)→(sel (decide ((↑x : Int) + 1 ≤ 8)) (((I64 (NB.v (Qba y x)))∧(I64 (Qbb v)))∧(((I64 (Qas (Qa1 (Qaa (NB.v (Qba y x))) (Qaa (Qbb v)))))∧(I64 (Qbb v)))∧((I64 (IntKind.wrap IntKind.i64 (IntKind.wrap IntKind.i64 (2 * ((↑x : Int) + 1)) * IntKind.wrap IntKind.i64 (IntKind.wrap IntKind.i64 (2 * ((↑x : Int) + 1)) + 1))))∧(((I64 (Qas (Qa1 (Qaa (Qas (Qa1 (Qaa (NB.v (Qba y x))) (Qaa (Qbb v))))) (Qaa (Qbb v)))))∧(I64 (Qas (IntKind.wrap IntKind.i64 (IntKind.wrap IntKind.i64 (2 * ((↑x : Int) + 1)) * IntKind.wrap IntKind.i64 (IntKind.wrap IntKind.i64 (2 * ((↑x : Int) + 1)) + 1)) * 4294967296))))∧((I64 (Qdd (Qaa (Qas (Qa1 (Qaa (Qas (Qa1 (Qaa (NB.v (Qba y x))) (Qaa (Qbb v))))) (Qaa (Qbb v))))) (Qaa (Qas (IntKind.wrap IntKind.i64 (IntKind.wrap IntKind.i64 (2 * ((↑x : Int) + 1)) * IntKind.wrap IntKind.i64 (IntKind.wrap IntKind.i64 (2 * ((↑x : Int) + 1)) + 1)) * 4294967296)))))∧(((I64 (NB.v (Qb9 y x)))∧(I64 (-Qaa (Qdd (Qaa (Qas (Qa1 (Qaa (Qas (Qa1 (Qaa (NB.v (Qba y x))) (Qaa (Qbb v))))) (Qaa (Qbb v))))) (Qaa (Qas (IntKind.wrap IntKind.i64 (IntKind.wrap IntKind.i64 (2 * ((↑x : Int) + 1)) * IntKind.wrap IntKind.i64 (IntKind.wrap IntKind.i64 (2 * ((↑x : Int) + 1)) + 1)) * 4294967296)))))))∧(∃ x' : Nat,(((Nat.le x' 8)∧(((SV.v (.int .i64 (IntKind.wrap IntKind.i64 ((↑x : Int) + 1 + 1)))) = (SV.v (.int .i64 ((↑x' : Int) + 1))))∧((((1 : Nat) = 1)∧(((1 : Nat) ≤ 1)∧(∀ i : Nat,(((i : Nat) < 1)→([(SV.v (.int .i64 (-Qaa (Qdd (Qaa (Qas (Qa1 (Qaa (Qas (Qa1 (Qaa (NB.v (Qba y x))) (Qaa (Qbb v))))) (Qaa (Qbb v))))) (Qaa (Qas (IntKind.wrap IntKind.i64 (IntKind.wrap IntKind.i64 (2 * ((↑x : Int) + 1)) * IntKind.wrap IntKind.i64 (IntKind.wrap IntKind.i64 (2 * ((↑x : Int) + 1)) + 1)) * 4294967296))))))),(SV.v (.bool (Qat (Qdd (Qaa (Qas (Qa1 (Qaa (Qas (Qa1 (Qaa (NB.v (Qba y x))) (Qaa (Qbb v))))) (Qaa (Qbb v))))) (Qaa (Qas (IntKind.wrap IntKind.i64 (IntKind.wrap IntKind.i64 (2 * ((↑x : Int) + 1)) * IntKind.wrap IntKind.i64 (IntKind.wrap IntKind.i64 (2 * ((↑x : Int) + 1)) + 1)) * 4294967296)))) (Qjf (Qaa (Qas (Qa1 (Qaa (Qas (Qa1 (Qaa (NB.v (Qba y x))) (Qaa (Qbb v))))) (Qaa (Qbb v))))) (Qaa (Qas (IntKind.wrap IntKind.i64 (IntKind.wrap IntKind.i64 (2 * ((↑x : Int) + 1)) * IntKind.wrap IntKind.i64 (IntKind.wrap IntKind.i64 (2 * ((↑x : Int) + 1)) + 1)) * 4294967296)))||(Qat (Qas (Qa1 (Qaa (Qas (Qa1 (Qaa (NB.v (Qba y x))) (Qaa (Qbb v))))) (Qaa (Qbb v)))) (Qc9 (Qa1 (Qaa (Qas (Qa1 (Qaa (NB.v (Qba y x))) (Qaa (Qbb v))))) (Qaa (Qbb v))) (Qat (Qas (Qa1 (Qaa (NB.v (Qba y x))) (Qaa (Qbb v)))) (Qc9 (Qa1 (Qaa (NB.v (Qba y x))) (Qaa (Qbb v))) (Qat (NB.v (Qba y x)) (NB.f (Qba y x))||Qat (Qbb v) (Qat v f)))||Qat (Qbb v) (Qat v f)))||Qat (Qas (IntKind.wrap IntKind.i64 (IntKind.wrap IntKind.i64 (2 * ((↑x : Int) + 1)) * IntKind.wrap IntKind.i64 (IntKind.wrap IntKind.i64 (2 * ((↑x : Int) + 1)) + 1)) * 4294967296)) (Qc9 (IntKind.wrap IntKind.i64 (IntKind.wrap IntKind.i64 (2 * ((↑x : Int) + 1)) * IntKind.wrap IntKind.i64 (IntKind.wrap IntKind.i64 (2 * ((↑x : Int) + 1)) + 1)) * 4294967296) false))))))] = [(SV.v (.int .i64 (NB.v (Qba y x')))),(SV.v (.bool (NB.f (Qba y x'))))])))))∧(((1 : Nat) = 1)∧(((1 : Nat) ≤ 1)∧(∀ i : Nat,(((i : Nat) < 1)→([(SV.v (.int .i64 (Qas (Qaa (NB.v (Qb9 y x)) + Qaa (-Qaa (Qdd (Qaa (Qas (Qa1 (Qaa (Qas (Qa1 (Qaa (NB.v (Qba y x))) (Qaa (Qbb v))))) (Qaa (Qbb v))))) (Qaa (Qas (IntKind.wrap IntKind.i64 (IntKind.wrap IntKind.i64 (2 * ((↑x : Int) + 1)) * IntKind.wrap IntKind.i64 (IntKind.wrap IntKind.i64 (2 * ((↑x : Int) + 1)) + 1)) * 4294967296))))))))),(SV.v (.bool (Qc9 (Qaa (NB.v (Qb9 y x)) + Qaa (-Qaa (Qdd (Qaa (Qas (Qa1 (Qaa (Qas (Qa1 (Qaa (NB.v (Qba y x))) (Qaa (Qbb v))))) (Qaa (Qbb v))))) (Qaa (Qas (IntKind.wrap IntKind.i64 (IntKind.wrap IntKind.i64 (2 * ((↑x : Int) + 1)) * IntKind.wrap IntKind.i64 (IntKind.wrap IntKind.i64 (2 * ((↑x : Int) + 1)) + 1)) * 4294967296)))))) (Qat (NB.v (Qb9 y x)) (NB.f (Qb9 y x))||Qat (-Qaa (Qdd (Qaa (Qas (Qa1 (Qaa (Qas (Qa1 (Qaa (NB.v (Qba y x))) (Qaa (Qbb v))))) (Qaa (Qbb v))))) (Qaa (Qas (IntKind.wrap IntKind.i64 (IntKind.wrap IntKind.i64 (2 * ((↑x : Int) + 1)) * IntKind.wrap IntKind.i64 (IntKind.wrap IntKind.i64 (2 * ((↑x : Int) + 1)) + 1)) * 4294967296))))) (Qat (Qdd (Qaa (Qas (Qa1 (Qaa (Qas (Qa1 (Qaa (NB.v (Qba y x))) (Qaa (Qbb v))))) (Qaa (Qbb v))))) (Qaa (Qas (IntKind.wrap IntKind.i64 (IntKind.wrap IntKind.i64 (2 * ((↑x : Int) + 1)) * IntKind.wrap IntKind.i64 (IntKind.wrap IntKind.i64 (2 * ((↑x : Int) + 1)) + 1)) * 4294967296)))) (Qjf (Qaa (Qas (Qa1 (Qaa (Qas (Qa1 (Qaa (NB.v (Qba y x))) (Qaa (Qbb v))))) (Qaa (Qbb v))))) (Qaa (Qas (IntKind.wrap IntKind.i64 (IntKind.wrap IntKind.i64 (2 * ((↑x : Int) + 1)) * IntKind.wrap IntKind.i64 (IntKind.wrap IntKind.i64 (2 * ((↑x : Int) + 1)) + 1)) * 4294967296)))||(Qat (Qas (Qa1 (Qaa (Qas (Qa1 (Qaa (NB.v (Qba y x))) (Qaa (Qbb v))))) (Qaa (Qbb v)))) (Qc9 (Qa1 (Qaa (Qas (Qa1 (Qaa (NB.v (Qba y x))) (Qaa (Qbb v))))) (Qaa (Qbb v))) (Qat (Qas (Qa1 (Qaa (NB.v (Qba y x))) (Qaa (Qbb v)))) (Qc9 (Qa1 (Qaa (NB.v (Qba y x))) (Qaa (Qbb v))) (Qat (NB.v (Qba y x)) (NB.f (Qba y x))||Qat (Qbb v) (Qat v f)))||Qat (Qbb v) (Qat v f)))||Qat (Qas (IntKind.wrap IntKind.i64 (IntKind.wrap IntKind.i64 (2 * ((↑x : Int) + 1)) * IntKind.wrap IntKind.i64 (IntKind.wrap IntKind.i64 (2 * ((↑x : Int) + 1)) + 1)) * 4294967296)) (Qc9 (IntKind.wrap IntKind.i64 (IntKind.wrap IntKind.i64 (2 * ((↑x : Int) + 1)) * IntKind.wrap IntKind.i64 (IntKind.wrap IntKind.i64 (2 * ((↑x : Int) + 1)) + 1)) * 4294967296) false))))))))] = [(SV.v (.int .i64 (NB.v (Qb9 y x')))),(SV.v (.bool (NB.f (Qb9 y x'))))]))))))))∧(((8 - x') : Nat) < (8 - x)))))))))) (((I64 (NB.v (Qb9 y x)))∧((I64 (-4294967296))∧(I64 4294967296)))∧(R (SV.agg [(SV.v (.int .i64 (Qnm (-4294967296) (Qlr (Qaa (NB.v (Qb9 y x))) 4294967296)))),(SV.v (.bool (false||(Qat (NB.v (Qb9 y x)) (NB.f (Qb9 y x))||false))))]))))))) ((∃ x : Nat,((Nat.le x 8)∧(((SV.v (.int .i64 1)) = (SV.v (.int .i64 ((↑x : Int) + 1))))∧((((1 : Nat) = 1)∧(((1 : Nat) ≤ 1)∧(∀ i : Nat,(((i : Nat) < 1)→([(SV.v (.int .i64 (IntKind.wrap IntKind.i64 (13493037704 - Qau (Qaa v))))),(SV.v (.bool (Qat v f)))] = [(SV.v (.int .i64 (NB.v (Qba y x)))),(SV.v (.bool (NB.f (Qba y x))))])))))∧(((1 : Nat) = 1)∧(((1 : Nat) ≤ 1)∧(∀ i : Nat,(((i : Nat) < 1)→([(SV.v (.int .i64 (IntKind.wrap IntKind.i64 (13493037704 - Qau (Qaa v))))),(SV.v (.bool (Qat v f)))] = [(SV.v (.int .i64 (NB.v (Qb9 y x)))),(SV.v (.bool (NB.f (Qb9 y x))))])))))))))∧(∀ x : Nat,((Nat.le x 8)→(sel (decide ((↑x : Int) + 1 ≤ 8)) (((I64 (NB.v (Qba y x)))∧(I64 (IntKind.wrap IntKind.i64 (13493037704 - Qau (Qaa v)))))∧(((I64 (Qas (Qa1 (Qaa (NB.v (Qba y x))) (Qbi v))))∧(I64 (IntKind.wrap IntKind.i64 (13493037704 - Qau (Qaa v)))))∧((I64 (IntKind.wrap IntKind.i64 (IntKind.wrap IntKind.i64 (2 * ((↑x : Int) + 1)) * IntKind.wrap IntKind.i64 (IntKind.wrap IntKind.i64 (2 * ((↑x : Int) + 1)) + 1))))∧(((I64 (Qas (Qa1 (Qaa (Qas (Qa1 (Qaa (NB.v (Qba y x))) (Qbi v)))) (Qbi v))))∧(I64 (Qas (IntKind.wrap IntKind.i64 (IntKind.wrap IntKind.i64 (2 * ((↑x : Int) + 1)) * IntKind.wrap IntKind.i64 (IntKind.wrap IntKind.i64 (2 * ((↑x : Int) + 1)) + 1)) * 4294967296))))∧((I64 (Qdd (Qaa (Qas (Qa1 (Qaa (Qas (Qa1 (Qaa (NB.v (Qba y x))) (Qbi v)))) (Qbi v)))) (Qaa (Qas (IntKind.wrap IntKind.i64 (IntKind.wrap IntKind.i64 (2 * ((↑x : Int) + 1)) * IntKind.wrap IntKind.i64 (IntKind.wrap IntKind.i64 (2 * ((↑x : Int) + 1)) + 1)) * 4294967296)))))∧(((I64 (NB.v (Qb9 y x)))∧(I64 (-Qaa (Qdd (Qaa (Qas (Qa1 (Qaa (Qas (Qa1 (Qaa (NB.v (Qba y x))) (Qbi v)))) (Qbi v)))) (Qaa (Qas (IntKind.wrap IntKind.i64 (IntKind.wrap IntKind.i64 (2 * ((↑x : Int) + 1)) * IntKind.wrap IntKind.i64 (IntKind.wrap IntKind.i64 (2 * ((↑x : Int) + 1)) + 1)) * 4294967296)))))))∧(∃ x' : Nat,(((Nat.le x' 8)∧(((SV.v (.int .i64 (IntKind.wrap IntKind.i64 ((↑x : Int) + 1 + 1)))) = (SV.v (.int .i64 ((↑x' : Int) + 1))))∧((((1 : Nat) = 1)∧(((1 : Nat) ≤ 1)∧(∀ i : Nat,(((i : Nat) < 1)→([(SV.v (.int .i64 (-Qaa (Qdd (Qaa (Qas (Qa1 (Qaa (Qas (Qa1 (Qaa (NB.v (Qba y x))) (Qbi v)))) (Qbi v)))) (Qaa (Qas (IntKind.wrap IntKind.i64 (IntKind.wrap IntKind.i64 (2 * ((↑x : Int) + 1)) * IntKind.wrap IntKind.i64 (IntKind.wrap IntKind.i64 (2 * ((↑x : Int) + 1)) + 1)) * 4294967296))))))),(SV.v (.bool (Qat (Qdd (Qaa (Qas (Qa1 (Qaa (Qas (Qa1 (Qaa (NB.v (Qba y x))) (Qbi v)))) (Qbi v)))) (Qaa (Qas (IntKind.wrap IntKind.i64 (IntKind.wrap IntKind.i64 (2 * ((↑x : Int) + 1)) * IntKind.wrap IntKind.i64 (IntKind.wrap IntKind.i64 (2 * ((↑x : Int) + 1)) + 1)) * 4294967296)))) (Qjf (Qaa (Qas (Qa1 (Qaa (Qas (Qa1 (Qaa (NB.v (Qba y x))) (Qbi v)))) (Qbi v)))) (Qaa (Qas (IntKind.wrap IntKind.i64 (IntKind.wrap IntKind.i64 (2 * ((↑x : Int) + 1)) * IntKind.wrap IntKind.i64 (IntKind.wrap IntKind.i64 (2 * ((↑x : Int) + 1)) + 1)) * 4294967296)))||(Qat (Qas (Qa1 (Qaa (Qas (Qa1 (Qaa (NB.v (Qba y x))) (Qbi v)))) (Qbi v))) (Qc9 (Qa1 (Qaa (Qas (Qa1 (Qaa (NB.v (Qba y x))) (Qbi v)))) (Qbi v)) (Qat (Qas (Qa1 (Qaa (NB.v (Qba y x))) (Qbi v))) (Qc9 (Qa1 (Qaa (NB.v (Qba y x))) (Qbi v)) (Qat (NB.v (Qba y x)) (NB.f (Qba y x))||Qat (IntKind.wrap IntKind.i64 (13493037704 - Qau (Qaa v))) (Qat v f)))||Qat (IntKind.wrap IntKind.i64 (13493037704 - Qau (Qaa v))) (Qat v f)))||Qat (Qas (IntKind.wrap IntKind.i64 (IntKind.wrap IntKind.i64 (2 * ((↑x : Int) + 1)) * IntKind.wrap IntKind.i64 (IntKind.wrap IntKind.i64 (2 * ((↑x : Int) + 1)) + 1)) * 4294967296)) (Qc9 (IntKind.wrap IntKind.i64 (IntKind.wrap IntKind.i64 (2 * ((↑x : Int) + 1)) * IntKind.wrap IntKind.i64 (IntKind.wrap IntKind.i64 (2 * ((↑x : Int) + 1)) + 1)) * 4294967296) false))))))] = [(SV.v (.int .i64 (NB.v (Qba y x')))),(SV.v (.bool (NB.f (Qba y x'))))])))))∧(((1 : Nat) = 1)∧(((1 : Nat) ≤ 1)∧(∀ i : Nat,(((i : Nat) < 1)→([(SV.v (.int .i64 (Qas (Qaa (NB.v (Qb9 y x)) + Qaa (-Qaa (Qdd (Qaa (Qas (Qa1 (Qaa (Qas (Qa1 (Qaa (NB.v (Qba y x))) (Qbi v)))) (Qbi v)))) (Qaa (Qas (IntKind.wrap IntKind.i64 (IntKind.wrap IntKind.i64 (2 * ((↑x : Int) + 1)) * IntKind.wrap IntKind.i64 (IntKind.wrap IntKind.i64 (2 * ((↑x : Int) + 1)) + 1)) * 4294967296))))))))),(SV.v (.bool (Qc9 (Qaa (NB.v (Qb9 y x)) + Qaa (-Qaa (Qdd (Qaa (Qas (Qa1 (Qaa (Qas (Qa1 (Qaa (NB.v (Qba y x))) (Qbi v)))) (Qbi v)))) (Qaa (Qas (IntKind.wrap IntKind.i64 (IntKind.wrap IntKind.i64 (2 * ((↑x : Int) + 1)) * IntKind.wrap IntKind.i64 (IntKind.wrap IntKind.i64 (2 * ((↑x : Int) + 1)) + 1)) * 4294967296)))))) (Qat (NB.v (Qb9 y x)) (NB.f (Qb9 y x))||Qat (-Qaa (Qdd (Qaa (Qas (Qa1 (Qaa (Qas (Qa1 (Qaa (NB.v (Qba y x))) (Qbi v)))) (Qbi v)))) (Qaa (Qas (IntKind.wrap IntKind.i64 (IntKind.wrap IntKind.i64 (2 * ((↑x : Int) + 1)) * IntKind.wrap IntKind.i64 (IntKind.wrap IntKind.i64 (2 * ((↑x : Int) + 1)) + 1)) * 4294967296))))) (Qat (Qdd (Qaa (Qas (Qa1 (Qaa (Qas (Qa1 (Qaa (NB.v (Qba y x))) (Qbi v)))) (Qbi v)))) (Qaa (Qas (IntKind.wrap IntKind.i64 (IntKind.wrap IntKind.i64 (2 * ((↑x : Int) + 1)) * IntKind.wrap IntKind.i64 (IntKind.wrap IntKind.i64 (2 * ((↑x : Int) + 1)) + 1)) * 4294967296)))) (Qjf (Qaa (Qas (Qa1 (Qaa (Qas (Qa1 (Qaa (NB.v (Qba y x))) (Qbi v)))) (Qbi v)))) (Qaa (Qas (IntKind.wrap IntKind.i64 (IntKind.wrap IntKind.i64 (2 * ((↑x : Int) + 1)) * IntKind.wrap IntKind.i64 (IntKind.wrap IntKind.i64 (2 * ((↑x : Int) + 1)) + 1)) * 4294967296)))||(Qat (Qas (Qa1 (Qaa (Qas (Qa1 (Qaa (NB.v (Qba y x))) (Qbi v)))) (Qbi v))) (Qc9 (Qa1 (Qaa (Qas (Qa1 (Qaa (NB.v (Qba y x))) (Qbi v)))) (Qbi v)) (Qat (Qas (Qa1 (Qaa (NB.v (Qba y x))) (Qbi v))) (Qc9 (Qa1 (Qaa (NB.v (Qba y x))) (Qbi v)) (Qat (NB.v (Qba y x)) (NB.f (Qba y x))||Qat (IntKind.wrap IntKind.i64 (13493037704 - Qau (Qaa v))) (Qat v f)))||Qat (IntKind.wrap IntKind.i64 (13493037704 - Qau (Qaa v))) (Qat v f)))||Qat (Qas (IntKind.wrap IntKind.i64 (IntKind.wrap IntKind.i64 (2 * ((↑x : Int) + 1)) * IntKind.wrap IntKind.i64 (IntKind.wrap IntKind.i64 (2 * ((↑x : Int) + 1)) + 1)) * 4294967296)) (Qc9 (IntKind.wrap IntKind.i64 (IntKind.wrap IntKind.i64 (2 * ((↑x : Int) + 1)) * IntKind.wrap IntKind.i64 (IntKind.wrap IntKind.i64 (2 * ((↑x : Int) + 1)) + 1)) * 4294967296) false))))))))] = [(SV.v (.int .i64 (NB.v (Qb9 y x')))),(SV.v (.bool (NB.f (Qb9 y x'))))]))))))))∧(((8 - x') : Nat) < (8 - x)))))))))) (((I64 (NB.v (Qb9 y x)))∧((I64 (-4294967296))∧(I64 4294967296)))∧(R (SV.agg [(SV.v (.int .i64 (Qnm (-4294967296) (Qlr (Qaa (NB.v (Qb9 y x))) 4294967296)))),(SV.v (.bool (false||(Qat (NB.v (Qb9 y x)) (NB.f (Qb9 y x))||false))))])))))))) (sel (decide (Qau (Qaa v) < -6746518852)) ((∃ x : Nat,((Nat.le x 8)∧(((SV.v (.int .i64 1)) = (SV.v (.int .i64 ((↑x : Int) + 1))))∧((((1 : Nat) = 1)∧(((1 : Nat) ≤ 1)∧(∀ i : Nat,(((i : Nat) < 1)→([(SV.v (.int .i64 (IntKind.wrap IntKind.i64 (-13493037704 - Qau (Qaa v))))),(SV.v (.bool (Qat v f)))] = [(SV.v (.int .i64 (NB.v (Qba y x)))),(SV.v (.bool (NB.f (Qba y x))))])))))∧(((1 : Nat) = 1)∧(((1 : Nat) ≤ 1)∧(∀ i : Nat,(((i : Nat) < 1)→([(SV.v (.int .i64 (IntKind.wrap IntKind.i64 (-13493037704 - Qau (Qaa v))))),(SV.v (.bool (Qat v f)))] = [(SV.v (.int .i64 (NB.v (Qb9 y x)))),(SV.v (.bool (NB.f (Qb9 y x))))])))))))))∧(∀ x : Nat,((Nat.le x 8)→(sel (decide ((↑x : Int) + 1 ≤ 8)) (((I64 (NB.v (Qba y x)))∧(I64 (IntKind.wrap IntKind.i64 (-13493037704 - Qau (Qaa v)))))∧(((I64 (Qas (Qa1 (Qaa (NB.v (Qba y x))) (Qbj v))))∧(I64 (IntKind.wrap IntKind.i64 (-13493037704 - Qau (Qaa v)))))∧((I64 (IntKind.wrap IntKind.i64 (IntKind.wrap IntKind.i64 (2 * ((↑x : Int) + 1)) * IntKind.wrap IntKind.i64 (IntKind.wrap IntKind.i64 (2 * ((↑x : Int) + 1)) + 1))))∧(((I64 (Qas (Qa1 (Qaa (Qas (Qa1 (Qaa (NB.v (Qba y x))) (Qbj v)))) (Qbj v))))∧(I64 (Qas (IntKind.wrap IntKind.i64 (IntKind.wrap IntKind.i64 (2 * ((↑x : Int) + 1)) * IntKind.wrap IntKind.i64 (IntKind.wrap IntKind.i64 (2 * ((↑x : Int) + 1)) + 1)) * 4294967296))))∧((I64 (Qdd (Qaa (Qas (Qa1 (Qaa (Qas (Qa1 (Qaa (NB.v (Qba y x))) (Qbj v)))) (Qbj v)))) (Qaa (Qas (IntKind.wrap IntKind.i64 (IntKind.wrap IntKind.i64 (2 * ((↑x : Int) + 1)) * IntKind.wrap IntKind.i64 (IntKind.wrap IntKind.i64 (2 * ((↑x : Int) + 1)) + 1)) * 4294967296)))))∧(((I64 (NB.v (Qb9 y x)))∧(I64 (-Qaa (Qdd (Qaa (Qas (Qa1 (Qaa (Qas (Qa1 (Qaa (NB.v (Qba y x))) (Qbj v)))) (Qbj v)))) (Qaa (Qas (IntKind.wrap IntKind.i64 (IntKind.wrap IntKind.i64 (2 * ((↑x : Int) + 1)) * IntKind.wrap IntKind.i64 (IntKind.wrap IntKind.i64 (2 * ((↑x : Int) + 1)) + 1)) * 4294967296)))))))∧(∃ x' : Nat,(((Nat.le x' 8)∧(((SV.v (.int .i64 (IntKind.wrap IntKind.i64 ((↑x : Int) + 1 + 1)))) = (SV.v (.int .i64 ((↑x' : Int) + 1))))∧((((1 : Nat) = 1)∧(((1 : Nat) ≤ 1)∧(∀ i : Nat,(((i : Nat) < 1)→([(SV.v (.int .i64 (-Qaa (Qdd (Qaa (Qas (Qa1 (Qaa (Qas (Qa1 (Qaa (NB.v (Qba y x))) (Qbj v)))) (Qbj v)))) (Qaa (Qas (IntKind.wrap IntKind.i64 (IntKind.wrap IntKind.i64 (2 * ((↑x : Int) + 1)) * IntKind.wrap IntKind.i64 (IntKind.wrap IntKind.i64 (2 * ((↑x : Int) + 1)) + 1)) * 4294967296))))))),(SV.v (.bool (Qat (Qdd (Qaa (Qas (Qa1 (Qaa (Qas (Qa1 (Qaa (NB.v (Qba y x))) (Qbj v)))) (Qbj v)))) (Qaa (Qas (IntKind.wrap IntKind.i64 (IntKind.wrap IntKind.i64 (2 * ((↑x : Int) + 1)) * IntKind.wrap IntKind.i64 (IntKind.wrap IntKind.i64 (2 * ((↑x : Int) + 1)) + 1)) * 4294967296)))) (Qjf (Qaa (Qas (Qa1 (Qaa (Qas (Qa1 (Qaa (NB.v (Qba y x))) (Qbj v)))) (Qbj v)))) (Qaa (Qas (IntKind.wrap IntKind.i64 (IntKind.wrap IntKind.i64 (2 * ((↑x : Int) + 1)) * IntKind.wrap IntKind.i64 (IntKind.wrap IntKind.i64 (2 * ((↑x : Int) + 1)) + 1)) * 4294967296)))||(Qat (Qas (Qa1 (Qaa (Qas (Qa1 (Qaa (NB.v (Qba y x))) (Qbj v)))) (Qbj v))) (Qc9 (Qa1 (Qaa (Qas (Qa1 (Qaa (NB.v (Qba y x))) (Qbj v)))) (Qbj v)) (Qat (Qas (Qa1 (Qaa (NB.v (Qba y x))) (Qbj v))) (Qc9 (Qa1 (Qaa (NB.v (Qba y x))) (Qbj v)) (Qat (NB.v (Qba y x)) (NB.f (Qba y x))||Qat (IntKind.wrap IntKind.i64 (-13493037704 - Qau (Qaa v))) (Qat v f)))||Qat (IntKind.wrap IntKind.i64 (-13493037704 - Qau (Qaa v))) (Qat v f)))||Qat (Qas (IntKind.wrap IntKind.i64 (IntKind.wrap IntKind.i64 (2 * ((↑x : Int) + 1)) * IntKind.wrap IntKind.i64 (IntKind.wrap IntKind.i64 (2 * ((↑x : Int) + 1)) + 1)) * 4294967296)) (Qc9 (IntKind.wrap IntKind.i64 (IntKind.wrap IntKind.i64 (2 * ((↑x : Int) + 1)) * IntKind.wrap IntKind.i64 (IntKind.wrap IntKind.i64 (2 * ((↑x : Int) + 1)) + 1)) * 4294967296) false))))))] = [(SV.v (.int .i64 (NB.v (Qba y x')))),(SV.v (.bool (NB.f (Qba y x'))))])))))∧(((1 : Nat) = 1)∧(((1 : Nat) ≤ 1)∧(∀ i : Nat,(((i : Nat) < 1)→([(SV.v (.int .i64 (Qas (Qaa (NB.v (Qb9 y x)) + Qaa (-Qaa (Qdd (Qaa (Qas (Qa1 (Qaa (Qas (Qa1 (Qaa (NB.v (Qba y x))) (Qbj v)))) (Qbj v)))) (Qaa (Qas (IntKind.wrap IntKind.i64 (IntKind.wrap IntKind.i64 (2 * ((↑x : Int) + 1)) * IntKind.wrap IntKind.i64 (IntKind.wrap IntKind.i64 (2 * ((↑x : Int) + 1)) + 1)) * 4294967296))))))))),(SV.v (.bool (Qc9 (Qaa (NB.v (Qb9 y x)) + Qaa (-Qaa (Qdd (Qaa (Qas (Qa1 (Qaa (Qas (Qa1 (Qaa (NB.v (Qba y x))) (Qbj v)))) (Qbj v)))) (Qaa (Qas (IntKind.wrap IntKind.i64 (IntKind.wrap IntKind.i64 (2 * ((↑x : Int) + 1)) * IntKind.wrap IntKind.i64 (IntKind.wrap IntKind.i64 (2 * ((↑x : Int) + 1)) + 1)) * 4294967296)))))) (Qat (NB.v (Qb9 y x)) (NB.f (Qb9 y x))||Qat (-Qaa (Qdd (Qaa (Qas (Qa1 (Qaa (Qas (Qa1 (Qaa (NB.v (Qba y x))) (Qbj v)))) (Qbj v)))) (Qaa (Qas (IntKind.wrap IntKind.i64 (IntKind.wrap IntKind.i64 (2 * ((↑x : Int) + 1)) * IntKind.wrap IntKind.i64 (IntKind.wrap IntKind.i64 (2 * ((↑x : Int) + 1)) + 1)) * 4294967296))))) (Qat (Qdd (Qaa (Qas (Qa1 (Qaa (Qas (Qa1 (Qaa (NB.v (Qba y x))) (Qbj v)))) (Qbj v)))) (Qaa (Qas (IntKind.wrap IntKind.i64 (IntKind.wrap IntKind.i64 (2 * ((↑x : Int) + 1)) * IntKind.wrap IntKind.i64 (IntKind.wrap IntKind.i64 (2 * ((↑x : Int) + 1)) + 1)) * 4294967296)))) (Qjf (Qaa (Qas (Qa1 (Qaa (Qas (Qa1 (Qaa (NB.v (Qba y x))) (Qbj v)))) (Qbj v)))) (Qaa (Qas (IntKind.wrap IntKind.i64 (IntKind.wrap IntKind.i64 (2 * ((↑x : Int) + 1)) * IntKind.wrap IntKind.i64 (IntKind.wrap IntKind.i64 (2 * ((↑x : Int) + 1)) + 1)) * 4294967296)))||(Qat (Qas (Qa1 (Qaa (Qas (Qa1 (Qaa (NB.v (Qba y x))) (Qbj v)))) (Qbj v))) (Qc9 (Qa1 (Qaa (Qas (Qa1 (Qaa (NB.v (Qba y x))) (Qbj v)))) (Qbj v)) (Qat (Qas (Qa1 (Qaa (NB.v (Qba y x))) (Qbj v))) (Qc9 (Qa1 (Qaa (NB.v (Qba y x))) (Qbj v)) (Qat (NB.v (Qba y x)) (NB.f (Qba y x))||Qat (IntKind.wrap IntKind.i64 (-13493037704 - Qau (Qaa v))) (Qat v f)))||Qat (IntKind.wrap IntKind.i64 (-13493037704 - Qau (Qaa v))) (Qat v f)))||Qat (Qas (IntKind.wrap IntKind.i64 (IntKind.wrap IntKind.i64 (2 * ((↑x : Int) + 1)) * IntKind.wrap IntKind.i64 (IntKind.wrap IntKind.i64 (2 * ((↑x : Int) + 1)) + 1)) * 4294967296)) (Qc9 (IntKind.wrap IntKind.i64 (IntKind.wrap IntKind.i64 (2 * ((↑x : Int) + 1)) * IntKind.wrap IntKind.i64 (IntKind.wrap IntKind.i64 (2 * ((↑x : Int) + 1)) + 1)) * 4294967296) false))))))))] = [(SV.v (.int .i64 (NB.v (Qb9 y x')))),(SV.v (.bool (NB.f (Qb9 y x'))))]))))))))∧(((8 - x') : Nat) < (8 - x)))))))))) (((I64 (NB.v (Qb9 y x)))∧((I64 (-4294967296))∧(I64 4294967296)))∧(R (SV.agg [(SV.v (.int .i64 (Qnm (-4294967296) (Qlr (Qaa (NB.v (Qb9 y x))) 4294967296)))),(SV.v (.bool (false||(Qat (NB.v (Qb9 y x)) (NB.f (Qb9 y x))||false))))]))))))) ((∃ x : Nat,((Nat.le x 8)∧(((SV.v (.int .i64 1)) = (SV.v (.int .i64 ((↑x : Int) + 1))))∧((((1 : Nat) = 1)∧(((1 : Nat) ≤ 1)∧(∀ i : Nat,(((i : Nat) < 1)→([(SV.v (.int .i64 (Qau (Qaa v)))),(SV.v (.bool (Qat v f)))] = [(SV.v (.int .i64 (NB.v (Qba y x)))),(SV.v (.bool (NB.f (Qba y x))))])))))∧(((1 : Nat) = 1)∧(((1 : Nat) ≤ 1)∧(∀ i : Nat,(((i : Nat) < 1)→([(SV.v (.int .i64 (Qau (Qaa v)))),(SV.v (.bool (Qat v f)))] = [(SV.v (.int .i64 (NB.v (Qb9 y x)))),(SV.v (.bool (NB.f (Qb9 y x))))])))))))))∧(∀ x : Nat,((Nat.le x 8)→(sel (decide ((↑x : Int) + 1 ≤ 8)) (((I64 (NB.v (Qba y x)))∧(I64 (Qau (Qaa v))))∧(((I64 (Qas (Qa1 (Qaa (NB.v (Qba y x))) (Qaa (Qau (Qaa v))))))∧(I64 (Qau (Qaa v))))∧((I64 (IntKind.wrap IntKind.i64 (IntKind.wrap IntKind.i64 (2 * ((↑x : Int) + 1)) * IntKind.wrap IntKind.i64 (IntKind.wrap IntKind.i64 (2 * ((↑x : Int) + 1)) + 1))))∧(((I64 (Qas (Qa1 (Qaa (Qas (Qa1 (Qaa (NB.v (Qba y x))) (Qaa (Qau (Qaa v)))))) (Qaa (Qau (Qaa v))))))∧(I64 (Qas (IntKind.wrap IntKind.i64 (IntKind.wrap IntKind.i64 (2 * ((↑x : Int) + 1)) * IntKind.wrap IntKind.i64 (IntKind.wrap IntKind.i64 (2 * ((↑x : Int) + 1)) + 1)) * 4294967296))))∧((I64 (Qdd (Qaa (Qas (Qa1 (Qaa (Qas (Qa1 (Qaa (NB.v (Qba y x))) (Qaa (Qau (Qaa v)))))) (Qaa (Qau (Qaa v)))))) (Qaa (Qas (IntKind.wrap IntKind.i64 (IntKind.wrap IntKind.i64 (2 * ((↑x : Int) + 1)) * IntKind.wrap IntKind.i64 (IntKind.wrap IntKind.i64 (2 * ((↑x : Int) + 1)) + 1)) * 4294967296)))))∧(((I64 (NB.v (Qb9 y x)))∧(I64 (-Qaa (Qdd (Qaa (Qas (Qa1 (Qaa (Qas (Qa1 (Qaa (NB.v (Qba y x))) (Qaa (Qau (Qaa v)))))) (Qaa (Qau (Qaa v)))))) (Qaa (Qas (IntKind.wrap IntKind.i64 (IntKind.wrap IntKind.i64 (2 * ((↑x : Int) + 1)) * IntKind.wrap IntKind.i64 (IntKind.wrap IntKind.i64 (2 * ((↑x : Int) + 1)) + 1)) * 4294967296)))))))∧(∃ x' : Nat,(((Nat.le x' 8)∧(((SV.v (.int .i64 (IntKind.wrap IntKind.i64 ((↑x : Int) + 1 + 1)))) = (SV.v (.int .i64 ((↑x' : Int) + 1))))∧((((1 : Nat) = 1)∧(((1 : Nat) ≤ 1)∧(∀ i : Nat,(((i : Nat) < 1)→([(SV.v (.int .i64 (-Qaa (Qdd (Qaa (Qas (Qa1 (Qaa (Qas (Qa1 (Qaa (NB.v (Qba y x))) (Qaa (Qau (Qaa v)))))) (Qaa (Qau (Qaa v)))))) (Qaa (Qas (IntKind.wrap IntKind.i64 (IntKind.wrap IntKind.i64 (2 * ((↑x : Int) + 1)) * IntKind.wrap IntKind.i64 (IntKind.wrap IntKind.i64 (2 * ((↑x : Int) + 1)) + 1)) * 4294967296))))))),(SV.v (.bool (Qat (Qdd (Qaa (Qas (Qa1 (Qaa (Qas (Qa1 (Qaa (NB.v (Qba y x))) (Qaa (Qau (Qaa v)))))) (Qaa (Qau (Qaa v)))))) (Qaa (Qas (IntKind.wrap IntKind.i64 (IntKind.wrap IntKind.i64 (2 * ((↑x : Int) + 1)) * IntKind.wrap IntKind.i64 (IntKind.wrap IntKind.i64 (2 * ((↑x : Int) + 1)) + 1)) * 4294967296)))) (Qjf (Qaa (Qas (Qa1 (Qaa (Qas (Qa1 (Qaa (NB.v (Qba y x))) (Qaa (Qau (Qaa v)))))) (Qaa (Qau (Qaa v)))))) (Qaa (Qas (IntKind.wrap IntKind.i64 (IntKind.wrap IntKind.i64 (2 * ((↑x : Int) + 1)) * IntKind.wrap IntKind.i64 (IntKind.wrap IntKind.i64 (2 * ((↑x : Int) + 1)) + 1)) * 4294967296)))||(Qat (Qas (Qa1 (Qaa (Qas (Qa1 (Qaa (NB.v (Qba y x))) (Qaa (Qau (Qaa v)))))) (Qaa (Qau (Qaa v))))) (Qc9 (Qa1 (Qaa (Qas (Qa1 (Qaa (NB.v (Qba y x))) (Qaa (Qau (Qaa v)))))) (Qaa (Qau (Qaa v)))) (Qat (Qas (Qa1 (Qaa (NB.v (Qba y x))) (Qaa (Qau (Qaa v))))) (Qc9 (Qa1 (Qaa (NB.v (Qba y x))) (Qaa (Qau (Qaa v)))) (Qat (NB.v (Qba y x)) (NB.f (Qba y x))||Qat (Qau (Qaa v)) (Qat v f)))||Qat (Qau (Qaa v)) (Qat v f)))||Qat (Qas (IntKind.wrap IntKind.i64 (IntKind.wrap IntKind.i64 (2 * ((↑x : Int) + 1)) * IntKind.wrap IntKind.i64 (IntKind.wrap IntKind.i64 (2 * ((↑x : Int) + 1)) + 1)) * 4294967296)) (Qc9 (IntKind.wrap IntKind.i64 (IntKind.wrap IntKind.i64 (2 * ((↑x : Int) + 1)) * IntKind.wrap IntKind.i64 (IntKind.wrap IntKind.i64 (2 * ((↑x : Int) + 1)) + 1)) * 4294967296) false))))))] = [(SV.v (.int .i64 (NB.v (Qba y x')))),(SV.v (.bool (NB.f (Qba y x'))))])))))∧(((1 : Nat) = 1)∧(((1 : Nat) ≤ 1)∧(∀ i : Nat,(((i : Nat) < 1)→([(SV.v (.int .i64 (Qas (Qaa (NB.v (Qb9 y x)) + Qaa (-Qaa (Qdd (Qaa (Qas (Qa1 (Qaa (Qas (Qa1 (Qaa (NB.v (Qba y x))) (Qaa (Qau (Qaa v)))))) (Qaa (Qau (Qaa v)))))) (Qaa (Qas (IntKind.wrap IntKind.i64 (IntKind.wrap IntKind.i64 (2 * ((↑x : Int) + 1)) * IntKind.wrap IntKind.i64 (IntKind.wrap IntKind.i64 (2 * ((↑x : Int) + 1)) + 1)) * 4294967296))))))))),(SV.v (.bool (Qc9 (Qaa (NB.v (Qb9 y x)) + Qaa (-Qaa (Qdd (Qaa (Qas (Qa1 (Qaa (Qas (Qa1 (Qaa (NB.v (Qba y x))) (Qaa (Qau (Qaa v)))))) (Qaa (Qau (Qaa v)))))) (Qaa (Qas (IntKind.wrap IntKind.i64 (IntKind.wrap IntKind.i64 (2 * ((↑x : Int) + 1)) * IntKind.wrap IntKind.i64 (IntKind.wrap IntKind.i64 (2 * ((↑x : Int) + 1)) + 1)) * 4294967296)))))) (Qat (NB.v (Qb9 y x)) (NB.f (Qb9 y x))||Qat (-Qaa (Qdd (Qaa (Qas (Qa1 (Qaa (Qas (Qa1 (Qaa (NB.v (Qba y x))) (Qaa (Qau (Qaa v)))))) (Qaa (Qau (Qaa v)))))) (Qaa (Qas (IntKind.wrap IntKind.i64 (IntKind.wrap IntKind.i64 (2 * ((↑x : Int) + 1)) * IntKind.wrap IntKind.i64 (IntKind.wrap IntKind.i64 (2 * ((↑x : Int) + 1)) + 1)) * 4294967296))))) (Qat (Qdd (Qaa (Qas (Qa1 (Qaa (Qas (Qa1 (Qaa (NB.v (Qba y x))) (Qaa (Qau (Qaa v)))))) (Qaa (Qau (Qaa v)))))) (Qaa (Qas (IntKind.wrap IntKind.i64 (IntKind.wrap IntKind.i64 (2 * ((↑x : Int) + 1)) * IntKind.wrap IntKind.i64 (IntKind.wrap IntKind.i64 (2 * ((↑x : Int) + 1)) + 1)) * 4294967296)))) (Qjf (Qaa (Qas (Qa1 (Qaa (Qas (Qa1 (Qaa (NB.v (Qba y x))) (Qaa (Qau (Qaa v)))))) (Qaa (Qau (Qaa v)))))) (Qaa (Qas (IntKind.wrap IntKind.i64 (IntKind.wrap IntKind.i64 (2 * ((↑x : Int) + 1)) * IntKind.wrap IntKind.i64 (IntKind.wrap IntKind.i64 (2 * ((↑x : Int) + 1)) + 1)) * 4294967296)))||(Qat (Qas (Qa1 (Qaa (Qas (Qa1 (Qaa (NB.v (Qba y x))) (Qaa (Qau (Qaa v)))))) (Qaa (Qau (Qaa v))))) (Qc9 (Qa1 (Qaa (Qas (Qa1 (Qaa (NB.v (Qba y x))) (Qaa (Qau (Qaa v)))))) (Qaa (Qau (Qaa v)))) (Qat (Qas (Qa1 (Qaa (NB.v (Qba y x))) (Qaa (Qau (Qaa v))))) (Qc9 (Qa1 (Qaa (NB.v (Qba y x))) (Qaa (Qau (Qaa v)))) (Qat (NB.v (Qba y x)) (NB.f (Qba y x))||Qat (Qau (Qaa v)) (Qat v f)))||Qat (Qau (Qaa v)) (Qat v f)))||Qat (Qas (IntKind.wrap IntKind.i64 (IntKind.wrap IntKind.i64 (2 * ((↑x : Int) + 1)) * IntKind.wrap IntKind.i64 (IntKind.wrap IntKind.i64 (2 * ((↑x : Int) + 1)) + 1)) * 4294967296)) (Qc9 (IntKind.wrap IntKind.i64 (IntKind.wrap IntKind.i64 (2 * ((↑x : Int) + 1)) * IntKind.wrap IntKind.i64 (IntKind.wrap IntKind.i64 (2 * ((↑x : Int) + 1)) + 1)) * 4294967296) false))))))))] = [(SV.v (.int .i64 (NB.v (Qb9 y x')))),(SV.v (.bool (NB.f (Qb9 y x'))))]))))))))∧(((8 - x') : Nat) < (8 - x)))))))))) (((I64 (NB.v (Qb9 y x)))∧((I64 (-4294967296))∧(I64 4294967296)))∧(R (SV.agg [(SV.v (.int .i64 (Qnm (-4294967296) (Qlr (Qaa (NB.v (Qb9 y x))) 4294967296)))),(SV.v (.bool (false||(Qat (NB.v (Qb9 y x)) (NB.f (Qb9 y x))||false))))])))))))))) := by kernel_rfl
def Zkb : Qb8 := Qah (Qah (Qah Zjg 229 (Qaj Zjn)) 158 (Qaj Zeo)) 162 (Qaj Zeo)
theorem Zlc (v : Int) (f : Bool) (R : SV→Prop) : (Qav Tryz.prog Zkb Qax Tryz.f157 [Qcy v f] R) = ((I64 v)∧(((I64 (Qau (Qaa v)))∧(I64 6746518852))∧((I64 (Qas (Qaa (Qau (Qaa v)) + 6746518852)))∧(R (SV.agg [(SV.v (.int .i64 (NB.v (Qi0 {v:=Qas (Qaa (Qau (Qaa v)) + 6746518852),f:=Qc9 (Qaa (Qau (Qaa v)) + 6746518852) (Qat (Qau (Qaa v)) (Qat v f)||false)})))),(SV.v (.bool (NB.f (Qi0 {v:=Qas (Qaa (Qau (Qaa v)) + 6746518852),f:=Qc9 (Qaa (Qau (Qaa v)) + 6746518852) (Qat (Qau (Qaa v)) (Qat v f)||false)}))))]))))):=by kernel_rfl
theorem Zf8 (v : Int) (f : Bool) (R : SV→Prop) : (Qav Tryz.prog Zkb Qax Tryz.f161 [Qcy v f] R) = ((I64 v)∧(((I64 (Qau (Qaa v)))∧(I64 6746518852))∧((I64 (Qas (Qaa (Qau (Qaa v)) + 6746518852)))∧(R (SV.agg [(SV.v (.int .i64 (NB.v (Qi0 {v:=Qas (Qaa (Qau (Qaa v)) + 6746518852),f:=Qc9 (Qaa (Qau (Qaa v)) + 6746518852) (Qat (Qau (Qaa v)) (Qat v f)||false)})))),(SV.v (.bool (NB.f (Qi0 {v:=Qas (Qaa (Qau (Qaa v)) + 6746518852),f:=Qc9 (Qaa (Qau (Qaa v)) + 6746518852) (Qat (Qau (Qaa v)) (Qat v f)||false)}))))]))))):=by kernel_rfl
theorem Qip {k : Nat} (h : k ≤ 8) : IntKind.i64.wrap (IntKind.i64.wrap (2 * ((k : Int) + 1)) * IntKind.i64.wrap (IntKind.i64.wrap (2 * ((k : Int) + 1)) + 1)) = (2 * ((k : Int) + 1)) * (2 * ((k : Int) + 1) + 1) := by
 rw [Qaf (n := 2 * ((k : Int) + 1)) ⟨by omega, by omega⟩, Qaf (n := 2 * ((k : Int) + 1) + 1) ⟨by omega, by omega⟩]
 have h1 := Int.mul_le_mul (a := 2 * ((k : Int) + 1)) (b := 2 * ((k : Int) + 1) + 1) (c := 18) (d := 19) (by omega) (by omega) (by omega) (by decide)
 have h0 := Int.mul_nonneg (a := 2 * ((k : Int) + 1)) (b := 2 * ((k : Int) + 1) + 1) (by omega) (by omega)
 exact Qaf ⟨by omega, by omega⟩
theorem Qle {k : Nat} (h : k ≤ 8) : I64 ((2 * ((k : Int) + 1)) * (2 * ((k : Int) + 1) + 1)) := by
 have h1 := Int.mul_le_mul (a := 2 * ((k : Int) + 1)) (b := 2 * ((k : Int) + 1) + 1) (c := 18) (d := 19) (by omega) (by omega) (by omega) (by decide)
 have h0 := Int.mul_nonneg (a := 2 * ((k : Int) + 1)) (b := 2 * ((k : Int) + 1) + 1) (by omega) (by omega)
 exact ⟨by omega, by omega⟩
theorem Qtw : ∀ f g, Zjg f = some g → g.ok Tryz.prog f := Qab (Qab (Qab (Qab (Qab (Qab (Qab (Qab (Qab (Qab (Qab (Qab (Qab (Qab Qde (Qal Tryz.func228 (by kernel_rfl) (by kernel_rfl) Q3u)) (Qal Tryz.func16 (by kernel_rfl) (by kernel_rfl) Qxh)) (Qal Tryz.func63 (by kernel_rfl) (by kernel_rfl) Qxk)) (Qal Tryz.func156 (by kernel_rfl) (by kernel_rfl) Qxl)) (Qal Tryz.func155 (by kernel_rfl) (by kernel_rfl) Qrp)) (Qal Tryz.func205 (by kernel_rfl) (by kernel_rfl) Q8l)) (Qal Tryz.func150 (by kernel_rfl) (by kernel_rfl) Qpx)) (Qal Tryz.func234 (by kernel_rfl) (by kernel_rfl) Qyv)) (Qal Tryz.func236 (by kernel_rfl) (by kernel_rfl) Qs4)) (Qal Tryz.func218 (by kernel_rfl) (by kernel_rfl) Qs6)) (Qal Tryz.func219 (by kernel_rfl) (by kernel_rfl) Qs7)) (Qal Tryz.func235 (by kernel_rfl) (by kernel_rfl) Qod)) (Qal Tryz.func233 (by kernel_rfl) (by kernel_rfl) Q4d)) (Qal Tryz.func237 (by kernel_rfl) (by kernel_rfl) Qvj)
theorem Qxe : Qai Tryz.prog 158 Zeo := Qao hm Qtw Tryz.func158 (Λ := fun args => match args with | [.agg [.v (.int .i64 v), .v (.bool f)]] => Ze7 (Qm4 ⟨v, f⟩) | _ => Qax) fun args p x h hp => by
 unfold Zeo at h
 split at h <;> try (cases h; done)
 rename_i v f
 cases h
 have h1 : I64 v := hp _ rfl
 refine ⟨rfl, rfl, ?_⟩
 refine Eq.mpr (Zkn (Qm4 ⟨v, f⟩) v f _) ?_
 repeat (first | unfold Qbs | unfold Qbt)
 have hN : Qi0 ⟨v, f⟩ = ⟨Qnm (-4294967296) (Qlr (Qaa (Qb9 (Qm4 ⟨v, f⟩) 8).v) 4294967296), false || (Qat (Qb9 (Qm4 ⟨v, f⟩) 8).v (Qb9 (Qm4 ⟨v, f⟩) 8).f || false)⟩ := rfl
 rw [hN]
 have hs := Q00 ⟨v, f⟩
 have hw := Qf1 (v := Qaa v)
 have hy : (Qm4 ⟨v, f⟩).v = Qh6 (Qau (Qaa v)) := rfl
 have hf : (Qm4 ⟨v, f⟩).f = Qat v f := rfl
 generalize Qm4 ⟨v, f⟩ = y at *
 have y0 : [SV.v (Value.int .i64 y.v), SV.v (Value.bool y.f)] = [SV.v (Value.int .i64 (Qba y 0).v), SV.v (Value.bool (Qba y 0).f)] := rfl
 rw [← hf]
 unfold Qh6 at hy
 refine ⟨h1, Qad (fun g => ?_) fun g => Qad (fun g' => ?_) fun g' => ?_⟩
 · have g := of_decide_eq_true g
   rw [if_pos g] at hy
   rw [Qaf ⟨by omega, by omega⟩, ← hy]
   refine ⟨⟨0, Nat.zero_le _, rfl, ⟨rfl, Nat.le_refl _, fun i _ => y0⟩, rfl, Nat.le_refl _, fun i _ => y0⟩, fun k hk => ?_⟩
   have hk : k ≤ 8 := hk
   have st := Qe5 hs k
   have su := Qks hs k
   refine Qad (fun gk => ?_) fun gk => ?_
   · have gk := of_decide_eq_true gk
     have e1 : IntKind.i64.wrap ((k : Int) + 1) = (k : Int) + 1 := Qaf ⟨by omega, by omega⟩
     rw [e1, Qip hk]
     refine ⟨⟨st.i64, hs.i64⟩, ⟨(Qbk _).i64, hs.i64⟩, Qle hk, ⟨(Qbk _).i64, (Qbk _).i64⟩, (Qfv _ _).i64, ⟨su.i64, (Qe5 hs (k + 1)).i64⟩, k + 1, ⟨by show k + 1 ≤ 8; omega, Qbh (by omega), ⟨rfl, Nat.le_refl _, fun i _ => ?_⟩, rfl, Nat.le_refl _, fun i _ => ?_⟩, by show 8 - (k + 1) < 8 - k; omega⟩ <;> simp only [Qba, Qb9, Qgp, Qc1, Qdh, Qdg, Qzh, Qfx, Qra]
   · have gk := of_decide_eq_false gk
     obtain rfl : k = 8 := by omega
     exact ⟨⟨by decide, by decide⟩, ⟨by decide, by decide⟩, ⟨su.i64, ⟨by decide, by decide⟩, ⟨by decide, by decide⟩⟩, rfl⟩
 · have g := of_decide_eq_false g
   have g' := of_decide_eq_true g'
   rw [if_neg g, if_pos g'] at hy
   rw [Qaf ⟨by omega, by omega⟩, ← hy]
   refine ⟨⟨0, Nat.zero_le _, rfl, ⟨rfl, Nat.le_refl _, fun i _ => y0⟩, rfl, Nat.le_refl _, fun i _ => y0⟩, fun k hk => ?_⟩
   have hk : k ≤ 8 := hk
   have st := Qe5 hs k
   have su := Qks hs k
   refine Qad (fun gk => ?_) fun gk => ?_
   · have gk := of_decide_eq_true gk
     have e1 : IntKind.i64.wrap ((k : Int) + 1) = (k : Int) + 1 := Qaf ⟨by omega, by omega⟩
     rw [e1, Qip hk]
     refine ⟨⟨st.i64, hs.i64⟩, ⟨(Qbk _).i64, hs.i64⟩, Qle hk, ⟨(Qbk _).i64, (Qbk _).i64⟩, (Qfv _ _).i64, ⟨su.i64, (Qe5 hs (k + 1)).i64⟩, k + 1, ⟨by show k + 1 ≤ 8; omega, Qbh (by omega), ⟨rfl, Nat.le_refl _, fun i _ => ?_⟩, rfl, Nat.le_refl _, fun i _ => ?_⟩, by show 8 - (k + 1) < 8 - k; omega⟩ <;> simp only [Qba, Qb9, Qgp, Qc1, Qdh, Qdg, Qzh, Qfx, Qra]
   · have gk := of_decide_eq_false gk
     obtain rfl : k = 8 := by omega
     exact ⟨⟨by decide, by decide⟩, ⟨by decide, by decide⟩, ⟨su.i64, ⟨by decide, by decide⟩, ⟨by decide, by decide⟩⟩, rfl⟩
 · have g := of_decide_eq_false g
   have g' := of_decide_eq_false g'
   rw [if_neg g, if_neg g'] at hy
   rw [← hy]
   refine ⟨⟨0, Nat.zero_le _, rfl, ⟨rfl, Nat.le_refl _, fun i _ => y0⟩, rfl, Nat.le_refl _, fun i _ => y0⟩, fun k hk => ?_⟩
   have hk : k ≤ 8 := hk
   have st := Qe5 hs k
   have su := Qks hs k
   refine Qad (fun gk => ?_) fun gk => ?_
   · have gk := of_decide_eq_true gk
     have e1 : IntKind.i64.wrap ((k : Int) + 1) = (k : Int) + 1 := Qaf ⟨by omega, by omega⟩
     rw [e1, Qip hk]
     refine ⟨⟨st.i64, hs.i64⟩, ⟨(Qbk _).i64, hs.i64⟩, Qle hk, ⟨(Qbk _).i64, (Qbk _).i64⟩, (Qfv _ _).i64, ⟨su.i64, (Qe5 hs (k + 1)).i64⟩, k + 1, ⟨by show k + 1 ≤ 8; omega, Qbh (by omega), ⟨rfl, Nat.le_refl _, fun i _ => ?_⟩, rfl, Nat.le_refl _, fun i _ => ?_⟩, by show 8 - (k + 1) < 8 - k; omega⟩ <;> simp only [Qba, Qb9, Qgp, Qc1, Qdh, Qdg, Qzh, Qfx, Qra]
   · have gk := of_decide_eq_false gk
     obtain rfl : k = 8 := by omega
     exact ⟨⟨by decide, by decide⟩, ⟨by decide, by decide⟩, ⟨su.i64, ⟨by decide, by decide⟩, ⟨by decide, by decide⟩⟩, rfl⟩
theorem Qs3 : Qai Tryz.prog 162 Zeo := Qao hm Qtw Tryz.func162 (Λ := fun args => match args with | [.agg [.v (.int .i64 v), .v (.bool f)]] => Q8r (Qm4 ⟨v, f⟩) | _ => Qax) fun args p x h hp => by
 unfold Zeo at h
 split at h <;> try (cases h; done)
 rename_i v f
 cases h
 have h1 : I64 v := hp _ rfl
 refine ⟨rfl, rfl, ?_⟩
 refine Eq.mpr (Zfy (Qm4 ⟨v, f⟩) v f _) ?_
 repeat (first | unfold Qbi | unfold Qbj | unfold Qbb)
 have hN : Qi0 ⟨v, f⟩ = ⟨Qnm (-4294967296) (Qlr (Qaa (Qb9 (Qm4 ⟨v, f⟩) 8).v) 4294967296), false || (Qat (Qb9 (Qm4 ⟨v, f⟩) 8).v (Qb9 (Qm4 ⟨v, f⟩) 8).f || false)⟩ := rfl
 rw [hN]
 have hs := Q00 ⟨v, f⟩
 have hw := Qf1 (v := Qaa v)
 have hy : (Qm4 ⟨v, f⟩).v = Qh6 (Qau (Qaa v)) := rfl
 have hf : (Qm4 ⟨v, f⟩).f = Qat v f := rfl
 generalize Qm4 ⟨v, f⟩ = y at *
 have y0 : [SV.v (Value.int .i64 y.v), SV.v (Value.bool y.f)] = [SV.v (Value.int .i64 (Qba y 0).v), SV.v (Value.bool (Qba y 0).f)] := rfl
 rw [← hf]
 unfold Qh6 at hy
 refine ⟨h1, Qad (fun g => ?_) fun g => Qad (fun g' => ?_) fun g' => ?_⟩
 · have g := of_decide_eq_true g
   rw [if_pos g] at hy
   rw [Qaf (n := 13493037704 - Qau (Qaa v)) ⟨by omega, by omega⟩, ← hy]
   refine Qad (fun h => absurd (of_decide_eq_true h) (by omega)) fun _ => ?_
   refine ⟨⟨0, Nat.zero_le _, rfl, ⟨rfl, Nat.le_refl _, fun i _ => y0⟩, rfl, Nat.le_refl _, fun i _ => y0⟩, fun k hk => ?_⟩
   have hk : k ≤ 8 := hk
   have st := Qe5 hs k
   have su := Qks hs k
   refine Qad (fun gk => ?_) fun gk => ?_
   · have gk := of_decide_eq_true gk
     have e1 : IntKind.i64.wrap ((k : Int) + 1 + 1) = (k : Int) + 1 + 1 := Qaf ⟨by omega, by omega⟩
     rw [Qip hk]
     refine ⟨⟨st.i64, hs.i64⟩, ⟨(Qbk _).i64, hs.i64⟩, Qle hk, ⟨(Qbk _).i64, (Qbk _).i64⟩, (Qfv _ _).i64, ⟨su.i64, (Qe5 hs (k + 1)).i64⟩, k + 1, ⟨by show k + 1 ≤ 8; omega, Qbh (by omega), ⟨rfl, Nat.le_refl _, fun i _ => ?_⟩, rfl, Nat.le_refl _, fun i _ => ?_⟩, by show 8 - (k + 1) < 8 - k; omega⟩ <;> simp only [Qba, Qb9, Qgp, Qc1, Qdh, Qdg, Qzh, Qfx, Qra]
   · have gk := of_decide_eq_false gk
     obtain rfl : k = 8 := by omega
     exact ⟨⟨su.i64, ⟨by decide, by decide⟩, ⟨by decide, by decide⟩⟩, rfl⟩
 · have g := of_decide_eq_false g
   have g' := of_decide_eq_true g'
   rw [if_neg g, if_pos g'] at hy
   rw [Qaf ⟨by omega, by omega⟩, ← hy]
   refine ⟨⟨0, Nat.zero_le _, rfl, ⟨rfl, Nat.le_refl _, fun i _ => y0⟩, rfl, Nat.le_refl _, fun i _ => y0⟩, fun k hk => ?_⟩
   have hk : k ≤ 8 := hk
   have st := Qe5 hs k
   have su := Qks hs k
   refine Qad (fun gk => ?_) fun gk => ?_
   · have gk := of_decide_eq_true gk
     have e1 : IntKind.i64.wrap ((k : Int) + 1 + 1) = (k : Int) + 1 + 1 := Qaf ⟨by omega, by omega⟩
     rw [Qip hk]
     refine ⟨⟨st.i64, hs.i64⟩, ⟨(Qbk _).i64, hs.i64⟩, Qle hk, ⟨(Qbk _).i64, (Qbk _).i64⟩, (Qfv _ _).i64, ⟨su.i64, (Qe5 hs (k + 1)).i64⟩, k + 1, ⟨by show k + 1 ≤ 8; omega, Qbh (by omega), ⟨rfl, Nat.le_refl _, fun i _ => ?_⟩, rfl, Nat.le_refl _, fun i _ => ?_⟩, by show 8 - (k + 1) < 8 - k; omega⟩ <;> simp only [Qba, Qb9, Qgp, Qc1, Qdh, Qdg, Qzh, Qfx, Qra]
   · have gk := of_decide_eq_false gk
     obtain rfl : k = 8 := by omega
     exact ⟨⟨su.i64, ⟨by decide, by decide⟩, ⟨by decide, by decide⟩⟩, rfl⟩
 · have g := of_decide_eq_false g
   have g' := of_decide_eq_false g'
   rw [if_neg g, if_neg g'] at hy
   rw [← hy]
   refine ⟨⟨0, Nat.zero_le _, rfl, ⟨rfl, Nat.le_refl _, fun i _ => y0⟩, rfl, Nat.le_refl _, fun i _ => y0⟩, fun k hk => ?_⟩
   have hk : k ≤ 8 := hk
   have st := Qe5 hs k
   have su := Qks hs k
   refine Qad (fun gk => ?_) fun gk => ?_
   · have gk := of_decide_eq_true gk
     have e1 : IntKind.i64.wrap ((k : Int) + 1 + 1) = (k : Int) + 1 + 1 := Qaf ⟨by omega, by omega⟩
     rw [Qip hk]
     refine ⟨⟨st.i64, hs.i64⟩, ⟨(Qbk _).i64, hs.i64⟩, Qle hk, ⟨(Qbk _).i64, (Qbk _).i64⟩, (Qfv _ _).i64, ⟨su.i64, (Qe5 hs (k + 1)).i64⟩, k + 1, ⟨by show k + 1 ≤ 8; omega, Qbh (by omega), ⟨rfl, Nat.le_refl _, fun i _ => ?_⟩, rfl, Nat.le_refl _, fun i _ => ?_⟩, by show 8 - (k + 1) < 8 - k; omega⟩ <;> simp only [Qba, Qb9, Qgp, Qc1, Qdh, Qdg, Qzh, Qfx, Qra]
   · have gk := of_decide_eq_false gk
     obtain rfl : k = 8 := by omega
     exact ⟨⟨su.i64, ⟨by decide, by decide⟩, ⟨by decide, by decide⟩⟩, rfl⟩
theorem Qzs : ∀ f g, Zkb f = some g → g.ok Tryz.prog f := Qab (Qab (Qab Qtw (Qal Tryz.func229 (by kernel_rfl) (by kernel_rfl) Qxg)) (Qal Tryz.func158 (by kernel_rfl) (by kernel_rfl) Qxe)) (Qal Tryz.func162 (by kernel_rfl) (by kernel_rfl) Qs3)
theorem Q8i : Qai Tryz.prog 157 Zjr := Qao hm Qzs Tryz.func157 (Λ := fun _ => Qax) fun args p x h hp => by
 unfold Zjr at h
 split at h <;> try (cases h; done)
 rename_i v f
 cases h
 have h1 : I64 v := hp _ rfl
 refine ⟨rfl, rfl, ?_⟩
 refine Eq.mpr (Zlc v f _) ?_
 have hw := Qf1 (v := Qaa v)
 exact ⟨h1, ⟨⟨by omega, by omega⟩, by decide, by decide⟩, (Qbk _).i64, rfl⟩
theorem Q4b : Qai Tryz.prog 161 Zjr := Qao hm Qzs Tryz.func161 (Λ := fun _ => Qax) fun args p x h hp => by
 unfold Zjr at h
 split at h <;> try (cases h; done)
 rename_i v f
 cases h
 have h1 : I64 v := hp _ rfl
 refine ⟨rfl, rfl, ?_⟩
 refine Eq.mpr (Zf8 v f _) ?_
 have hw := Qf1 (v := Qaa v)
 exact ⟨h1, ⟨⟨by omega, by omega⟩, by decide, by decide⟩, (Qbk _).i64, rfl⟩
structure VB where
 x : NB
 y : NB
def vS (a : VB) : SV := .agg [.v (.int .i64 a.x.v), .v (.bool a.x.f), .v (.int .i64 a.y.v), .v (.bool a.y.f)]
def i1B (f : Int → NB) : List SV → Option (Option Prop × SV)
 | [.v (.int .i64 v)] => some (some (I64 v), nS (f v))
 | _ => none
def i2B (f : Int → Int → NB) : List SV → Option (Option Prop × SV)
 | [.v (.int .i64 a), .v (.int .i64 b)] => some (some (I64 a ∧ I64 b), nS (f a b))
 | _ => none
def n1B (f : NB → NB) : List SV → Option (Option Prop × SV)
 | [.agg [.v (.int .i64 v), .v (.bool f1)]] => some (some (I64 v), nS (f ⟨v, f1⟩))
 | _ => none
def n2B (f : NB → NB → NB) : List SV → Option (Option Prop × SV)
 | [.agg [.v (.int .i64 v), .v (.bool f1)], .agg [.v (.int .i64 u), .v (.bool f2)]] => some (some (I64 v ∧ I64 u), nS (f ⟨v, f1⟩ ⟨u, f2⟩))
 | _ => none
def n4B (f : NB → NB → NB → NB → NB) : List SV → Option (Option Prop × SV)
 | [.agg [.v (.int .i64 a), .v (.bool fa)], .agg [.v (.int .i64 b), .v (.bool fb)], .agg [.v (.int .i64 c), .v (.bool fc)], .agg [.v (.int .i64 d), .v (.bool fd)]] =>
   some (some ((I64 a ∧ I64 b) ∧ I64 c ∧ I64 d), nS (f ⟨a, fa⟩ ⟨b, fb⟩ ⟨c, fc⟩ ⟨d, fd⟩))
 | _ => none
def ofV (x y : Int) : VB := ⟨Qfx x, Qfx y⟩
def Qru (p : Int × Int) : VB := ⟨Qa2 p.1 256, Qa2 p.2 256⟩
def subV (a b : VB) : VB := ⟨Q6f a.x b.x, Q6f a.y b.y⟩
def Qbo (v : VB) (k : NB) : VB := ⟨Qdg v.x k, Qdg v.y k⟩
def dotV (a b : VB) : NB := Qcl a.x b.x a.y b.y
def crsV (a b : VB) : NB := Qcl a.x b.y (Qc1 a.y) b.x
def sum1 (a : NB) : NB := Qra (Qaa a.v + 0) (Qat a.v a.f || false)
def Qol (v : VB) : VB := ⟨Qc1 v.y, sum1 v.x⟩
def turV (k : NB) (v : VB) : VB := Qbo (Qol v) k
def Qhl (v : VB) : NB := Qrv v.x v.y
def Qtp (x : NB) : VB := ⟨Ql6 x, Qi0 x⟩
def Qep (r v : VB) : VB := ⟨Qcl r.x v.x (Qc1 r.y) v.y, Qcl r.y v.x r.x v.y⟩
def Q44 (r s : VB) : VB :=
 bif (Qrv (Qcl r.x s.x (Qc1 r.y) s.y) (Qcl r.y s.x r.x s.y)).v == 0 then ⟨Qcl r.x s.x (Qc1 r.y) s.y, Qcl r.y s.x r.x s.y⟩
 else ⟨Qdh (Qcl r.x s.x (Qc1 r.y) s.y) (Qrv (Qcl r.x s.x (Qc1 r.y) s.y) (Qcl r.y s.x r.x s.y)), Qdh (Qcl r.y s.x r.x s.y) (Qrv (Qcl r.x s.x (Qc1 r.y) s.y) (Qcl r.y s.x r.x s.y))⟩
def Qqf (r : VB) (w : NB) : VB := Q44 (Qtp w) r
def Zhf : List SV → Option (Option Prop × SV)
 | [.v (.int .i64 a0), .v (.int .i64 a1)] => some (some (I64 a0 ∧ I64 a1), vS (ofV a0 a1))
 | _ => none
def Qkt : List SV → Option (Option Prop × SV)
 | [.agg [.v (.int .i64 a0), .v (.int .i64 b0)]] => some (some ((I64 a0 ∧ I64 b0)), vS (Qru (a0, b0)))
 | _ => none
def Zcb : List SV → Option (Option Prop × SV)
 | [.agg [.v (.int .i64 a0), .v (.bool f0), .v (.int .i64 b0), .v (.bool g0)], .agg [.v (.int .i64 a1), .v (.bool f1), .v (.int .i64 b1), .v (.bool g1)]] => some (some ((I64 a0 ∧ I64 b0) ∧ (I64 a1 ∧ I64 b1)), vS (subV ⟨⟨a0, f0⟩, ⟨b0, g0⟩⟩ ⟨⟨a1, f1⟩, ⟨b1, g1⟩⟩))
 | _ => none
def Qug : List SV → Option (Option Prop × SV)
 | [.agg [.v (.int .i64 a0), .v (.bool f0), .v (.int .i64 b0), .v (.bool g0)], .agg [.v (.int .i64 a1), .v (.bool f1)]] => some (some ((I64 a0 ∧ I64 b0) ∧ I64 a1), vS (Qbo ⟨⟨a0, f0⟩, ⟨b0, g0⟩⟩ ⟨a1, f1⟩))
 | _ => none
def Zct : List SV → Option (Option Prop × SV)
 | [.agg [.v (.int .i64 a0), .v (.bool f0), .v (.int .i64 b0), .v (.bool g0)], .agg [.v (.int .i64 a1), .v (.bool f1), .v (.int .i64 b1), .v (.bool g1)]] => some (some ((I64 a0 ∧ I64 b0) ∧ (I64 a1 ∧ I64 b1)), nS (dotV ⟨⟨a0, f0⟩, ⟨b0, g0⟩⟩ ⟨⟨a1, f1⟩, ⟨b1, g1⟩⟩))
 | _ => none
def Qul : List SV → Option (Option Prop × SV)
 | [.agg [.v (.int .i64 a0), .v (.bool f0), .v (.int .i64 b0), .v (.bool g0)], .agg [.v (.int .i64 a1), .v (.bool f1), .v (.int .i64 b1), .v (.bool g1)]] => some (some ((I64 a0 ∧ I64 b0) ∧ (I64 a1 ∧ I64 b1)), nS (crsV ⟨⟨a0, f0⟩, ⟨b0, g0⟩⟩ ⟨⟨a1, f1⟩, ⟨b1, g1⟩⟩))
 | _ => none
def Q1l : List SV → Option (Option Prop × SV)
 | [.agg [.v (.int .i64 a0), .v (.bool f0), .v (.int .i64 b0), .v (.bool g0)]] => some (some ((I64 a0 ∧ I64 b0)), vS (Qol ⟨⟨a0, f0⟩, ⟨b0, g0⟩⟩))
 | _ => none
def Zcp : List SV → Option (Option Prop × SV)
 | [.agg [.v (.int .i64 a0), .v (.bool f0), .v (.int .i64 b0), .v (.bool g0)]] => some (some ((I64 a0 ∧ I64 b0)), nS (Qhl ⟨⟨a0, f0⟩, ⟨b0, g0⟩⟩))
 | _ => none
def Qkw : List SV → Option (Option Prop × SV)
 | [.agg [.v (.int .i64 a0), .v (.bool f0)]] => some (some (I64 a0), vS (Qtp ⟨a0, f0⟩))
 | _ => none
def Qkv : List SV → Option (Option Prop × SV)
 | [.agg [.v (.int .i64 a0), .v (.bool f0), .v (.int .i64 b0), .v (.bool g0)], .agg [.v (.int .i64 a1), .v (.bool f1), .v (.int .i64 b1), .v (.bool g1)]] => some (some ((I64 a0 ∧ I64 b0) ∧ (I64 a1 ∧ I64 b1)), vS (Qep ⟨⟨a0, f0⟩, ⟨b0, g0⟩⟩ ⟨⟨a1, f1⟩, ⟨b1, g1⟩⟩))
 | _ => none
def Qm7 : List SV → Option (Option Prop × SV)
 | [.agg [.v (.int .i64 a0), .v (.bool f0), .v (.int .i64 b0), .v (.bool g0)], .agg [.v (.int .i64 a1), .v (.bool f1), .v (.int .i64 b1), .v (.bool g1)]] => some (some ((I64 a0 ∧ I64 b0) ∧ (I64 a1 ∧ I64 b1)), vS (Q44 ⟨⟨a0, f0⟩, ⟨b0, g0⟩⟩ ⟨⟨a1, f1⟩, ⟨b1, g1⟩⟩))
 | _ => none
def Q1a : List SV → Option (Option Prop × SV)
 | [.agg [.v (.int .i64 a0), .v (.bool f0)], .agg [.v (.int .i64 a1), .v (.bool f1), .v (.int .i64 b1), .v (.bool g1)]] => some (some (I64 a0 ∧ (I64 a1 ∧ I64 b1)), vS (turV ⟨a0, f0⟩ ⟨⟨a1, f1⟩, ⟨b1, g1⟩⟩))
 | _ => none
def Q1d : List SV → Option (Option Prop × SV)
 | [.agg [.v (.int .i64 a0), .v (.bool f0), .v (.int .i64 b0), .v (.bool g0)], .agg [.v (.int .i64 a1), .v (.bool f1)]] => some (some ((I64 a0 ∧ I64 b0) ∧ I64 a1), vS (Qqf ⟨⟨a0, f0⟩, ⟨b0, g0⟩⟩ ⟨a1, f1⟩))
 | _ => none
def Zfh : Qb8 := Qah (Qah (Qah (Qah (Qah (Qah (Qah (Qah (Qbr) 63 (Qaj (i1B Qfx))) 9 (Qaj (i2B Qa2))) 155 (Qaj (n1B Qc1))) 16 (Qaj (n2B Qdg))) 156 (Qaj (n2B Qdh))) 95 (Qaj (n2B Q6f))) 99 (Qaj (n2B Qrv))) 154 (Qaj (n4B Qcl))
def Zfg : Qb8 := Qah (Qah (Qah (Qah (Qah (Qah (Qah (Qah (Zfh) 158 (Qaj (n1B Qi0))) 157 (Qaj (n1B Ql6))) 229 (Qaj Zjn)) 74 (Qc7 Q86)) 218 (Qaj (i1B Qfx))) 220 (Qaj (i2B Qa2))) 235 (Qaj (n1B Qc1))) 236 (Qaj (n2B Qdg))
def Zff : Qb8 := Qah (Qah (Qah (Qah (Qah (Zfg) 219 (Qaj (n2B Qdh))) 240 (Qaj (n4B Qcl))) 162 (Qaj (n1B Qi0))) 161 (Qaj (n1B Ql6))) 303 (Qc7 Q86)
def Qtg : Qb8 := Qah (Zff) 242 (Qaj (n1B Qyj))
theorem Zku (a0 : Int) (a1 : Int) (R : SV→Prop) : (Qav Tryz.prog Qtg Qax Tryz.f8 [.v (.int .i64 a0),.v (.int .i64 a1)] R) = ((I64 a0)∧((I64 a1)∧(R (SV.agg [(SV.v (.int .i64 (NB.v (Qfx a0)))),(SV.v (.bool (NB.f (Qfx a0)))),(SV.v (.int .i64 (NB.v (Qfx a1)))),(SV.v (.bool (NB.f (Qfx a1))))])))):=by kernel_rfl
theorem Q5w (a0 : Int × Int) (R : SV→Prop) : (Qav Tryz.prog Qtg Qax Tryz.f27 [.agg [.v (.int .i64 a0.1),.v (.int .i64 a0.2)]] R) = (((I64 (Prod.fst a0))∧(I64 256))∧(((I64 (Prod.snd a0))∧(I64 256))∧(R (SV.agg [(SV.v (.int .i64 (NB.v (Qa2 (Prod.fst a0) 256)))),(SV.v (.bool (NB.f (Qa2 (Prod.fst a0) 256)))),(SV.v (.int .i64 (NB.v (Qa2 (Prod.snd a0) 256)))),(SV.v (.bool (NB.f (Qa2 (Prod.snd a0) 256))))])))):=by kernel_rfl
theorem Zft (a0 : VB) (a1 : VB) (R : SV→Prop) : (Qav Tryz.prog Qtg Qax Tryz.f28 [vS a0,vS a1] R) = (((I64 (NB.v (VB.x a0)))∧(I64 (NB.v (VB.x a1))))∧(((I64 (NB.v (VB.y a0)))∧(I64 (NB.v (VB.y a1))))∧(R (SV.agg [(SV.v (.int .i64 (NB.v (Q6f (VB.x a0) (VB.x a1))))),(SV.v (.bool (NB.f (Q6f (VB.x a0) (VB.x a1))))),(SV.v (.int .i64 (NB.v (Q6f (VB.y a0) (VB.y a1))))),(SV.v (.bool (NB.f (Q6f (VB.y a0) (VB.y a1)))))])))):=by kernel_rfl
theorem Q5l (a0 : VB) (a1 : NB) (R : SV→Prop) : (Qav Tryz.prog Qtg Qax Tryz.f15 [vS a0,nS a1] R) = (((I64 (NB.v (VB.x a0)))∧(I64 (NB.v a1)))∧(((I64 (NB.v (VB.y a0)))∧(I64 (NB.v a1)))∧(R (SV.agg [(SV.v (.int .i64 (NB.v (Qdg (VB.x a0) a1)))),(SV.v (.bool (NB.f (Qdg (VB.x a0) a1)))),(SV.v (.int .i64 (NB.v (Qdg (VB.y a0) a1)))),(SV.v (.bool (NB.f (Qdg (VB.y a0) a1))))])))):=by kernel_rfl
theorem Zgq (a0 : VB) (a1 : VB) (R : SV→Prop) : (Qav Tryz.prog Qtg Qax Tryz.f281 [vS a0,vS a1] R) = ((((I64 (NB.v (VB.x a0)))∧(I64 (NB.v (VB.x a1))))∧((I64 (NB.v (VB.y a0)))∧(I64 (NB.v (VB.y a1)))))∧(R (SV.agg [(SV.v (.int .i64 (NB.v (Qcl (VB.x a0) (VB.x a1) (VB.y a0) (VB.y a1))))),(SV.v (.bool (NB.f (Qcl (VB.x a0) (VB.x a1) (VB.y a0) (VB.y a1)))))]))):=by kernel_rfl
theorem Q5z (a0 : VB) (a1 : VB) (R : SV→Prop) : (Qav Tryz.prog Qtg Qax Tryz.f323 [vS a0,vS a1] R) = ((I64 (NB.v (VB.y a0)))∧((((I64 (NB.v (VB.x a0)))∧(I64 (NB.v (VB.y a1))))∧((I64 (NB.v (Qc1 (VB.y a0))))∧(I64 (NB.v (VB.x a1)))))∧(R (SV.agg [(SV.v (.int .i64 (NB.v (Qcl (VB.x a0) (VB.y a1) (Qc1 (VB.y a0)) (VB.x a1))))),(SV.v (.bool (NB.f (Qcl (VB.x a0) (VB.y a1) (Qc1 (VB.y a0)) (VB.x a1)))))])))):=by kernel_rfl
theorem Zbn (a0 : VB) (R : SV→Prop) : (Qav Tryz.prog Qtg Qax Tryz.f203 [vS a0] R) = ((I64 (NB.v (VB.y a0)))∧((((Qf4 [SV.v (.int .i64 (NB.v (VB.x a0))),SV.v (.bool (NB.f (VB.x a0)))])∧True)∧(((1 : Nat) = 1)∧((1 : Nat) < 1099511627776)))∧(R (SV.agg [(SV.v (.int .i64 (NB.v (Qc1 (VB.y a0))))),(SV.v (.bool (NB.f (Qc1 (VB.y a0))))),(SV.v (.int .i64 (Qas (Qgc [[SV.v (.int .i64 (NB.v (VB.x a0))),SV.v (.bool (NB.f (VB.x a0)))]])))),(SV.v (.bool (Qc9 (Qgc [[SV.v (.int .i64 (NB.v (VB.x a0))),SV.v (.bool (NB.f (VB.x a0)))]]) (Qfb [[SV.v (.int .i64 (NB.v (VB.x a0))),SV.v (.bool (NB.f (VB.x a0)))]]))))])))):=by kernel_rfl
theorem Zgm (a0 : VB) (R : SV→Prop) : (Qav Tryz.prog Qtg Qax Tryz.f31 [vS a0] R) = (((I64 (NB.v (VB.x a0)))∧(I64 (NB.v (VB.y a0))))∧(R (SV.agg [(SV.v (.int .i64 (NB.v (Qrv (VB.x a0) (VB.y a0))))),(SV.v (.bool (NB.f (Qrv (VB.x a0) (VB.y a0)))))]))):=by kernel_rfl
theorem Q56 (a0 : NB) (R : SV→Prop) : (Qav Tryz.prog Qtg Qax Tryz.f80 [nS a0] R) = ((I64 (NB.v a0))∧((I64 (NB.v a0))∧(R (SV.agg [(SV.v (.int .i64 (NB.v (Ql6 a0)))),(SV.v (.bool (NB.f (Ql6 a0)))),(SV.v (.int .i64 (NB.v (Qi0 a0)))),(SV.v (.bool (NB.f (Qi0 a0))))])))):=by kernel_rfl
theorem Q55 (a0 : VB) (a1 : VB) (R : SV→Prop) : (Qav Tryz.prog Qtg Qax Tryz.f96 [vS a0,vS a1] R) = ((I64 (NB.v (VB.y a0)))∧((((I64 (NB.v (VB.x a0)))∧(I64 (NB.v (VB.x a1))))∧((I64 (NB.v (Qc1 (VB.y a0))))∧(I64 (NB.v (VB.y a1)))))∧((((I64 (NB.v (VB.y a0)))∧(I64 (NB.v (VB.x a1))))∧((I64 (NB.v (VB.x a0)))∧(I64 (NB.v (VB.y a1)))))∧(R (SV.agg [(SV.v (.int .i64 (NB.v (Qcl (VB.x a0) (VB.x a1) (Qc1 (VB.y a0)) (VB.y a1))))),(SV.v (.bool (NB.f (Qcl (VB.x a0) (VB.x a1) (Qc1 (VB.y a0)) (VB.y a1))))),(SV.v (.int .i64 (NB.v (Qcl (VB.y a0) (VB.x a1) (VB.x a0) (VB.y a1))))),(SV.v (.bool (NB.f (Qcl (VB.y a0) (VB.x a1) (VB.x a0) (VB.y a1)))))]))))):=by kernel_rfl
theorem Qxp (a0 : VB) (a1 : VB) (R : SV→Prop) : (Qav Tryz.prog Qtg Qax Tryz.f79 [vS a0,vS a1] R) = ((I64 (NB.v (VB.y a0)))∧((((I64 (NB.v (VB.x a0)))∧(I64 (NB.v (VB.x a1))))∧((I64 (NB.v (Qc1 (VB.y a0))))∧(I64 (NB.v (VB.y a1)))))∧((((I64 (NB.v (VB.y a0)))∧(I64 (NB.v (VB.x a1))))∧((I64 (NB.v (VB.x a0)))∧(I64 (NB.v (VB.y a1)))))∧(((I64 (NB.v (Qcl (VB.x a0) (VB.x a1) (Qc1 (VB.y a0)) (VB.y a1))))∧(I64 (NB.v (Qcl (VB.y a0) (VB.x a1) (VB.x a0) (VB.y a1)))))∧(sel (NB.v (Qrv (Qcl (VB.x a0) (VB.x a1) (Qc1 (VB.y a0)) (VB.y a1)) (Qcl (VB.y a0) (VB.x a1) (VB.x a0) (VB.y a1))) != 0) (((I64 (NB.v (Qcl (VB.x a0) (VB.x a1) (Qc1 (VB.y a0)) (VB.y a1))))∧(I64 (NB.v (Qrv (Qcl (VB.x a0) (VB.x a1) (Qc1 (VB.y a0)) (VB.y a1)) (Qcl (VB.y a0) (VB.x a1) (VB.x a0) (VB.y a1))))))∧(((I64 (NB.v (Qcl (VB.y a0) (VB.x a1) (VB.x a0) (VB.y a1))))∧(I64 (NB.v (Qrv (Qcl (VB.x a0) (VB.x a1) (Qc1 (VB.y a0)) (VB.y a1)) (Qcl (VB.y a0) (VB.x a1) (VB.x a0) (VB.y a1))))))∧(R (SV.agg [(SV.v (.int .i64 (NB.v (Qdh (Qcl (VB.x a0) (VB.x a1) (Qc1 (VB.y a0)) (VB.y a1)) (Qrv (Qcl (VB.x a0) (VB.x a1) (Qc1 (VB.y a0)) (VB.y a1)) (Qcl (VB.y a0) (VB.x a1) (VB.x a0) (VB.y a1))))))),(SV.v (.bool (NB.f (Qdh (Qcl (VB.x a0) (VB.x a1) (Qc1 (VB.y a0)) (VB.y a1)) (Qrv (Qcl (VB.x a0) (VB.x a1) (Qc1 (VB.y a0)) (VB.y a1)) (Qcl (VB.y a0) (VB.x a1) (VB.x a0) (VB.y a1))))))),(SV.v (.int .i64 (NB.v (Qdh (Qcl (VB.y a0) (VB.x a1) (VB.x a0) (VB.y a1)) (Qrv (Qcl (VB.x a0) (VB.x a1) (Qc1 (VB.y a0)) (VB.y a1)) (Qcl (VB.y a0) (VB.x a1) (VB.x a0) (VB.y a1))))))),(SV.v (.bool (NB.f (Qdh (Qcl (VB.y a0) (VB.x a1) (VB.x a0) (VB.y a1)) (Qrv (Qcl (VB.x a0) (VB.x a1) (Qc1 (VB.y a0)) (VB.y a1)) (Qcl (VB.y a0) (VB.x a1) (VB.x a0) (VB.y a1)))))))])))) (R (SV.agg [(SV.v (.int .i64 (NB.v (Qcl (VB.x a0) (VB.x a1) (Qc1 (VB.y a0)) (VB.y a1))))),(SV.v (.bool (NB.f (Qcl (VB.x a0) (VB.x a1) (Qc1 (VB.y a0)) (VB.y a1))))),(SV.v (.int .i64 (NB.v (Qcl (VB.y a0) (VB.x a1) (VB.x a0) (VB.y a1))))),(SV.v (.bool (NB.f (Qcl (VB.y a0) (VB.x a1) (VB.x a0) (VB.y a1)))))]))))))):=by kernel_rfl
theorem Qz6 (a0 : Int × Int) (R : SV→Prop) : (Qav Tryz.prog Qtg Qax Tryz.f175 [.agg [.v (.int .i64 a0.1),.v (.int .i64 a0.2)]] R) = (((I64 (Prod.fst a0))∧(I64 256))∧(((I64 (Prod.snd a0))∧(I64 256))∧(R (SV.agg [(SV.v (.int .i64 (NB.v (Qa2 (Prod.fst a0) 256)))),(SV.v (.bool (NB.f (Qa2 (Prod.fst a0) 256)))),(SV.v (.int .i64 (NB.v (Qa2 (Prod.snd a0) 256)))),(SV.v (.bool (NB.f (Qa2 (Prod.snd a0) 256))))])))):=by kernel_rfl
theorem Q0b (a0 : NB) (R : SV→Prop) : (Qav Tryz.prog Qtg Qax Tryz.f87 [nS a0] R) = ((I64 (NB.v a0))∧((I64 (NB.v a0))∧(R (SV.agg [(SV.v (.int .i64 (NB.v (Ql6 a0)))),(SV.v (.bool (NB.f (Ql6 a0)))),(SV.v (.int .i64 (NB.v (Qi0 a0)))),(SV.v (.bool (NB.f (Qi0 a0))))])))):=by kernel_rfl
theorem Q0a (a0 : VB) (a1 : VB) (R : SV→Prop) : (Qav Tryz.prog Qtg Qax Tryz.f245 [vS a0,vS a1] R) = ((I64 (NB.v (VB.y a0)))∧((((I64 (NB.v (VB.x a0)))∧(I64 (NB.v (VB.x a1))))∧((I64 (NB.v (Qc1 (VB.y a0))))∧(I64 (NB.v (VB.y a1)))))∧((((I64 (NB.v (VB.y a0)))∧(I64 (NB.v (VB.x a1))))∧((I64 (NB.v (VB.x a0)))∧(I64 (NB.v (VB.y a1)))))∧(R (SV.agg [(SV.v (.int .i64 (NB.v (Qcl (VB.x a0) (VB.x a1) (Qc1 (VB.y a0)) (VB.y a1))))),(SV.v (.bool (NB.f (Qcl (VB.x a0) (VB.x a1) (Qc1 (VB.y a0)) (VB.y a1))))),(SV.v (.int .i64 (NB.v (Qcl (VB.y a0) (VB.x a1) (VB.x a0) (VB.y a1))))),(SV.v (.bool (NB.f (Qcl (VB.y a0) (VB.x a1) (VB.x a0) (VB.y a1)))))]))))):=by kernel_rfl
def Zfe : Qb8 := Qah (Qah (Qah (Qah (Qah (Qah (Qah (Qah (Qtg) 8 (Qaj Zhf)) 27 (Qaj Qkt)) 28 (Qaj Zcb)) 15 (Qaj Qug)) 281 (Qaj Zct)) 323 (Qaj Qul)) 203 (Qaj Q1l)) 31 (Qaj Zcp)
def Zfd : Qb8 := Qah (Qah (Qah (Qah (Zfe) 80 (Qaj Qkw)) 96 (Qaj Qkv)) 79 (Qaj Qm7)) 175 (Qaj Qkt)
def Zjf : Qb8 := Qah (Qah (Zfd) 87 (Qaj Qkw)) 245 (Qaj Qkv)
theorem Za4 (a0 : NB) (a1 : VB) (R : SV→Prop) : (Qav Tryz.prog Zjf Qax Tryz.f320 [nS a0,vS a1] R) = (((I64 (NB.v (VB.x a1)))∧(I64 (NB.v (VB.y a1))))∧((((I64 (NB.v (VB.x (Qol a1))))∧(I64 (NB.v (VB.y (Qol a1)))))∧(I64 (NB.v a0)))∧(R (SV.agg [(SV.v (.int .i64 (NB.v (VB.x (Qbo (Qol a1) a0))))),(SV.v (.bool (NB.f (VB.x (Qbo (Qol a1) a0))))),(SV.v (.int .i64 (NB.v (VB.y (Qbo (Qol a1) a0))))),(SV.v (.bool (NB.f (VB.y (Qbo (Qol a1) a0)))))])))):=by kernel_rfl
theorem Za6 (a0 : VB) (a1 : NB) (R : SV→Prop) : (Qav Tryz.prog Zjf Qax Tryz.f17 [vS a0,nS a1] R) = ((I64 (NB.v a1))∧((((I64 (NB.v (VB.x (Qtp a1))))∧(I64 (NB.v (VB.y (Qtp a1)))))∧((I64 (NB.v (VB.x a0)))∧(I64 (NB.v (VB.y a0)))))∧(R (SV.agg [(SV.v (.int .i64 (NB.v (VB.x (Q44 (Qtp a1) a0))))),(SV.v (.bool (NB.f (VB.x (Q44 (Qtp a1) a0))))),(SV.v (.int .i64 (NB.v (VB.y (Q44 (Qtp a1) a0))))),(SV.v (.bool (NB.f (VB.y (Q44 (Qtp a1) a0)))))])))):=by kernel_rfl
def Zje : Qb8 := Qah (Qah (Zjf) 320 (Qaj Q1a)) 17 (Qaj Q1d)
theorem Qf9 {a : NB} (h : I64 a.v) : I64 (Qc1 a).v := (Q2i (Q0y h)).i64
theorem Qiw (a : Int) : I64 (Qfx a).v := (Qbk _).i64
theorem Qhj (a b : Int) : I64 (Qa2 a b).v := (Qfv _ _).i64
theorem Qiv (a b : NB) : I64 (Qdg a b).v := (Qbk _).i64
theorem Qhk (a b : NB) : I64 (Qdh a b).v := (Qfv _ _).i64
theorem Qit (a b : NB) : I64 (Q6f a b).v := (Qbk _).i64
theorem Qf0 (a b c d : NB) : I64 (Qcl a b c d).v := (Qbk _).i64
theorem Qh3 (a b : NB) : I64 (Qrv a b).v := (Qbk _).i64
theorem Qex (a : NB) : I64 (sum1 a).v := (Qbk _).i64
theorem Qhh (a : NB) : I64 (Qi0 a).v := by have := Quc a; exact ⟨by omega, by omega⟩
theorem Qib (a : NB) : I64 (Ql6 a).v := Qhh _
theorem Qff (v : Int) (f : Bool) : Qf4 [SV.v (Value.int .i64 v), SV.v (Value.bool f)] = I64 v := rfl
theorem Qtl : I64 256 := ⟨by decide, by decide⟩
theorem Qd5 {v : VB} (h : I64 v.y.v) : I64 (Qol v).x.v := Qf9 h
theorem Qdx (v : VB) : I64 (Qol v).y.v := Qex _
theorem Qfh (x : NB) : I64 (Qtp x).x.v := Qib _
theorem Qfg (x : NB) : I64 (Qtp x).y.v := Qhh _
theorem Q5a : ∀ f g, Zfh f = some g → g.ok Tryz.prog f := Qab (Qab (Qab (Qab (Qab (Qab (Qab (Qab (Qa0) (Qal Tryz.func63 (by kernel_rfl) (by kernel_rfl) (spec := i1B Qfx) Qxk)) (Qal Tryz.func9 (by kernel_rfl) (by kernel_rfl) (spec := i2B Qa2) Qlk)) (Qal Tryz.func155 (by kernel_rfl) (by kernel_rfl) (spec := n1B Qc1) Qrp)) (Qal Tryz.func16 (by kernel_rfl) (by kernel_rfl) (spec := n2B Qdg) Qxh)) (Qal Tryz.func156 (by kernel_rfl) (by kernel_rfl) (spec := n2B Qdh) Qxl)) (Qal Tryz.func95 (by kernel_rfl) (by kernel_rfl) (spec := n2B Q6f) Q7u)) (Qal Tryz.func99 (by kernel_rfl) (by kernel_rfl) (spec := n2B Qrv) Qy8)) (Qal Tryz.func154 (by kernel_rfl) (by kernel_rfl) (spec := n4B Qcl) Q8h)
theorem Q49 : ∀ f g, Zfg f = some g → g.ok Tryz.prog f := Qab (Qab (Qab (Qab (Qab (Qab (Qab (Qab (Q5a) (Qal Tryz.func158 (by kernel_rfl) (by kernel_rfl) (spec := n1B Qi0) Qxe)) (Qal Tryz.func157 (by kernel_rfl) (by kernel_rfl) (spec := n1B Ql6) Q8i)) (Qal Tryz.func229 (by kernel_rfl) (by kernel_rfl) Qxg)) (Qdc Tryz.func74 (by kernel_rfl) (by kernel_rfl) Qrn)) (Qal Tryz.func218 (by kernel_rfl) (by kernel_rfl) (spec := i1B Qfx) Qs6)) (Qal Tryz.func220 (by kernel_rfl) (by kernel_rfl) (spec := i2B Qa2) Qoc)) (Qal Tryz.func235 (by kernel_rfl) (by kernel_rfl) (spec := n1B Qc1) Qod)) (Qal Tryz.func236 (by kernel_rfl) (by kernel_rfl) (spec := n2B Qdg) Qs4)
theorem Q48 : ∀ f g, Zff f = some g → g.ok Tryz.prog f := Qab (Qab (Qab (Qab (Qab (Q49) (Qal Tryz.func219 (by kernel_rfl) (by kernel_rfl) (spec := n2B Qdh) Qs7)) (Qal Tryz.func240 (by kernel_rfl) (by kernel_rfl) (spec := n4B Qcl) Q4a)) (Qal Tryz.func162 (by kernel_rfl) (by kernel_rfl) (spec := n1B Qi0) Qs3)) (Qal Tryz.func161 (by kernel_rfl) (by kernel_rfl) (spec := n1B Ql6) Q4b)) (Qdc Tryz.func303 (by kernel_rfl) (by kernel_rfl) Qs2)
theorem Qd3 : ∀ f g, Qtg f = some g → g.ok Tryz.prog f := Qab (Q48) (Qal Tryz.func242 (by kernel_rfl) (by kernel_rfl) (spec := n1B Qyj) Q4e)
theorem Qxf : Qai Tryz.prog 8 Zhf := Qao hm Qd3 Tryz.func8 (Λ := fun _ => Qax) fun args p x h hp => by
 unfold Zhf at h
 split at h <;> try (cases h; done)
 rename_i a0 a1
 cases h
 obtain ⟨h0, h1⟩ := hp _ rfl
 refine ⟨rfl, rfl, ?_⟩
 refine Eq.mpr (Zku a0 a1 _) ?_
 simp only [Qiw, Qhj, Qiv, Qhk, Qit, Qf0, Qh3, Qhh, Qib, Qex, Qff, Qtl, Qdx, Qfh, Qfg, and_true, true_and, and_self, Qf9, Qd5, h0, h1] <;> first | rfl | exact ⟨by decide, rfl⟩ | exact ⟨⟨rfl, by decide⟩, rfl⟩
theorem Qvk : Qai Tryz.prog 27 Qkt := Qao hm Qd3 Tryz.func27 (Λ := fun _ => Qax) fun args p x h hp => by
 unfold Qkt at h
 split at h <;> try (cases h; done)
 rename_i a0 b0
 cases h
 obtain ⟨h0, k0⟩ := hp _ rfl
 refine ⟨rfl, rfl, ?_⟩
 refine Eq.mpr (Q5w (a0, b0) _) ?_
 simp only [Qiw, Qhj, Qiv, Qhk, Qit, Qf0, Qh3, Qhh, Qib, Qex, Qff, Qtl, Qdx, Qfh, Qfg, and_true, true_and, and_self, Qf9, Qd5, h0, k0] <;> first | rfl | exact ⟨by decide, rfl⟩ | exact ⟨⟨rfl, by decide⟩, rfl⟩
theorem Q31 : Qai Tryz.prog 28 Zcb := Qao hm Qd3 Tryz.func28 (Λ := fun _ => Qax) fun args p x h hp => by
 unfold Zcb at h
 split at h <;> try (cases h; done)
 rename_i a0 f0 b0 g0 a1 f1 b1 g1
 cases h
 obtain ⟨⟨h0, k0⟩, ⟨h1, k1⟩⟩ := hp _ rfl
 refine ⟨rfl, rfl, ?_⟩
 refine Eq.mpr (Zft ⟨⟨a0, f0⟩, ⟨b0, g0⟩⟩ ⟨⟨a1, f1⟩, ⟨b1, g1⟩⟩ _) ?_
 simp only [Qiw, Qhj, Qiv, Qhk, Qit, Qf0, Qh3, Qhh, Qib, Qex, Qff, Qtl, Qdx, Qfh, Qfg, and_true, true_and, and_self, Qf9, Qd5, h0, k0, h1, k1] <;> first | rfl | exact ⟨by decide, rfl⟩ | exact ⟨⟨rfl, by decide⟩, rfl⟩
theorem Qvb : Qai Tryz.prog 15 Qug := Qao hm Qd3 Tryz.func15 (Λ := fun _ => Qax) fun args p x h hp => by
 unfold Qug at h
 split at h <;> try (cases h; done)
 rename_i a0 f0 b0 g0 a1 f1
 cases h
 obtain ⟨⟨h0, k0⟩, h1⟩ := hp _ rfl
 refine ⟨rfl, rfl, ?_⟩
 refine Eq.mpr (Q5l ⟨⟨a0, f0⟩, ⟨b0, g0⟩⟩ ⟨a1, f1⟩ _) ?_
 simp only [Qiw, Qhj, Qiv, Qhk, Qit, Qf0, Qh3, Qhh, Qib, Qex, Qff, Qtl, Qdx, Qfh, Qfg, and_true, true_and, and_self, Qf9, Qd5, h0, k0, h1] <;> first | rfl | exact ⟨by decide, rfl⟩ | exact ⟨⟨rfl, by decide⟩, rfl⟩
theorem Q4t : Qai Tryz.prog 281 Zct := Qao hm Qd3 Tryz.func281 (Λ := fun _ => Qax) fun args p x h hp => by
 unfold Zct at h
 split at h <;> try (cases h; done)
 rename_i a0 f0 b0 g0 a1 f1 b1 g1
 cases h
 obtain ⟨⟨h0, k0⟩, ⟨h1, k1⟩⟩ := hp _ rfl
 refine ⟨rfl, rfl, ?_⟩
 refine Eq.mpr (Zgq ⟨⟨a0, f0⟩, ⟨b0, g0⟩⟩ ⟨⟨a1, f1⟩, ⟨b1, g1⟩⟩ _) ?_
 simp only [Qiw, Qhj, Qiv, Qhk, Qit, Qf0, Qh3, Qhh, Qib, Qex, Qff, Qtl, Qdx, Qfh, Qfg, and_true, true_and, and_self, Qf9, Qd5, h0, k0, h1, k1] <;> first | rfl | exact ⟨by decide, rfl⟩ | exact ⟨⟨rfl, by decide⟩, rfl⟩
theorem Qvn : Qai Tryz.prog 323 Qul := Qao hm Qd3 Tryz.func323 (Λ := fun _ => Qax) fun args p x h hp => by
 unfold Qul at h
 split at h <;> try (cases h; done)
 rename_i a0 f0 b0 g0 a1 f1 b1 g1
 cases h
 obtain ⟨⟨h0, k0⟩, ⟨h1, k1⟩⟩ := hp _ rfl
 refine ⟨rfl, rfl, ?_⟩
 refine Eq.mpr (Q5z ⟨⟨a0, f0⟩, ⟨b0, g0⟩⟩ ⟨⟨a1, f1⟩, ⟨b1, g1⟩⟩ _) ?_
 simp only [Qiw, Qhj, Qiv, Qhk, Qit, Qf0, Qh3, Qhh, Qib, Qex, Qff, Qtl, Qdx, Qfh, Qfg, and_true, true_and, and_self, Qf9, Qd5, h0, k0, h1, k1] <;> first | rfl | exact ⟨by decide, rfl⟩ | exact ⟨⟨rfl, by decide⟩, rfl⟩
theorem Qy5 : Qai Tryz.prog 203 Q1l := Qao hm Qd3 Tryz.func203 (Λ := fun _ => Qax) fun args p x h hp => by
 unfold Q1l at h
 split at h <;> try (cases h; done)
 rename_i a0 f0 b0 g0
 cases h
 obtain ⟨h0, k0⟩ := hp _ rfl
 refine ⟨rfl, rfl, ?_⟩
 refine Eq.mpr (Zbn ⟨⟨a0, f0⟩, ⟨b0, g0⟩⟩ _) ?_
 simp only [Qiw, Qhj, Qiv, Qhk, Qit, Qf0, Qh3, Qhh, Qib, Qex, Qff, Qtl, Qdx, Qfh, Qfg, and_true, true_and, and_self, Qf9, Qd5, h0, k0] <;> first | rfl | exact ⟨by decide, rfl⟩ | exact ⟨⟨rfl, by decide⟩, rfl⟩
theorem Q4p : Qai Tryz.prog 31 Zcp := Qao hm Qd3 Tryz.func31 (Λ := fun _ => Qax) fun args p x h hp => by
 unfold Zcp at h
 split at h <;> try (cases h; done)
 rename_i a0 f0 b0 g0
 cases h
 obtain ⟨h0, k0⟩ := hp _ rfl
 refine ⟨rfl, rfl, ?_⟩
 refine Eq.mpr (Zgm ⟨⟨a0, f0⟩, ⟨b0, g0⟩⟩ _) ?_
 simp only [Qiw, Qhj, Qiv, Qhk, Qit, Qf0, Qh3, Qhh, Qib, Qex, Qff, Qtl, Qdx, Qfh, Qfg, and_true, true_and, and_self, Qf9, Qd5, h0, k0] <;> first | rfl | exact ⟨by decide, rfl⟩ | exact ⟨⟨rfl, by decide⟩, rfl⟩
theorem Qvq : Qai Tryz.prog 80 Qkw := Qao hm Qd3 Tryz.func80 (Λ := fun _ => Qax) fun args p x h hp => by
 unfold Qkw at h
 split at h <;> try (cases h; done)
 rename_i a0 f0
 cases h
 obtain h0 := hp _ rfl
 refine ⟨rfl, rfl, ?_⟩
 refine Eq.mpr (Q56 ⟨a0, f0⟩ _) ?_
 simp only [Qiw, Qhj, Qiv, Qhk, Qit, Qf0, Qh3, Qhh, Qib, Qex, Qff, Qtl, Qdx, Qfh, Qfg, and_true, true_and, and_self, Qf9, Qd5, h0] <;> first | rfl | exact ⟨by decide, rfl⟩ | exact ⟨⟨rfl, by decide⟩, rfl⟩
theorem Qvp : Qai Tryz.prog 96 Qkv := Qao hm Qd3 Tryz.func96 (Λ := fun _ => Qax) fun args p x h hp => by
 unfold Qkv at h
 split at h <;> try (cases h; done)
 rename_i a0 f0 b0 g0 a1 f1 b1 g1
 cases h
 obtain ⟨⟨h0, k0⟩, ⟨h1, k1⟩⟩ := hp _ rfl
 refine ⟨rfl, rfl, ?_⟩
 refine Eq.mpr (Q55 ⟨⟨a0, f0⟩, ⟨b0, g0⟩⟩ ⟨⟨a1, f1⟩, ⟨b1, g1⟩⟩ _) ?_
 simp only [Qiw, Qhj, Qiv, Qhk, Qit, Qf0, Qh3, Qhh, Qib, Qex, Qff, Qtl, Qdx, Qfh, Qfg, and_true, true_and, and_self, Qf9, Qd5, h0, k0, h1, k1] <;> first | rfl | exact ⟨by decide, rfl⟩ | exact ⟨⟨rfl, by decide⟩, rfl⟩
theorem Qrs : Qai Tryz.prog 79 Qm7 := Qao hm Qd3 Tryz.func79 (Λ := fun _ => Qax) fun args p x h hp => by
 unfold Qm7 at h
 split at h <;> try (cases h; done)
 rename_i a0 f0 b0 g0 a1 f1 b1 g1
 cases h
 obtain ⟨⟨h0, k0⟩, ⟨h1, k1⟩⟩ := hp _ rfl
 refine ⟨rfl, rfl, ?_⟩
 refine Eq.mpr (Qxp ⟨⟨a0, f0⟩, ⟨b0, g0⟩⟩ ⟨⟨a1, f1⟩, ⟨b1, g1⟩⟩ _) ?_
 have hn := Qf9 (a := ⟨b0, g0⟩) k0
 simp only [Qiw, Qhj, Qiv, Qhk, Qit, Qf0, Qh3, Qhh, Qib, Qex, Qff, Qtl, Qdx, Qfh, Qfg, and_true, true_and, and_self, h0, k0, h1, k1, hn, Qf9]
 unfold Q44
 refine Qad (fun g => ?_) fun g => ?_
 · rw [beq_eq_false_iff_ne.2 (bne_iff_ne.1 g)]; rfl
 · rw [beq_iff_eq.2 (bne_eq_false_iff_eq.1 g)]; rfl
theorem Qs5 : Qai Tryz.prog 175 Qkt := Qao hm Qd3 Tryz.func175 (Λ := fun _ => Qax) fun args p x h hp => by
 unfold Qkt at h
 split at h <;> try (cases h; done)
 rename_i a0 b0
 cases h
 obtain ⟨h0, k0⟩ := hp _ rfl
 refine ⟨rfl, rfl, ?_⟩
 refine Eq.mpr (Qz6 (a0, b0) _) ?_
 simp only [Qiw, Qhj, Qiv, Qhk, Qit, Qf0, Qh3, Qhh, Qib, Qex, Qff, Qtl, Qdx, Qfh, Qfg, and_true, true_and, and_self, Qf9, Qd5, h0, k0] <;> first | rfl | exact ⟨by decide, rfl⟩ | exact ⟨⟨rfl, by decide⟩, rfl⟩
theorem Qta : Qai Tryz.prog 87 Qkw := Qao hm Qd3 Tryz.func87 (Λ := fun _ => Qax) fun args p x h hp => by
 unfold Qkw at h
 split at h <;> try (cases h; done)
 rename_i a0 f0
 cases h
 obtain h0 := hp _ rfl
 refine ⟨rfl, rfl, ?_⟩
 refine Eq.mpr (Q0b ⟨a0, f0⟩ _) ?_
 simp only [Qiw, Qhj, Qiv, Qhk, Qit, Qf0, Qh3, Qhh, Qib, Qex, Qff, Qtl, Qdx, Qfh, Qfg, and_true, true_and, and_self, Qf9, Qd5, h0] <;> first | rfl | exact ⟨by decide, rfl⟩ | exact ⟨⟨rfl, by decide⟩, rfl⟩
theorem Qs9 : Qai Tryz.prog 245 Qkv := Qao hm Qd3 Tryz.func245 (Λ := fun _ => Qax) fun args p x h hp => by
 unfold Qkv at h
 split at h <;> try (cases h; done)
 rename_i a0 f0 b0 g0 a1 f1 b1 g1
 cases h
 obtain ⟨⟨h0, k0⟩, ⟨h1, k1⟩⟩ := hp _ rfl
 refine ⟨rfl, rfl, ?_⟩
 refine Eq.mpr (Q0a ⟨⟨a0, f0⟩, ⟨b0, g0⟩⟩ ⟨⟨a1, f1⟩, ⟨b1, g1⟩⟩ _) ?_
 simp only [Qiw, Qhj, Qiv, Qhk, Qit, Qf0, Qh3, Qhh, Qib, Qex, Qff, Qtl, Qdx, Qfh, Qfg, and_true, true_and, and_self, Qf9, Qd5, h0, k0, h1, k1] <;> first | rfl | exact ⟨by decide, rfl⟩ | exact ⟨⟨rfl, by decide⟩, rfl⟩
theorem Q47 : ∀ f g, Zfe f = some g → g.ok Tryz.prog f := Qab (Qab (Qab (Qab (Qab (Qab (Qab (Qab (Qd3) (Qal Tryz.func8 (by kernel_rfl) (by kernel_rfl) Qxf)) (Qal Tryz.func27 (by kernel_rfl) (by kernel_rfl) Qvk)) (Qal Tryz.func28 (by kernel_rfl) (by kernel_rfl) Q31)) (Qal Tryz.func15 (by kernel_rfl) (by kernel_rfl) Qvb)) (Qal Tryz.func281 (by kernel_rfl) (by kernel_rfl) Q4t)) (Qal Tryz.func323 (by kernel_rfl) (by kernel_rfl) Qvn)) (Qal Tryz.func203 (by kernel_rfl) (by kernel_rfl) Qy5)) (Qal Tryz.func31 (by kernel_rfl) (by kernel_rfl) Q4p)
theorem Q46 : ∀ f g, Zfd f = some g → g.ok Tryz.prog f := Qab (Qab (Qab (Qab (Q47) (Qal Tryz.func80 (by kernel_rfl) (by kernel_rfl) Qvq)) (Qal Tryz.func96 (by kernel_rfl) (by kernel_rfl) Qvp)) (Qal Tryz.func79 (by kernel_rfl) (by kernel_rfl) Qrs)) (Qal Tryz.func175 (by kernel_rfl) (by kernel_rfl) Qs5)
theorem Qtt : ∀ f g, Zjf f = some g → g.ok Tryz.prog f := Qab (Qab (Q46) (Qal Tryz.func87 (by kernel_rfl) (by kernel_rfl) Qta)) (Qal Tryz.func245 (by kernel_rfl) (by kernel_rfl) Qs9)
theorem Qyn : Qai Tryz.prog 320 Q1a := Qao hm Qtt Tryz.func320 (Λ := fun _ => Qax) fun args p x h hp => by
 unfold Q1a at h
 split at h <;> try (cases h; done)
 rename_i a0 f0 a1 f1 b1 g1
 cases h
 obtain ⟨h0, ⟨h1, k1⟩⟩ := hp _ rfl
 refine ⟨rfl, rfl, ?_⟩
 refine Eq.mpr (Za4 ⟨a0, f0⟩ ⟨⟨a1, f1⟩, ⟨b1, g1⟩⟩ _) ?_
 simp only [Qiw, Qhj, Qiv, Qhk, Qit, Qf0, Qh3, Qhh, Qib, Qex, Qff, Qtl, Qdx, Qfh, Qfg, and_true, true_and, and_self, Qf9, Qd5, h0, h1, k1] <;> first | rfl | exact ⟨by decide, rfl⟩ | exact ⟨⟨rfl, by decide⟩, rfl⟩
theorem Qyp : Qai Tryz.prog 17 Q1d := Qao hm Qtt Tryz.func17 (Λ := fun _ => Qax) fun args p x h hp => by
 unfold Q1d at h
 split at h <;> try (cases h; done)
 rename_i a0 f0 b0 g0 a1 f1
 cases h
 obtain ⟨⟨h0, k0⟩, h1⟩ := hp _ rfl
 refine ⟨rfl, rfl, ?_⟩
 refine Eq.mpr (Za6 ⟨⟨a0, f0⟩, ⟨b0, g0⟩⟩ ⟨a1, f1⟩ _) ?_
 simp only [Qiw, Qhj, Qiv, Qhk, Qit, Qf0, Qh3, Qhh, Qib, Qex, Qff, Qtl, Qdx, Qfh, Qfg, and_true, true_and, and_self, Qf9, Qd5, h0, k0, h1] <;> first | rfl | exact ⟨by decide, rfl⟩ | exact ⟨⟨rfl, by decide⟩, rfl⟩
theorem Qts : ∀ f g, Zje f = some g → g.ok Tryz.prog f := Qab (Qab (Qtt) (Qal Tryz.func320 (by kernel_rfl) (by kernel_rfl) Qyn)) (Qal Tryz.func17 (by kernel_rfl) (by kernel_rfl) Qyp)
end Go.Proofs.YteekigmbopdfjaaGreat
end
section
namespace Go.Proofs.YteekigmbopdfjaaGreat
open Go.SE
def pev : List Int → Int → Int
 | [], _ => 0
 | c :: p, x => c + x * pev p x
def Q6v : List Int → List Int → List Int
 | [], q => q
 | a :: p, [] => a :: p
 | a :: p, b :: q => (a + b) :: Q6v p q
def psc (c : Int) : List Int → List Int
 | [] => []
 | a :: p => c * a :: psc c p
def Zc3 : List Int → List Int → List Int
 | [], _ => []
 | a :: p, q => Q6v (psc a q) (0 :: Zc3 p q)
def Qx6 : List Int → List Int → List Int
 | [], _ => []
 | a :: p, q => Q6v [a] (Zc3 q (Qx6 p q))
def pab : List Int → Int → Int
 | [], _ => 0
 | c :: p, x => Qag c + x * pab p x
theorem Qnf (x : Int) : ∀ p q, pev (Q6v p q) x = pev p x + pev q x
 | [], q => by simp [Q6v, pev]
 | a :: p, [] => by simp [Q6v, pev]
 | a :: p, b :: q => by simp only [Q6v, pev, Qnf x p q, Int.mul_add]; omega
theorem Q9b (c x : Int) : ∀ p, pev (psc c p) x = c * pev p x
 | [] => by simp [psc, pev]
 | a :: p => by simp only [psc, pev, Q9b c x p, Int.mul_add]; rw [Int.mul_left_comm]
theorem Qqt (x : Int) : ∀ p q, pev (Zc3 p q) x = pev p x * pev q x
 | [], q => by simp [Zc3, pev]
 | a :: p, q => by simp only [Zc3, Qnf, Q9b, pev, Qqt x p q, Int.add_mul, Int.mul_assoc]; omega
theorem Qwj (x : Int) : ∀ p q, pev (Qx6 p q) x = pev p (pev q x)
 | [], q => by simp [Qx6, pev]
 | a :: p, q => by simp only [Qx6, Qnf, Qqt, pev, Qwj x p q]; omega
theorem Qo5 {x : Int} (h : 0 ≤ x) : ∀ p, 0 ≤ pab p x
 | [] => Int.le_refl _
 | c :: p => by have := Int.mul_nonneg h (Qo5 h p); have := Qb2 c; show 0 ≤ Qag c + x * pab p x; omega
theorem Q18 {x q : Int} (h0 : 0 ≤ x) (h1 : x ≤ q) : ∀ p, -pab p q ≤ pev p x ∧ pev p x ≤ pab p q
 | [] => ⟨Int.le_refl _, Int.le_refl _⟩
 | c :: p => by
   obtain ⟨a, b⟩ := Q18 h0 h1 p
   have n := Qo5 (x := q) (by omega) p
   have m1 : x * pab p q ≤ q * pab p q := Int.mul_le_mul_of_nonneg_right h1 n
   have m2 : x * pev p x ≤ x * pab p q := Int.mul_le_mul_of_nonneg_left b h0
   have m3 : x * -pab p q ≤ x * pev p x := Int.mul_le_mul_of_nonneg_left a h0
   rw [Int.mul_neg] at m3
   have c1 : -Qag c ≤ c ∧ c ≤ Qag c := by unfold Qag; split <;> omega
   show -(Qag c + q * pab p q) ≤ c + x * pev p x ∧ c + x * pev p x ≤ Qag c + q * pab p q
   omega
def mg (a : Int) : Nat → Int
 | 0 => a
 | k + 1 => mg a k * a / 4294967296 * a / 4294967296 / ((2 * ((k : Int) + 1)) * (2 * ((k : Int) + 1) + 1))
def sgk : Nat → Int
 | 0 => 1
 | k + 1 => -sgk k
theorem Q84 : ∀ k, sgk k = 1 ∨ sgk k = -1
 | 0 => .inl rfl
 | k + 1 => by rcases Q84 k with h | h <;> simp [sgk, h]
def tT (v : Int) : Nat → Int
 | 0 => v
 | k + 1 => -Int.tdiv (Qa1 (Qa1 (tT v k) v) v) ((2 * ((k : Int) + 1)) * (2 * ((k : Int) + 1) + 1))
def uT (v : Int) : Nat → Int
 | 0 => v
 | k + 1 => uT v k + tT v (k + 1)
theorem Qwq (a b : Int) : Qa1 (-a) b = -Qa1 a b := by unfold Qa1; rw [Int.neg_mul, Int.neg_tdiv]
theorem Q2k (a b : Int) : Qa1 a (-b) = -Qa1 a b := by unfold Qa1; rw [Int.mul_neg, Int.neg_tdiv]
theorem Q81 (v : Int) : ∀ k, tT (-v) k = -tT v k
 | 0 => rfl
 | k + 1 => by
   show -Int.tdiv (Qa1 (Qa1 (tT (-v) k) (-v)) (-v)) _ = - -Int.tdiv (Qa1 (Qa1 (tT v k) v) v) _
   rw [Q81 v k]
   simp only [Qwq, Q2k, Int.neg_tdiv, Int.neg_neg]
theorem Q8z (v : Int) : ∀ k, uT (-v) k = -uT v k
 | 0 => rfl
 | k + 1 => by show uT (-v) k + tT (-v) (k + 1) = -(uT v k + tT v (k + 1)); rw [Q8z v k, Q81]; omega
theorem Qnz (k : Nat) : (0 : Int) < (2 * ((k : Int) + 1)) * (2 * ((k : Int) + 1) + 1) := Int.mul_pos (by omega) (by omega)
theorem Qnl {a : Int} (h : 0 ≤ a) : ∀ k, 0 ≤ mg a k
 | 0 => h
 | k + 1 => by
   have h1 := Int.mul_nonneg (Qnl h k) h
   have h2 : 0 ≤ mg a k * a / 4294967296 := Int.ediv_nonneg h1 (by decide)
   exact Int.ediv_nonneg (Int.ediv_nonneg (Int.mul_nonneg h2 h) (by decide)) (Int.le_of_lt (Qnz k))
theorem Qwp {a b : Int} (ha : 0 ≤ a) (hb : 0 ≤ b) : Qa1 a b = a * b / 4294967296 := Int.tdiv_eq_ediv_of_nonneg (Int.mul_nonneg ha hb)
theorem Zg9 {a : Int} (h : 0 ≤ a) : ∀ k, tT a k = sgk k * mg a k
 | 0 => by show a = 1 * a; omega
 | k + 1 => by
   have h0 := Qnl h k
   have h1 : 0 ≤ mg a k * a / 4294967296 := Int.ediv_nonneg (Int.mul_nonneg h0 h) (by decide)
   have h2 : 0 ≤ mg a k * a / 4294967296 * a / 4294967296 := Int.ediv_nonneg (Int.mul_nonneg h1 h) (by decide)
   show -Int.tdiv (Qa1 (Qa1 (tT a k) a) a) _ = -sgk k * (mg a k * a / 4294967296 * a / 4294967296 / _)
   rw [Zg9 h k]
   have e : Int.tdiv (Qa1 (Qa1 (mg a k) a) a) ((2 * ((k : Int) + 1)) * (2 * ((k : Int) + 1) + 1)) = mg a k * a / 4294967296 * a / 4294967296 / ((2 * ((k : Int) + 1)) * (2 * ((k : Int) + 1) + 1)) := by
     rw [Qwp h0 h, Qwp h1 h, Int.tdiv_eq_ediv_of_nonneg h2]
   rw [← e]
   rcases Q84 k with hs | hs
   · rw [hs, Int.one_mul]; omega
   · rw [hs, show (-1 : Int) * mg a k = -mg a k by omega]
     simp only [Qwq, Int.neg_tdiv, Int.neg_neg]; omega
def CC : Nat → Int
 | 0 => 1
 | k + 1 => CC k * (18446744073709551616 * ((2 * ((k : Int) + 1)) * (2 * ((k : Int) + 1) + 1)))
def aa (a : Int) : Nat → Int
 | 0 => a
 | k + 1 => aa a k * (a * a)
theorem Qtd : ∀ k, 0 < CC k
 | 0 => by decide
 | k + 1 => Int.mul_pos (Qtd k) (Int.mul_pos (by decide) (Qnz k))
theorem Zh5 {a : Int} (h : 0 ≤ a) (h1 : a ≤ 6746518852) : ∀ k, mg a k * CC k ≤ aa a k ∧ aa a k ≤ (mg a k + 3) * CC k
 | 0 => by show a * 1 ≤ a ∧ a ≤ (a + 3) * 1; omega
 | k + 1 => by
   obtain ⟨l, u⟩ := Zh5 h h1 k
   have c0 := Qtd k
   have m0 := Qnl h k
   have hN := Qnz k
   have hN6 : (6 : Int) ≤ (2 * ((k : Int) + 1)) * (2 * ((k : Int) + 1) + 1) := by
     have : (2 : Int) * 3 ≤ (2 * ((k : Int) + 1)) * (2 * ((k : Int) + 1) + 1) := Int.mul_le_mul (by omega) (by omega) (by decide) (by omega)
     omega
   show mg a k * a / 4294967296 * a / 4294967296 / _ * (CC k * (18446744073709551616 * _)) ≤ aa a k * (a * a) ∧ aa a k * (a * a) ≤ (mg a k * a / 4294967296 * a / 4294967296 / _ + 3) * (CC k * (18446744073709551616 * _))
   generalize (2 * ((k : Int) + 1)) * (2 * ((k : Int) + 1) + 1) = N at *
   generalize hm : mg a k = m at *
   generalize CC k = c at *
   have p0 := Int.ediv_nonneg (Int.mul_nonneg m0 h) (show (0 : Int) ≤ 4294967296 by decide)
   have p1 : m * a / 4294967296 * 4294967296 ≤ m * a := Int.ediv_mul_le _ (by decide)
   have p2 : m * a < (m * a / 4294967296 + 1) * 4294967296 := Int.lt_ediv_add_one_mul_self _ (by decide)
   generalize m * a / 4294967296 = p at *
   have q1 : p * a / 4294967296 * 4294967296 ≤ p * a := Int.ediv_mul_le _ (by decide)
   have q2 : p * a < (p * a / 4294967296 + 1) * 4294967296 := Int.lt_ediv_add_one_mul_self _ (by decide)
   generalize p * a / 4294967296 = q at *
   have r1 : q / N * N ≤ q := Int.ediv_mul_le _ (by omega)
   have r2 : q < (q / N + 1) * N := Int.lt_ediv_add_one_mul_self _ hN
   generalize q / N = r at *
   have haa := Qbu a
   -- m a a between
   have e1 : m * (a * a) = m * a * a := (Int.mul_assoc m a a).symm
   have e2 : p * 4294967296 * a = p * a * 4294967296 := Int.mul_right_comm _ _ _
   have s1 : p * 4294967296 * a ≤ m * a * a := Int.mul_le_mul_of_nonneg_right p1 h
   have s2 : m * a * a ≤ (p + 1) * 4294967296 * a := Int.mul_le_mul_of_nonneg_right (by omega) h
   have e3 : (p + 1) * 4294967296 * a = p * a * 4294967296 + 4294967296 * a := by rw [Int.add_mul, Int.add_mul, Int.mul_right_comm p]; omega
   constructor
   · -- r N F F ≤ m a a
     have t1 : r * N * 18446744073709551616 ≤ m * (a * a) := by omega
     have t2 : r * N * 18446744073709551616 * c ≤ m * (a * a) * c := Int.mul_le_mul_of_nonneg_right t1 (by omega)
     have t3 : m * (a * a) * c = m * c * (a * a) := Int.mul_right_comm _ _ _
     have t4 : m * c * (a * a) ≤ aa a k * (a * a) := Int.mul_le_mul_of_nonneg_right l haa
     have t5 : r * (c * (18446744073709551616 * N)) = r * N * 18446744073709551616 * c := by
       rw [Int.mul_comm 18446744073709551616 N, ← Int.mul_assoc c, ← Int.mul_assoc r, Int.mul_right_comm (r * N), ← Int.mul_assoc r, Int.mul_right_comm r c N]
     omega
   · have a2 : a * a ≤ 6746518852 * a := Int.mul_le_mul_of_nonneg_right h1 h
     have e4 : (r + 1) * N = r * N + N := by rw [Int.add_mul]; omega
     have e5 : (r + 3) * N = r * N + 3 * N := by rw [Int.add_mul]
     have t1 : (m + 3) * (a * a) ≤ (r + 3) * N * 18446744073709551616 := by
       have : (m + 3) * (a * a) = m * (a * a) + 3 * (a * a) := Int.add_mul _ _ _
       omega
     have t2 : (m + 3) * (a * a) * c ≤ (r + 3) * N * 18446744073709551616 * c := Int.mul_le_mul_of_nonneg_right t1 (by omega)
     have t3 : (m + 3) * (a * a) * c = (m + 3) * c * (a * a) := Int.mul_right_comm _ _ _
     have t4 : aa a k * (a * a) ≤ (m + 3) * c * (a * a) := Int.mul_le_mul_of_nonneg_right u haa
     have t5 : (r + 3) * (c * (18446744073709551616 * N)) = (r + 3) * N * 18446744073709551616 * c := by
       rw [Int.mul_comm 18446744073709551616 N, ← Int.mul_assoc c, ← Int.mul_assoc (r + 3), Int.mul_right_comm ((r + 3) * N), ← Int.mul_assoc (r + 3), Int.mul_right_comm (r + 3) c N]
     omega
def DD : Int := CC 8
def PL : List Int := [0, CC 8 / CC 0, 0, -(CC 8 / CC 1), 0, CC 8 / CC 2, 0, -(CC 8 / CC 3), 0, CC 8 / CC 4, 0, -(CC 8 / CC 5), 0, CC 8 / CC 6, 0, -(CC 8 / CC 7), 0, CC 8 / CC 8]
def GL (q : Int) : List Int := Q6v (Q6v (Zc3 PL PL) (Zc3 (Qx6 PL [q, -1]) (Qx6 PL [q, -1]))) [-(DD * 4294967296 * (DD * 4294967296))]
theorem GL_1 : pab (GL 6746518852) 6746518852 ≤ 512 * 4294967296 * (DD * DD) := by decide +kernel
theorem GL_2 : pab (GL 6746518851) 6746518851 ≤ 512 * 4294967296 * (DD * DD) := by decide +kernel
theorem quot (k : Nat) (h : k ≤ 8) : CC 8 / CC k * CC k = CC 8 := by
 have : ∀ k : Fin 9, CC 8 / CC k.val * CC k.val = CC 8 := by decide +kernel
 exact this ⟨k, by omega⟩
theorem Qhq {a : Int} (h : 0 ≤ a) (h1 : a ≤ 6746518852) (k : Nat) (hk : k ≤ 8) : 0 ≤ CC 8 / CC k * aa a k - DD * mg a k ∧ CC 8 / CC k * aa a k - DD * mg a k ≤ 3 * DD := by
 obtain ⟨l, u⟩ := Zh5 h h1 k
 have q := quot k hk
 have r0 : 0 ≤ CC 8 / CC k := Int.ediv_nonneg (Int.le_of_lt (Qtd 8)) (Int.le_of_lt (Qtd k))
 unfold DD
 generalize CC 8 / CC k = R at *
 have a1 := Int.mul_le_mul_of_nonneg_left l r0
 have a2 := Int.mul_le_mul_of_nonneg_left u r0
 have e1 : R * (mg a k * CC k) = CC 8 * mg a k := by rw [Int.mul_left_comm, q, Int.mul_comm]
 have e2 : R * ((mg a k + 3) * CC k) = CC 8 * mg a k + 3 * CC 8 := by rw [Int.mul_left_comm, q, Int.add_mul, Int.mul_comm]
 omega
theorem Zhx (a : Int) : pev PL a = CC 8 / CC 0 * aa a 0 - CC 8 / CC 1 * aa a 1 + CC 8 / CC 2 * aa a 2 - CC 8 / CC 3 * aa a 3 + CC 8 / CC 4 * aa a 4 - CC 8 / CC 5 * aa a 5 + CC 8 / CC 6 * aa a 6 - CC 8 / CC 7 * aa a 7 + CC 8 / CC 8 * aa a 8 := by
 unfold PL
 generalize CC 8 / CC 0 = c0
 generalize CC 8 / CC 1 = c1
 generalize CC 8 / CC 2 = c2
 generalize CC 8 / CC 3 = c3
 generalize CC 8 / CC 4 = c4
 generalize CC 8 / CC 5 = c5
 generalize CC 8 / CC 6 = c6
 generalize CC 8 / CC 7 = c7
 generalize CC 8 / CC 8 = c8
 have odd : ∀ (c : Int) (p : List Int), pev (0 :: c :: p) a = a * (c + a * pev p a) := fun c p => by simp only [pev]; omega
 have sh : ∀ (c : Int) (p : List Int), pev (0 :: c :: p) a = c * a + (a * a) * pev p a := fun c p => by rw [odd, Int.mul_add, Int.mul_comm a c, Int.mul_assoc]
 have e0 : ∀ k, aa a (k + 1) = (a * a) * aa a k := fun k => by show aa a k * (a * a) = _; rw [Int.mul_comm]
 -- p(x) = c0 x + x² p1(x), where p1 begins with 0 again
 have s0 : pev [0, c0, 0, -c1, 0, c2, 0, -c3, 0, c4, 0, -c5, 0, c6, 0, -c7, 0, c8] a = c0 * a + (a * a) * (-c1 * a + (a * a) * (c2 * a + (a * a) * (-c3 * a + (a * a) * (c4 * a + (a * a) * (-c5 * a + (a * a) * (c6 * a + (a * a) * (-c7 * a + (a * a) * (c8 * a)))))))) := by
   rw [sh, sh, sh, sh, sh, sh, sh, sh, sh]; simp [pev]
 rw [s0]
 simp only [e0, show aa a 0 = a from rfl]
 generalize a * a = b
 simp only [Int.mul_add, Int.neg_mul, Int.mul_neg, Int.mul_left_comm b]
 omega
theorem Zg3 (a : Int) (h : 0 ≤ a) : uT a 8 = mg a 0 - mg a 1 + mg a 2 - mg a 3 + mg a 4 - mg a 5 + mg a 6 - mg a 7 + mg a 8 := by
 have e : ∀ k, uT a (k + 1) = uT a k + sgk (k + 1) * mg a (k + 1) := fun k => by rw [← Zg9 h (k + 1)]; rfl
 rw [e 7, e 6, e 5, e 4, e 3, e 2, e 1, e 0]
 show a + -1 * mg a 1 + 1 * mg a 2 + -1 * mg a 3 + 1 * mg a 4 + -1 * mg a 5 + 1 * mg a 6 + -1 * mg a 7 + 1 * mg a 8 = a - _ + _ - _ + _ - _ + _ - _ + _
 omega
theorem Zg4 {a : Int} (h : 0 ≤ a) (h1 : a ≤ 6746518852) : -(12 * DD) ≤ DD * uT a 8 - pev PL a ∧ DD * uT a 8 - pev PL a ≤ 12 * DD := by
 rw [Zg3 a h, Zhx]
 have t0 : CC 8 / CC 0 * aa a 0 = DD * mg a 0 := by show CC 8 / CC 0 * a = CC 8 * a; rw [show CC 8 / CC 0 = CC 8 by decide +kernel]
 have t1 := Qhq h h1 1 (by decide)
 have t2 := Qhq h h1 2 (by decide)
 have t3 := Qhq h h1 3 (by decide)
 have t4 := Qhq h h1 4 (by decide)
 have t5 := Qhq h h1 5 (by decide)
 have t6 := Qhq h h1 6 (by decide)
 have t7 := Qhq h h1 7 (by decide)
 have t8 := Qhq h h1 8 (by decide)
 simp only [Int.mul_add, Int.mul_sub]
 generalize DD = D at *
 omega
theorem Zi9 (q a : Int) : pev (GL q) a = pev PL a * pev PL a + pev PL (q - a) * pev PL (q - a) - DD * 4294967296 * (DD * 4294967296) := by
 have e : pev [q, -1] a = q - a := by simp [pev]; omega
 unfold GL
 rw [Qnf, Qnf, Qqt, Qqt, Qwj, e]
 simp [pev]; omega
theorem Ze0 (a b c d : Int) : a * b * (c * d) = a * c * (b * d) := by rw [Int.mul_assoc, Int.mul_assoc, Int.mul_left_comm b c d]
theorem Qj5 {p q P Q : Int} (hP : 0 ≤ P) (a1 : -P ≤ p) (a2 : p ≤ P) (b1 : -Q ≤ q) (b2 : q ≤ Q) : -(P * Q) ≤ p * q ∧ p * q ≤ P * Q := by
 have c1 : Qag p ≤ P := by unfold Qag; split <;> omega
 have c2 : Qag q ≤ Q := by unfold Qag; split <;> omega
 have c3 : Qag p * Qag q ≤ P * Q := Int.mul_le_mul c1 c2 (Qb2 q) hP
 have c4 := Qgq p q
 have c5 := Qcx (a := p) (b := q)
 generalize Qag p * Qag q = z at *
 generalize (!(decide (p < 0) == decide (q < 0))) = n at *
 rw [← c4]
 unfold sv
 cases n <;> simp <;> omega
theorem Zhc {D u w A B F : Int} (hD : 0 < D) (hF : 1000 ≤ F) (h1 : -(12 * D) ≤ D * u - A ∧ D * u - A ≤ 12 * D) (h2 : -(12 * D) ≤ D * w - B ∧ D * w - B ≤ 12 * D)
   (h3 : -(512 * F * (D * D)) ≤ A * A + B * B - D * F * (D * F) ∧ A * A + B * B - D * F * (D * F) ≤ 512 * F * (D * D)) : -(640 * F) ≤ u * u + w * w - F * F ∧ u * u + w * w - F * F ≤ 640 * F := by
 have hDD : 0 < D * D := Int.mul_pos hD hD
 have eF : D * F * (D * F) = F * F * (D * D) := by rw [Ze0, Int.mul_comm]
 have k1 : 512 * F * (D * D) = 512 * (F * (D * D)) := Int.mul_assoc _ _ _
 rw [eF, k1] at h3
 have hFF : 1000 * F ≤ F * F := Int.mul_le_mul_of_nonneg_right hF (by omega)
 have hFD : 1000 * (D * D) ≤ F * (D * D) := Int.mul_le_mul_of_nonneg_right hF (by omega)
 have hFFD : 1000 * (F * (D * D)) ≤ F * (F * (D * D)) := Int.mul_le_mul_of_nonneg_right hF (by omega)
 have k2 : F * F * (D * D) = F * (F * (D * D)) := Int.mul_assoc _ _ _
 have k3 : (2 * (D * F)) * (2 * (D * F)) = 4 * (F * (F * (D * D))) := by rw [Ze0, eF, k2]; omega
 have p2 : 0 ≤ D * F := Int.mul_nonneg (Int.le_of_lt hD) (by omega)
 -- A and B are at most 2 D F
 have lim : ∀ {X Y : Int}, X * X + Y * Y - F * F * (D * D) ≤ 512 * (F * (D * D)) → -(2 * (D * F)) ≤ X ∧ X ≤ 2 * (D * F) := by
   intro X Y h
   have y := Qbu Y
   have hX : X * X ≤ (2 * (D * F)) * (2 * (D * F)) := by omega
   have hX' : (-X) * (-X) ≤ (2 * (D * F)) * (2 * (D * F)) := by rw [Int.neg_mul_neg]; exact hX
   have a := Qv0 (show 0 ≤ 2 * (D * F) by omega) hX
   have b := Qv0 (show 0 ≤ 2 * (D * F) by omega) hX'
   omega
 have lA := lim h3.2
 have lB := lim (X := B) (Y := A) (by omega)
 -- (D u)² and A²
 have near : ∀ {U X : Int}, -(12 * D) ≤ U - X → U - X ≤ 12 * D → -(2 * (D * F)) ≤ X ∧ X ≤ 2 * (D * F) → -(49 * (F * (D * D))) ≤ U * U - X * X ∧ U * U - X * X ≤ 49 * (F * (D * D)) := by
   intro U X l u ⟨xl, xu⟩
   have e : U * U - X * X = (U - X) * (2 * X + (U - X)) := by rw [Int.sub_mul, Int.mul_add, Int.mul_add, Int.mul_sub, Int.mul_sub, Int.mul_left_comm U 2, Int.mul_left_comm X 2, Int.mul_comm X U]; omega
   rw [e]
   have t := Qj5 (p := U - X) (q := 2 * X + (U - X)) (P := 12 * D) (Q := 4 * (D * F) + 12 * D) (by omega) (by omega) u (by omega) (by omega)
   have e2 : 12 * D * (4 * (D * F) + 12 * D) = 48 * (F * (D * D)) + 144 * (D * D) := by
     rw [Int.mul_add, Ze0 12 D 4, Ze0 12 D 12, ← Int.mul_assoc D D F, Int.mul_comm (D * D) F]
     omega
   omega
 have nA := near h1.1 h1.2 lA
 have nB := near h2.1 h2.2 lB
 have eu : D * u * (D * u) = u * u * (D * D) := by rw [Ze0, Int.mul_comm]
 have ew : D * w * (D * w) = w * w * (D * D) := by rw [Ze0, Int.mul_comm]
 rw [eu] at nA
 rw [ew] at nB
 have tot : (u * u + w * w - F * F) * (D * D) = u * u * (D * D) + w * w * (D * D) - F * F * (D * D) := by rw [Int.sub_mul, Int.add_mul]
 have b1 : 640 * F * (D * D) = 640 * (F * (D * D)) := Int.mul_assoc _ _ _
 have b2 : -(640 * F) * (D * D) = -(640 * F * (D * D)) := Int.neg_mul _ _
 constructor
 · refine Int.le_of_mul_le_mul_right ?_ hDD
   rw [tot, b2]; omega
 · refine Int.le_of_mul_le_mul_right ?_ hDD
   rw [tot]; omega
theorem Ziv {a b : Int} (ha : 0 ≤ a) (hb : 0 ≤ b) (h : a + b = 6746518852 ∨ a + b = 6746518851) : -(640 * 4294967296) ≤ uT a 8 * uT a 8 + uT b 8 * uT b 8 - 4294967296 * 4294967296 ∧ uT a 8 * uT a 8 + uT b 8 * uT b 8 - 4294967296 * 4294967296 ≤ 640 * 4294967296 := by
 refine Zhc (D := DD) (Qtd 8) (by decide) (Zg4 ha (by omega)) (Zg4 hb (by omega)) ?_
 rcases h with h | h
 · have e : b = 6746518852 - a := by omega
   rw [e, ← Zi9]
   have := Q18 ha (show a ≤ 6746518852 by omega) (GL 6746518852)
   have := GL_1
   omega
 · have e : b = 6746518851 - a := by omega
   rw [e, ← Zi9]
   have := Q18 ha (show a ≤ 6746518851 by omega) (GL 6746518851)
   have := GL_2
   omega
theorem Qgj {e : Int} (h : Sd e) : Qas e = e := by obtain ⟨_, _⟩ := h; unfold Qas; rw [if_neg (by omega), if_neg (by omega)]
theorem Qgi {e : Int} {f : Bool} (h : Sd e) : Qc9 e f = f := by obtain ⟨_, _⟩ := h; unfold Qc9; rw [if_pos (by unfold Qag; split <;> omega)]
theorem Qh7 {e : Int} {f : Bool} (h : Sd e) : Qra e f = ⟨e, f⟩ := by unfold Qra; rw [Qgj h, Qgi h]
theorem Qsi {a b : NB} (ha : Sd a.v) (hb : Sd b.v) (h : Sd (Qa1 a.v b.v)) : Qdg a b = ⟨Qa1 a.v b.v, a.f || b.f⟩ := by unfold Qdg; rw [ha.self, hb.self, ha.flag, hb.flag, Qh7 h]
theorem Qs0 {a b : NB} (ha : Sd a.v) (hb : Sd b.v) (h : Sd (a.v + b.v)) : Qzh a b = ⟨a.v + b.v, a.f || b.f⟩ := by unfold Qzh; rw [ha.self, hb.self, ha.flag, hb.flag, Qh7 h]
theorem Qsh {a : NB} (ha : Sd a.v) : Qc1 a = ⟨-a.v, a.f⟩ := by unfold Qc1; rw [ha.self, ha.flag]
theorem Qt8 {x B d : Int} (hd : 0 < d) (h : -B ≤ x ∧ x ≤ B) : -(B / d) ≤ Int.tdiv x d ∧ Int.tdiv x d ≤ B / d := by
 have key : ∀ y, 0 ≤ y → y ≤ B → 0 ≤ Int.tdiv y d ∧ Int.tdiv y d ≤ B / d := fun y h0 h1 => by
   rw [Int.tdiv_eq_ediv_of_nonneg h0]
   exact ⟨Int.ediv_nonneg h0 (by omega), Int.ediv_le_ediv hd h1⟩
 rcases Int.le_total 0 x with hx | hx
 · have := key x hx h.2; omega
 · have := key (-x) (by omega) (by omega)
   rw [Int.neg_tdiv] at this
   omega
theorem Qka {a : NB} {n : Int} (ha : Sd a.v) (hn : 0 < n) (hn1 : n < 2147483648) : Qdh a (Qfx n) = ⟨Int.tdiv a.v n, a.f⟩ := by
 have hs : Sd (n * 4294967296) := ⟨by omega, by omega⟩
 have e : Qfx n = ⟨n * 4294967296, false⟩ := Qh7 hs
 have e2 : Q89 a.v (n * 4294967296) = Int.tdiv a.v n := Int.mul_tdiv_mul_of_pos_left _ _ (by decide)
 have hq := Qt8 (x := a.v) (B := 9223372036854775807) hn ha
 have hB : (9223372036854775807 : Int) / n ≤ 9223372036854775807 := Int.ediv_le_self _ (by decide)
 have ht : Sd (Int.tdiv a.v n) := ⟨by omega, by omega⟩
 unfold Qdh Qdd Qjf
 rw [e]
 simp only
 rw [ha.self, hs.self, ha.flag, hs.flag, if_neg (by omega), if_neg (by omega), e2, Qgj ht, Qgi ht, Bool.false_or, Bool.or_false]
theorem Qqv {a b A B : Int} (hA : 0 ≤ A) (ha : -A ≤ a ∧ a ≤ A) (hb : -B ≤ b ∧ b ≤ B) : -(A * B / 4294967296) ≤ Qa1 a b ∧ Qa1 a b ≤ A * B / 4294967296 := Qt8 (by decide) (Qj5 hA ha.1 ha.2 hb.1 hb.2)
def InQ (v : Int) : Prop := -6746518852 ≤ v ∧ v ≤ 6746518852
theorem Q0p {v : Int} (h : InQ v) : ∀ k, InQ (tT v k)
 | 0 => h
 | k + 1 => by
   have h1 := Qqv (by decide) (Q0p h k) h
   have h2 := Qqv (A := 10597451456) (by decide) ⟨Int.le_trans (by decide) h1.1, Int.le_trans h1.2 (by decide)⟩ h
   have hN := Qnz k
   have hN6 : (6 : Int) ≤ (2 * ((k : Int) + 1)) * (2 * ((k : Int) + 1) + 1) := by
     have : (2 : Int) * 3 ≤ (2 * ((k : Int) + 1)) * (2 * ((k : Int) + 1) + 1) := Int.mul_le_mul (by omega) (by omega) (by decide) (by omega)
     omega
   have h3 := Qt8 (B := 40479113112) hN ⟨Int.le_trans (by decide) h2.1, Int.le_trans h2.2 (by decide)⟩
   have h4 : (40479113112 : Int) / ((2 * ((k : Int) + 1)) * (2 * ((k : Int) + 1) + 1)) ≤ 6746518852 := by
     refine Int.ediv_le_of_le_mul hN ?_
     have := Int.mul_le_mul_of_nonneg_left hN6 (show (0 : Int) ≤ 6746518852 by decide)
     omega
   show InQ (-Int.tdiv _ _)
   unfold InQ
   omega
theorem InQ.sd {v : Int} (h : InQ v) : Sd v := by obtain ⟨_, _⟩ := h; exact ⟨by omega, by omega⟩
theorem Q03 {y : NB} (h : InQ y.v) : ∀ k, k ≤ 8 → Qba y k = ⟨tT y.v k, y.f⟩
 | 0, _ => rfl
 | k + 1, hk => by
   have ih := Q03 h k (by omega)
   have hs : Sd y.v := h.sd
   have ht := Q0p h k
   have h1 := Qqv (by decide) ht h
   have h1' : Sd (Qa1 (tT y.v k) y.v) := ⟨Int.le_trans (by decide) h1.1, Int.le_trans h1.2 (by decide)⟩
   have h2 := Qqv (A := 10597451456) (by decide) ⟨Int.le_trans (by decide) h1.1, Int.le_trans h1.2 (by decide)⟩ h
   have h2' : Sd (Qa1 (Qa1 (tT y.v k) y.v) y.v) := ⟨Int.le_trans (by decide) h2.1, Int.le_trans h2.2 (by decide)⟩
   have hN := Qnz k
   have hN1 := Int.mul_le_mul (a := 2 * ((k : Int) + 1)) (b := 2 * ((k : Int) + 1) + 1) (c := 18) (d := 19) (by omega) (by omega) (by omega) (by decide)
   have h5 := Q0p h (k + 1)
   show Qgp y (Qba y k) k = _
   unfold Qgp
   rw [ih, Qsi (a := ⟨tT y.v k, y.f⟩) ht.sd hs h1', Qsi (a := ⟨Qa1 (tT y.v k) y.v, y.f || y.f⟩) h1' hs h2', Qka (a := ⟨Qa1 (Qa1 (tT y.v k) y.v) y.v, _⟩) h2' hN (by omega), Qsh]
   · simp only [Bool.or_self]; rfl
   · have e : Int.tdiv (Qa1 (Qa1 (tT y.v k) y.v) y.v) ((2 * ((k : Int) + 1)) * (2 * ((k : Int) + 1) + 1)) = -tT y.v (k + 1) := by show _ = - -Int.tdiv _ _; omega
     show Sd (Int.tdiv _ _)
     rw [e]; exact Q2i h5.sd
theorem Qvv {v : Int} (h : InQ v) : ∀ k : Nat, -(((k : Int) + 1) * 6746518852) ≤ uT v k ∧ uT v k ≤ ((k : Int) + 1) * 6746518852
 | 0 => by obtain ⟨_, _⟩ := h; show _ ≤ v ∧ v ≤ _; omega
 | k + 1 => by
   have a := Qvv h k
   obtain ⟨_, _⟩ := Q0p h (k + 1)
   show _ ≤ uT v k + tT v (k + 1) ∧ uT v k + tT v (k + 1) ≤ _
   omega
theorem Q02 {y : NB} (h : InQ y.v) : ∀ k, k ≤ 8 → Qb9 y k = ⟨uT y.v k, y.f⟩
 | 0, _ => rfl
 | k + 1, hk => by
   have a := Qvv h k
   have b := Qvv h (k + 1)
   show Qzh (Qb9 y k) (Qba y (k + 1)) = _
   rw [Q02 h k (by omega), Q03 h (k + 1) hk, Qs0 ⟨by show -9223372036854775807 ≤ uT y.v k; omega, by show uT y.v k ≤ 9223372036854775807; omega⟩ (Q0p h (k + 1)).sd ⟨by show _ ≤ uT y.v k + tT y.v (k + 1); have : uT y.v k + tT y.v (k + 1) = uT y.v (k + 1) := rfl; omega, by show uT y.v k + tT y.v (k + 1) ≤ _; have : uT y.v k + tT y.v (k + 1) = uT y.v (k + 1) := rfl; omega⟩]
   simp only [Bool.or_self]; rfl
def clE (u : Int) : Int := Qnm (-4294967296) (Qlr u 4294967296)
theorem Zmc (u : Int) : clE (-u) = -clE u := by unfold clE Qnm Qlr; (repeat' split) <;> omega
theorem Q6k (a : NB) : InQ (Qm4 a).v := Q01 a
theorem Qud (a : NB) : Qi0 a = ⟨clE (uT (Qm4 a).v 8), Qat a.v a.f⟩ := by
 have h := Q6k a
 have b := Qvv h 8
 have hs : Sd (uT (Qm4 a).v 8) := ⟨by omega, by omega⟩
 unfold Qi0 Qpl
 rw [Q02 h 8 (Nat.le_refl _)]
 simp only
 rw [hs.self, hs.flag]
 have e1 : Qaa (-4294967296) = -4294967296 := by decide
 have e2 : Qaa 4294967296 = 4294967296 := by decide
 have e3 : ∀ f, Qat (-4294967296) f = f := fun f => Qcr (by decide)
 have e4 : ∀ f, Qat 4294967296 f = f := fun f => Qcr (by decide)
 rw [e1, e2, e3, e4, Bool.or_false, Bool.false_or]
 rfl
theorem Qz0 (v : Int) : ∃ k, Qau v = v - 26986075409 * k := by
 have h := Int.tmod_add_mul_tdiv v 26986075409
 unfold Qau
 split
 · exact ⟨Int.tdiv v 26986075409 + 1, by omega⟩
 · split
   · exact ⟨Int.tdiv v 26986075409 - 1, by omega⟩
   · exact ⟨Int.tdiv v 26986075409, by omega⟩
theorem Qp3 {w : Int} (h : -13493037704 ≤ w ∧ w ≤ 13493037704) : Qau (w + 6746518852) = if w + 6746518852 > 13493037704 then w + 6746518852 - 26986075409 else w + 6746518852 := by
 obtain ⟨k, hk⟩ := Qz0 (w + 6746518852)
 have a := Qf1 (v := w + 6746518852)
 split <;> omega
theorem Q3a (a : NB) : Ql6 a = ⟨clE (uT (Qh6 (Qau (Qau (Qaa a.v) + 6746518852))) 8), Qat a.v a.f⟩ := by
 have hw := Qf1 (v := Qaa a.v)
 have s1 : Sd (Qau (Qaa a.v)) := ⟨by omega, by omega⟩
 have s2 : Sd (Qau (Qaa a.v) + 6746518852) := ⟨by omega, by omega⟩
 have e : Qzh (Q5d a) ⟨6746518852, false⟩ = ⟨Qau (Qaa a.v) + 6746518852, Qat a.v a.f⟩ := by
   rw [Qs0 (a := Q5d a) (b := ⟨6746518852, false⟩) s1 ⟨by decide, by decide⟩ s2]
   show NB.mk _ (Qat a.v a.f || false) = _
   rw [Bool.or_false]; rfl
 unfold Ql6
 rw [e, Qud]
 show NB.mk (clE (uT (Qh6 (Qau (Qaa (Qau (Qaa a.v) + 6746518852)))) 8)) (Qat (Qau (Qaa a.v) + 6746518852) (Qat a.v a.f)) = _
 rw [s2.self, s2.flag]
theorem Q80 (v : Int) : uT v 8 * uT v 8 = uT (Qag v) 8 * uT (Qag v) 8 := by
 unfold Qag
 split
 · rw [Q8z, Int.neg_mul_neg]
 · rfl
theorem Q69 {w : Int} (h : -13493037704 ≤ w ∧ w ≤ 13493037704) : Qag (Qh6 w) + Qag (Qh6 (Qau (w + 6746518852))) = 6746518852 ∨ Qag (Qh6 w) + Qag (Qh6 (Qau (w + 6746518852))) = 6746518851 := by
 rw [Qp3 h]
 obtain ⟨_, _⟩ := h
 unfold Qh6 Qag
 (repeat' split) <;> omega
theorem Q3g (u : Int) : (clE u = u) ∨ (clE u = 4294967296 ∧ 4294967296 < u) ∨ (clE u = -4294967296 ∧ u < -4294967296) := by unfold clE Qnm Qlr; (repeat' split) <;> omega
theorem Q9y (u : Int) : clE u * clE u ≤ u * u ∧ (clE u * clE u = u * u ∨ clE u * clE u = 4294967296 * 4294967296) := by
 rcases Q3g u with h | ⟨h, h'⟩ | ⟨h, h'⟩
 · rw [h]; exact ⟨Int.le_refl _, .inl rfl⟩
 · rw [h]; exact ⟨Ql1 (by decide) (by omega), .inr rfl⟩
 · rw [h]
   have := Ql1 (a := 4294967296) (b := -u) (by decide) (by omega)
   rw [Int.neg_mul_neg] at this
   exact ⟨this, .inr rfl⟩
theorem Qye {u w B : Int} (h : -B ≤ u * u + w * w - 4294967296 * 4294967296 ∧ u * u + w * w - 4294967296 * 4294967296 ≤ B) : -B ≤ clE u * clE u + clE w * clE w - 4294967296 * 4294967296 ∧ clE u * clE u + clE w * clE w - 4294967296 * 4294967296 ≤ B := by
 obtain ⟨u1, u2⟩ := Q9y u
 obtain ⟨w1, w2⟩ := Q9y w
 have p := Qbu (clE u)
 have q := Qbu (clE w)
 rcases u2 with u2 | u2 <;> rcases w2 with w2 | w2 <;> omega
theorem Qxu (a : NB) : -2748779069440 ≤ (Qi0 a).v * (Qi0 a).v + (Ql6 a).v * (Ql6 a).v - 18446744073709551616 ∧ (Qi0 a).v * (Qi0 a).v + (Ql6 a).v * (Ql6 a).v - 18446744073709551616 ≤ 2748779069440 := by
 rw [Qud, Q3a a]
 have hw := Qf1 (v := Qaa a.v)
 have c := Ziv (Qb2 (Qh6 (Qau (Qaa a.v)))) (Qb2 (Qh6 (Qau (Qau (Qaa a.v) + 6746518852)))) (Q69 hw)
 rw [← Q80, ← Q80] at c
 exact Qye c
end Go.Proofs.YteekigmbopdfjaaGreat
end
section
namespace Go.Proofs.YteekigmbopdfjaaGreat
open Go.SE Go.RowKit
def rX (r : List SV) : NB := match r with | [.v (.int _ a), .v (.bool f), _, _] => ⟨a, f⟩ | _ => ⟨0, false⟩
def rY (r : List SV) : NB := match r with | [_, _, .v (.int _ a), .v (.bool f)] => ⟨a, f⟩ | _ => ⟨0, false⟩
def rV (r : List SV) : VB := ⟨rX r, rY r⟩
def Qj8 : List SV → Prop
 | [.v (.int .i64 a), .v (.bool _), .v (.int .i64 b), .v (.bool _)] => I64 a ∧ I64 b
 | _ => False
def nR (a : NB) : List SV := [.v (.int .i64 a.v), .v (.bool a.f)]
def vR (a : VB) : List SV := [.v (.int .i64 a.x.v), .v (.bool a.x.f), .v (.int .i64 a.y.v), .v (.bool a.y.f)]
def Qvy (l : List (List SV)) : NB := ⟨Qas (Qgc l), Qc9 (Qgc l) (Qfb l)⟩
def Q3r (n : Nat) (g : Nat → VB) : VB := ⟨Qvy (Qak n fun i => nR (g i).x), Qvy (Qak n fun i => nR (g i).y)⟩
def Qjr (a : VB) : Bool := Qat a.x.v a.x.f || Qat a.y.v a.y.f
def Qw9 (n : Nat) (g : Nat → VB) : Bool := match n with
 | 0 => false
 | k + 1 => Qw9 k g || Qjr (g k)
def Qx0 : List SV → List Ro → Option (Option Prop × SV)
 | [.sl 0 4 0 n _], [⟨4, n', row⟩] => some (some (Qb5 Qj8 (Qak n' row) ∧ n' = n ∧ n < 1099511627776), vS (Q3r n fun i => rV (row i)))
 | _, _ => none
def Quj : List SV → List Ro → Option (Option Prop × SV)
 | [.sl 0 4 0 n _], [⟨4, n', row⟩] => some (some (Qb5 Qj8 (Qak n' row) ∧ n' = n ∧ n < 1099511627776), .v (.bool (Qw9 n fun i => rV (row i))))
 | _, _ => none
def Quk : List SV → Option (Option Prop × SV)
 | [.agg [.v (.int .i64 a), .v (.bool f), .v (.int .i64 b), .v (.bool g)]] => some (some (I64 a ∧ I64 b), .v (.bool (Qjr ⟨⟨a, f⟩, ⟨b, g⟩⟩)))
 | _ => none
def Q1n : List SV → Option (Option Prop × SV)
 | [.agg [.v (.int .i64 a), .v (.bool f)]] => some (some (I64 a), .v (.bool (Qat a f)))
 | _ => none
def Qsm (g : Nat → VB) : Nat → Nat → Int
 | 0, _ => -1
 | m + 1, k => bif Qjr (g k) then (k : Int) else Qsm g m (k + 1)
def Zlu : List SV → List Ro → Option (Option Prop × SV)
 | [.sl 0 4 0 n _, .fn f []], [⟨4, n', row⟩] => bif Nat.beq f 231 then some (some (Qb5 Qj8 (Qak n' row) ∧ n' = n ∧ n < 1099511627776), .v (.int .i64 (Qsm (fun i => rV (row i)) n 0))) else none
 | _, _ => none
def Qm6 : List SV → List Ro → Option (Option Prop × SV)
 | [.sl 0 4 0 n _, .fn f []], [⟨4, n', row⟩] => bif Nat.beq f 231 then some (some (Qb5 Qj8 (Qak n' row) ∧ n' = n ∧ n < 1099511627776), .v (.bool (Qw9 n fun i => rV (row i)))) else none
 | _, _ => none
def Qjb (g : Nat → VB) : Nat → List SV := fun i => vR (g i)
def Zj1 (n : Nat) (c : Nat) (g : Nat → NB) : Blk := { elem := 30, size := 2, rw := true, lock := false, lit := false, flat := true, n, row := fun i => nR (g i), ext := c }
noncomputable def Zai (n : Nat) (g : Nat → VB) : Nat → Option LoopSpec := Qyi (Qcp Qax Tryz.f14 0 Nat (fun k => k ≤ n) (fun k => n - k) [(15, fun k => .v (.int .i64 k))] [(88, fun k => Zj1 n n fun i => if i < k then (g i).x else ⟨0, false⟩), (112, fun k => Zj1 n n fun i => if i < k then (g i).y else ⟨0, false⟩)]) 5 [(9, fun _ => 88), (11, fun _ => 112)]
structure KCD where
 k : Nat
 c : Nat
 d : Nat
noncomputable def Qzj (n : Nat) (g : Nat → VB) : Nat → Option LoopSpec := Qxa (Qki Qax Tryz.f244 0 KCD (fun x => x.k ≤ n ∧ x.k ≤ x.c ∧ x.k ≤ x.d) (fun x => n - x.k) [(5, fun x => .v (.int .i64 x.k)), (3, fun x => .sl 40 2 0 x.k x.c), (4, fun x => .sl 41 2 0 x.k x.d)] [] [(40, fun x => Zj1 x.k x.c fun i => (g i).x, Q9n 3), (41, fun x => Zj1 x.k x.d fun i => (g i).y, Q9n 4)]) 5 [(7, fun nx => [40, nx + 48]), (15, fun nx => [41, nx + 112])]
noncomputable def Zad (n : Nat) (g : Nat → VB) : Nat → Option LoopSpec := Qcp Qax Tryz.f302 0 Nat (fun k => k ≤ n ∧ Qsm g (n - k) k = Qsm g n 0) (fun k => n - k) [(8, fun k => .v (.int .i64 k))] []
theorem Q5y (a : VB) (R : SV→Prop) : (Qav Tryz.prog Zje Qax Tryz.f231 [vS a] R) = ((I64 (NB.v (VB.x a)))∧(sel (NB.f (Qc1 (VB.x a))) (R (SV.v (.bool true))) ((I64 (NB.v (VB.y a)))∧(R (SV.v (.bool (NB.f (Qc1 (VB.y a))))))))):=by kernel_rfl
theorem Zbt (a : NB) (R : SV→Prop) : (Qav Tryz.prog Zje Qax Tryz.f241 [nS a] R) = ((((Qf4 [SV.v (.int .i64 (NB.v a)),SV.v (.bool (NB.f a))])∧True)∧(((1 : Nat) = 1)∧((1 : Nat) < 1099511627776)))∧(R (SV.v (.bool (Qc9 (Qgc [[SV.v (.int .i64 (NB.v a)),SV.v (.bool (NB.f a))]]) (Qfb [[SV.v (.int .i64 (NB.v a)),SV.v (.bool (NB.f a))]])))))):=by kernel_rfl
def Zfc : Qb8 := Qah (Qah Zje 231 (Qaj Quk)) 241 (Qaj Q1n)
theorem Zgw (n n' c : Nat) (g : Nat→VB) (R : SV→Prop) : (Qcu Tryz.prog Zfc (Zai n g) Tryz.f14 [.sl 0 4 0 n c] (Qbm [⟨4,n',Qjb g⟩]) 64 (fun y _ => R y)) =
((((0 : Int) ≤ ((↑n : Int)))∧(((((↑n : Int)) : Int) ≤ ((↑n : Int)))∧(((16 * (↑n : Int)) : Int) ≤ 140737488355328)))∧((((0 : Int) ≤ ((↑n : Int)))∧(((((↑n : Int)) : Int) ≤ ((↑n : Int)))∧(((16 * (↑n : Int)) : Int) ≤ 140737488355328)))∧((∃ x : Nat,((Nat.le x n)∧(((SV.v (.int .i64 0)) = (SV.v (.int .i64 ((↑x : Int)))))∧(((((Int.toNat (↑n : Int)) : Nat) = n)∧(((n : Nat) ≤ (Int.toNat (↑n : Int)))∧(∀ i : Nat,(((i : Nat) < n)→([(SV.v (.int .i64 0)),(SV.v (.bool false))] = [(SV.v (.int .i64 (NB.v (if i < x then VB.x (g i) else {v:=0,f:=false})))),(SV.v (.bool (NB.f (if i < x then VB.x (g i) else {v:=0,f:=false}))))])))))∧((((Int.toNat (↑n : Int)) : Nat) = n)∧(((n : Nat) ≤ (Int.toNat (↑n : Int)))∧(∀ i : Nat,(((i : Nat) < n)→([(SV.v (.int .i64 0)),(SV.v (.bool false))] = [(SV.v (.int .i64 (NB.v (if i < x then VB.y (g i) else {v:=0,f:=false})))),(SV.v (.bool (NB.f (if i < x then VB.y (g i) else {v:=0,f:=false}))))])))))))))∧(∀ x : Nat,((Nat.le x n)→(sel (decide ((↑x : Int) < (↑n : Int))) ((((0 : Int) ≤ ((↑x : Int)))∧((((↑x : Int)) : Int) < ((↑n : Int))))∧((((0 : Int) ≤ ((↑x : Int)))∧((((↑x : Int)) : Int) < ((↑(Int.toNat (↑n : Int)) : Int))))∧((((0 : Int) ≤ ((↑x : Int)))∧((((↑x : Int)) : Int) < ((↑(Int.toNat (↑n : Int)) : Int))))∧(∃ x' : Nat,(((Nat.le x' n)∧(((SV.v (.int .i64 (IntKind.wrap IntKind.i64 ((↑x : Int) + 1)))) = (SV.v (.int .i64 ((↑x' : Int)))))∧((((n : Nat) = n)∧(((n : Nat) ≤ n)∧(∀ i : Nat,(((i : Nat) < n)→([(SV.v (.int .i64 (bop (Nat.beq i (0 + Int.toNat (↑x : Int))) (NB.v (VB.x (g (0 + Int.toNat (↑x : Int))))) (NB.v (if i < x then VB.x (g i) else {v:=0,f:=false}))))),(SV.v (.bool (bop (Nat.beq i (0 + Int.toNat (↑x : Int))) (NB.f (VB.x (g (0 + Int.toNat (↑x : Int))))) (NB.f (if i < x then VB.x (g i) else {v:=0,f:=false})))))] = [(SV.v (.int .i64 (NB.v (if i < x' then VB.x (g i) else {v:=0,f:=false})))),(SV.v (.bool (NB.f (if i < x' then VB.x (g i) else {v:=0,f:=false}))))])))))∧(((n : Nat) = n)∧(((n : Nat) ≤ n)∧(∀ i : Nat,(((i : Nat) < n)→([(SV.v (.int .i64 (bop (Nat.beq i (0 + Int.toNat (↑x : Int))) (NB.v (VB.y (g (0 + Int.toNat (↑x : Int))))) (NB.v (if i < x then VB.y (g i) else {v:=0,f:=false}))))),(SV.v (.bool (bop (Nat.beq i (0 + Int.toNat (↑x : Int))) (NB.f (VB.y (g (0 + Int.toNat (↑x : Int))))) (NB.f (if i < x then VB.y (g i) else {v:=0,f:=false})))))] = [(SV.v (.int .i64 (NB.v (if i < x' then VB.y (g i) else {v:=0,f:=false})))),(SV.v (.bool (NB.f (if i < x' then VB.y (g i) else {v:=0,f:=false}))))]))))))))∧(((n - x') : Nat) < (n - x))))))) (((Qb5 Qf4 (Qak (Int.toNat (↑n : Int)) fun y => [SV.v (.int .i64 (NB.v ((fun i => if i < x then VB.x (g i) else {v:=0,f:=false}) (0 + y)))),SV.v (.bool (NB.f ((fun i => if i < x then VB.x (g i) else {v:=0,f:=false}) (0 + y))))]))∧((((Int.toNat (↑n : Int)) : Nat) = (Int.toNat (↑n : Int)))∧(((Int.toNat (↑n : Int)) : Nat) < 1099511627776)))∧(((Qb5 Qf4 (Qak (Int.toNat (↑n : Int)) fun y => [SV.v (.int .i64 (NB.v ((fun i => if i < x then VB.y (g i) else {v:=0,f:=false}) (0 + y)))),SV.v (.bool (NB.f ((fun i => if i < x then VB.y (g i) else {v:=0,f:=false}) (0 + y))))]))∧((((Int.toNat (↑n : Int)) : Nat) = (Int.toNat (↑n : Int)))∧(((Int.toNat (↑n : Int)) : Nat) < 1099511627776)))∧(R (SV.agg [(SV.v (.int .i64 (Qas (Qgc (Qak (Int.toNat (↑n : Int)) fun y => [SV.v (.int .i64 (NB.v ((fun i => if i < x then VB.x (g i) else {v:=0,f:=false}) (0 + y)))),SV.v (.bool (NB.f ((fun i => if i < x then VB.x (g i) else {v:=0,f:=false}) (0 + y))))]))))),(SV.v (.bool (Qc9 (Qgc (Qak (Int.toNat (↑n : Int)) fun y => [SV.v (.int .i64 (NB.v ((fun i => if i < x then VB.x (g i) else {v:=0,f:=false}) (0 + y)))),SV.v (.bool (NB.f ((fun i => if i < x then VB.x (g i) else {v:=0,f:=false}) (0 + y))))])) (Qfb (Qak (Int.toNat (↑n : Int)) fun y => [SV.v (.int .i64 (NB.v ((fun i => if i < x then VB.x (g i) else {v:=0,f:=false}) (0 + y)))),SV.v (.bool (NB.f ((fun i => if i < x then VB.x (g i) else {v:=0,f:=false}) (0 + y))))]))))),(SV.v (.int .i64 (Qas (Qgc (Qak (Int.toNat (↑n : Int)) fun y => [SV.v (.int .i64 (NB.v ((fun i => if i < x then VB.y (g i) else {v:=0,f:=false}) (0 + y)))),SV.v (.bool (NB.f ((fun i => if i < x then VB.y (g i) else {v:=0,f:=false}) (0 + y))))]))))),(SV.v (.bool (Qc9 (Qgc (Qak (Int.toNat (↑n : Int)) fun y => [SV.v (.int .i64 (NB.v ((fun i => if i < x then VB.y (g i) else {v:=0,f:=false}) (0 + y)))),SV.v (.bool (NB.f ((fun i => if i < x then VB.y (g i) else {v:=0,f:=false}) (0 + y))))])) (Qfb (Qak (Int.toNat (↑n : Int)) fun y => [SV.v (.int .i64 (NB.v ((fun i => if i < x then VB.y (g i) else {v:=0,f:=false}) (0 + y)))),SV.v (.bool (NB.f ((fun i => if i < x then VB.y (g i) else {v:=0,f:=false}) (0 + y))))])))))])))))))))) := by kernel_rfl
theorem Zbm (n n' c : Nat) (g : Nat→VB) (R : SV→Prop) : (Qcu Tryz.prog Zfc (Qzj n g) Tryz.f244 [.sl 0 4 0 n c] (Qbm [⟨4,n',Qjb g⟩]) 64 (fun y _ => R y)) =
((∃ x : KCD,(((((KCD.k x) : Nat) ≤ n)∧((((KCD.k x) : Nat) ≤ (KCD.c x))∧(((KCD.k x) : Nat) ≤ (KCD.d x))))∧((((SV.v (.int .i64 0)) = (SV.v (.int .i64 ((↑(KCD.k x) : Int)))))∧((((SV.v (Value.slice none 0 0)) = (SV.v (Value.slice none 0 0)))∧(((0 : Nat) = 0)∧((((KCD.k x) : Nat) = 0)∧(((KCD.c x) : Nat) = 0))))∧(((SV.v (Value.slice none 0 0)) = (SV.v (Value.slice none 0 0)))∧(((0 : Nat) = 0)∧((((KCD.k x) : Nat) = 0)∧(((KCD.d x) : Nat) = 0))))))∧(((((KCD.k x) : Nat) = 0)∧((((KCD.c x) : Nat) = 0)∧True))∧(((((KCD.k x) : Nat) = 0)∧((((KCD.d x) : Nat) = 0)∧True))∧True)))))∧(∀ x : KCD,(((((KCD.k x) : Nat) ≤ n)∧((((KCD.k x) : Nat) ≤ (KCD.c x))∧(((KCD.k x) : Nat) ≤ (KCD.d x))))→(sel (decide ((↑(KCD.k x) : Int) < (↑n : Int))) ((((0 : Int) ≤ ((↑(KCD.k x) : Int)))∧((((↑(KCD.k x) : Int)) : Int) < ((↑n : Int))))∧((((((KCD.k x + 1) * 16) : Nat) ≤ 140737488355328)∧((((0 + KCD.c x) : Nat) ≤ (KCD.c x))∧(∀ y : Nat,(((y : Nat) < 1)→True))))∧(∀ c_1 : Nat,((((0 : Int) ≤ ((↑(KCD.k x) : Int)))∧((((↑(KCD.k x) : Int)) : Int) < ((↑n : Int))))∧((((((KCD.k x + 1) * 16) : Nat) ≤ 140737488355328)∧((((0 + KCD.d x) : Nat) ≤ (KCD.d x))∧(∀ y : Nat,(((y : Nat) < 1)→True))))∧(∀ c_2 : Nat,(∃ x' : KCD,((((((KCD.k x') : Nat) ≤ n)∧((((KCD.k x') : Nat) ≤ (KCD.c x'))∧(((KCD.k x') : Nat) ≤ (KCD.d x'))))∧((((SV.v (.int .i64 (IntKind.wrap IntKind.i64 ((↑(KCD.k x) : Int) + 1)))) = (SV.v (.int .i64 ((↑(KCD.k x') : Int)))))∧(((SV.sl 184 2 0 (KCD.k x + 1) (KCD.k x + 1 + c_1)) = (SV.sl 184 2 0 (KCD.k x') (KCD.c x')))∧((SV.sl 248 2 0 (KCD.k x + 1) (KCD.k x + 1 + c_2)) = (SV.sl 248 2 0 (KCD.k x') (KCD.d x')))))∧(((((KCD.k x + 1) : Nat) = (KCD.k x'))∧((((KCD.c x') : Nat) ≤ (KCD.k x + 1 + c_1))∧(∀ i : Nat,(((i : Nat) < (KCD.k x'))→([(SV.v (.int .i64 (bop (Nat.blt i (KCD.k x)) (NB.v (VB.x (g (0 + i)))) (NB.v (VB.x (g (0 + Int.toNat (↑(KCD.k x) : Int)))))))),(SV.v (.bool (bop (Nat.blt i (KCD.k x)) (NB.f (VB.x (g (0 + i)))) (NB.f (VB.x (g (0 + Int.toNat (↑(KCD.k x) : Int))))))))] = [(SV.v (.int .i64 (NB.v (VB.x (g i))))),(SV.v (.bool (NB.f (VB.x (g i)))))])))))∧((((KCD.k x + 1) : Nat) = (KCD.k x'))∧((((KCD.d x') : Nat) ≤ (KCD.k x + 1 + c_2))∧(∀ i : Nat,(((i : Nat) < (KCD.k x'))→([(SV.v (.int .i64 (bop (Nat.blt i (KCD.k x)) (NB.v (VB.y (g (0 + i)))) (NB.v (VB.y (g (0 + Int.toNat (↑(KCD.k x) : Int)))))))),(SV.v (.bool (bop (Nat.blt i (KCD.k x)) (NB.f (VB.y (g (0 + i)))) (NB.f (VB.y (g (0 + Int.toNat (↑(KCD.k x) : Int))))))))] = [(SV.v (.int .i64 (NB.v (VB.y (g i))))),(SV.v (.bool (NB.f (VB.y (g i)))))]))))))))∧(((n - KCD.k x') : Nat) < (n - KCD.k x)))))))))) (((Qb5 Qf4 (Qak (KCD.k x) fun y => [SV.v (.int .i64 (NB.v ((fun i => VB.x (g i)) (0 + y)))),SV.v (.bool (NB.f ((fun i => VB.x (g i)) (0 + y))))]))∧((((KCD.k x) : Nat) = (KCD.k x))∧(((KCD.k x) : Nat) < 1099511627776)))∧(((Qb5 Qf4 (Qak (KCD.k x) fun y => [SV.v (.int .i64 (NB.v ((fun i => VB.y (g i)) (0 + y)))),SV.v (.bool (NB.f ((fun i => VB.y (g i)) (0 + y))))]))∧((((KCD.k x) : Nat) = (KCD.k x))∧(((KCD.k x) : Nat) < 1099511627776)))∧(R (SV.agg [(SV.v (.int .i64 (Qas (Qgc (Qak (KCD.k x) fun y => [SV.v (.int .i64 (NB.v ((fun i => VB.x (g i)) (0 + y)))),SV.v (.bool (NB.f ((fun i => VB.x (g i)) (0 + y))))]))))),(SV.v (.bool (Qc9 (Qgc (Qak (KCD.k x) fun y => [SV.v (.int .i64 (NB.v ((fun i => VB.x (g i)) (0 + y)))),SV.v (.bool (NB.f ((fun i => VB.x (g i)) (0 + y))))])) (Qfb (Qak (KCD.k x) fun y => [SV.v (.int .i64 (NB.v ((fun i => VB.x (g i)) (0 + y)))),SV.v (.bool (NB.f ((fun i => VB.x (g i)) (0 + y))))]))))),(SV.v (.int .i64 (Qas (Qgc (Qak (KCD.k x) fun y => [SV.v (.int .i64 (NB.v ((fun i => VB.y (g i)) (0 + y)))),SV.v (.bool (NB.f ((fun i => VB.y (g i)) (0 + y))))]))))),(SV.v (.bool (Qc9 (Qgc (Qak (KCD.k x) fun y => [SV.v (.int .i64 (NB.v ((fun i => VB.y (g i)) (0 + y)))),SV.v (.bool (NB.f ((fun i => VB.y (g i)) (0 + y))))])) (Qfb (Qak (KCD.k x) fun y => [SV.v (.int .i64 (NB.v ((fun i => VB.y (g i)) (0 + y)))),SV.v (.bool (NB.f ((fun i => VB.y (g i)) (0 + y))))])))))])))))))) := by kernel_rfl
theorem Zk4 (n n' c : Nat) (g : Nat→VB) (R : SV→Prop) : (Qcu Tryz.prog Zfc (Zad n g) Tryz.f302 [.sl 0 4 0 n c,.fn 231 []] (Qbm [⟨4,n',Qjb g⟩]) 64 (fun y _ => R y)) = ((∃ x : Nat,((((x : Nat) ≤ n)∧(((Qsm g (n - x) x) : Int) = (Qsm g n 0)))∧(((SV.v (.int .i64 0)) = (SV.v (.int .i64 ((↑x : Int)))))∧True)))∧(∀ x : Nat,((((x : Nat) ≤ n)∧(((Qsm g (n - x) x) : Int) = (Qsm g n 0)))→(sel (decide ((↑x : Int) < (↑n : Int))) ((((0 : Int) ≤ ((↑x : Int)))∧((((↑x : Int)) : Int) < ((↑n : Int))))∧(((I64 (NB.v (VB.x (g (0 + Int.toNat (↑x : Int))))))∧(I64 (NB.v (VB.y (g (0 + Int.toNat (↑x : Int)))))))∧(sel (Qjr (g (0 + Int.toNat (↑x : Int)))) (R (SV.v (.int .i64 ((↑x : Int))))) (∃ x' : Nat,(((((x' : Nat) ≤ n)∧(((Qsm g (n - x') x') : Int) = (Qsm g n 0)))∧(((SV.v (.int .i64 (IntKind.wrap IntKind.i64 ((↑x : Int) + 1)))) = (SV.v (.int .i64 ((↑x' : Int)))))∧True))∧(((n - x') : Nat) < (n - x))))))) (R (SV.v (.int .i64 (-1)))))))):=by kernel_rfl
def Zj8 : Qb8 := Qah Zfc 302 (Qc7 Zlu)
theorem Qxo (n n' c : Nat) (g : Nat→VB) (R : SV→Prop) : (Qcu Tryz.prog Zj8 Qax Tryz.f230 [.sl 0 4 0 n c,.fn 231 []] (Qbm [⟨4,n',Qjb g⟩]) 64 (fun y _ => R y)) = (((Qb5 Qj8 (Qak n fun y => [SV.v (.int .i64 (NB.v (VB.x (g (0 + y))))),SV.v (.bool (NB.f (VB.x (g (0 + y))))),SV.v (.int .i64 (NB.v (VB.y (g (0 + y))))),SV.v (.bool (NB.f (VB.y (g (0 + y)))))]))∧(((n : Nat) = n)∧((n : Nat) < 1099511627776)))∧(R (SV.v (.bool (decide (Qsm (fun i => rV [SV.v (.int .i64 (NB.v (VB.x (g (0 + i))))),SV.v (.bool (NB.f (VB.x (g (0 + i))))),SV.v (.int .i64 (NB.v (VB.y (g (0 + i))))),SV.v (.bool (NB.f (VB.y (g (0 + i)))))]) n 0 ≥ 0)))))):=by kernel_rfl
def Zj7 : Qb8 := Qah Zj8 230 (Qc7 Qm6)
theorem Zbu (n n' c : Nat) (g : Nat→VB) (R : SV→Prop) : (Qcu Tryz.prog Zj7 Qax Tryz.f159 [.sl 0 4 0 n c] (Qbm [⟨4,n',Qjb g⟩]) 64 (fun y _ => R y)) = (((Qb5 Qj8 (Qak n fun y => [SV.v (.int .i64 (NB.v (VB.x (g (0 + y))))),SV.v (.bool (NB.f (VB.x (g (0 + y))))),SV.v (.int .i64 (NB.v (VB.y (g (0 + y))))),SV.v (.bool (NB.f (VB.y (g (0 + y)))))]))∧(((n : Nat) = n)∧((n : Nat) < 1099511627776)))∧(R (SV.v (.bool (Qw9 n fun i => rV [SV.v (.int .i64 (NB.v (VB.x (g (0 + i))))),SV.v (.bool (NB.f (VB.x (g (0 + i))))),SV.v (.int .i64 (NB.v (VB.y (g (0 + i))))),SV.v (.bool (NB.f (VB.y (g (0 + i)))))]))))):=by kernel_rfl
theorem Qk8 {r : List SV} (h : Qj8 r) : r = vR (rV r) ∧ I64 (rV r).x.v ∧ I64 (rV r).y.v := by
 unfold Qj8 at h
 split at h
 · exact ⟨rfl, h.1, h.2⟩
 · exact h.elim
theorem Q2b {n : Nat} {g : Nat → VB} (h : ∀ i, i < n → I64 (g i).x.v ∧ I64 (g i).y.v) : Qb5 Qj8 (Qak n fun i => vR (g i)) := okAll_rows.2 fun i hi => h i hi
theorem Qml {n : Nat} {g : Nat → NB} (h : ∀ i, i < n → I64 (g i).v) : Qb5 Qf4 (Qak n fun i => nR (g i)) := okAll_rows.2 fun i hi => h i hi
theorem Qmy {n : Nat} {row : Nat → List SV} (h : ∀ i, i < n → Qj8 (row i)) : ∀ i, i < n → row i = vR (rV (row i)) := fun i hi => (Qk8 (h i hi)).1
theorem Qvm : Qai Tryz.prog 231 Quk := Qao hm Qts Tryz.func231 (Λ := fun _ => Qax) fun args p x h hp => by
 unfold Quk at h
 split at h <;> try (cases h; done)
 rename_i a f b g
 cases h
 obtain ⟨h0, k0⟩ := hp _ rfl
 refine ⟨rfl, rfl, ?_⟩
 refine Eq.mpr (Q5y ⟨⟨a, f⟩, ⟨b, g⟩⟩ _) ?_
 refine ⟨h0, Qad (fun e => Qdy ?_) fun e => ⟨k0, Qdy ?_⟩⟩
 · show true = (Qat a f || Qat b g)
   rw [show Qat a f = true from e]; rfl
 · show Qat b g = (Qat a f || Qat b g)
   rw [show Qat a f = false from e]; rfl
theorem Qy9 : Qai Tryz.prog 241 Q1n := Qao hm Qts Tryz.func241 (Λ := fun _ => Qax) fun args p x h hp => by
 unfold Q1n at h
 split at h <;> try (cases h; done)
 rename_i a f
 cases h
 have h0 : I64 a := hp _ rfl
 refine ⟨rfl, rfl, ?_⟩
 refine Eq.mpr (Zbt ⟨a, f⟩ _) ?_
 refine ⟨⟨⟨h0, trivial⟩, by decide⟩, Qdy ?_⟩
 show Qc9 (Qaa a + 0) (Qat a f || false) = _
 rw [Int.add_zero, Qgi (Q0y h0), Bool.or_false]
theorem Qp2 : ∀ f g, Zfc f = some g → g.ok Tryz.prog f := Qab (Qab Qts (Qal Tryz.func231 (by kernel_rfl) (by kernel_rfl) Qvm)) (Qal Tryz.func241 (by kernel_rfl) (by kernel_rfl) Qy9)
theorem setRow (g : Nat → NB) (x i : Nat) : [SV.v (.int .i64 (bop (Nat.beq i (0 + Int.toNat (x : Int))) (g (0 + Int.toNat (x : Int))).v (if i < x then g i else ⟨0, false⟩ : NB).v)), SV.v (.bool (bop (Nat.beq i (0 + Int.toNat (x : Int))) (g (0 + Int.toNat (x : Int))).f (if i < x then g i else ⟨0, false⟩ : NB).f))] = nR (if i < x + 1 then g i else ⟨0, false⟩) := by
 rw [Int.toNat_natCast, Nat.zero_add]
 by_cases h : i = x
 · subst h
   rw [Nat.beq_refl, if_pos (Nat.lt_succ_self i)]; rfl
 · rw [Go.SE.Qb6 h]
   by_cases h' : i < x
   · rw [if_pos h', if_pos (by omega)]; rfl
   · rw [if_neg h', if_neg (by omega)]; rfl
theorem Qqa {x n : Nat} (h : x < n) (h1 : n < 1099511627776) : IntKind.i64.wrap ((x : Int) + 1) = ((x + 1 : Nat) : Int) := by rw [Qaf ⟨by omega, by omega⟩]; omega
theorem Qtf : Qcg Tryz.prog 14 Qx0 := Qb4 hm Qp2 Tryz.func14 (Λ := fun args bs => match args, bs with | [.sl 0 4 0 n _], [⟨4, _, row⟩] => Zai n (fun i => rV (row i)) | _, _ => Qax) fun args bs p x h hp => by
 unfold Qx0 at h
 split at h <;> try (cases h; done)
 rename_i n c n' row
 cases h
 obtain ⟨h0, rfl, hn⟩ := hp _ rfl
 have h0 := okAll_rows.1 h0
 refine ⟨rfl, [⟨4, n', Qjb fun i => rV (row i)⟩], ⟨⟨rfl, rfl, fun i hi => Qmy h0 i hi⟩, trivial⟩, ?_⟩
 have hg : ∀ i, i < n' → I64 ((fun i => rV (row i)) i).x.v ∧ I64 ((fun i => rV (row i)) i).y.v := fun i hi => (Qk8 (h0 i hi)).2
 show Qcu _ _ (Zai n' fun i => rV (row i)) _ _ (Qbm [⟨4, n', Qjb fun i => rV (row i)⟩]) _ (fun y _ => y = vS (Q3r n' fun i => rV (row i)))
 generalize (fun i => rV (row i)) = g at *
 refine Eq.mpr (Zgw n' n' c g _) ?_
 rw [Int.toNat_natCast]
 refine ⟨⟨by omega, by omega, by omega⟩, ⟨by omega, by omega, by omega⟩, ⟨0, Nat.zero_le _, rfl, ⟨rfl, Nat.le_refl _, fun i _ => by rw [if_neg (Nat.not_lt_zero i)]⟩, rfl, Nat.le_refl _, fun i _ => by rw [if_neg (Nat.not_lt_zero i)]⟩, fun x hx => Qad (fun e => ?_) fun e => ?_⟩
 · have e := of_decide_eq_true e
   have hx : x < n' := by omega
   refine ⟨⟨by omega, by omega⟩, ⟨by omega, by omega⟩, ⟨by omega, by omega⟩, x + 1, ⟨hx, Qbh (Qqa hx hn), ⟨rfl, Nat.le_refl _, fun i _ => setRow (fun i => (g i).x) x i⟩, rfl, Nat.le_refl _, fun i _ => setRow (fun i => (g i).y) x i⟩, by omega⟩
 · have e := of_decide_eq_false e
   have hx : x ≤ n' := hx
   obtain rfl : x = n' := by omega
   have ex : ∀ (c : VB → NB), (Qak x fun y => [SV.v (.int .i64 ((fun i => if i < x then c (g i) else (⟨0, false⟩ : NB)) (0 + y)).v), SV.v (.bool ((fun i => if i < x then c (g i) else (⟨0, false⟩ : NB)) (0 + y)).f)]) = Qak x fun i => nR (c (g i)) := fun c => Qd8 fun i hi => by
     simp only [Nat.zero_add, if_pos hi]; rfl
   have e1 := ex fun a => a.x
   have e2 := ex fun a => a.y
   simp only at e1 e2
   rw [e1, e2]
   exact ⟨⟨Qml fun i hi => (hg i hi).1, rfl, hn⟩, ⟨Qml fun i hi => (hg i hi).2, rfl, hn⟩, rfl⟩
theorem Q94 (g : Nat → NB) (k i : Nat) (h : i < k + 1) : [SV.v (.int .i64 (bop (Nat.blt i k) (g (0 + i)).v (g (0 + Int.toNat (k : Int))).v)), SV.v (.bool (bop (Nat.blt i k) (g (0 + i)).f (g (0 + Int.toNat (k : Int))).f))] = nR (g i) := by
 rw [Int.toNat_natCast, Nat.zero_add, Nat.zero_add]
 by_cases h' : i < k
 · rw [show Nat.blt i k = true from Nat.ble_eq_true_of_le h']; rfl
 · obtain rfl : i = k := by omega
   rw [show Nat.blt i i = false from by cases hb : Nat.blt i i with | false => rfl | true => exact absurd (Nat.le_of_ble_eq_true hb) h']; rfl
theorem nR_0 (n : Nat) (g : Nat → NB) : (Qak n fun y => [SV.v (.int .i64 ((fun i => g i) (0 + y)).v), SV.v (.bool ((fun i => g i) (0 + y)).f)]) = Qak n fun i => nR (g i) := Qd8 fun i _ => by rw [Nat.zero_add]; rfl
theorem Qy4 : Qcg Tryz.prog 244 Qx0 := Qb4 hm Qp2 Tryz.func244 (Λ := fun args bs => match args, bs with | [.sl 0 4 0 n _], [⟨4, _, row⟩] => Qzj n (fun i => rV (row i)) | _, _ => Qax) fun args bs p x h hp => by
 unfold Qx0 at h
 split at h <;> try (cases h; done)
 rename_i n c n' row
 cases h
 obtain ⟨h0, rfl, hn⟩ := hp _ rfl
 have h0 := okAll_rows.1 h0
 refine ⟨rfl, [⟨4, n', Qjb fun i => rV (row i)⟩], ⟨⟨rfl, rfl, fun i hi => Qmy h0 i hi⟩, trivial⟩, ?_⟩
 have hg : ∀ i, i < n' → I64 ((fun i => rV (row i)) i).x.v ∧ I64 ((fun i => rV (row i)) i).y.v := fun i hi => (Qk8 (h0 i hi)).2
 show Qcu _ _ (Qzj n' fun i => rV (row i)) _ _ (Qbm [⟨4, n', Qjb fun i => rV (row i)⟩]) _ (fun y _ => y = vS (Q3r n' fun i => rV (row i)))
 generalize (fun i => rV (row i)) = g at *
 refine Eq.mpr (Zbm n' n' c g _) ?_
 refine ⟨⟨⟨0, 0, 0⟩, ⟨Nat.zero_le _, Nat.le_refl _, Nat.le_refl _⟩, ⟨rfl, ⟨rfl, rfl, rfl, rfl⟩, rfl, rfl, rfl, rfl⟩, ⟨rfl, rfl, trivial⟩, ⟨rfl, rfl, trivial⟩, trivial⟩, fun ⟨k, cc, d⟩ ⟨x1, x2, x3⟩ => ?_⟩
 have x1 : k ≤ n' := x1
 have x2 : k ≤ cc := x2
 have x3 : k ≤ d := x3
 simp only
 refine Qad (fun e => ?_) fun e => ?_
 · have e := of_decide_eq_true e
   have hx : k < n' := by omega
   exact ⟨⟨by omega, by omega⟩, ⟨by omega, by omega, fun _ _ => trivial⟩, fun c1 => ⟨⟨by omega, by omega⟩, ⟨by omega, by omega, fun _ _ => trivial⟩, fun c2 => ⟨⟨k + 1, k + 1 + c1, k + 1 + c2⟩, ⟨⟨hx, Nat.le_add_right _ _, Nat.le_add_right _ _⟩, ⟨Qbh (Qqa hx hn), rfl, rfl⟩, ⟨rfl, Nat.le_refl _, fun i hi => Q94 (fun i => (g i).x) k i hi⟩, rfl, Nat.le_refl _, fun i hi => Q94 (fun i => (g i).y) k i hi⟩, by show n' - (k + 1) < n' - k; omega⟩⟩⟩
 · have e := of_decide_eq_false e
   obtain rfl : k = n' := by omega
   have e1 := nR_0 k fun i => (g i).x
   have e2 := nR_0 k fun i => (g i).y
   simp only at e1 e2
   rw [e1, e2]
   exact ⟨⟨Qml fun i hi => (hg i hi).1, trivial, hn⟩, ⟨Qml fun i hi => (hg i hi).2, trivial, hn⟩, rfl⟩
theorem Q8a : Qcg Tryz.prog 302 Zlu := Qb4 hm Qp2 Tryz.func302 (Λ := fun args bs => match args, bs with | [.sl 0 4 0 n _, _], [⟨4, _, row⟩] => Zad n (fun i => rV (row i)) | _, _ => Qax) fun args bs p x h hp => by
 unfold Zlu at h
 split at h <;> try (cases h; done)
 rename_i n c f n' row
 cases hf : Nat.beq f 231 with
 | false => rw [hf] at h; cases h
 | true =>
   rw [hf] at h
   obtain rfl := Nat.eq_of_beq_eq_true hf
   cases h
   obtain ⟨h0, rfl, hn⟩ := hp _ rfl
   have h0 := okAll_rows.1 h0
   refine ⟨rfl, [⟨4, n', Qjb fun i => rV (row i)⟩], ⟨⟨rfl, rfl, fun i hi => Qmy h0 i hi⟩, trivial⟩, ?_⟩
   have hg : ∀ i, i < n' → I64 ((fun i => rV (row i)) i).x.v ∧ I64 ((fun i => rV (row i)) i).y.v := fun i hi => (Qk8 (h0 i hi)).2
   show Qcu _ _ (Zad n' fun i => rV (row i)) _ _ (Qbm [⟨4, n', Qjb fun i => rV (row i)⟩]) _ (fun y _ => y = .v (.int .i64 (Qsm (fun i => rV (row i)) n' 0)))
   generalize (fun i => rV (row i)) = g at *
   refine Eq.mpr (Zk4 n' n' c g _) ?_
   refine ⟨⟨0, ⟨Nat.zero_le _, rfl⟩, rfl, trivial⟩, fun x ⟨hx, hi⟩ => Qad (fun e => ?_) fun e => ?_⟩
   · have e := of_decide_eq_true e
     have hx : x < n' := by omega
     rw [show n' - x = (n' - (x + 1)) + 1 by omega] at hi
     rw [Int.toNat_natCast, Nat.zero_add]
     refine ⟨⟨by omega, by omega⟩, hg x hx, Qad (fun b => ?_) fun b => ?_⟩
     · have hi : (bif Qjr (g x) then (x : Int) else Qsm g (n' - (x + 1)) (x + 1)) = _ := hi
       rw [b] at hi; exact Qbh hi
     · have hi : (bif Qjr (g x) then (x : Int) else Qsm g (n' - (x + 1)) (x + 1)) = _ := hi
       rw [b] at hi
       exact ⟨x + 1, ⟨⟨hx, hi⟩, Qbh (Qqa hx hn), trivial⟩, by omega⟩
   · have e := of_decide_eq_false e
     obtain rfl : x = n' := by omega
     rw [Nat.sub_self] at hi
     exact Qbh hi
theorem Qrl (g : Nat → VB) : ∀ n, Qw9 n g = true ↔ ∃ j, j < n ∧ Qjr (g j) = true
 | 0 => by simp [Qw9]
 | n + 1 => by
   simp only [Qw9, Bool.or_eq_true, Qrl g n]
   constructor
   · rintro (⟨j, h1, h2⟩ | h)
     · exact ⟨j, by omega, h2⟩
     · exact ⟨n, by omega, h⟩
   · rintro ⟨j, h1, h2⟩
     by_cases h : j < n
     · exact .inl ⟨j, h, h2⟩
     · obtain rfl : j = n := by omega
       exact .inr h2
theorem Qq4 (g : Nat → VB) : ∀ m k, Qsm g m k ≥ 0 ↔ ∃ j, k ≤ j ∧ j < k + m ∧ Qjr (g j) = true
 | 0, k => by
   show (-1 : Int) ≥ 0 ↔ _
   constructor
   · intro h; omega
   · rintro ⟨j, h1, h2, _⟩; omega
 | m + 1, k => by
   show (bif Qjr (g k) then (k : Int) else Qsm g m (k + 1)) ≥ 0 ↔ _
   cases hb : Qjr (g k) with
   | true => exact ⟨fun _ => ⟨k, Nat.le_refl _, by omega, hb⟩, fun _ => by show (k : Int) ≥ 0; omega⟩
   | false =>
     rw [cond_false, Qq4 g m (k + 1)]
     constructor
     · rintro ⟨j, h1, h2, h3⟩; exact ⟨j, by omega, by omega, h3⟩
     · rintro ⟨j, h1, h2, h3⟩
       have : j ≠ k := fun e => by rw [e, hb] at h3; cases h3
       exact ⟨j, by omega, by omega, h3⟩
theorem Zdg (n : Nat) (g : Nat → VB) : decide (Qsm g n 0 ≥ 0) = Qw9 n g := by
 cases h : Qw9 n g with
 | true =>
   obtain ⟨j, h1, h2⟩ := (Qrl g n).1 h
   exact decide_eq_true ((Qq4 g n 0).2 ⟨j, Nat.zero_le _, by omega, h2⟩)
 | false =>
   refine decide_eq_false fun hx => ?_
   obtain ⟨j, _, h1, h2⟩ := (Qq4 g n 0).1 hx
   rw [(Qrl g n).2 ⟨j, by omega, h2⟩] at h; cases h
theorem Qzp : ∀ f g, Zj8 f = some g → g.ok Tryz.prog f := Qab Qp2 (Qdc Tryz.func302 (by kernel_rfl) (by kernel_rfl) Q8a)
theorem vR_0 (n : Nat) (g : Nat → VB) : (Qak n fun y => [SV.v (.int .i64 (g (0 + y)).x.v), SV.v (.bool (g (0 + y)).x.f), SV.v (.int .i64 (g (0 + y)).y.v), SV.v (.bool (g (0 + y)).y.f)]) = Qak n fun i => vR (g i) := Qd8 fun i _ => by rw [Nat.zero_add]; rfl
theorem rV_0 (g : Nat → VB) : (fun i => rV [SV.v (.int .i64 (g (0 + i)).x.v), SV.v (.bool (g (0 + i)).x.f), SV.v (.int .i64 (g (0 + i)).y.v), SV.v (.bool (g (0 + i)).y.f)]) = g := funext fun i => by rw [Nat.zero_add]; rfl
theorem Qrr : Qcg Tryz.prog 230 Qm6 := Qb4 hm Qzp Tryz.func230 (Λ := fun _ _ => Qax) fun args bs p x h hp => by
 unfold Qm6 at h
 split at h <;> try (cases h; done)
 rename_i n c f n' row
 cases hf : Nat.beq f 231 with
 | false => rw [hf] at h; cases h
 | true =>
   rw [hf] at h
   obtain rfl := Nat.eq_of_beq_eq_true hf
   cases h
   obtain ⟨h0, rfl, hn⟩ := hp _ rfl
   have h0 := okAll_rows.1 h0
   refine ⟨rfl, [⟨4, n', Qjb fun i => rV (row i)⟩], ⟨⟨rfl, rfl, fun i hi => Qmy h0 i hi⟩, trivial⟩, ?_⟩
   have hg : ∀ i, i < n' → I64 ((fun i => rV (row i)) i).x.v ∧ I64 ((fun i => rV (row i)) i).y.v := fun i hi => (Qk8 (h0 i hi)).2
   show Qcu _ _ Qax _ _ (Qbm [⟨4, n', Qjb fun i => rV (row i)⟩]) _ (fun y _ => y = .v (.bool (Qw9 n' fun i => rV (row i))))
   generalize (fun i => rV (row i)) = g at *
   refine Eq.mpr (Qxo n' n' c g _) ?_
   rw [vR_0, rV_0, Zdg]
   exact ⟨⟨Q2b hg, rfl, hn⟩, rfl⟩
theorem Qzo : ∀ f g, Zj7 f = some g → g.ok Tryz.prog f := Qab Qzp (Qdc Tryz.func230 (by kernel_rfl) (by kernel_rfl) Qrr)
theorem Qza : Qcg Tryz.prog 159 Quj := Qb4 hm Qzo Tryz.func159 (Λ := fun _ _ => Qax) fun args bs p x h hp => by
 unfold Quj at h
 split at h <;> try (cases h; done)
 rename_i n c n' row
 cases h
 obtain ⟨h0, rfl, hn⟩ := hp _ rfl
 have h0 := okAll_rows.1 h0
 refine ⟨rfl, [⟨4, n', Qjb fun i => rV (row i)⟩], ⟨⟨rfl, rfl, fun i hi => Qmy h0 i hi⟩, trivial⟩, ?_⟩
 have hg : ∀ i, i < n' → I64 ((fun i => rV (row i)) i).x.v ∧ I64 ((fun i => rV (row i)) i).y.v := fun i hi => (Qk8 (h0 i hi)).2
 show Qcu _ _ Qax _ _ (Qbm [⟨4, n', Qjb fun i => rV (row i)⟩]) _ (fun y _ => y = .v (.bool (Qw9 n' fun i => rV (row i))))
 generalize (fun i => rV (row i)) = g at *
 refine Eq.mpr (Zbu n' n' c g _) ?_
 rw [vR_0, rV_0]
 exact ⟨⟨Q2b hg, rfl, hn⟩, rfl⟩
def Q8t : Qb8 := Qah (Qah (Qah Zj7 14 (Qc7 Qx0)) 244 (Qc7 Qx0)) 159 (Qc7 Quj)
def Qoi : VB := ⟨⟨0, false⟩, ⟨0, false⟩⟩
def Qbg (a b : VB) : VB := ⟨Qvy [nR a.x, nR b.x], Qvy [nR a.y, nR b.y]⟩
def Qdv (v : VB) : VB := bif decide (Qag v.x.v < 16777216) && decide (Qag v.y.v < 16777216) then ⟨⟨v.x.v * 16777216, v.x.f⟩, ⟨v.y.v * 16777216, v.y.f⟩⟩ else v
def Qis (v : VB) : VB × Bool := bif Qjr v then (Qoi, false) else bif (Qhl (Qdv v)).f || (Qhl (Qdv v)).v == 0 then (Qoi, false) else (⟨Qdh (Qdv v).x (Qhl (Qdv v)), Qdh (Qdv v).y (Qhl (Qdv v))⟩, true)
def Q42 (a b c d : NB) : NB := Qcl a d (Qc1 b) c
def Zjl (a b c d : NB) (v : VB) : VB := ⟨Qdh (Qcl v.x d (Qc1 b) v.y) (Q42 a b c d), Qdh (Qcl a v.y (Qc1 v.x) c) (Q42 a b c d)⟩
def Zen (a b c d : NB) (v : VB) : VB × Bool := bif (Q42 a b c d).f || (Q42 a b c d).v == 0 then (Qoi, false) else bif Qjr (Zjl a b c d v) then (Qoi, false) else (Zjl a b c d v, true)
def Qpn (r : VB) : Int := bif Qjr r then 3 else bif decide ((Qcl r.x r.x r.y r.y).v - 4294967296 > 65536) || decide (4294967296 - (Qcl r.x r.x r.y r.y).v > 65536) then 3 else 0
def Zb8 : List SV → Option (Option Prop × SV)
 | [.agg [.v (.int .i64 a), .v (.bool f), .v (.int .i64 b), .v (.bool g)]] => some (some (I64 a ∧ I64 b), .tup [vS (Qis ⟨⟨a, f⟩, ⟨b, g⟩⟩).1, .v (.bool (Qis ⟨⟨a, f⟩, ⟨b, g⟩⟩).2)])
 | _ => none
def Q1f : List SV → Option (Option Prop × SV)
 | [.agg [.v (.int .i64 a), .v (.bool fa)], .agg [.v (.int .i64 b), .v (.bool fb)], .agg [.v (.int .i64 c), .v (.bool fc)], .agg [.v (.int .i64 d), .v (.bool fd)], .agg [.v (.int .i64 x), .v (.bool f), .v (.int .i64 y), .v (.bool g)]] =>
   some (some ((I64 a ∧ I64 b) ∧ (I64 c ∧ I64 d) ∧ I64 x ∧ I64 y), .tup [vS (Zen ⟨a, fa⟩ ⟨b, fb⟩ ⟨c, fc⟩ ⟨d, fd⟩ ⟨⟨x, f⟩, ⟨y, g⟩⟩).1, .v (.bool (Zen ⟨a, fa⟩ ⟨b, fb⟩ ⟨c, fc⟩ ⟨d, fd⟩ ⟨⟨x, f⟩, ⟨y, g⟩⟩).2)])
 | _ => none
def Zew : List SV → Option (Option Prop × SV)
 | [.agg [.v (.int .i64 a), .v (.bool f), .v (.int .i64 b), .v (.bool g)]] => some (some (I64 a ∧ I64 b), .v (.int .i64 (Qpn ⟨⟨a, f⟩, ⟨b, g⟩⟩)))
 | _ => none
def sTo : List SV → Option (Option Prop × SV)
 | [.agg [.v (.int .i64 p), .v (.bool fp), .v (.int .i64 q), .v (.bool fq), .v (.int .i64 c), .v (.bool fc), .v (.int .i64 s), .v (.bool fs)], .agg [.v (.int .i64 x), .v (.bool f), .v (.int .i64 y), .v (.bool g)]] =>
   some (some ((I64 p ∧ I64 q) ∧ (I64 c ∧ I64 s) ∧ I64 x ∧ I64 y), vS (Qbg ⟨⟨p, fp⟩, ⟨q, fq⟩⟩ (Qep ⟨⟨c, fc⟩, ⟨s, fs⟩⟩ ⟨⟨x, f⟩, ⟨y, g⟩⟩)))
 | _ => none
def pS (a r : VB) : SV := .agg [.v (.int .i64 a.x.v), .v (.bool a.x.f), .v (.int .i64 a.y.v), .v (.bool a.y.f), .v (.int .i64 r.x.v), .v (.bool r.x.f), .v (.int .i64 r.y.v), .v (.bool r.y.f)]
theorem Zfr (v : VB) (R : SV→Prop) : (Qav Tryz.prog Q8t Qax Tryz.f271 [vS v] R) = ((((Qj8 [SV.v (.int .i64 (NB.v (VB.x v))),SV.v (.bool (NB.f (VB.x v))),SV.v (.int .i64 (NB.v (VB.y v))),SV.v (.bool (NB.f (VB.y v)))])∧True)∧(((1 : Nat) = 1)∧((1 : Nat) < 1099511627776)))∧(sel (Qw9 1 fun i => rV [SV.v (.int .i64 (NB.v (VB.x v))),SV.v (.bool (NB.f (VB.x v))),SV.v (.int .i64 (NB.v (VB.y v))),SV.v (.bool (NB.f (VB.y v)))]) (R (SV.tup [(SV.agg [(SV.v (.int .i64 0)),(SV.v (.bool false)),(SV.v (.int .i64 0)),(SV.v (.bool false))]),(SV.v (.bool false))])) (sel (decide (max (max (max (NB.v (VB.x v)) (IntKind.wrap IntKind.i64 (0 - NB.v (VB.x v)))) (NB.v (VB.y v))) (IntKind.wrap IntKind.i64 (0 - NB.v (VB.y v))) < 16777216)) (((I64 (IntKind.wrap IntKind.i64 (NB.v (VB.x v) * 16777216)))∧(I64 (IntKind.wrap IntKind.i64 (NB.v (VB.y v) * 16777216))))∧(sel (NB.f (Qhl {x:={v:=IntKind.wrap IntKind.i64 (NB.v (VB.x v) * 16777216),f:=NB.f (VB.x v)},y:={v:=IntKind.wrap IntKind.i64 (NB.v (VB.y v) * 16777216),f:=NB.f (VB.y v)}})) (R (SV.tup [(SV.agg [(SV.v (.int .i64 0)),(SV.v (.bool false)),(SV.v (.int .i64 0)),(SV.v (.bool false))]),(SV.v (.bool false))])) (sel (NB.v (Qhl {x:={v:=IntKind.wrap IntKind.i64 (NB.v (VB.x v) * 16777216),f:=NB.f (VB.x v)},y:={v:=IntKind.wrap IntKind.i64 (NB.v (VB.y v) * 16777216),f:=NB.f (VB.y v)}}) == 0) (R (SV.tup [(SV.agg [(SV.v (.int .i64 0)),(SV.v (.bool false)),(SV.v (.int .i64 0)),(SV.v (.bool false))]),(SV.v (.bool false))])) (((I64 (IntKind.wrap IntKind.i64 (NB.v (VB.x v) * 16777216)))∧(I64 (NB.v (Qhl {x:={v:=IntKind.wrap IntKind.i64 (NB.v (VB.x v) * 16777216),f:=NB.f (VB.x v)},y:={v:=IntKind.wrap IntKind.i64 (NB.v (VB.y v) * 16777216),f:=NB.f (VB.y v)}}))))∧(((I64 (IntKind.wrap IntKind.i64 (NB.v (VB.y v) * 16777216)))∧(I64 (NB.v (Qhl {x:={v:=IntKind.wrap IntKind.i64 (NB.v (VB.x v) * 16777216),f:=NB.f (VB.x v)},y:={v:=IntKind.wrap IntKind.i64 (NB.v (VB.y v) * 16777216),f:=NB.f (VB.y v)}}))))∧(R (SV.tup [(SV.agg [(SV.v (.int .i64 (NB.v (Qdh {v:=IntKind.wrap IntKind.i64 (NB.v (VB.x v) * 16777216),f:=NB.f (VB.x v)} (Qhl {x:={v:=IntKind.wrap IntKind.i64 (NB.v (VB.x v) * 16777216),f:=NB.f (VB.x v)},y:={v:=IntKind.wrap IntKind.i64 (NB.v (VB.y v) * 16777216),f:=NB.f (VB.y v)}}))))),(SV.v (.bool (NB.f (Qdh {v:=IntKind.wrap IntKind.i64 (NB.v (VB.x v) * 16777216),f:=NB.f (VB.x v)} (Qhl {x:={v:=IntKind.wrap IntKind.i64 (NB.v (VB.x v) * 16777216),f:=NB.f (VB.x v)},y:={v:=IntKind.wrap IntKind.i64 (NB.v (VB.y v) * 16777216),f:=NB.f (VB.y v)}}))))),(SV.v (.int .i64 (NB.v (Qdh {v:=IntKind.wrap IntKind.i64 (NB.v (VB.y v) * 16777216),f:=NB.f (VB.y v)} (Qhl {x:={v:=IntKind.wrap IntKind.i64 (NB.v (VB.x v) * 16777216),f:=NB.f (VB.x v)},y:={v:=IntKind.wrap IntKind.i64 (NB.v (VB.y v) * 16777216),f:=NB.f (VB.y v)}}))))),(SV.v (.bool (NB.f (Qdh {v:=IntKind.wrap IntKind.i64 (NB.v (VB.y v) * 16777216),f:=NB.f (VB.y v)} (Qhl {x:={v:=IntKind.wrap IntKind.i64 (NB.v (VB.x v) * 16777216),f:=NB.f (VB.x v)},y:={v:=IntKind.wrap IntKind.i64 (NB.v (VB.y v) * 16777216),f:=NB.f (VB.y v)}})))))]),(SV.v (.bool true))]))))))) (((I64 (NB.v (VB.x v)))∧(I64 (NB.v (VB.y v))))∧(sel (NB.f (Qhl v)) (R (SV.tup [(SV.agg [(SV.v (.int .i64 0)),(SV.v (.bool false)),(SV.v (.int .i64 0)),(SV.v (.bool false))]),(SV.v (.bool false))])) (sel (NB.v (Qhl v) == 0) (R (SV.tup [(SV.agg [(SV.v (.int .i64 0)),(SV.v (.bool false)),(SV.v (.int .i64 0)),(SV.v (.bool false))]),(SV.v (.bool false))])) (((I64 (NB.v (VB.x v)))∧(I64 (NB.v (Qhl v))))∧(((I64 (NB.v (VB.y v)))∧(I64 (NB.v (Qhl v))))∧(R (SV.tup [(SV.agg [(SV.v (.int .i64 (NB.v (Qdh (VB.x v) (Qhl v))))),(SV.v (.bool (NB.f (Qdh (VB.x v) (Qhl v))))),(SV.v (.int .i64 (NB.v (Qdh (VB.y v) (Qhl v))))),(SV.v (.bool (NB.f (Qdh (VB.y v) (Qhl v)))))]),(SV.v (.bool true))])))))))))):=by kernel_rfl
theorem Za8 (a b c d : NB) (v : VB) (R : SV→Prop) : (Qav Tryz.prog Q8t Qax Tryz.f322 [nS a,nS b,nS c,nS d,vS v] R) = ((I64 (NB.v b))∧((((I64 (NB.v a))∧(I64 (NB.v d)))∧((I64 (NB.v (Qc1 b)))∧(I64 (NB.v c))))∧(sel (NB.f (Qcl a d (Qc1 b) c)) (R (SV.tup [(SV.agg [(SV.v (.int .i64 0)),(SV.v (.bool false)),(SV.v (.int .i64 0)),(SV.v (.bool false))]),(SV.v (.bool false))])) (sel (NB.v (Qcl a d (Qc1 b) c) == 0) (R (SV.tup [(SV.agg [(SV.v (.int .i64 0)),(SV.v (.bool false)),(SV.v (.int .i64 0)),(SV.v (.bool false))]),(SV.v (.bool false))])) ((I64 (NB.v b))∧((((I64 (NB.v (VB.x v)))∧(I64 (NB.v d)))∧((I64 (NB.v (Qc1 b)))∧(I64 (NB.v (VB.y v)))))∧(((I64 (NB.v (Qcl (VB.x v) d (Qc1 b) (VB.y v))))∧(I64 (NB.v (Qcl a d (Qc1 b) c))))∧((I64 (NB.v (VB.x v)))∧((((I64 (NB.v a))∧(I64 (NB.v (VB.y v))))∧((I64 (NB.v (Qc1 (VB.x v))))∧(I64 (NB.v c))))∧(((I64 (NB.v (Qcl a (VB.y v) (Qc1 (VB.x v)) c)))∧(I64 (NB.v (Qcl a d (Qc1 b) c))))∧((((Qj8 [SV.v (.int .i64 (NB.v (Qdh (Qcl (VB.x v) d (Qc1 b) (VB.y v)) (Qcl a d (Qc1 b) c)))),SV.v (.bool (NB.f (Qdh (Qcl (VB.x v) d (Qc1 b) (VB.y v)) (Qcl a d (Qc1 b) c)))),SV.v (.int .i64 (NB.v (Qdh (Qcl a (VB.y v) (Qc1 (VB.x v)) c) (Qcl a d (Qc1 b) c)))),SV.v (.bool (NB.f (Qdh (Qcl a (VB.y v) (Qc1 (VB.x v)) c) (Qcl a d (Qc1 b) c))))])∧True)∧(((1 : Nat) = 1)∧((1 : Nat) < 1099511627776)))∧(sel (Qw9 1 fun i => rV [SV.v (.int .i64 (NB.v (Qdh (Qcl (VB.x v) d (Qc1 b) (VB.y v)) (Qcl a d (Qc1 b) c)))),SV.v (.bool (NB.f (Qdh (Qcl (VB.x v) d (Qc1 b) (VB.y v)) (Qcl a d (Qc1 b) c)))),SV.v (.int .i64 (NB.v (Qdh (Qcl a (VB.y v) (Qc1 (VB.x v)) c) (Qcl a d (Qc1 b) c)))),SV.v (.bool (NB.f (Qdh (Qcl a (VB.y v) (Qc1 (VB.x v)) c) (Qcl a d (Qc1 b) c))))]) (R (SV.tup [(SV.agg [(SV.v (.int .i64 0)),(SV.v (.bool false)),(SV.v (.int .i64 0)),(SV.v (.bool false))]),(SV.v (.bool false))])) (R (SV.tup [(SV.agg [(SV.v (.int .i64 (NB.v (Qdh (Qcl (VB.x v) d (Qc1 b) (VB.y v)) (Qcl a d (Qc1 b) c))))),(SV.v (.bool (NB.f (Qdh (Qcl (VB.x v) d (Qc1 b) (VB.y v)) (Qcl a d (Qc1 b) c))))),(SV.v (.int .i64 (NB.v (Qdh (Qcl a (VB.y v) (Qc1 (VB.x v)) c) (Qcl a d (Qc1 b) c))))),(SV.v (.bool (NB.f (Qdh (Qcl a (VB.y v) (Qc1 (VB.x v)) c) (Qcl a d (Qc1 b) c)))))]),(SV.v (.bool true))])))))))))))))):=by kernel_rfl
theorem Zle (v : VB) (R : SV→Prop) : (Qav Tryz.prog Q8t Qax Tryz.f81 [vS v] R) = ((((Qj8 [SV.v (.int .i64 (NB.v (VB.x v))),SV.v (.bool (NB.f (VB.x v))),SV.v (.int .i64 (NB.v (VB.y v))),SV.v (.bool (NB.f (VB.y v)))])∧True)∧(((1 : Nat) = 1)∧((1 : Nat) < 1099511627776)))∧(sel (Qw9 1 fun i => rV [SV.v (.int .i64 (NB.v (VB.x v))),SV.v (.bool (NB.f (VB.x v))),SV.v (.int .i64 (NB.v (VB.y v))),SV.v (.bool (NB.f (VB.y v)))]) (R (SV.v (.int .i64 3))) ((((I64 (NB.v (VB.x v)))∧(I64 (NB.v (VB.x v))))∧((I64 (NB.v (VB.y v)))∧(I64 (NB.v (VB.y v)))))∧(sel (decide (IntKind.wrap IntKind.i64 (NB.v (Qcl (VB.x v) (VB.x v) (VB.y v) (VB.y v)) - 4294967296) > 65536)) (R (SV.v (.int .i64 3))) (sel (decide (IntKind.wrap IntKind.i64 (NB.v (Qcl (VB.x v) (VB.x v) (VB.y v) (VB.y v)) - 4294967296) < -65536)) (R (SV.v (.int .i64 3))) (R (SV.v (.int .i64 0)))))))):=by kernel_rfl
theorem Zf9 (v : VB) (R : SV→Prop) : (Qav Tryz.prog Q8t Qax Tryz.f170 [vS v] R) = ((((I64 (NB.v (VB.x v)))∧(I64 (NB.v (VB.x v))))∧((I64 (NB.v (VB.y v)))∧(I64 (NB.v (VB.y v)))))∧((I64 (NB.v (VB.x v)))∧(sel (Qat (NB.v (VB.x v)) (NB.f (VB.x v))) (R (SV.v (.int .i64 3))) ((I64 (NB.v (VB.y v)))∧(sel (Qat (NB.v (VB.y v)) (NB.f (VB.y v))) (R (SV.v (.int .i64 3))) (sel (decide (IntKind.wrap IntKind.i64 (NB.v (Qcl (VB.x v) (VB.x v) (VB.y v) (VB.y v)) - 4294967296) > 65536)) (R (SV.v (.int .i64 3))) (sel (decide (IntKind.wrap IntKind.i64 (4294967296 - NB.v (Qcl (VB.x v) (VB.x v) (VB.y v) (VB.y v))) > 65536)) (R (SV.v (.int .i64 3))) (R (SV.v (.int .i64 0)))))))))):=by kernel_rfl
theorem vcTo (a r v : VB) (R : SV→Prop) : (Qav Tryz.prog Q8t Qax Tryz.f29 [pS a r,vS v] R) = ((((I64 (NB.v (VB.x r)))∧(I64 (NB.v (VB.y r))))∧((I64 (NB.v (VB.x v)))∧(I64 (NB.v (VB.y v)))))∧((((Qj8 [SV.v (.int .i64 (NB.v (VB.x a))),SV.v (.bool (NB.f (VB.x a))),SV.v (.int .i64 (NB.v (VB.y a))),SV.v (.bool (NB.f (VB.y a)))])∧((Qj8 [SV.v (.int .i64 (NB.v (VB.x (Qep r v)))),SV.v (.bool (NB.f (VB.x (Qep r v)))),SV.v (.int .i64 (NB.v (VB.y (Qep r v)))),SV.v (.bool (NB.f (VB.y (Qep r v))))])∧True))∧(((2 : Nat) = 2)∧((2 : Nat) < 1099511627776)))∧(R (SV.agg [(SV.v (.int .i64 (NB.v (VB.x (Q3r 2 fun i => rV [SV.v (.int .i64 (bop (Nat.beq (0 + i) 0) (NB.v (VB.x a)) (NB.v (VB.x (Qep r v))))),SV.v (.bool (bop (Nat.beq (0 + i) 0) (NB.f (VB.x a)) (NB.f (VB.x (Qep r v))))),SV.v (.int .i64 (bop (Nat.beq (0 + i) 0) (NB.v (VB.y a)) (NB.v (VB.y (Qep r v))))),SV.v (.bool (bop (Nat.beq (0 + i) 0) (NB.f (VB.y a)) (NB.f (VB.y (Qep r v)))))]))))),(SV.v (.bool (NB.f (VB.x (Q3r 2 fun i => rV [SV.v (.int .i64 (bop (Nat.beq (0 + i) 0) (NB.v (VB.x a)) (NB.v (VB.x (Qep r v))))),SV.v (.bool (bop (Nat.beq (0 + i) 0) (NB.f (VB.x a)) (NB.f (VB.x (Qep r v))))),SV.v (.int .i64 (bop (Nat.beq (0 + i) 0) (NB.v (VB.y a)) (NB.v (VB.y (Qep r v))))),SV.v (.bool (bop (Nat.beq (0 + i) 0) (NB.f (VB.y a)) (NB.f (VB.y (Qep r v)))))]))))),(SV.v (.int .i64 (NB.v (VB.y (Q3r 2 fun i => rV [SV.v (.int .i64 (bop (Nat.beq (0 + i) 0) (NB.v (VB.x a)) (NB.v (VB.x (Qep r v))))),SV.v (.bool (bop (Nat.beq (0 + i) 0) (NB.f (VB.x a)) (NB.f (VB.x (Qep r v))))),SV.v (.int .i64 (bop (Nat.beq (0 + i) 0) (NB.v (VB.y a)) (NB.v (VB.y (Qep r v))))),SV.v (.bool (bop (Nat.beq (0 + i) 0) (NB.f (VB.y a)) (NB.f (VB.y (Qep r v)))))]))))),(SV.v (.bool (NB.f (VB.y (Q3r 2 fun i => rV [SV.v (.int .i64 (bop (Nat.beq (0 + i) 0) (NB.v (VB.x a)) (NB.v (VB.x (Qep r v))))),SV.v (.bool (bop (Nat.beq (0 + i) 0) (NB.f (VB.x a)) (NB.f (VB.x (Qep r v))))),SV.v (.int .i64 (bop (Nat.beq (0 + i) 0) (NB.v (VB.y a)) (NB.v (VB.y (Qep r v))))),SV.v (.bool (bop (Nat.beq (0 + i) 0) (NB.f (VB.y a)) (NB.f (VB.y (Qep r v)))))])))))])))):=by kernel_rfl
theorem Zkr (a r v : VB) (R : SV→Prop) : (Qav Tryz.prog Q8t Qax Tryz.f174 [pS a r,vS v] R) = ((((I64 (NB.v (VB.x r)))∧(I64 (NB.v (VB.y r))))∧((I64 (NB.v (VB.x v)))∧(I64 (NB.v (VB.y v)))))∧((((Qj8 [SV.v (.int .i64 (NB.v (VB.x a))),SV.v (.bool (NB.f (VB.x a))),SV.v (.int .i64 (NB.v (VB.y a))),SV.v (.bool (NB.f (VB.y a)))])∧((Qj8 [SV.v (.int .i64 (NB.v (VB.x (Qep r v)))),SV.v (.bool (NB.f (VB.x (Qep r v)))),SV.v (.int .i64 (NB.v (VB.y (Qep r v)))),SV.v (.bool (NB.f (VB.y (Qep r v))))])∧True))∧(((2 : Nat) = 2)∧((2 : Nat) < 1099511627776)))∧(R (SV.agg [(SV.v (.int .i64 (NB.v (VB.x (Q3r 2 fun i => rV [SV.v (.int .i64 (bop (Nat.beq (0 + i) 0) (NB.v (VB.x a)) (NB.v (VB.x (Qep r v))))),SV.v (.bool (bop (Nat.beq (0 + i) 0) (NB.f (VB.x a)) (NB.f (VB.x (Qep r v))))),SV.v (.int .i64 (bop (Nat.beq (0 + i) 0) (NB.v (VB.y a)) (NB.v (VB.y (Qep r v))))),SV.v (.bool (bop (Nat.beq (0 + i) 0) (NB.f (VB.y a)) (NB.f (VB.y (Qep r v)))))]))))),(SV.v (.bool (NB.f (VB.x (Q3r 2 fun i => rV [SV.v (.int .i64 (bop (Nat.beq (0 + i) 0) (NB.v (VB.x a)) (NB.v (VB.x (Qep r v))))),SV.v (.bool (bop (Nat.beq (0 + i) 0) (NB.f (VB.x a)) (NB.f (VB.x (Qep r v))))),SV.v (.int .i64 (bop (Nat.beq (0 + i) 0) (NB.v (VB.y a)) (NB.v (VB.y (Qep r v))))),SV.v (.bool (bop (Nat.beq (0 + i) 0) (NB.f (VB.y a)) (NB.f (VB.y (Qep r v)))))]))))),(SV.v (.int .i64 (NB.v (VB.y (Q3r 2 fun i => rV [SV.v (.int .i64 (bop (Nat.beq (0 + i) 0) (NB.v (VB.x a)) (NB.v (VB.x (Qep r v))))),SV.v (.bool (bop (Nat.beq (0 + i) 0) (NB.f (VB.x a)) (NB.f (VB.x (Qep r v))))),SV.v (.int .i64 (bop (Nat.beq (0 + i) 0) (NB.v (VB.y a)) (NB.v (VB.y (Qep r v))))),SV.v (.bool (bop (Nat.beq (0 + i) 0) (NB.f (VB.y a)) (NB.f (VB.y (Qep r v)))))]))))),(SV.v (.bool (NB.f (VB.y (Q3r 2 fun i => rV [SV.v (.int .i64 (bop (Nat.beq (0 + i) 0) (NB.v (VB.x a)) (NB.v (VB.x (Qep r v))))),SV.v (.bool (bop (Nat.beq (0 + i) 0) (NB.f (VB.x a)) (NB.f (VB.x (Qep r v))))),SV.v (.int .i64 (bop (Nat.beq (0 + i) 0) (NB.v (VB.y a)) (NB.v (VB.y (Qep r v))))),SV.v (.bool (bop (Nat.beq (0 + i) 0) (NB.f (VB.y a)) (NB.f (VB.y (Qep r v)))))])))))])))):=by kernel_rfl
theorem Qi9 : ∀ f g, Q8t f = some g → g.ok Tryz.prog f := Qab (Qab (Qab Qzo (Qdc Tryz.func14 (by kernel_rfl) (by kernel_rfl) Qtf)) (Qdc Tryz.func244 (by kernel_rfl) (by kernel_rfl) Qy4)) (Qdc Tryz.func159 (by kernel_rfl) (by kernel_rfl) Qza)
theorem Zi1 {v : VB} (h : Qjr v = false) (h1 : I64 v.x.v) (h2 : I64 v.y.v) : Sd v.x.v ∧ Sd v.y.v ∧ v.x.f = false ∧ v.y.f = false := by
 unfold Qjr at h
 rw [Bool.or_eq_false_iff] at h
 obtain ⟨a, b⟩ := h
 have key : ∀ {x : Int} {f : Bool}, I64 x → Qat x f = false → Sd x ∧ f = false := fun {x f} hx hf => by
   obtain ⟨l, u⟩ := hx
   unfold Qat at hf
   by_cases e : x = -9223372036854775808
   · rw [if_pos e] at hf; cases hf
   · rw [if_neg e] at hf; exact ⟨⟨by omega, by omega⟩, hf⟩
 exact ⟨(key h1 a).1, (key h2 b).1, (key h1 a).2, (key h2 b).2⟩
theorem Q59 {v : VB} (h : Qjr v = true) : Qis v = (Qoi, false) := by unfold Qis; rw [h]; rfl
theorem Zgz {v : VB} (h : Qjr v = false) (h1 : (Qhl (Qdv v)).f = true) : Qis v = (Qoi, false) := by unfold Qis; rw [h, h1]; rfl
theorem Zg1 {v : VB} (h : Qjr v = false) (h1 : ((Qhl (Qdv v)).v == 0) = true) : Qis v = (Qoi, false) := by unfold Qis; rw [h, h1, Bool.or_true]; rfl
theorem Zg0 {v : VB} (h : Qjr v = false) (h1 : (Qhl (Qdv v)).f = false) (h2 : ((Qhl (Qdv v)).v == 0) = false) : Qis v = (⟨Qdh (Qdv v).x (Qhl (Qdv v)), Qdh (Qdv v).y (Qhl (Qdv v))⟩, true) := by unfold Qis; rw [h, h1, h2]; rfl
theorem Zh9 (v : VB) : I64 (Qhl v).v := Qh3 _ _
theorem Qr3 {v u : VB} (hb : Qjr v = false) (hu : Qdv v = u) (i1 : I64 u.x.v) (i2 : I64 u.y.v) : sel (Qhl u).f (SV.tup [SV.agg [SV.v (.int .i64 0), SV.v (.bool false), SV.v (.int .i64 0), SV.v (.bool false)], SV.v (.bool false)] = .tup [vS (Qis v).1, .v (.bool (Qis v).2)])
   (sel ((Qhl u).v == 0) (SV.tup [SV.agg [SV.v (.int .i64 0), SV.v (.bool false), SV.v (.int .i64 0), SV.v (.bool false)], SV.v (.bool false)] = .tup [vS (Qis v).1, .v (.bool (Qis v).2)])
     ((I64 u.x.v ∧ I64 (Qhl u).v) ∧ (I64 u.y.v ∧ I64 (Qhl u).v) ∧ SV.tup [SV.agg [SV.v (.int .i64 (Qdh u.x (Qhl u)).v), SV.v (.bool (Qdh u.x (Qhl u)).f), SV.v (.int .i64 (Qdh u.y (Qhl u)).v), SV.v (.bool (Qdh u.y (Qhl u)).f)], SV.v (.bool true)] = .tup [vS (Qis v).1, .v (.bool (Qis v).2)])) := by
 subst hu
 refine Qad (fun e => ?_) fun e => Qad (fun e' => ?_) fun e' => ⟨⟨i1, Zh9 _⟩, ⟨i2, Zh9 _⟩, ?_⟩
 · rw [Zgz hb e]; rfl
 · rw [Zg1 hb e']; rfl
 · rw [Zg0 hb e e']; rfl
theorem Q2z {v : VB} (h1 : Qag v.x.v < 16777216) (h2 : Qag v.y.v < 16777216) : Qdv v = ⟨⟨v.x.v * 16777216, v.x.f⟩, ⟨v.y.v * 16777216, v.y.f⟩⟩ := by unfold Qdv; rw [decide_eq_true h1, decide_eq_true h2]; rfl
theorem Q21 {v : VB} (h1 : ¬ Qag v.x.v < 16777216) : Qdv v = v := by unfold Qdv; rw [decide_eq_false h1]; rfl
theorem Q20 {v : VB} (h1 : ¬ Qag v.y.v < 16777216) : Qdv v = v := by unfold Qdv; rw [decide_eq_false h1, Bool.and_false]; rfl
theorem Qxv {a : Int} (h : Qag a < 16777216) : IntKind.i64.wrap (a * 16777216) = a * 16777216 ∧ Sd (a * 16777216) := by
 have : -16777216 < a ∧ a < 16777216 := by unfold Qag at h; split at h <;> omega
 exact ⟨Qaf ⟨by omega, by omega⟩, by omega, by omega⟩
theorem Q3x : Qai Tryz.prog 271 Zb8 := Qao hm Qi9 Tryz.func271 (Λ := fun _ => Qax) fun args p x h hp => by
 unfold Zb8 at h
 split at h <;> try (cases h; done)
 rename_i a f b g
 cases h
 obtain ⟨h0, k0⟩ := hp _ rfl
 refine ⟨rfl, rfl, ?_⟩
 generalize hv : (⟨⟨a, f⟩, ⟨b, g⟩⟩ : VB) = v
 have e0 : SV.agg [SV.v (Value.int .i64 a), SV.v (Value.bool f), SV.v (Value.int .i64 b), SV.v (Value.bool g)] = vS v := by rw [← hv]; rfl
 rw [e0]
 have h0 : I64 v.x.v := by rw [← hv]; exact h0
 have k0 : I64 v.y.v := by rw [← hv]; exact k0
 clear hv e0
 refine Eq.mpr (Zfr v _) ?_
 refine ⟨⟨⟨⟨h0, k0⟩, trivial⟩, by decide⟩, Qad (fun e => ?_) fun e => ?_⟩
 · rw [Q59 (v := v) e]; rfl
 · have e : Qjr v = false := e
   obtain ⟨s1, s2, f1, f2⟩ := Zi1 e h0 k0
   have w1 : IntKind.i64.wrap (0 - v.x.v) = -v.x.v := by obtain ⟨_, _⟩ := s1; rw [Qaf ⟨by omega, by omega⟩]; omega
   have w2 : IntKind.i64.wrap (0 - v.y.v) = -v.y.v := by obtain ⟨_, _⟩ := s2; rw [Qaf ⟨by omega, by omega⟩]; omega
   rw [w1, w2]
   refine Qad (fun m => ?_) fun m => ?_
   · have m := of_decide_eq_true m
     have m1 : Qag v.x.v < 16777216 := by unfold Qag; split <;> omega
     have m2 : Qag v.y.v < 16777216 := by unfold Qag; split <;> omega
     rw [(Qxv m1).1, (Qxv m2).1]
     exact ⟨⟨(Qxv m1).2.i64, (Qxv m2).2.i64⟩, Qr3 e (Q2z m1 m2) (Qxv m1).2.i64 (Qxv m2).2.i64⟩
   · have m := of_decide_eq_false m
     have hg : Qdv v = v := by
       by_cases m1 : Qag v.x.v < 16777216
       · refine Q20 fun m2 => m ?_
         unfold Qag at m1 m2
         split at m1 <;> split at m2 <;> omega
       · exact Q21 m1
     exact ⟨⟨h0, k0⟩, Qr3 e hg h0 k0⟩
theorem Q24 (r : VB) : 0 ≤ (Qcl r.x r.x r.y r.y).v ∧ (Qcl r.x r.x r.y r.y).v ≤ 9223372036854775807 := by
 refine ⟨?_, (Qbk _).2⟩
 show 0 ≤ Qas (Qyc (Qaa r.x.v) (Qaa r.x.v) (Qaa r.y.v) (Qaa r.y.v))
 have a := Qbu (Qaa r.x.v)
 have b := Qbu (Qaa r.y.v)
 have : 0 ≤ Qyc (Qaa r.x.v) (Qaa r.x.v) (Qaa r.y.v) (Qaa r.y.v) := by
   unfold Qyc
   rw [Int.tdiv_eq_ediv_of_nonneg (by omega)]
   exact Int.ediv_nonneg (by omega) (by decide)
 unfold Qas
 (repeat' split) <;> omega
theorem Q8j : Qai Tryz.prog 81 Zew := Qao hm Qi9 Tryz.func81 (Λ := fun _ => Qax) fun args p x h hp => by
 unfold Zew at h
 split at h <;> try (cases h; done)
 rename_i a f b g
 cases h
 obtain ⟨h0, k0⟩ := hp _ rfl
 refine ⟨rfl, rfl, ?_⟩
 refine Eq.mpr (Zle ⟨⟨a, f⟩, ⟨b, g⟩⟩ _) ?_
 have hd := Q24 ⟨⟨a, f⟩, ⟨b, g⟩⟩
 refine ⟨⟨⟨⟨h0, k0⟩, trivial⟩, by decide⟩, Qad (fun e => Qbh ?_) fun e => ?_⟩
 · have e : Qjr ⟨⟨a, f⟩, ⟨b, g⟩⟩ = true := e
   unfold Qpn; rw [e]; rfl
 · have e : Qjr ⟨⟨a, f⟩, ⟨b, g⟩⟩ = false := e
   unfold Qpn; rw [e, cond_false]
   generalize (Qcl (⟨⟨a, f⟩, ⟨b, g⟩⟩ : VB).x (⟨⟨a, f⟩, ⟨b, g⟩⟩ : VB).x (⟨⟨a, f⟩, ⟨b, g⟩⟩ : VB).y (⟨⟨a, f⟩, ⟨b, g⟩⟩ : VB).y).v = n at *
   rw [Qaf (n := n - 4294967296) ⟨by omega, by omega⟩]
   refine ⟨⟨⟨h0, h0⟩, k0, k0⟩, Qad (fun e1 => Qbh ?_) fun e1 => Qad (fun e2 => Qbh ?_) fun e2 => Qbh ?_⟩
   · rw [show decide (n - 4294967296 > 65536) = true from e1]; rfl
   · have e2 := of_decide_eq_true e2
     rw [show decide (4294967296 - n > 65536) = true from decide_eq_true (by omega), Bool.or_true]; rfl
   · have e2 := of_decide_eq_false e2
     rw [show decide (n - 4294967296 > 65536) = false from e1, show decide (4294967296 - n > 65536) = false from decide_eq_false (by omega)]; rfl
theorem Q93 (r v : VB) : I64 (Qep r v).x.v ∧ I64 (Qep r v).y.v := ⟨Qf0 _ _ _ _, Qf0 _ _ _ _⟩
theorem Zeb : Qai Tryz.prog 29 sTo := Qao hm Qi9 Tryz.func29 (Λ := fun _ => Qax) fun args p x h hp => by
 unfold sTo at h
 split at h <;> try (cases h; done)
 rename_i p fp q fq c fc s fs x f y g
 cases h
 obtain ⟨ha, hr, hv⟩ := hp _ rfl
 refine ⟨rfl, rfl, ?_⟩
 refine Eq.mpr (vcTo ⟨⟨p, fp⟩, ⟨q, fq⟩⟩ ⟨⟨c, fc⟩, ⟨s, fs⟩⟩ ⟨⟨x, f⟩, ⟨y, g⟩⟩ _) ?_
 exact ⟨⟨hr, hv⟩, ⟨⟨ha, Q93 _ _, trivial⟩, rfl, by decide⟩, rfl⟩
theorem Q70 : Qai Tryz.prog 174 sTo := Qao hm Qi9 Tryz.func174 (Λ := fun _ => Qax) fun args p x h hp => by
 unfold sTo at h
 split at h <;> try (cases h; done)
 rename_i p fp q fq c fc s fs x f y g
 cases h
 obtain ⟨ha, hr, hv⟩ := hp _ rfl
 refine ⟨rfl, rfl, ?_⟩
 refine Eq.mpr (Zkr ⟨⟨p, fp⟩, ⟨q, fq⟩⟩ ⟨⟨c, fc⟩, ⟨s, fs⟩⟩ ⟨⟨x, f⟩, ⟨y, g⟩⟩ _) ?_
 exact ⟨⟨hr, hv⟩, ⟨⟨ha, Q93 _ _, trivial⟩, rfl, by decide⟩, rfl⟩
theorem Qyr : Qai Tryz.prog 322 Q1f := Qao hm Qi9 Tryz.func322 (Λ := fun _ => Qax) fun args p x h hp => by
 unfold Q1f at h
 split at h <;> try (cases h; done)
 rename_i a fa b fb c fc d fd x f y g
 cases h
 obtain ⟨⟨ha, hb⟩, ⟨hc, hd⟩, hx, hy⟩ := hp _ rfl
 refine ⟨rfl, rfl, ?_⟩
 refine Eq.mpr (Za8 ⟨a, fa⟩ ⟨b, fb⟩ ⟨c, fc⟩ ⟨d, fd⟩ ⟨⟨x, f⟩, ⟨y, g⟩⟩ _) ?_
 refine ⟨hb, ⟨⟨ha, hd⟩, Qf9 hb, hc⟩, Qad (fun e => ?_) fun e => Qad (fun e' => ?_) fun e' => ⟨hb, ⟨⟨hx, hd⟩, Qf9 hb, hy⟩, ⟨Qf0 _ _ _ _, Qf0 _ _ _ _⟩, hx, ⟨⟨ha, hy⟩, Qf9 hx, hc⟩, ⟨Qf0 _ _ _ _, Qf0 _ _ _ _⟩, ⟨⟨⟨Qhk _ _, Qhk _ _⟩, trivial⟩, rfl, by decide⟩, Qad (fun e'' => ?_) fun e'' => ?_⟩⟩
 · unfold Zen; rw [show (Q42 ⟨a, fa⟩ ⟨b, fb⟩ ⟨c, fc⟩ ⟨d, fd⟩).f = true from e]; rfl
 · unfold Zen; rw [show ((Q42 ⟨a, fa⟩ ⟨b, fb⟩ ⟨c, fc⟩ ⟨d, fd⟩).v == 0) = true from e', Bool.or_true]; rfl
 · unfold Zen
   rw [show (Q42 ⟨a, fa⟩ ⟨b, fb⟩ ⟨c, fc⟩ ⟨d, fd⟩).f = false from e, show ((Q42 ⟨a, fa⟩ ⟨b, fb⟩ ⟨c, fc⟩ ⟨d, fd⟩).v == 0) = false from e', show Qjr (Zjl ⟨a, fa⟩ ⟨b, fb⟩ ⟨c, fc⟩ ⟨d, fd⟩ ⟨⟨x, f⟩, ⟨y, g⟩⟩) = true from e'']; rfl
 · unfold Zen
   rw [show (Q42 ⟨a, fa⟩ ⟨b, fb⟩ ⟨c, fc⟩ ⟨d, fd⟩).f = false from e, show ((Q42 ⟨a, fa⟩ ⟨b, fb⟩ ⟨c, fc⟩ ⟨d, fd⟩).v == 0) = false from e', show Qjr (Zjl ⟨a, fa⟩ ⟨b, fb⟩ ⟨c, fc⟩ ⟨d, fd⟩ ⟨⟨x, f⟩, ⟨y, g⟩⟩) = false from e'']; rfl
end Go.Proofs.YteekigmbopdfjaaGreat
end
