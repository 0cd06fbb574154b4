/-
 What the proof uses, part 11.
-/
import Derived.Test.YteekigmbopdfjaaGreatZp10
set_option maxRecDepth 100000
set_option linter.unusedSimpArgs false
set_option linter.unusedVariables false

section
namespace Go.Proofs.YteekigmbopdfjaaGreat
open Go.SE Go.RowKit
def Zck : List SV → Option (Option Prop × SV)
 | [.agg [.v (.int .u64 lo), .v (.int .u64 hi)]] => some (some (U64 lo ∧ U64 hi), .v (.int .u64 (isq (MM lo hi))))
 | _ => none
def sRRoot : List SV → Option (Option Prop × SV)
 | [.agg [.v (.bool _), .v (.int .u64 hi), .v (.int .u64 lo)]] => some (some (U64 lo ∧ U64 hi), wiS false 0 (isq (MM lo hi)))
 | _ => none
def Zlf (v : Int) : Int := if Qaa v < 0 then 0 else isq (Qaa v * 4294967296)
def Zlg (v : Int) (f : Bool) : Bool := if Qaa v < 0 then true else f
def sSqrt : List SV → Option (Option Prop × SV)
 | [.agg [.v (.int .i64 v), .v (.bool f)]] => some (some (I64 v), Qcr (Zlf v) (Zlg v f))
 | _ => none
def Zju (a b : Int) : Int := isq (a * a + b * b)
def Q9c : List SV → Option (Option Prop × SV)
 | [.agg [.v (.int .i64 v), .v (.bool f)], .agg [.v (.int .i64 u), .v (.bool g)]] => some (some (I64 v ∧ I64 u), Qcr (Qar (Zju (Qaa v) (Qaa u))) (Qcy (Zju (Qaa v) (Qaa u)) (Qav v f || Qav u g)))
 | _ => none
def Quq (a b c d : Int) : Int := Int.tdiv (a * b + c * d) 4294967296
def Zjo : List SV → Option (Option Prop × SV)
 | [.agg [.v (.int .i64 a), .v (.bool fa)], .agg [.v (.int .i64 b), .v (.bool fb)], .agg [.v (.int .i64 c), .v (.bool fc)], .agg [.v (.int .i64 d), .v (.bool fd)]] =>
   some (some ((I64 a ∧ I64 b) ∧ I64 c ∧ I64 d), Qcr (Qar (Quq (Qaa a) (Qaa b) (Qaa c) (Qaa d))) (Qcy (Quq (Qaa a) (Qaa b) (Qaa c) (Qaa d)) ((Qav a fa || Qav b fb) || (Qav c fc || Qav d fd))))
 | _ => none
noncomputable def Q8u (m : Int) : Nat → Option LoopSpec := Qb9 Qax Tryz.f168 0 Int (fun r => isq m ≤ r ∧ 0 < r ∧ r < 18446744073709551616) (fun r => r.toNat) [(4, fun r => .v (.int .u64 r))] []
def ΓR0 : Qb7 := Qah Zj4 223 (Qaj Qvu)
@[reducible] noncomputable def Qji (m : Int) (lo : Int) (hi : Int) (R : SV→Prop) := (∀ x : Int,(((((isq m) : Int) ≤ x)∧(((0 : Int) < x)∧((x : Int) < 18446744073709551616)))→(sel (decide (hi ≥ x)) (R (SV.v (.int .u64 x))) (((U64 hi)∧((U64 lo)∧((U64 x)∧((hi : Int) < x))))∧(sel (decide (MM lo hi / x ≥ x)) (R (SV.v (.int .u64 x))) (((U64 x)∧((U64 (MM lo hi / x))∧(((0 : Int) ≤ 0)∧((0 : Int) ≤ 1))))∧(∃ x' : Int,((((((isq m) : Int) ≤ x')∧(((0 : Int) < x')∧((x' : Int) < 18446744073709551616)))∧(((SV.v (.int .u64 (bits BinOp.or IntKind.u64 ((x + MM lo hi / x + 0) % 18446744073709551616 / 2) (IntKind.wrap IntKind.u64 ((x + MM lo hi / x + 0) / 18446744073709551616 * 9223372036854775808))))) = (SV.v (.int .u64 x')))∧True))∧(((Int.toNat x') : Nat) < (Int.toNat x))))))))))
@[reducible] noncomputable def Qpv (m : Int) (lo : Int) (hi : Int) (R : SV→Prop) := ((U64 lo)∧(sel (hi != 0) ((U64 hi)∧(sel (decide (IntKind.wrap IntKind.i64 (Int.tdiv (IntKind.wrap IntKind.i64 (IntKind.wrap IntKind.i64 (64 + Qc1 hi) + 1)) 2) < 64)) (((0 : Int) ≤ (IntKind.wrap IntKind.i64 (Int.tdiv (IntKind.wrap IntKind.i64 (IntKind.wrap IntKind.i64 (64 + Qc1 hi) + 1)) 2)))∧((∃ x : Int,(((((isq m) : Int) ≤ x)∧(((0 : Int) < x)∧((x : Int) < 18446744073709551616)))∧(((SV.v (.int .u64 (IntKind.wrap IntKind.u64 (1 * 2 ^ min (Int.toNat (IntKind.wrap IntKind.i64 (Int.tdiv (IntKind.wrap IntKind.i64 (IntKind.wrap IntKind.i64 (64 + Qc1 hi) + 1)) 2))) 64)))) = (SV.v (.int .u64 x)))∧True)))∧(Qji m lo hi R))) ((∃ x : Int,(((((isq m) : Int) ≤ x)∧(((0 : Int) < x)∧((x : Int) < 18446744073709551616)))∧(((SV.v (.int .u64 18446744073709551615)) = (SV.v (.int .u64 x)))∧True)))∧(Qji m lo hi R)))) (sel (decide (IntKind.wrap IntKind.i64 (Int.tdiv (IntKind.wrap IntKind.i64 (Qc1 lo + 1)) 2) < 64)) (((0 : Int) ≤ (IntKind.wrap IntKind.i64 (Int.tdiv (IntKind.wrap IntKind.i64 (Qc1 lo + 1)) 2)))∧((∃ x : Int,(((((isq m) : Int) ≤ x)∧(((0 : Int) < x)∧((x : Int) < 18446744073709551616)))∧(((SV.v (.int .u64 (IntKind.wrap IntKind.u64 (1 * 2 ^ min (Int.toNat (IntKind.wrap IntKind.i64 (Int.tdiv (IntKind.wrap IntKind.i64 (Qc1 lo + 1)) 2))) 64)))) = (SV.v (.int .u64 x)))∧True)))∧(Qji m lo hi R))) ((∃ x : Int,(((((isq m) : Int) ≤ x)∧(((0 : Int) < x)∧((x : Int) < 18446744073709551616)))∧(((SV.v (.int .u64 18446744073709551615)) = (SV.v (.int .u64 x)))∧True)))∧(Qji m lo hi R)))))
theorem Zf0 (m lo hi : Int) (R : SV→Prop) : (Qau Tryz.prog ΓR0 (Q8u m) Tryz.f168 [woS lo hi] R) =
(sel (hi == 0) (sel (lo == 0) (R (SV.v (.int .u64 0))) (Qpv m lo hi R)) (Qpv m lo hi R)) := by kernel_rfl
def Zjh : Qb7 := Qah (Qah ΓC 168 (Qaj Zck)) 78 (Qcv Qvv)
@[reducible] noncomputable def Qjl (v : Int) (u : Int) := (isq (MM (plM (!decide (Qaa v < 0) == decide (Qaa v < 0)) (MM (Qac (Qaa v) * Qac (Qaa v) % 18446744073709551616) (Qac (Qaa v) * Qac (Qaa v) / 18446744073709551616)) (!decide (Qaa u < 0) == decide (Qaa u < 0)) (MM (Qac (Qaa u) * Qac (Qaa u) % 18446744073709551616) (Qac (Qaa u) * Qac (Qaa u) / 18446744073709551616)) % 18446744073709551616) (plM (!decide (Qaa v < 0) == decide (Qaa v < 0)) (MM (Qac (Qaa v) * Qac (Qaa v) % 18446744073709551616) (Qac (Qaa v) * Qac (Qaa v) / 18446744073709551616)) (!decide (Qaa u < 0) == decide (Qaa u < 0)) (MM (Qac (Qaa u) * Qac (Qaa u) % 18446744073709551616) (Qac (Qaa u) * Qac (Qaa u) / 18446744073709551616)) / 18446744073709551616)))
theorem Zbq (v : Int) (f : Bool) (u : Int) (g : Bool) (R : SV→Prop) : (Qau Tryz.prog Zjh Qax Tryz.f99 [Qcr v f,Qcr u g] R) =
(((I64 (Qaa v))∧(I64 (Qaa v)))∧(((I64 (Qaa u))∧(I64 (Qaa u)))∧((((U64 (Qac (Qaa v) * Qac (Qaa v) % 18446744073709551616))∧(U64 (Qac (Qaa v) * Qac (Qaa v) / 18446744073709551616)))∧(((U64 (Qac (Qaa u) * Qac (Qaa u) % 18446744073709551616))∧(U64 (Qac (Qaa u) * Qac (Qaa u) / 18446744073709551616)))∧(((MM (Qac (Qaa v) * Qac (Qaa v) % 18446744073709551616) (Qac (Qaa v) * Qac (Qaa v) / 18446744073709551616) + MM (Qac (Qaa u) * Qac (Qaa u) % 18446744073709551616) (Qac (Qaa u) * Qac (Qaa u) / 18446744073709551616)) : Int) < 340282366920938463463374607431768211456)))∧(((U64 (plM (!decide (Qaa v < 0) == decide (Qaa v < 0)) (MM (Qac (Qaa v) * Qac (Qaa v) % 18446744073709551616) (Qac (Qaa v) * Qac (Qaa v) / 18446744073709551616)) (!decide (Qaa u < 0) == decide (Qaa u < 0)) (MM (Qac (Qaa u) * Qac (Qaa u) % 18446744073709551616) (Qac (Qaa u) * Qac (Qaa u) / 18446744073709551616)) % 18446744073709551616))∧(U64 (plM (!decide (Qaa v < 0) == decide (Qaa v < 0)) (MM (Qac (Qaa v) * Qac (Qaa v) % 18446744073709551616) (Qac (Qaa v) * Qac (Qaa v) / 18446744073709551616)) (!decide (Qaa u < 0) == decide (Qaa u < 0)) (MM (Qac (Qaa u) * Qac (Qaa u) % 18446744073709551616) (Qac (Qaa u) * Qac (Qaa u) / 18446744073709551616)) / 18446744073709551616)))∧((((isN [SV.v (.int .i64 (Qaa v)),SV.v (.bool (Qav v f))])∧((isN [SV.v (.int .i64 (Qaa u)),SV.v (.bool (Qav u g))])∧True))∧(((2 : Nat) = 2)∧((2 : Nat) < 4611686018427387904)))∧(((U64 (Qjl v u))∧(U64 0))∧(R (SV.agg [(SV.v (.int .i64 (Qlv false (MM (Qjl v u) 0)))),(SV.v (.bool (Qkc (MM (Qjl v u) 0) (Qro [[SV.v (.int .i64 (Qaa v)),SV.v (.bool (Qav v f))],[SV.v (.int .i64 (Qaa u)),SV.v (.bool (Qav u g))]]))))])))))))) := by kernel_rfl
@[reducible] noncomputable def Qhd (a : Int) (b : Int) (c : Int) (d : Int) := (plM (!decide (Qaa a < 0) == decide (Qaa b < 0)) (MM (Qac (Qaa a) * Qac (Qaa b) % 18446744073709551616) (Qac (Qaa a) * Qac (Qaa b) / 18446744073709551616)) (!decide (Qaa c < 0) == decide (Qaa d < 0)) (MM (Qac (Qaa c) * Qac (Qaa d) % 18446744073709551616) (Qac (Qaa c) * Qac (Qaa d) / 18446744073709551616)) % 18446744073709551616)
@[reducible] noncomputable def Qhc (a : Int) (b : Int) (c : Int) (d : Int) := (plM (!decide (Qaa a < 0) == decide (Qaa b < 0)) (MM (Qac (Qaa a) * Qac (Qaa b) % 18446744073709551616) (Qac (Qaa a) * Qac (Qaa b) / 18446744073709551616)) (!decide (Qaa c < 0) == decide (Qaa d < 0)) (MM (Qac (Qaa c) * Qac (Qaa d) % 18446744073709551616) (Qac (Qaa c) * Qac (Qaa d) / 18446744073709551616)) / 18446744073709551616)
theorem Zk5 (a : Int) (fa : Bool) (b : Int) (fb : Bool) (c : Int) (fc : Bool) (d : Int) (fd : Bool) (R : SV→Prop) : (Qau Tryz.prog Zjh Qax Tryz.f154 [Qcr a fa,Qcr b fb,Qcr c fc,Qcr d fd] R) =
(((I64 (Qaa a))∧(I64 (Qaa b)))∧(((I64 (Qaa c))∧(I64 (Qaa d)))∧((((U64 (Qac (Qaa a) * Qac (Qaa b) % 18446744073709551616))∧(U64 (Qac (Qaa a) * Qac (Qaa b) / 18446744073709551616)))∧(((U64 (Qac (Qaa c) * Qac (Qaa d) % 18446744073709551616))∧(U64 (Qac (Qaa c) * Qac (Qaa d) / 18446744073709551616)))∧(((MM (Qac (Qaa a) * Qac (Qaa b) % 18446744073709551616) (Qac (Qaa a) * Qac (Qaa b) / 18446744073709551616) + MM (Qac (Qaa c) * Qac (Qaa d) % 18446744073709551616) (Qac (Qaa c) * Qac (Qaa d) / 18446744073709551616)) : Int) < 340282366920938463463374607431768211456)))∧(((U64 (Qhd a b c d))∧(U64 (Qhc a b c d)))∧((((isN [SV.v (.int .i64 (Qaa a)),SV.v (.bool (Qav a fa))])∧((isN [SV.v (.int .i64 (Qaa b)),SV.v (.bool (Qav b fb))])∧((isN [SV.v (.int .i64 (Qaa c)),SV.v (.bool (Qav c fc))])∧((isN [SV.v (.int .i64 (Qaa d)),SV.v (.bool (Qav d fd))])∧True))))∧(((4 : Nat) = 4)∧((4 : Nat) < 4611686018427387904)))∧(((U64 (MM (Qhd a b c d) (Qhc a b c d) / 4294967296 % 18446744073709551616))∧(U64 (MM (Qhd a b c d) (Qhc a b c d) / 4294967296 / 18446744073709551616)))∧(R (SV.agg [(SV.v (.int .i64 (Qlv (plN (!decide (Qaa a < 0) == decide (Qaa b < 0)) (MM (Qac (Qaa a) * Qac (Qaa b) % 18446744073709551616) (Qac (Qaa a) * Qac (Qaa b) / 18446744073709551616)) (!decide (Qaa c < 0) == decide (Qaa d < 0)) (MM (Qac (Qaa c) * Qac (Qaa d) % 18446744073709551616) (Qac (Qaa c) * Qac (Qaa d) / 18446744073709551616))) (MM (MM (Qhd a b c d) (Qhc a b c d) / 4294967296 % 18446744073709551616) (MM (Qhd a b c d) (Qhc a b c d) / 4294967296 / 18446744073709551616))))),(SV.v (.bool (Qkc (MM (MM (Qhd a b c d) (Qhc a b c d) / 4294967296 % 18446744073709551616) (MM (Qhd a b c d) (Qhc a b c d) / 4294967296 / 18446744073709551616)) (Qro [[SV.v (.int .i64 (Qaa a)),SV.v (.bool (Qav a fa))],[SV.v (.int .i64 (Qaa b)),SV.v (.bool (Qav b fb))],[SV.v (.int .i64 (Qaa c)),SV.v (.bool (Qav c fc))],[SV.v (.int .i64 (Qaa d)),SV.v (.bool (Qav d fd))]]))))])))))))) := by kernel_rfl
@[reducible] noncomputable def Qh7 (a : Int) (b : Int) (c : Int) (d : Int) := (MM (MM (plM (!decide (Qaa a < 0) == decide (Qaa b < 0)&&Qaa a != 0&&Qaa b != 0) (MM (Qac (Qaa a) * Qac (Qaa b) % 18446744073709551616) (Qac (Qaa a) * Qac (Qaa b) / 18446744073709551616)) (!decide (Qaa c < 0) == decide (Qaa d < 0)&&Qaa c != 0&&Qaa d != 0) (MM (Qac (Qaa c) * Qac (Qaa d) % 18446744073709551616) (Qac (Qaa c) * Qac (Qaa d) / 18446744073709551616)) % 18446744073709551616) (plM (!decide (Qaa a < 0) == decide (Qaa b < 0)&&Qaa a != 0&&Qaa b != 0) (MM (Qac (Qaa a) * Qac (Qaa b) % 18446744073709551616) (Qac (Qaa a) * Qac (Qaa b) / 18446744073709551616)) (!decide (Qaa c < 0) == decide (Qaa d < 0)&&Qaa c != 0&&Qaa d != 0) (MM (Qac (Qaa c) * Qac (Qaa d) % 18446744073709551616) (Qac (Qaa c) * Qac (Qaa d) / 18446744073709551616)) / 18446744073709551616) / 4294967296 % 18446744073709551616) (MM (plM (!decide (Qaa a < 0) == decide (Qaa b < 0)&&Qaa a != 0&&Qaa b != 0) (MM (Qac (Qaa a) * Qac (Qaa b) % 18446744073709551616) (Qac (Qaa a) * Qac (Qaa b) / 18446744073709551616)) (!decide (Qaa c < 0) == decide (Qaa d < 0)&&Qaa c != 0&&Qaa d != 0) (MM (Qac (Qaa c) * Qac (Qaa d) % 18446744073709551616) (Qac (Qaa c) * Qac (Qaa d) / 18446744073709551616)) % 18446744073709551616) (plM (!decide (Qaa a < 0) == decide (Qaa b < 0)&&Qaa a != 0&&Qaa b != 0) (MM (Qac (Qaa a) * Qac (Qaa b) % 18446744073709551616) (Qac (Qaa a) * Qac (Qaa b) / 18446744073709551616)) (!decide (Qaa c < 0) == decide (Qaa d < 0)&&Qaa c != 0&&Qaa d != 0) (MM (Qac (Qaa c) * Qac (Qaa d) % 18446744073709551616) (Qac (Qaa c) * Qac (Qaa d) / 18446744073709551616)) / 18446744073709551616) / 4294967296 / 18446744073709551616))
@[reducible] noncomputable def Qjk (a : Int) (b : Int) (c : Int) (d : Int) := ((U64 (MM (plM (!decide (Qaa a < 0) == decide (Qaa b < 0)&&Qaa a != 0&&Qaa b != 0) (MM (Qac (Qaa a) * Qac (Qaa b) % 18446744073709551616) (Qac (Qaa a) * Qac (Qaa b) / 18446744073709551616)) (!decide (Qaa c < 0) == decide (Qaa d < 0)&&Qaa c != 0&&Qaa d != 0) (MM (Qac (Qaa c) * Qac (Qaa d) % 18446744073709551616) (Qac (Qaa c) * Qac (Qaa d) / 18446744073709551616)) % 18446744073709551616) (plM (!decide (Qaa a < 0) == decide (Qaa b < 0)&&Qaa a != 0&&Qaa b != 0) (MM (Qac (Qaa a) * Qac (Qaa b) % 18446744073709551616) (Qac (Qaa a) * Qac (Qaa b) / 18446744073709551616)) (!decide (Qaa c < 0) == decide (Qaa d < 0)&&Qaa c != 0&&Qaa d != 0) (MM (Qac (Qaa c) * Qac (Qaa d) % 18446744073709551616) (Qac (Qaa c) * Qac (Qaa d) / 18446744073709551616)) / 18446744073709551616) / 4294967296 % 18446744073709551616))∧(U64 (MM (plM (!decide (Qaa a < 0) == decide (Qaa b < 0)&&Qaa a != 0&&Qaa b != 0) (MM (Qac (Qaa a) * Qac (Qaa b) % 18446744073709551616) (Qac (Qaa a) * Qac (Qaa b) / 18446744073709551616)) (!decide (Qaa c < 0) == decide (Qaa d < 0)&&Qaa c != 0&&Qaa d != 0) (MM (Qac (Qaa c) * Qac (Qaa d) % 18446744073709551616) (Qac (Qaa c) * Qac (Qaa d) / 18446744073709551616)) % 18446744073709551616) (plM (!decide (Qaa a < 0) == decide (Qaa b < 0)&&Qaa a != 0&&Qaa b != 0) (MM (Qac (Qaa a) * Qac (Qaa b) % 18446744073709551616) (Qac (Qaa a) * Qac (Qaa b) / 18446744073709551616)) (!decide (Qaa c < 0) == decide (Qaa d < 0)&&Qaa c != 0&&Qaa d != 0) (MM (Qac (Qaa c) * Qac (Qaa d) % 18446744073709551616) (Qac (Qaa c) * Qac (Qaa d) / 18446744073709551616)) / 18446744073709551616) / 4294967296 / 18446744073709551616)))
@[reducible] noncomputable def Qjj (a : Int) (b : Int) (c : Int) (d : Int) := (SV.v (.int .i64 (Qlv (plZ (!decide (Qaa a < 0) == decide (Qaa b < 0)&&Qaa a != 0&&Qaa b != 0) (MM (Qac (Qaa a) * Qac (Qaa b) % 18446744073709551616) (Qac (Qaa a) * Qac (Qaa b) / 18446744073709551616)) (!decide (Qaa c < 0) == decide (Qaa d < 0)&&Qaa c != 0&&Qaa d != 0) (MM (Qac (Qaa c) * Qac (Qaa d) % 18446744073709551616) (Qac (Qaa c) * Qac (Qaa d) / 18446744073709551616))) (Qh7 a b c d))))
theorem Zf9 (a : Int) (fa : Bool) (b : Int) (fb : Bool) (c : Int) (fc : Bool) (d : Int) (fd : Bool) (R : SV→Prop) : (Qau Tryz.prog Zjh Qax Tryz.f240 [Qcr a fa,Qcr b fb,Qcr c fc,Qcr d fd] R) =
(((I64 (Qaa a))∧(I64 (Qaa b)))∧(((I64 (Qaa c))∧(I64 (Qaa d)))∧((((U64 (Qac (Qaa a) * Qac (Qaa b) % 18446744073709551616))∧(U64 (Qac (Qaa a) * Qac (Qaa b) / 18446744073709551616)))∧(((U64 (Qac (Qaa c) * Qac (Qaa d) % 18446744073709551616))∧(U64 (Qac (Qaa c) * Qac (Qaa d) / 18446744073709551616)))∧(((MM (Qac (Qaa a) * Qac (Qaa b) % 18446744073709551616) (Qac (Qaa a) * Qac (Qaa b) / 18446744073709551616) + MM (Qac (Qaa c) * Qac (Qaa d) % 18446744073709551616) (Qac (Qaa c) * Qac (Qaa d) / 18446744073709551616)) : Int) < 340282366920938463463374607431768211456)))∧(((U64 (plM (!decide (Qaa a < 0) == decide (Qaa b < 0)&&Qaa a != 0&&Qaa b != 0) (MM (Qac (Qaa a) * Qac (Qaa b) % 18446744073709551616) (Qac (Qaa a) * Qac (Qaa b) / 18446744073709551616)) (!decide (Qaa c < 0) == decide (Qaa d < 0)&&Qaa c != 0&&Qaa d != 0) (MM (Qac (Qaa c) * Qac (Qaa d) % 18446744073709551616) (Qac (Qaa c) * Qac (Qaa d) / 18446744073709551616)) % 18446744073709551616))∧(U64 (plM (!decide (Qaa a < 0) == decide (Qaa b < 0)&&Qaa a != 0&&Qaa b != 0) (MM (Qac (Qaa a) * Qac (Qaa b) % 18446744073709551616) (Qac (Qaa a) * Qac (Qaa b) / 18446744073709551616)) (!decide (Qaa c < 0) == decide (Qaa d < 0)&&Qaa c != 0&&Qaa d != 0) (MM (Qac (Qaa c) * Qac (Qaa d) % 18446744073709551616) (Qac (Qaa c) * Qac (Qaa d) / 18446744073709551616)) / 18446744073709551616)))∧(sel (Qav a fa) ((Qjk a b c d)∧(R (SV.agg [(Qjj a b c d),(SV.v (.bool (Qkc (Qh7 a b c d) true)))]))) (sel (Qav b fb) ((Qjk a b c d)∧(R (SV.agg [(Qjj a b c d),(SV.v (.bool (Qkc (Qh7 a b c d) true)))]))) (sel (Qav c fc) ((Qjk a b c d)∧(R (SV.agg [(Qjj a b c d),(SV.v (.bool (Qkc (Qh7 a b c d) true)))]))) ((Qjk a b c d)∧(R (SV.agg [(Qjj a b c d),(SV.v (.bool (Qkc (Qh7 a b c d) (Qav d fd))))])))))))))) := by kernel_rfl
theorem Q6e : U64 0 := ⟨by decide, by decide⟩
theorem Qvn (m : Int) : sv false m = m := by simp [sv]
theorem Zdu {t : Int} (h0 : 0 ≤ t) (h1 : t < 36893488147419103232) : bits .or .u64 (t % 18446744073709551616 / 2) (IntKind.u64.wrap (t / 18446744073709551616 * 9223372036854775808)) = t / 2 := by
 have e : IntKind.u64.wrap (t / 18446744073709551616 * 9223372036854775808) = t / 18446744073709551616 * 9223372036854775808 := Qdb ⟨by omega, by omega⟩
 rw [e, u64_or _ _ (by omega) (by omega) (by omega) (by omega), Nat.or_comm, nat_join 63 _ _ (by omega) (by omega)]
 omega
theorem Qr1 {lo hi : Int} (h1 : U64 lo) (h2 : U64 hi) (hpos : 0 < MM lo hi) : ∀ x : Int, (isq (MM lo hi) ≤ x ∧ 0 < x ∧ x < 18446744073709551616) → sel (decide (hi ≥ x)) (SV.v (.int .u64 x) = SV.v (.int .u64 (isq (MM lo hi)))) ((U64 hi ∧ U64 lo ∧ U64 x ∧ hi < x) ∧
   sel (decide (MM lo hi / x ≥ x)) (SV.v (.int .u64 x) = SV.v (.int .u64 (isq (MM lo hi)))) ((U64 x ∧ U64 (MM lo hi / x) ∧ (0 : Int) ≤ 0 ∧ (0 : Int) ≤ 1) ∧ ∃ x' : Int, ((isq (MM lo hi) ≤ x' ∧ 0 < x' ∧ x' < 18446744073709551616) ∧
     (SV.v (.int .u64 (bits .or .u64 ((x + MM lo hi / x + 0) % 18446744073709551616 / 2) (IntKind.u64.wrap ((x + MM lo hi / x + 0) / 18446744073709551616 * 9223372036854775808)))) = SV.v (.int .u64 x')) ∧ True) ∧ x'.toNat < x.toNat)) := by
 intro x ⟨x1, x2, x3⟩
 have m0 := Qj8 h1 h2
 have m1 := Zep h1 h2
 have hM : MM lo hi = hi * 18446744073709551616 + lo := rfl
 obtain ⟨l0, l1⟩ := h1
 obtain ⟨i0, i1⟩ := h2
 refine Qaf (fun g => ?_) fun g => ?_
 · have g := of_decide_eq_true g
   refine Qbj (Qoz m0 m1 x1 ?_)
   have a1 : x * x ≤ hi * x := Int.mul_le_mul_of_nonneg_right g (by omega)
   have a2 : hi * x ≤ hi * 18446744073709551616 := Int.mul_le_mul_of_nonneg_left (by omega) i0
   omega
 · have g := of_decide_eq_false g
   have q0 : 0 ≤ MM lo hi / x := Int.ediv_nonneg m0 (by omega)
   have q1 : MM lo hi / x < 18446744073709551616 := Int.ediv_lt_of_lt_mul x2 (by
     have : hi + 1 ≤ x := by omega
     have := Int.mul_le_mul_of_nonneg_left this (show (0 : Int) ≤ 18446744073709551616 by decide)
     omega)
   refine ⟨⟨⟨i0, i1⟩, ⟨l0, l1⟩, ⟨by omega, x3⟩, by omega⟩, Qaf (fun g' => ?_) fun g' => ?_⟩
   · have g' := of_decide_eq_true g'
     refine Qbj (Qoz m0 m1 x1 ?_)
     have a1 := Int.mul_le_of_le_ediv x2 g'
     exact a1
   · have g' := of_decide_eq_false g'
     have n1 := Que m0 m1 x2
     have n0 : 0 ≤ MM lo hi / x := q0
     rw [Int.add_zero, Zdu (by omega) (by omega)]
     refine ⟨⟨⟨by omega, x3⟩, ⟨q0, q1⟩, by decide, by decide⟩, (x + MM lo hi / x) / 2, ⟨⟨n1, ?_, by omega⟩, rfl, trivial⟩, by omega⟩
     rcases Int.lt_or_le 0 ((x + MM lo hi / x) / 2) with h | h
     · exact h
     · exfalso
       have hx : x = 1 := by omega
       subst hx
       rw [Int.ediv_one] at g' h
       omega
theorem Qou {m L : Int} {A : Prop} (hm0 : 0 < m) (hm1 : m < 340282366920938463463374607431768211456) (hL0 : 0 ≤ L) (hL1 : L ≤ 128) (hL : m < 2 ^ L.toNat) (hA : A) : sel (decide (IntKind.i64.wrap (Int.tdiv (IntKind.i64.wrap (L + 1)) 2) < 64))
   ((0 : Int) ≤ IntKind.i64.wrap (Int.tdiv (IntKind.i64.wrap (L + 1)) 2) ∧ (∃ x : Int, (isq m ≤ x ∧ 0 < x ∧ x < 18446744073709551616) ∧ (SV.v (.int .u64 (IntKind.u64.wrap (1 * 2 ^ min (Int.toNat (IntKind.i64.wrap (Int.tdiv (IntKind.i64.wrap (L + 1)) 2))) 64))) = SV.v (.int .u64 x)) ∧ True) ∧ A)
   ((∃ x : Int, (isq m ≤ x ∧ 0 < x ∧ x < 18446744073709551616) ∧ (SV.v (.int .u64 18446744073709551615) = SV.v (.int .u64 x)) ∧ True) ∧ A) := by
 have e : IntKind.i64.wrap (Int.tdiv (IntKind.i64.wrap (L + 1)) 2) = (L + 1) / 2 := by
   rw [Qag (n := L + 1) ⟨by omega, by omega⟩, Int.tdiv_eq_ediv_of_nonneg (by omega), Qag ⟨by omega, by omega⟩]
 rw [e]
 refine Qaf (fun g => ?_) fun g => ?_
 · have g := of_decide_eq_true g
   rw [Nat.min_eq_left (by omega)]
   have p := Qtu ((L + 1) / 2).toNat
   have p2 : (2 : Int) ^ ((L + 1) / 2).toNat ≤ 2 ^ 63 := by exact_mod_cast Nat.pow_le_pow_right (by decide) (by omega)
   have p2 : (2 : Int) ^ ((L + 1) / 2).toNat ≤ 9223372036854775808 := p2
   rw [Int.one_mul, Qdb ⟨by omega, by omega⟩]
   exact ⟨by omega, ⟨_, ⟨Q6s (by omega) hL (by omega) hm1, p, by omega⟩, rfl, trivial⟩, hA⟩
 · have := (Qlk (m := m) (by omega) hm1).2.1
   exact ⟨⟨_, ⟨by omega, by decide, by decide⟩, rfl, trivial⟩, hA⟩
theorem Q9m {lo : Int} (h : U64 lo) (h0 : lo ≠ 0) : 0 ≤ Qc1 lo ∧ Qc1 lo ≤ 64 ∧ lo < 2 ^ (Qc1 lo).toNat := by
 obtain ⟨a, b⟩ := Qug h
 obtain ⟨n, e, l1, l2⟩ := Qnh (x := lo) (by have := h.1; omega)
 refine ⟨a, b, ?_⟩
 rw [e]
 have : ((n : Int) + 1).toNat = n + 1 := by omega
 rw [this]; exact l2
theorem Zic {lo hi : Int} (h1 : U64 lo) (h2 : U64 hi) (h0 : hi ≠ 0) : 0 ≤ 64 + Qc1 hi ∧ 64 + Qc1 hi ≤ 128 ∧ MM lo hi < 2 ^ (64 + Qc1 hi).toNat := by
 obtain ⟨a, b, c⟩ := Q9m h2 h0
 refine ⟨by omega, by omega, ?_⟩
 rw [show (64 + Qc1 hi).toNat = (Qc1 hi).toNat + 64 by omega, Int.pow_add]
 generalize (2 : Int) ^ (Qc1 hi).toNat = p at *
 have e : (2 : Int) ^ 64 = 18446744073709551616 := by decide
 rw [e]
 obtain ⟨_, _⟩ := h1
 unfold MM
 have : (hi + 1) * 18446744073709551616 ≤ p * 18446744073709551616 := Int.mul_le_mul_of_nonneg_right (by omega) (by decide)
 omega
theorem Zar : ∀ f g, ΓR0 f = some g → g.ok Tryz.prog f := Qab Qzf (Qak Tryz.func223 (by kernel_rfl) (by kernel_rfl) Qpk)
theorem Q33 : Qai Tryz.prog 168 Zck := Qan hm Zar Tryz.func168 (Λ := fun args => match args with | [.agg [.v (.int .u64 lo), .v (.int .u64 hi)]] => Q8u (MM lo hi) | _ => Qax) fun args p x h hp => by
 unfold Zck at h
 split at h <;> try (cases h; done)
 rename_i lo hi
 cases h
 obtain ⟨h1, h2⟩ := hp _ rfl
 refine ⟨rfl, rfl, ?_⟩
 refine Eq.mpr (Zf0 (MM lo hi) lo hi _) ?_
 repeat (first | unfold Qpv | unfold Qji)
 refine ?_
 have m1 := Zep h1 h2
 have m0 := Qj8 h1 h2
 have hM : MM lo hi = hi * 18446744073709551616 + lo := rfl
 have tail : ∀ {A : Prop}, 0 < MM lo hi → A → U64 lo ∧ sel (hi != 0) (U64 hi ∧ sel (decide (IntKind.i64.wrap (Int.tdiv (IntKind.i64.wrap (IntKind.i64.wrap (64 + Qc1 hi) + 1)) 2) < 64))
   ((0 : Int) ≤ IntKind.i64.wrap (Int.tdiv (IntKind.i64.wrap (IntKind.i64.wrap (64 + Qc1 hi) + 1)) 2) ∧ (∃ x : Int, (isq (MM lo hi) ≤ x ∧ 0 < x ∧ x < 18446744073709551616) ∧ (SV.v (.int .u64 (IntKind.u64.wrap (1 * 2 ^ min (Int.toNat (IntKind.i64.wrap (Int.tdiv (IntKind.i64.wrap (IntKind.i64.wrap (64 + Qc1 hi) + 1)) 2))) 64))) = SV.v (.int .u64 x)) ∧ True) ∧ A)
   ((∃ x : Int, (isq (MM lo hi) ≤ x ∧ 0 < x ∧ x < 18446744073709551616) ∧ (SV.v (.int .u64 18446744073709551615) = SV.v (.int .u64 x)) ∧ True) ∧ A)) (sel (decide (IntKind.i64.wrap (Int.tdiv (IntKind.i64.wrap (Qc1 lo + 1)) 2) < 64))
   ((0 : Int) ≤ IntKind.i64.wrap (Int.tdiv (IntKind.i64.wrap (Qc1 lo + 1)) 2) ∧ (∃ x : Int, (isq (MM lo hi) ≤ x ∧ 0 < x ∧ x < 18446744073709551616) ∧ (SV.v (.int .u64 (IntKind.u64.wrap (1 * 2 ^ min (Int.toNat (IntKind.i64.wrap (Int.tdiv (IntKind.i64.wrap (Qc1 lo + 1)) 2))) 64))) = SV.v (.int .u64 x)) ∧ True) ∧ A)
   ((∃ x : Int, (isq (MM lo hi) ≤ x ∧ 0 < x ∧ x < 18446744073709551616) ∧ (SV.v (.int .u64 18446744073709551615) = SV.v (.int .u64 x)) ∧ True) ∧ A)) := by
   intro A hpos hA
   refine ⟨h1, Qaf (fun g => ?_) fun g => ?_⟩
   · have g : hi ≠ 0 := by simpa using g
     obtain ⟨a, b, c⟩ := Zic h1 h2 g
     rw [Qag (n := 64 + Qc1 hi) ⟨by omega, by omega⟩]
     exact ⟨h2, Qou hpos m1 a b c hA⟩
   · have g : hi = 0 := by simpa using g
     subst g
     rw [Zaa] at *
     obtain ⟨a, b, c⟩ := Q9m h1 (by omega)
     exact Qou hpos m1 a (by omega) c hA
 refine Qaf (fun g => Qaf (fun g' => ?_) fun g' => ?_) fun g => ?_
 · have g : hi = 0 := by simpa using g
   have g' : lo = 0 := by simpa using g'
   subst g g'
   exact Qbj (by decide +kernel)
 · have g' : lo ≠ 0 := by simpa using g'
   exact tail (by have := h1.1; have := h2.1; omega) (Qr1 h1 h2 (by have := h1.1; have := h2.1; omega))
 · have g : hi ≠ 0 := by simpa using g
   exact tail (by have := h1.1; have := h2.1; omega) (Qr1 h1 h2 (by have := h1.1; have := h2.1; omega))
theorem Qto : ∀ f g, Zjh f = some g → g.ok Tryz.prog f := Qab (Qab Qc5 (Qak Tryz.func168 (by kernel_rfl) (by kernel_rfl) Q33)) (Qc0 Tryz.func78 (by kernel_rfl) (by kernel_rfl) Qpl)
theorem Q2a (a b c d : Int) : plM (!(decide (a < 0) == decide (b < 0))) (Qac a * Qac b) (!(decide (c < 0) == decide (d < 0))) (Qac c * Qac d) = Qac (a * b + c * d) := by rw [Q2b Qcq Qcq, Qgo, Qgo]
theorem Q19 (a b c d : Int) : plM (!(decide (a < 0) == decide (b < 0)) && a != 0 && b != 0) (Qac a * Qac b) (!(decide (c < 0) == decide (d < 0)) && c != 0 && d != 0) (Qac c * Qac d) = Qac (a * b + c * d) := by rw [Q2b Qcq Qcq, Qjp, Qjp]
theorem Qbs (a : Int) : 0 ≤ a * a := by
 rcases Int.le_total 0 a with h | h
 · exact Int.mul_nonneg h h
 · have := Int.mul_nonneg (show 0 ≤ -a by omega) (show 0 ≤ -a by omega); rwa [Int.neg_mul_neg] at this
theorem Zdt (a : Int) : Qac a * Qac a = a * a := by unfold Qac; split; rw [Int.neg_mul_neg]; rfl
theorem Zij {a b : Int} (ha : I64 a) (hb : I64 b) : 0 ≤ a * a + b * b ∧ a * a + b * b ≤ 170141183460469231731687303715884105728 := by
 have h1 := Qcf ha ha
 have h2 := Qcf hb hb
 rw [Zdt] at h1 h2
 have := Qbs a
 have := Qbs b
 omega
theorem Qyw : Qai Tryz.prog 99 Q9c := Qan hm Qto Tryz.func99 (Λ := fun _ => Qax) fun args p x h hp => by
 unfold Q9c at h
 split at h <;> try (cases h; done)
 rename_i v f u g
 cases h
 obtain ⟨h1, h2⟩ := hp _ rfl
 have h1 := Qb5 h1
 have h2 := Qb5 h2
 refine ⟨rfl, rfl, ?_⟩
 refine Eq.mpr (Zbq v f u g _) ?_
 repeat (first | unfold Qjl)
 refine ?_
 simp only [Qc9, Zaa, Q2a]
 have l1 := Qcf h1 h1
 have l2 := Qcf h2 h2
 have n1 := Qcq (a := Qaa v) (b := Qaa v)
 have n2 := Qcq (a := Qaa u) (b := Qaa u)
 obtain ⟨y0, y1⟩ := Zij h1 h2
 have ea : Qac (Qaa v * Qaa v + Qaa u * Qaa u) = Qaa v * Qaa v + Qaa u * Qaa u := Qd6 (by omega)
 rw [ea]
 obtain ⟨a, b, _, _⟩ := Qlk y0 (by omega)
 refine ⟨⟨h1, h1⟩, ⟨h2, h2⟩, ⟨⟨Qb1 _, Qci n1 (by omega)⟩, ⟨Qb1 _, Qci n2 (by omega)⟩, by omega⟩, ⟨Qb1 _, Qci y0 (by omega)⟩, ⟨⟨trivial, trivial, trivial⟩, trivial, by decide⟩, ⟨⟨a, b⟩, Q6e⟩, Qbu ?_ ?_⟩
 · rw [Qg3 false a, Qvn]; rfl
 · rw [Qg4 false _ a, Qvn]; simp [Qro, Qe5, Zju]
theorem Ziq (a b c d : Int) : sv (plN (!(decide (a < 0) == decide (b < 0))) (Qac a * Qac b) (!(decide (c < 0) == decide (d < 0))) (Qac c * Qac d)) (Qac (a * b + c * d)) = a * b + c * d := by rw [← Q2a, Zdd, Qgo, Qgo]
theorem Zd2 (a b c d : Int) : sv (plZ (!(decide (a < 0) == decide (b < 0)) && a != 0 && b != 0) (Qac a * Qac b) (!(decide (c < 0) == decide (d < 0)) && c != 0 && d != 0) (Qac c * Qac d)) (Qac (a * b + c * d)) = a * b + c * d := by
 rw [← Q19]
 have key := Zdd (!(decide (a < 0) == decide (b < 0)) && a != 0 && b != 0) (Qac a * Qac b) (!(decide (c < 0) == decide (d < 0)) && c != 0 && d != 0) (Qac c * Qac d)
 rw [Qjp, Qjp] at key
 rw [← key]
 generalize (!(decide (a < 0) == decide (b < 0)) && a != 0 && b != 0) = n1
 generalize (!(decide (c < 0) == decide (d < 0)) && c != 0 && d != 0) = n2
 generalize Qac a * Qac b = m1
 generalize Qac c * Qac d = m2
 unfold plZ plN
 by_cases hn : n1 = n2
 · simp only [if_pos hn]
 · simp only [if_neg hn]
   by_cases hm : m1 < m2
   · simp only [if_pos hm]
   · simp only [if_neg hm]
     by_cases he : m1 = m2
     · have e0 : plM n1 m1 n2 m2 = 0 := by unfold plM; rw [if_neg hn, he, Int.sub_self]; rfl
       rw [e0]
       have z : ∀ n, sv n 0 = 0 := fun n => by cases n <;> rfl
       rw [z, z]
     · have e : (m1 != m2) = true := bne_iff_ne.2 he
       rw [e, Bool.and_true]
theorem Q25 {a b c d : Int} (ha : I64 a) (hb : I64 b) (hc : I64 c) (hd : I64 d) : 0 ≤ Qac (a * b + c * d) ∧ Qac (a * b + c * d) ≤ 170141183460469231731687303715884105728 := by
 have h1 := Qcf ha hb
 have h2 := Qcf hc hd
 refine ⟨Qbk _, ?_⟩
 have e := Q2b (n1 := !(decide (a < 0) == decide (b < 0))) (n2 := !(decide (c < 0) == decide (d < 0))) (Qcq (a := a) (b := b)) (Qcq (a := c) (b := d))
 rw [Qgo, Qgo] at e
 rw [← e]
 have n1 := Qcq (a := a) (b := b)
 have n2 := Qcq (a := c) (b := d)
 generalize Qac a * Qac b = x at *
 generalize Qac c * Qac d = y at *
 unfold plM Qac
 split <;> (try split) <;> omega
theorem Q8m : Qai Tryz.prog 154 Zjo := Qan hm Qto Tryz.func154 (Λ := fun _ => Qax) fun args p x h hp => by
 unfold Zjo at h
 split at h <;> try (cases h; done)
 rename_i a fa b fb c fc d fd
 cases h
 obtain ⟨⟨ha, hb⟩, hc, hd⟩ := hp _ rfl
 have ha := Qb5 ha
 have hb := Qb5 hb
 have hc := Qb5 hc
 have hd := Qb5 hd
 refine ⟨rfl, rfl, ?_⟩
 refine Eq.mpr (Zk5 a fa b fb c fc d fd _) ?_
 repeat (first | unfold Qhc | unfold Qhd)
 refine ?_
 simp only [Qc9, Q2a]
 have l1 := Qcf ha hb
 have l2 := Qcf hc hd
 have n1 := Qcq (a := Qaa a) (b := Qaa b)
 have n2 := Qcq (a := Qaa c) (b := Qaa d)
 obtain ⟨y0, y1⟩ := Q25 ha hb hc hd
 have es := Ziq (Qaa a) (Qaa b) (Qaa c) (Qaa d)
 have e : ∀ n, sv n (Qac (Qaa a * Qaa b + Qaa c * Qaa d)) = Qaa a * Qaa b + Qaa c * Qaa d → sv n (Qac (Qaa a * Qaa b + Qaa c * Qaa d) / 4294967296) = Quq (Qaa a) (Qaa b) (Qaa c) (Qaa d) := fun n h => by rw [Qpx n y0, h]; rfl
 refine ⟨⟨ha, hb⟩, ⟨hc, hd⟩, ⟨⟨Qb1 _, Qci n1 (by omega)⟩, ⟨Qb1 _, Qci n2 (by omega)⟩, by omega⟩, ⟨Qb1 _, Qci y0 (by omega)⟩, ⟨⟨trivial, trivial, trivial, trivial, trivial⟩, trivial, by decide⟩, ⟨Qb1 _, Qci (by omega) (by omega)⟩, Qbu ?_ ?_⟩
 · rw [Qg3 _ (by omega), e _ es]
 · rw [Qg4 _ _ (by omega), e _ es]; simp [Qro, Qe5, Bool.or_assoc]
theorem Q38 : Qai Tryz.prog 240 Zjo := Qan hm Qto Tryz.func240 (Λ := fun _ => Qax) fun args p x h hp => by
 unfold Zjo at h
 split at h <;> try (cases h; done)
 rename_i a fa b fb c fc d fd
 cases h
 obtain ⟨⟨ha, hb⟩, hc, hd⟩ := hp _ rfl
 have ha := Qb5 ha
 have hb := Qb5 hb
 have hc := Qb5 hc
 have hd := Qb5 hd
 refine ⟨rfl, rfl, ?_⟩
 refine Eq.mpr (Zf9 a fa b fb c fc d fd _) ?_
 repeat (first | unfold Qjj | unfold Qjk | unfold Qh7)
 refine ?_
 simp only [Qc9, Q19]
 have l1 := Qcf ha hb
 have l2 := Qcf hc hd
 have n1 := Qcq (a := Qaa a) (b := Qaa b)
 have n2 := Qcq (a := Qaa c) (b := Qaa d)
 obtain ⟨y0, y1⟩ := Q25 ha hb hc hd
 have es := Zd2 (Qaa a) (Qaa b) (Qaa c) (Qaa d)
 have e : ∀ n, sv n (Qac (Qaa a * Qaa b + Qaa c * Qaa d)) = Qaa a * Qaa b + Qaa c * Qaa d → sv n (Qac (Qaa a * Qaa b + Qaa c * Qaa d) / 4294967296) = Quq (Qaa a) (Qaa b) (Qaa c) (Qaa d) := fun n h => by rw [Qpx n y0, h]; rfl
 have fin : ∀ fl, fl = ((Qav a fa || Qav b fb) || (Qav c fc || Qav d fd)) → (U64 (Qac (Qaa a * Qaa b + Qaa c * Qaa d) / 4294967296 % 18446744073709551616) ∧ U64 (Qac (Qaa a * Qaa b + Qaa c * Qaa d) / 4294967296 / 18446744073709551616)) ∧ SV.agg [SV.v (.int .i64 (Qlv (plZ (!(decide (Qaa a < 0) == decide (Qaa b < 0)) && Qaa a != 0 && Qaa b != 0) (Qac (Qaa a) * Qac (Qaa b)) (!(decide (Qaa c < 0) == decide (Qaa d < 0)) && Qaa c != 0 && Qaa d != 0) (Qac (Qaa c) * Qac (Qaa d))) (Qac (Qaa a * Qaa b + Qaa c * Qaa d) / 4294967296))), SV.v (.bool (Qkc (Qac (Qaa a * Qaa b + Qaa c * Qaa d) / 4294967296) fl))] = Qcr (Qar (Quq (Qaa a) (Qaa b) (Qaa c) (Qaa d))) (Qcy (Quq (Qaa a) (Qaa b) (Qaa c) (Qaa d)) ((Qav a fa || Qav b fb) || (Qav c fc || Qav d fd))) := by
   intro fl hf
   refine ⟨⟨Qb1 _, Qci (by omega) (by omega)⟩, Qbu ?_ ?_⟩
   · rw [Qg3 _ (by omega), e _ es]
   · rw [Qg4 _ _ (by omega), e _ es, hf]
 refine ⟨⟨ha, hb⟩, ⟨hc, hd⟩, ⟨⟨Qb1 _, Qci n1 (by omega)⟩, ⟨Qb1 _, Qci n2 (by omega)⟩, by omega⟩, ⟨Qb1 _, Qci y0 (by omega)⟩, ?_⟩
 exact Qaf (fun g1 => fin _ (by rw [g1]; simp)) fun g1 => Qaf (fun g2 => fin _ (by simp [g1, g2])) fun g2 => Qaf (fun g3 => fin _ (by simp [g1, g2, g3])) fun g3 => fin _ (by simp [g1, g2, g3])
end Go.Proofs.YteekigmbopdfjaaGreat
end
section
namespace Go.Proofs.YteekigmbopdfjaaGreat
open Go.SE
structure NB where
 v : Int
 f : Bool
def nS (a : NB) : SV := Qcr a.v a.f
def snd (a : NB) : NB := ⟨Qaa a.v, Qav a.v a.f⟩
def Qte (e : Int) (f : Bool) : NB := ⟨Qar e, Qcy e f⟩
def Qf8 (n : Int) : NB := Qte (n * 4294967296) false
def Qct (a : NB) : NB := ⟨-Qaa a.v, Qav a.v a.f⟩
def Qy8 (a : NB) : NB := ⟨Qac (Qaa a.v), Qav a.v a.f⟩
def Qy7 (a b : NB) : NB := Qte (Qaa a.v + Qaa b.v) (Qav a.v a.f || Qav b.v b.f)
def Q41 (a b : NB) : NB := Qte (Qaa a.v - Qaa b.v) (Qav a.v a.f || Qav b.v b.f)
def Qho (a b : NB) : NB := Qte (Qa2 (Qaa a.v) (Qaa b.v)) (Qav a.v a.f || Qav b.v b.f)
def Qd2 (a b : Int) : NB := ⟨Qc4 a b, Qjg a b⟩
def Qda (a b : NB) : NB := ⟨Qc4 (Qaa a.v) (Qaa b.v), Qjg (Qaa a.v) (Qaa b.v) || (Qav a.v a.f || Qav b.v b.f)⟩
def Q5f (a : NB) : NB := ⟨Qat (Qaa a.v), Qav a.v a.f⟩
def Qwv (x l h : NB) : NB := ⟨Qoe (Qaa l.v) (Qme (Qaa x.v) (Qaa h.v)), Qav l.v l.f || (Qav x.v x.f || Qav h.v h.f)⟩
def Qrl (a b : NB) : NB := Qte (Zju (Qaa a.v) (Qaa b.v)) (Qav a.v a.f || Qav b.v b.f)
def Qch (a b c d : NB) : NB := Qte (Quq (Qaa a.v) (Qaa b.v) (Qaa c.v) (Qaa d.v)) ((Qav a.v a.f || Qav b.v b.f) || (Qav c.v c.f || Qav d.v d.f))
def Qhx (v : Int) : Int := if v > 6746518852 then 13493037704 - v else if v < -6746518852 then -13493037704 - v else v
def Zma (a : NB) : NB := ⟨Qhx a.v, a.f⟩
def Qgm (y t : NB) (k : Nat) : NB := Qct (Qda (Qho (Qho t y) y) (Qf8 ((2 * (k + 1)) * (2 * (k + 1) + 1))))
def Qa9 (y : NB) : Nat → NB
 | 0 => y
 | k + 1 => Qgm y (Qa9 y k) k
def Qb2 (y : NB) : Nat → NB
 | 0 => y
 | k + 1 => Qy7 (Qb2 y k) (Qa9 y (k + 1))
def Qmw (a : NB) : NB := Zma (Q5f a)
def Qgn (a : NB) : NB := Qwv (Qb2 (Qmw a) 8) ⟨-4294967296, false⟩ ⟨4294967296, false⟩
def Qiw (a : NB) : NB := Qgn (Qy7 (Q5f a) ⟨6746518852, false⟩)
def Sd (v : Int) : Prop := -9223372036854775807 ≤ v ∧ v ≤ 9223372036854775807
theorem Sd.i64 {v : Int} (h : Sd v) : I64 v := by obtain ⟨_, _⟩ := h; exact ⟨by omega, by omega⟩
theorem Sd.self {v : Int} (h : Sd v) : Qaa v = v := Qby h.1
theorem Sd.flag {v : Int} {f : Bool} (h : Sd v) : Qav v f = f := Qb8 h.1
theorem Q0s {v : Int} (h : I64 v) : Sd (Qaa v) := Qd5 h
theorem Qbp (e : Int) : Sd (Qar e) := by unfold Qar; constructor <;> (repeat' split) <;> omega
theorem Q60 (a : Int) : Sd (Qna a) := by unfold Qna; constructor <;> (repeat' split) <;> omega
theorem Qfr (a b : Int) : Sd (Qc4 a b) := by unfold Qc4; split; exact Q60 a; exact Qbp _
theorem Q2k {v : Int} (h : Sd v) : Sd (-v) := by obtain ⟨_, _⟩ := h; exact ⟨by omega, by omega⟩
theorem Qfz {v : Int} : -13493037704 ≤ Qat v ∧ Qat v ≤ 13493037704 := by
 have h1 := Int.tmod_lt_of_pos v (show (0 : Int) < 26986075409 by decide)
 have h2 : -26986075409 < Int.tmod v 26986075409 := by
   have := Int.neg_tmod v 26986075409
   have h3 := Int.tmod_lt_of_pos (-v) (show (0 : Int) < 26986075409 by decide)
   omega
 unfold Qat
 constructor <;> (repeat' split) <;> omega
theorem Q69 {v : Int} (h : -13493037704 ≤ v ∧ v ≤ 13493037704) : -6746518852 ≤ Qhx v ∧ Qhx v ≤ 6746518852 := by obtain ⟨_, _⟩ := h; unfold Qhx; constructor <;> (repeat' split) <;> omega
theorem Q0v (a : NB) : -6746518852 ≤ (Qmw a).v ∧ (Qmw a).v ≤ 6746518852 := Q69 Qfz
theorem Q0u (a : NB) : Sd (Qmw a).v := by have := Q0v a; exact ⟨by omega, by omega⟩
theorem Qe0 {y : NB} (h : Sd y.v) : ∀ k, Sd (Qa9 y k).v
 | 0 => h
 | k + 1 => Q2k (by
     have := Qfr (Qaa (Qho (Qho (Qa9 y k) y) y).v) (Qaa (Qf8 ((2 * ((k : Int) + 1)) * (2 * ((k : Int) + 1) + 1))).v)
     show Sd (Qaa (Qc4 _ _))
     rw [this.self]; exact this)
theorem Qkj {y : NB} (h : Sd y.v) : ∀ k, Sd (Qb2 y k).v
 | 0 => h
 | _ + 1 => Qbp _
theorem Q3f (x : NB) : -4294967296 ≤ (Qwv x ⟨-4294967296, false⟩ ⟨4294967296, false⟩).v ∧ (Qwv x ⟨-4294967296, false⟩ ⟨4294967296, false⟩).v ≤ 4294967296 := by
 have e1 : Qaa (-4294967296) = -4294967296 := by decide
 have e2 : Qaa 4294967296 = 4294967296 := by decide
 show -4294967296 ≤ Qoe (Qaa (-4294967296)) (Qme (Qaa x.v) (Qaa 4294967296)) ∧ Qoe (Qaa (-4294967296)) (Qme (Qaa x.v) (Qaa 4294967296)) ≤ 4294967296
 rw [e1, e2]
 unfold Qoe Qme
 constructor <;> (repeat' split) <;> omega
theorem Qt1 (a : NB) : -4294967296 ≤ (Qgn a).v ∧ (Qgn a).v ≤ 4294967296 := Q3f _
end Go.Proofs.YteekigmbopdfjaaGreat
end
section
namespace Go.Proofs.YteekigmbopdfjaaGreat
open Go.SE Go.RowKit
def Zjg : Qb7 := Qah (Qah (Qah (Qah (Qah (Qah (Qah (Qah (Qah (Qah (Qah (Qah (Qah (Qah ΓC 228 (Qaj Qxl)) 16 (Qaj Ze0)) 63 (Qaj Ze1)) 156 (Qaj Ze2)) 155 (Qaj Q9b)) 205 (Qaj Ze4)) 150 (Qaj Qm1)) 234 (Qaj Qxl)) 236 (Qaj Ze0)) 218 (Qaj Ze1)) 219 (Qaj Ze2)) 235 (Qaj Q9b)) 233 (Qaj Ze4)) 237 (Qaj Qm1)
def Zex : List SV → Option (Option Prop × SV)
 | [.agg [.v (.int .i64 v), .v (.bool f)]] => some (some (I64 v), nS (Qgn ⟨v, f⟩))
 | _ => none
def Zjp : List SV → Option (Option Prop × SV)
 | [.agg [.v (.int .i64 v), .v (.bool f)]] => some (some (I64 v), nS (Qiw ⟨v, f⟩))
 | _ => none
def vN (a : NB) : Blk := Qep 30 [.v (.int .i64 a.v), .v (.bool a.f)]
noncomputable def Zfd (y : NB) : Nat → Option LoopSpec := Qx6 (Qb9 Qax Tryz.f158 1 Nat (fun k => k ≤ 8) (fun k => 8 - k) [(28, fun k => .v (.int .i64 k))] [(272, fun k => vN (Qa9 y k)), (280, fun k => vN (Qb2 y k))]) 6 [(4, fun nx => nx + 16), (5, fun nx => nx + 24)]
noncomputable def Q8w (y : NB) : Nat → Option LoopSpec := Qx6 (Qb9 Qax Tryz.f162 0 Nat (fun k => k ≤ 8) (fun k => 8 - k) [(6, fun k => .v (.int .i64 ((k : Int) + 1)))] [(256, fun k => vN (Qa9 y k)), (264, fun k => vN (Qb2 y k))]) 6 [(4, fun nx => nx + 16), (5, fun nx => nx + 24)]
@[reducible] noncomputable def Qbo (v : Int) := (Qaa (IntKind.wrap IntKind.i64 (-13493037704 - Qat (Qaa v))))
@[reducible] noncomputable def Qbn (v : Int) := (Qaa (IntKind.wrap IntKind.i64 (13493037704 - Qat (Qaa v))))
theorem Zkn (y : NB) (v : Int) (f : Bool) (R : SV→Prop) : (Qau Tryz.prog Zjg (Zfd y) Tryz.f158 [Qcr v f] R) =
((I64 v)∧(sel (decide (Qat (Qaa v) > 6746518852)) ((∃ x : Nat,((Nat.le x 8)∧(((SV.v (.int .i64 0)) = (SV.v (.int .i64 ((↑x : Int)))))∧((((1 : Nat) = 1)∧(((1 : Nat) ≤ 1)∧(∀ i : Nat,(((i : Nat) < 1)→([(SV.v (.int .i64 (IntKind.wrap IntKind.i64 (13493037704 - Qat (Qaa v))))),(SV.v (.bool (Qav v f)))] = [(SV.v (.int .i64 (NB.v (Qa9 y x)))),(SV.v (.bool (NB.f (Qa9 y x))))])))))∧(((1 : Nat) = 1)∧(((1 : Nat) ≤ 1)∧(∀ i : Nat,(((i : Nat) < 1)→([(SV.v (.int .i64 (IntKind.wrap IntKind.i64 (13493037704 - Qat (Qaa v))))),(SV.v (.bool (Qav v f)))] = [(SV.v (.int .i64 (NB.v (Qb2 y x)))),(SV.v (.bool (NB.f (Qb2 y x))))])))))))))∧(∀ x : Nat,((Nat.le x 8)→(sel (decide ((↑x : Int) < 8)) (((I64 (NB.v (Qa9 y x)))∧(I64 (IntKind.wrap IntKind.i64 (13493037704 - Qat (Qaa v)))))∧(((I64 (Qar (Qa2 (Qaa (NB.v (Qa9 y x))) (Qbn v))))∧(I64 (IntKind.wrap IntKind.i64 (13493037704 - Qat (Qaa v)))))∧((I64 (IntKind.wrap IntKind.i64 (IntKind.wrap IntKind.i64 (2 * IntKind.wrap IntKind.i64 ((↑x : Int) + 1)) * IntKind.wrap IntKind.i64 (IntKind.wrap IntKind.i64 (2 * IntKind.wrap IntKind.i64 ((↑x : Int) + 1)) + 1))))∧(((I64 (Qar (Qa2 (Qaa (Qar (Qa2 (Qaa (NB.v (Qa9 y x))) (Qbn v)))) (Qbn v))))∧(I64 (Qar (IntKind.wrap IntKind.i64 (IntKind.wrap IntKind.i64 (2 * IntKind.wrap IntKind.i64 ((↑x : Int) + 1)) * IntKind.wrap IntKind.i64 (IntKind.wrap IntKind.i64 (2 * IntKind.wrap IntKind.i64 ((↑x : Int) + 1)) + 1)) * 4294967296))))∧((I64 (Qc4 (Qaa (Qar (Qa2 (Qaa (Qar (Qa2 (Qaa (NB.v (Qa9 y x))) (Qbn v)))) (Qbn v)))) (Qaa (Qar (IntKind.wrap IntKind.i64 (IntKind.wrap IntKind.i64 (2 * IntKind.wrap IntKind.i64 ((↑x : Int) + 1)) * IntKind.wrap IntKind.i64 (IntKind.wrap IntKind.i64 (2 * IntKind.wrap IntKind.i64 ((↑x : Int) + 1)) + 1)) * 4294967296)))))∧(((I64 (NB.v (Qb2 y x)))∧(I64 (-Qaa (Qc4 (Qaa (Qar (Qa2 (Qaa (Qar (Qa2 (Qaa (NB.v (Qa9 y x))) (Qbn v)))) (Qbn v)))) (Qaa (Qar (IntKind.wrap IntKind.i64 (IntKind.wrap IntKind.i64 (2 * IntKind.wrap IntKind.i64 ((↑x : Int) + 1)) * IntKind.wrap IntKind.i64 (IntKind.wrap IntKind.i64 (2 * IntKind.wrap IntKind.i64 ((↑x : Int) + 1)) + 1)) * 4294967296)))))))∧(∃ x' : Nat,(((Nat.le x' 8)∧(((SV.v (.int .i64 (IntKind.wrap IntKind.i64 ((↑x : Int) + 1)))) = (SV.v (.int .i64 ((↑x' : Int)))))∧((((1 : Nat) = 1)∧(((1 : Nat) ≤ 1)∧(∀ i : Nat,(((i : Nat) < 1)→([(SV.v (.int .i64 (-Qaa (Qc4 (Qaa (Qar (Qa2 (Qaa (Qar (Qa2 (Qaa (NB.v (Qa9 y x))) (Qbn v)))) (Qbn v)))) (Qaa (Qar (IntKind.wrap IntKind.i64 (IntKind.wrap IntKind.i64 (2 * IntKind.wrap IntKind.i64 ((↑x : Int) + 1)) * IntKind.wrap IntKind.i64 (IntKind.wrap IntKind.i64 (2 * IntKind.wrap IntKind.i64 ((↑x : Int) + 1)) + 1)) * 4294967296))))))),(SV.v (.bool (Qav (Qc4 (Qaa (Qar (Qa2 (Qaa (Qar (Qa2 (Qaa (NB.v (Qa9 y x))) (Qbn v)))) (Qbn v)))) (Qaa (Qar (IntKind.wrap IntKind.i64 (IntKind.wrap IntKind.i64 (2 * IntKind.wrap IntKind.i64 ((↑x : Int) + 1)) * IntKind.wrap IntKind.i64 (IntKind.wrap IntKind.i64 (2 * IntKind.wrap IntKind.i64 ((↑x : Int) + 1)) + 1)) * 4294967296)))) (Qjg (Qaa (Qar (Qa2 (Qaa (Qar (Qa2 (Qaa (NB.v (Qa9 y x))) (Qbn v)))) (Qbn v)))) (Qaa (Qar (IntKind.wrap IntKind.i64 (IntKind.wrap IntKind.i64 (2 * IntKind.wrap IntKind.i64 ((↑x : Int) + 1)) * IntKind.wrap IntKind.i64 (IntKind.wrap IntKind.i64 (2 * IntKind.wrap IntKind.i64 ((↑x : Int) + 1)) + 1)) * 4294967296)))||(Qav (Qar (Qa2 (Qaa (Qar (Qa2 (Qaa (NB.v (Qa9 y x))) (Qbn v)))) (Qbn v))) (Qcy (Qa2 (Qaa (Qar (Qa2 (Qaa (NB.v (Qa9 y x))) (Qbn v)))) (Qbn v)) (Qav (Qar (Qa2 (Qaa (NB.v (Qa9 y x))) (Qbn v))) (Qcy (Qa2 (Qaa (NB.v (Qa9 y x))) (Qbn v)) (Qav (NB.v (Qa9 y x)) (NB.f (Qa9 y x))||Qav (IntKind.wrap IntKind.i64 (13493037704 - Qat (Qaa v))) (Qav v f)))||Qav (IntKind.wrap IntKind.i64 (13493037704 - Qat (Qaa v))) (Qav v f)))||Qav (Qar (IntKind.wrap IntKind.i64 (IntKind.wrap IntKind.i64 (2 * IntKind.wrap IntKind.i64 ((↑x : Int) + 1)) * IntKind.wrap IntKind.i64 (IntKind.wrap IntKind.i64 (2 * IntKind.wrap IntKind.i64 ((↑x : Int) + 1)) + 1)) * 4294967296)) (Qcy (IntKind.wrap IntKind.i64 (IntKind.wrap IntKind.i64 (2 * IntKind.wrap IntKind.i64 ((↑x : Int) + 1)) * IntKind.wrap IntKind.i64 (IntKind.wrap IntKind.i64 (2 * IntKind.wrap IntKind.i64 ((↑x : Int) + 1)) + 1)) * 4294967296) false))))))] = [(SV.v (.int .i64 (NB.v (Qa9 y x')))),(SV.v (.bool (NB.f (Qa9 y x'))))])))))∧(((1 : Nat) = 1)∧(((1 : Nat) ≤ 1)∧(∀ i : Nat,(((i : Nat) < 1)→([(SV.v (.int .i64 (Qar (Qaa (NB.v (Qb2 y x)) + Qaa (-Qaa (Qc4 (Qaa (Qar (Qa2 (Qaa (Qar (Qa2 (Qaa (NB.v (Qa9 y x))) (Qbn v)))) (Qbn v)))) (Qaa (Qar (IntKind.wrap IntKind.i64 (IntKind.wrap IntKind.i64 (2 * IntKind.wrap IntKind.i64 ((↑x : Int) + 1)) * IntKind.wrap IntKind.i64 (IntKind.wrap IntKind.i64 (2 * IntKind.wrap IntKind.i64 ((↑x : Int) + 1)) + 1)) * 4294967296))))))))),(SV.v (.bool (Qcy (Qaa (NB.v (Qb2 y x)) + Qaa (-Qaa (Qc4 (Qaa (Qar (Qa2 (Qaa (Qar (Qa2 (Qaa (NB.v (Qa9 y x))) (Qbn v)))) (Qbn v)))) (Qaa (Qar (IntKind.wrap IntKind.i64 (IntKind.wrap IntKind.i64 (2 * IntKind.wrap IntKind.i64 ((↑x : Int) + 1)) * IntKind.wrap IntKind.i64 (IntKind.wrap IntKind.i64 (2 * IntKind.wrap IntKind.i64 ((↑x : Int) + 1)) + 1)) * 4294967296)))))) (Qav (NB.v (Qb2 y x)) (NB.f (Qb2 y x))||Qav (-Qaa (Qc4 (Qaa (Qar (Qa2 (Qaa (Qar (Qa2 (Qaa (NB.v (Qa9 y x))) (Qbn v)))) (Qbn v)))) (Qaa (Qar (IntKind.wrap IntKind.i64 (IntKind.wrap IntKind.i64 (2 * IntKind.wrap IntKind.i64 ((↑x : Int) + 1)) * IntKind.wrap IntKind.i64 (IntKind.wrap IntKind.i64 (2 * IntKind.wrap IntKind.i64 ((↑x : Int) + 1)) + 1)) * 4294967296))))) (Qav (Qc4 (Qaa (Qar (Qa2 (Qaa (Qar (Qa2 (Qaa (NB.v (Qa9 y x))) (Qbn v)))) (Qbn v)))) (Qaa (Qar (IntKind.wrap IntKind.i64 (IntKind.wrap IntKind.i64 (2 * IntKind.wrap IntKind.i64 ((↑x : Int) + 1)) * IntKind.wrap IntKind.i64 (IntKind.wrap IntKind.i64 (2 * IntKind.wrap IntKind.i64 ((↑x : Int) + 1)) + 1)) * 4294967296)))) (Qjg (Qaa (Qar (Qa2 (Qaa (Qar (Qa2 (Qaa (NB.v (Qa9 y x))) (Qbn v)))) (Qbn v)))) (Qaa (Qar (IntKind.wrap IntKind.i64 (IntKind.wrap IntKind.i64 (2 * IntKind.wrap IntKind.i64 ((↑x : Int) + 1)) * IntKind.wrap IntKind.i64 (IntKind.wrap IntKind.i64 (2 * IntKind.wrap IntKind.i64 ((↑x : Int) + 1)) + 1)) * 4294967296)))||(Qav (Qar (Qa2 (Qaa (Qar (Qa2 (Qaa (NB.v (Qa9 y x))) (Qbn v)))) (Qbn v))) (Qcy (Qa2 (Qaa (Qar (Qa2 (Qaa (NB.v (Qa9 y x))) (Qbn v)))) (Qbn v)) (Qav (Qar (Qa2 (Qaa (NB.v (Qa9 y x))) (Qbn v))) (Qcy (Qa2 (Qaa (NB.v (Qa9 y x))) (Qbn v)) (Qav (NB.v (Qa9 y x)) (NB.f (Qa9 y x))||Qav (IntKind.wrap IntKind.i64 (13493037704 - Qat (Qaa v))) (Qav v f)))||Qav (IntKind.wrap IntKind.i64 (13493037704 - Qat (Qaa v))) (Qav v f)))||Qav (Qar (IntKind.wrap IntKind.i64 (IntKind.wrap IntKind.i64 (2 * IntKind.wrap IntKind.i64 ((↑x : Int) + 1)) * IntKind.wrap IntKind.i64 (IntKind.wrap IntKind.i64 (2 * IntKind.wrap IntKind.i64 ((↑x : Int) + 1)) + 1)) * 4294967296)) (Qcy (IntKind.wrap IntKind.i64 (IntKind.wrap IntKind.i64 (2 * IntKind.wrap IntKind.i64 ((↑x : Int) + 1)) * IntKind.wrap IntKind.i64 (IntKind.wrap IntKind.i64 (2 * IntKind.wrap IntKind.i64 ((↑x : Int) + 1)) + 1)) * 4294967296) false))))))))] = [(SV.v (.int .i64 (NB.v (Qb2 y x')))),(SV.v (.bool (NB.f (Qb2 y x'))))]))))))))∧(((8 - x') : Nat) < (8 - x)))))))))) ((I64 (-1))∧((I64 1)∧(((I64 (NB.v (Qb2 y x)))∧((I64 (-4294967296))∧(I64 4294967296)))∧(R (SV.agg [(SV.v (.int .i64 (Qoe (-4294967296) (Qme (Qaa (NB.v (Qb2 y x))) 4294967296)))),(SV.v (.bool (false||(Qav (NB.v (Qb2 y x)) (NB.f (Qb2 y x))||false))))]))))))))) (sel (decide (Qat (Qaa v) < -6746518852)) ((∃ x : Nat,((Nat.le x 8)∧(((SV.v (.int .i64 0)) = (SV.v (.int .i64 ((↑x : Int)))))∧((((1 : Nat) = 1)∧(((1 : Nat) ≤ 1)∧(∀ i : Nat,(((i : Nat) < 1)→([(SV.v (.int .i64 (IntKind.wrap IntKind.i64 (-13493037704 - Qat (Qaa v))))),(SV.v (.bool (Qav v f)))] = [(SV.v (.int .i64 (NB.v (Qa9 y x)))),(SV.v (.bool (NB.f (Qa9 y x))))])))))∧(((1 : Nat) = 1)∧(((1 : Nat) ≤ 1)∧(∀ i : Nat,(((i : Nat) < 1)→([(SV.v (.int .i64 (IntKind.wrap IntKind.i64 (-13493037704 - Qat (Qaa v))))),(SV.v (.bool (Qav v f)))] = [(SV.v (.int .i64 (NB.v (Qb2 y x)))),(SV.v (.bool (NB.f (Qb2 y x))))])))))))))∧(∀ x : Nat,((Nat.le x 8)→(sel (decide ((↑x : Int) < 8)) (((I64 (NB.v (Qa9 y x)))∧(I64 (IntKind.wrap IntKind.i64 (-13493037704 - Qat (Qaa v)))))∧(((I64 (Qar (Qa2 (Qaa (NB.v (Qa9 y x))) (Qbo v))))∧(I64 (IntKind.wrap IntKind.i64 (-13493037704 - Qat (Qaa v)))))∧((I64 (IntKind.wrap IntKind.i64 (IntKind.wrap IntKind.i64 (2 * IntKind.wrap IntKind.i64 ((↑x : Int) + 1)) * IntKind.wrap IntKind.i64 (IntKind.wrap IntKind.i64 (2 * IntKind.wrap IntKind.i64 ((↑x : Int) + 1)) + 1))))∧(((I64 (Qar (Qa2 (Qaa (Qar (Qa2 (Qaa (NB.v (Qa9 y x))) (Qbo v)))) (Qbo v))))∧(I64 (Qar (IntKind.wrap IntKind.i64 (IntKind.wrap IntKind.i64 (2 * IntKind.wrap IntKind.i64 ((↑x : Int) + 1)) * IntKind.wrap IntKind.i64 (IntKind.wrap IntKind.i64 (2 * IntKind.wrap IntKind.i64 ((↑x : Int) + 1)) + 1)) * 4294967296))))∧((I64 (Qc4 (Qaa (Qar (Qa2 (Qaa (Qar (Qa2 (Qaa (NB.v (Qa9 y x))) (Qbo v)))) (Qbo v)))) (Qaa (Qar (IntKind.wrap IntKind.i64 (IntKind.wrap IntKind.i64 (2 * IntKind.wrap IntKind.i64 ((↑x : Int) + 1)) * IntKind.wrap IntKind.i64 (IntKind.wrap IntKind.i64 (2 * IntKind.wrap IntKind.i64 ((↑x : Int) + 1)) + 1)) * 4294967296)))))∧(((I64 (NB.v (Qb2 y x)))∧(I64 (-Qaa (Qc4 (Qaa (Qar (Qa2 (Qaa (Qar (Qa2 (Qaa (NB.v (Qa9 y x))) (Qbo v)))) (Qbo v)))) (Qaa (Qar (IntKind.wrap IntKind.i64 (IntKind.wrap IntKind.i64 (2 * IntKind.wrap IntKind.i64 ((↑x : Int) + 1)) * IntKind.wrap IntKind.i64 (IntKind.wrap IntKind.i64 (2 * IntKind.wrap IntKind.i64 ((↑x : Int) + 1)) + 1)) * 4294967296)))))))∧(∃ x' : Nat,(((Nat.le x' 8)∧(((SV.v (.int .i64 (IntKind.wrap IntKind.i64 ((↑x : Int) + 1)))) = (SV.v (.int .i64 ((↑x' : Int)))))∧((((1 : Nat) = 1)∧(((1 : Nat) ≤ 1)∧(∀ i : Nat,(((i : Nat) < 1)→([(SV.v (.int .i64 (-Qaa (Qc4 (Qaa (Qar (Qa2 (Qaa (Qar (Qa2 (Qaa (NB.v (Qa9 y x))) (Qbo v)))) (Qbo v)))) (Qaa (Qar (IntKind.wrap IntKind.i64 (IntKind.wrap IntKind.i64 (2 * IntKind.wrap IntKind.i64 ((↑x : Int) + 1)) * IntKind.wrap IntKind.i64 (IntKind.wrap IntKind.i64 (2 * IntKind.wrap IntKind.i64 ((↑x : Int) + 1)) + 1)) * 4294967296))))))),(SV.v (.bool (Qav (Qc4 (Qaa (Qar (Qa2 (Qaa (Qar (Qa2 (Qaa (NB.v (Qa9 y x))) (Qbo v)))) (Qbo v)))) (Qaa (Qar (IntKind.wrap IntKind.i64 (IntKind.wrap IntKind.i64 (2 * IntKind.wrap IntKind.i64 ((↑x : Int) + 1)) * IntKind.wrap IntKind.i64 (IntKind.wrap IntKind.i64 (2 * IntKind.wrap IntKind.i64 ((↑x : Int) + 1)) + 1)) * 4294967296)))) (Qjg (Qaa (Qar (Qa2 (Qaa (Qar (Qa2 (Qaa (NB.v (Qa9 y x))) (Qbo v)))) (Qbo v)))) (Qaa (Qar (IntKind.wrap IntKind.i64 (IntKind.wrap IntKind.i64 (2 * IntKind.wrap IntKind.i64 ((↑x : Int) + 1)) * IntKind.wrap IntKind.i64 (IntKind.wrap IntKind.i64 (2 * IntKind.wrap IntKind.i64 ((↑x : Int) + 1)) + 1)) * 4294967296)))||(Qav (Qar (Qa2 (Qaa (Qar (Qa2 (Qaa (NB.v (Qa9 y x))) (Qbo v)))) (Qbo v))) (Qcy (Qa2 (Qaa (Qar (Qa2 (Qaa (NB.v (Qa9 y x))) (Qbo v)))) (Qbo v)) (Qav (Qar (Qa2 (Qaa (NB.v (Qa9 y x))) (Qbo v))) (Qcy (Qa2 (Qaa (NB.v (Qa9 y x))) (Qbo v)) (Qav (NB.v (Qa9 y x)) (NB.f (Qa9 y x))||Qav (IntKind.wrap IntKind.i64 (-13493037704 - Qat (Qaa v))) (Qav v f)))||Qav (IntKind.wrap IntKind.i64 (-13493037704 - Qat (Qaa v))) (Qav v f)))||Qav (Qar (IntKind.wrap IntKind.i64 (IntKind.wrap IntKind.i64 (2 * IntKind.wrap IntKind.i64 ((↑x : Int) + 1)) * IntKind.wrap IntKind.i64 (IntKind.wrap IntKind.i64 (2 * IntKind.wrap IntKind.i64 ((↑x : Int) + 1)) + 1)) * 4294967296)) (Qcy (IntKind.wrap IntKind.i64 (IntKind.wrap IntKind.i64 (2 * IntKind.wrap IntKind.i64 ((↑x : Int) + 1)) * IntKind.wrap IntKind.i64 (IntKind.wrap IntKind.i64 (2 * IntKind.wrap IntKind.i64 ((↑x : Int) + 1)) + 1)) * 4294967296) false))))))] = [(SV.v (.int .i64 (NB.v (Qa9 y x')))),(SV.v (.bool (NB.f (Qa9 y x'))))])))))∧(((1 : Nat) = 1)∧(((1 : Nat) ≤ 1)∧(∀ i : Nat,(((i : Nat) < 1)→([(SV.v (.int .i64 (Qar (Qaa (NB.v (Qb2 y x)) + Qaa (-Qaa (Qc4 (Qaa (Qar (Qa2 (Qaa (Qar (Qa2 (Qaa (NB.v (Qa9 y x))) (Qbo v)))) (Qbo v)))) (Qaa (Qar (IntKind.wrap IntKind.i64 (IntKind.wrap IntKind.i64 (2 * IntKind.wrap IntKind.i64 ((↑x : Int) + 1)) * IntKind.wrap IntKind.i64 (IntKind.wrap IntKind.i64 (2 * IntKind.wrap IntKind.i64 ((↑x : Int) + 1)) + 1)) * 4294967296))))))))),(SV.v (.bool (Qcy (Qaa (NB.v (Qb2 y x)) + Qaa (-Qaa (Qc4 (Qaa (Qar (Qa2 (Qaa (Qar (Qa2 (Qaa (NB.v (Qa9 y x))) (Qbo v)))) (Qbo v)))) (Qaa (Qar (IntKind.wrap IntKind.i64 (IntKind.wrap IntKind.i64 (2 * IntKind.wrap IntKind.i64 ((↑x : Int) + 1)) * IntKind.wrap IntKind.i64 (IntKind.wrap IntKind.i64 (2 * IntKind.wrap IntKind.i64 ((↑x : Int) + 1)) + 1)) * 4294967296)))))) (Qav (NB.v (Qb2 y x)) (NB.f (Qb2 y x))||Qav (-Qaa (Qc4 (Qaa (Qar (Qa2 (Qaa (Qar (Qa2 (Qaa (NB.v (Qa9 y x))) (Qbo v)))) (Qbo v)))) (Qaa (Qar (IntKind.wrap IntKind.i64 (IntKind.wrap IntKind.i64 (2 * IntKind.wrap IntKind.i64 ((↑x : Int) + 1)) * IntKind.wrap IntKind.i64 (IntKind.wrap IntKind.i64 (2 * IntKind.wrap IntKind.i64 ((↑x : Int) + 1)) + 1)) * 4294967296))))) (Qav (Qc4 (Qaa (Qar (Qa2 (Qaa (Qar (Qa2 (Qaa (NB.v (Qa9 y x))) (Qbo v)))) (Qbo v)))) (Qaa (Qar (IntKind.wrap IntKind.i64 (IntKind.wrap IntKind.i64 (2 * IntKind.wrap IntKind.i64 ((↑x : Int) + 1)) * IntKind.wrap IntKind.i64 (IntKind.wrap IntKind.i64 (2 * IntKind.wrap IntKind.i64 ((↑x : Int) + 1)) + 1)) * 4294967296)))) (Qjg (Qaa (Qar (Qa2 (Qaa (Qar (Qa2 (Qaa (NB.v (Qa9 y x))) (Qbo v)))) (Qbo v)))) (Qaa (Qar (IntKind.wrap IntKind.i64 (IntKind.wrap IntKind.i64 (2 * IntKind.wrap IntKind.i64 ((↑x : Int) + 1)) * IntKind.wrap IntKind.i64 (IntKind.wrap IntKind.i64 (2 * IntKind.wrap IntKind.i64 ((↑x : Int) + 1)) + 1)) * 4294967296)))||(Qav (Qar (Qa2 (Qaa (Qar (Qa2 (Qaa (NB.v (Qa9 y x))) (Qbo v)))) (Qbo v))) (Qcy (Qa2 (Qaa (Qar (Qa2 (Qaa (NB.v (Qa9 y x))) (Qbo v)))) (Qbo v)) (Qav (Qar (Qa2 (Qaa (NB.v (Qa9 y x))) (Qbo v))) (Qcy (Qa2 (Qaa (NB.v (Qa9 y x))) (Qbo v)) (Qav (NB.v (Qa9 y x)) (NB.f (Qa9 y x))||Qav (IntKind.wrap IntKind.i64 (-13493037704 - Qat (Qaa v))) (Qav v f)))||Qav (IntKind.wrap IntKind.i64 (-13493037704 - Qat (Qaa v))) (Qav v f)))||Qav (Qar (IntKind.wrap IntKind.i64 (IntKind.wrap IntKind.i64 (2 * IntKind.wrap IntKind.i64 ((↑x : Int) + 1)) * IntKind.wrap IntKind.i64 (IntKind.wrap IntKind.i64 (2 * IntKind.wrap IntKind.i64 ((↑x : Int) + 1)) + 1)) * 4294967296)) (Qcy (IntKind.wrap IntKind.i64 (IntKind.wrap IntKind.i64 (2 * IntKind.wrap IntKind.i64 ((↑x : Int) + 1)) * IntKind.wrap IntKind.i64 (IntKind.wrap IntKind.i64 (2 * IntKind.wrap IntKind.i64 ((↑x : Int) + 1)) + 1)) * 4294967296) false))))))))] = [(SV.v (.int .i64 (NB.v (Qb2 y x')))),(SV.v (.bool (NB.f (Qb2 y x'))))]))))))))∧(((8 - x') : Nat) < (8 - x)))))))))) ((I64 (-1))∧((I64 1)∧(((I64 (NB.v (Qb2 y x)))∧((I64 (-4294967296))∧(I64 4294967296)))∧(R (SV.agg [(SV.v (.int .i64 (Qoe (-4294967296) (Qme (Qaa (NB.v (Qb2 y x))) 4294967296)))),(SV.v (.bool (false||(Qav (NB.v (Qb2 y x)) (NB.f (Qb2 y x))||false))))]))))))))) ((∃ x : Nat,((Nat.le x 8)∧(((SV.v (.int .i64 0)) = (SV.v (.int .i64 ((↑x : Int)))))∧((((1 : Nat) = 1)∧(((1 : Nat) ≤ 1)∧(∀ i : Nat,(((i : Nat) < 1)→([(SV.v (.int .i64 (Qat (Qaa v)))),(SV.v (.bool (Qav v f)))] = [(SV.v (.int .i64 (NB.v (Qa9 y x)))),(SV.v (.bool (NB.f (Qa9 y x))))])))))∧(((1 : Nat) = 1)∧(((1 : Nat) ≤ 1)∧(∀ i : Nat,(((i : Nat) < 1)→([(SV.v (.int .i64 (Qat (Qaa v)))),(SV.v (.bool (Qav v f)))] = [(SV.v (.int .i64 (NB.v (Qb2 y x)))),(SV.v (.bool (NB.f (Qb2 y x))))])))))))))∧(∀ x : Nat,((Nat.le x 8)→(sel (decide ((↑x : Int) < 8)) (((I64 (NB.v (Qa9 y x)))∧(I64 (Qat (Qaa v))))∧(((I64 (Qar (Qa2 (Qaa (NB.v (Qa9 y x))) (Qaa (Qat (Qaa v))))))∧(I64 (Qat (Qaa v))))∧((I64 (IntKind.wrap IntKind.i64 (IntKind.wrap IntKind.i64 (2 * IntKind.wrap IntKind.i64 ((↑x : Int) + 1)) * IntKind.wrap IntKind.i64 (IntKind.wrap IntKind.i64 (2 * IntKind.wrap IntKind.i64 ((↑x : Int) + 1)) + 1))))∧(((I64 (Qar (Qa2 (Qaa (Qar (Qa2 (Qaa (NB.v (Qa9 y x))) (Qaa (Qat (Qaa v)))))) (Qaa (Qat (Qaa v))))))∧(I64 (Qar (IntKind.wrap IntKind.i64 (IntKind.wrap IntKind.i64 (2 * IntKind.wrap IntKind.i64 ((↑x : Int) + 1)) * IntKind.wrap IntKind.i64 (IntKind.wrap IntKind.i64 (2 * IntKind.wrap IntKind.i64 ((↑x : Int) + 1)) + 1)) * 4294967296))))∧((I64 (Qc4 (Qaa (Qar (Qa2 (Qaa (Qar (Qa2 (Qaa (NB.v (Qa9 y x))) (Qaa (Qat (Qaa v)))))) (Qaa (Qat (Qaa v)))))) (Qaa (Qar (IntKind.wrap IntKind.i64 (IntKind.wrap IntKind.i64 (2 * IntKind.wrap IntKind.i64 ((↑x : Int) + 1)) * IntKind.wrap IntKind.i64 (IntKind.wrap IntKind.i64 (2 * IntKind.wrap IntKind.i64 ((↑x : Int) + 1)) + 1)) * 4294967296)))))∧(((I64 (NB.v (Qb2 y x)))∧(I64 (-Qaa (Qc4 (Qaa (Qar (Qa2 (Qaa (Qar (Qa2 (Qaa (NB.v (Qa9 y x))) (Qaa (Qat (Qaa v)))))) (Qaa (Qat (Qaa v)))))) (Qaa (Qar (IntKind.wrap IntKind.i64 (IntKind.wrap IntKind.i64 (2 * IntKind.wrap IntKind.i64 ((↑x : Int) + 1)) * IntKind.wrap IntKind.i64 (IntKind.wrap IntKind.i64 (2 * IntKind.wrap IntKind.i64 ((↑x : Int) + 1)) + 1)) * 4294967296)))))))∧(∃ x' : Nat,(((Nat.le x' 8)∧(((SV.v (.int .i64 (IntKind.wrap IntKind.i64 ((↑x : Int) + 1)))) = (SV.v (.int .i64 ((↑x' : Int)))))∧((((1 : Nat) = 1)∧(((1 : Nat) ≤ 1)∧(∀ i : Nat,(((i : Nat) < 1)→([(SV.v (.int .i64 (-Qaa (Qc4 (Qaa (Qar (Qa2 (Qaa (Qar (Qa2 (Qaa (NB.v (Qa9 y x))) (Qaa (Qat (Qaa v)))))) (Qaa (Qat (Qaa v)))))) (Qaa (Qar (IntKind.wrap IntKind.i64 (IntKind.wrap IntKind.i64 (2 * IntKind.wrap IntKind.i64 ((↑x : Int) + 1)) * IntKind.wrap IntKind.i64 (IntKind.wrap IntKind.i64 (2 * IntKind.wrap IntKind.i64 ((↑x : Int) + 1)) + 1)) * 4294967296))))))),(SV.v (.bool (Qav (Qc4 (Qaa (Qar (Qa2 (Qaa (Qar (Qa2 (Qaa (NB.v (Qa9 y x))) (Qaa (Qat (Qaa v)))))) (Qaa (Qat (Qaa v)))))) (Qaa (Qar (IntKind.wrap IntKind.i64 (IntKind.wrap IntKind.i64 (2 * IntKind.wrap IntKind.i64 ((↑x : Int) + 1)) * IntKind.wrap IntKind.i64 (IntKind.wrap IntKind.i64 (2 * IntKind.wrap IntKind.i64 ((↑x : Int) + 1)) + 1)) * 4294967296)))) (Qjg (Qaa (Qar (Qa2 (Qaa (Qar (Qa2 (Qaa (NB.v (Qa9 y x))) (Qaa (Qat (Qaa v)))))) (Qaa (Qat (Qaa v)))))) (Qaa (Qar (IntKind.wrap IntKind.i64 (IntKind.wrap IntKind.i64 (2 * IntKind.wrap IntKind.i64 ((↑x : Int) + 1)) * IntKind.wrap IntKind.i64 (IntKind.wrap IntKind.i64 (2 * IntKind.wrap IntKind.i64 ((↑x : Int) + 1)) + 1)) * 4294967296)))||(Qav (Qar (Qa2 (Qaa (Qar (Qa2 (Qaa (NB.v (Qa9 y x))) (Qaa (Qat (Qaa v)))))) (Qaa (Qat (Qaa v))))) (Qcy (Qa2 (Qaa (Qar (Qa2 (Qaa (NB.v (Qa9 y x))) (Qaa (Qat (Qaa v)))))) (Qaa (Qat (Qaa v)))) (Qav (Qar (Qa2 (Qaa (NB.v (Qa9 y x))) (Qaa (Qat (Qaa v))))) (Qcy (Qa2 (Qaa (NB.v (Qa9 y x))) (Qaa (Qat (Qaa v)))) (Qav (NB.v (Qa9 y x)) (NB.f (Qa9 y x))||Qav (Qat (Qaa v)) (Qav v f)))||Qav (Qat (Qaa v)) (Qav v f)))||Qav (Qar (IntKind.wrap IntKind.i64 (IntKind.wrap IntKind.i64 (2 * IntKind.wrap IntKind.i64 ((↑x : Int) + 1)) * IntKind.wrap IntKind.i64 (IntKind.wrap IntKind.i64 (2 * IntKind.wrap IntKind.i64 ((↑x : Int) + 1)) + 1)) * 4294967296)) (Qcy (IntKind.wrap IntKind.i64 (IntKind.wrap IntKind.i64 (2 * IntKind.wrap IntKind.i64 ((↑x : Int) + 1)) * IntKind.wrap IntKind.i64 (IntKind.wrap IntKind.i64 (2 * IntKind.wrap IntKind.i64 ((↑x : Int) + 1)) + 1)) * 4294967296) false))))))] = [(SV.v (.int .i64 (NB.v (Qa9 y x')))),(SV.v (.bool (NB.f (Qa9 y x'))))])))))∧(((1 : Nat) = 1)∧(((1 : Nat) ≤ 1)∧(∀ i : Nat,(((i : Nat) < 1)→([(SV.v (.int .i64 (Qar (Qaa (NB.v (Qb2 y x)) + Qaa (-Qaa (Qc4 (Qaa (Qar (Qa2 (Qaa (Qar (Qa2 (Qaa (NB.v (Qa9 y x))) (Qaa (Qat (Qaa v)))))) (Qaa (Qat (Qaa v)))))) (Qaa (Qar (IntKind.wrap IntKind.i64 (IntKind.wrap IntKind.i64 (2 * IntKind.wrap IntKind.i64 ((↑x : Int) + 1)) * IntKind.wrap IntKind.i64 (IntKind.wrap IntKind.i64 (2 * IntKind.wrap IntKind.i64 ((↑x : Int) + 1)) + 1)) * 4294967296))))))))),(SV.v (.bool (Qcy (Qaa (NB.v (Qb2 y x)) + Qaa (-Qaa (Qc4 (Qaa (Qar (Qa2 (Qaa (Qar (Qa2 (Qaa (NB.v (Qa9 y x))) (Qaa (Qat (Qaa v)))))) (Qaa (Qat (Qaa v)))))) (Qaa (Qar (IntKind.wrap IntKind.i64 (IntKind.wrap IntKind.i64 (2 * IntKind.wrap IntKind.i64 ((↑x : Int) + 1)) * IntKind.wrap IntKind.i64 (IntKind.wrap IntKind.i64 (2 * IntKind.wrap IntKind.i64 ((↑x : Int) + 1)) + 1)) * 4294967296)))))) (Qav (NB.v (Qb2 y x)) (NB.f (Qb2 y x))||Qav (-Qaa (Qc4 (Qaa (Qar (Qa2 (Qaa (Qar (Qa2 (Qaa (NB.v (Qa9 y x))) (Qaa (Qat (Qaa v)))))) (Qaa (Qat (Qaa v)))))) (Qaa (Qar (IntKind.wrap IntKind.i64 (IntKind.wrap IntKind.i64 (2 * IntKind.wrap IntKind.i64 ((↑x : Int) + 1)) * IntKind.wrap IntKind.i64 (IntKind.wrap IntKind.i64 (2 * IntKind.wrap IntKind.i64 ((↑x : Int) + 1)) + 1)) * 4294967296))))) (Qav (Qc4 (Qaa (Qar (Qa2 (Qaa (Qar (Qa2 (Qaa (NB.v (Qa9 y x))) (Qaa (Qat (Qaa v)))))) (Qaa (Qat (Qaa v)))))) (Qaa (Qar (IntKind.wrap IntKind.i64 (IntKind.wrap IntKind.i64 (2 * IntKind.wrap IntKind.i64 ((↑x : Int) + 1)) * IntKind.wrap IntKind.i64 (IntKind.wrap IntKind.i64 (2 * IntKind.wrap IntKind.i64 ((↑x : Int) + 1)) + 1)) * 4294967296)))) (Qjg (Qaa (Qar (Qa2 (Qaa (Qar (Qa2 (Qaa (NB.v (Qa9 y x))) (Qaa (Qat (Qaa v)))))) (Qaa (Qat (Qaa v)))))) (Qaa (Qar (IntKind.wrap IntKind.i64 (IntKind.wrap IntKind.i64 (2 * IntKind.wrap IntKind.i64 ((↑x : Int) + 1)) * IntKind.wrap IntKind.i64 (IntKind.wrap IntKind.i64 (2 * IntKind.wrap IntKind.i64 ((↑x : Int) + 1)) + 1)) * 4294967296)))||(Qav (Qar (Qa2 (Qaa (Qar (Qa2 (Qaa (NB.v (Qa9 y x))) (Qaa (Qat (Qaa v)))))) (Qaa (Qat (Qaa v))))) (Qcy (Qa2 (Qaa (Qar (Qa2 (Qaa (NB.v (Qa9 y x))) (Qaa (Qat (Qaa v)))))) (Qaa (Qat (Qaa v)))) (Qav (Qar (Qa2 (Qaa (NB.v (Qa9 y x))) (Qaa (Qat (Qaa v))))) (Qcy (Qa2 (Qaa (NB.v (Qa9 y x))) (Qaa (Qat (Qaa v)))) (Qav (NB.v (Qa9 y x)) (NB.f (Qa9 y x))||Qav (Qat (Qaa v)) (Qav v f)))||Qav (Qat (Qaa v)) (Qav v f)))||Qav (Qar (IntKind.wrap IntKind.i64 (IntKind.wrap IntKind.i64 (2 * IntKind.wrap IntKind.i64 ((↑x : Int) + 1)) * IntKind.wrap IntKind.i64 (IntKind.wrap IntKind.i64 (2 * IntKind.wrap IntKind.i64 ((↑x : Int) + 1)) + 1)) * 4294967296)) (Qcy (IntKind.wrap IntKind.i64 (IntKind.wrap IntKind.i64 (2 * IntKind.wrap IntKind.i64 ((↑x : Int) + 1)) * IntKind.wrap IntKind.i64 (IntKind.wrap IntKind.i64 (2 * IntKind.wrap IntKind.i64 ((↑x : Int) + 1)) + 1)) * 4294967296) false))))))))] = [(SV.v (.int .i64 (NB.v (Qb2 y x')))),(SV.v (.bool (NB.f (Qb2 y x'))))]))))))))∧(((8 - x') : Nat) < (8 - x)))))))))) ((I64 (-1))∧((I64 1)∧(((I64 (NB.v (Qb2 y x)))∧((I64 (-4294967296))∧(I64 4294967296)))∧(R (SV.agg [(SV.v (.int .i64 (Qoe (-4294967296) (Qme (Qaa (NB.v (Qb2 y x))) 4294967296)))),(SV.v (.bool (false||(Qav (NB.v (Qb2 y x)) (NB.f (Qb2 y x))||false))))])))))))))))) := by kernel_rfl
@[reducible] noncomputable def Qa8 (v : Int) := (IntKind.wrap IntKind.i64 (-13493037704 - IntKind.wrap IntKind.i64 (13493037704 - Qat (Qaa v))))
@[reducible] noncomputable def Qbg (v : Int) := (Qaa (IntKind.wrap IntKind.i64 (-13493037704 - Qat (Qaa v))))
@[reducible] noncomputable def Qbf (v : Int) := (Qaa (IntKind.wrap IntKind.i64 (13493037704 - Qat (Qaa v))))
theorem Zf2 (y : NB) (v : Int) (f : Bool) (R : SV→Prop) : (Qau Tryz.prog Zjg (Q8w y) Tryz.f162 [Qcr v f] R) =
((I64 v)∧(sel (decide (Qat (Qaa v) > 6746518852)) (sel (decide (IntKind.wrap IntKind.i64 (13493037704 - Qat (Qaa v)) < -6746518852)) ((∃ x : Nat,((Nat.le x 8)∧(((SV.v (.int .i64 1)) = (SV.v (.int .i64 ((↑x : Int) + 1))))∧((((1 : Nat) = 1)∧(((1 : Nat) ≤ 1)∧(∀ i : Nat,(((i : Nat) < 1)→([(SV.v (.int .i64 (Qa8 v))),(SV.v (.bool (Qav v f)))] = [(SV.v (.int .i64 (NB.v (Qa9 y x)))),(SV.v (.bool (NB.f (Qa9 y x))))])))))∧(((1 : Nat) = 1)∧(((1 : Nat) ≤ 1)∧(∀ i : Nat,(((i : Nat) < 1)→([(SV.v (.int .i64 (Qa8 v))),(SV.v (.bool (Qav v f)))] = [(SV.v (.int .i64 (NB.v (Qb2 y x)))),(SV.v (.bool (NB.f (Qb2 y x))))])))))))))∧(∀ x : Nat,((Nat.le x 8)→(sel (decide ((↑x : Int) + 1 ≤ 8)) (((I64 (NB.v (Qa9 y x)))∧(I64 (Qa8 v)))∧(((I64 (Qar (Qa2 (Qaa (NB.v (Qa9 y x))) (Qaa (Qa8 v)))))∧(I64 (Qa8 v)))∧((I64 (IntKind.wrap IntKind.i64 (IntKind.wrap IntKind.i64 (2 * ((↑x : Int) + 1)) * IntKind.wrap IntKind.i64 (IntKind.wrap IntKind.i64 (2 * ((↑x : Int) + 1)) + 1))))∧(((I64 (Qar (Qa2 (Qaa (Qar (Qa2 (Qaa (NB.v (Qa9 y x))) (Qaa (Qa8 v))))) (Qaa (Qa8 v)))))∧(I64 (Qar (IntKind.wrap IntKind.i64 (IntKind.wrap IntKind.i64 (2 * ((↑x : Int) + 1)) * IntKind.wrap IntKind.i64 (IntKind.wrap IntKind.i64 (2 * ((↑x : Int) + 1)) + 1)) * 4294967296))))∧((I64 (Qc4 (Qaa (Qar (Qa2 (Qaa (Qar (Qa2 (Qaa (NB.v (Qa9 y x))) (Qaa (Qa8 v))))) (Qaa (Qa8 v))))) (Qaa (Qar (IntKind.wrap IntKind.i64 (IntKind.wrap IntKind.i64 (2 * ((↑x : Int) + 1)) * IntKind.wrap IntKind.i64 (IntKind.wrap IntKind.i64 (2 * ((↑x : Int) + 1)) + 1)) * 4294967296)))))∧(((I64 (NB.v (Qb2 y x)))∧(I64 (-Qaa (Qc4 (Qaa (Qar (Qa2 (Qaa (Qar (Qa2 (Qaa (NB.v (Qa9 y x))) (Qaa (Qa8 v))))) (Qaa (Qa8 v))))) (Qaa (Qar (IntKind.wrap IntKind.i64 (IntKind.wrap IntKind.i64 (2 * ((↑x : Int) + 1)) * IntKind.wrap IntKind.i64 (IntKind.wrap IntKind.i64 (2 * ((↑x : Int) + 1)) + 1)) * 4294967296)))))))∧(∃ x' : Nat,(((Nat.le x' 8)∧(((SV.v (.int .i64 (IntKind.wrap IntKind.i64 ((↑x : Int) + 1 + 1)))) = (SV.v (.int .i64 ((↑x' : Int) + 1))))∧((((1 : Nat) = 1)∧(((1 : Nat) ≤ 1)∧(∀ i : Nat,(((i : Nat) < 1)→([(SV.v (.int .i64 (-Qaa (Qc4 (Qaa (Qar (Qa2 (Qaa (Qar (Qa2 (Qaa (NB.v (Qa9 y x))) (Qaa (Qa8 v))))) (Qaa (Qa8 v))))) (Qaa (Qar (IntKind.wrap IntKind.i64 (IntKind.wrap IntKind.i64 (2 * ((↑x : Int) + 1)) * IntKind.wrap IntKind.i64 (IntKind.wrap IntKind.i64 (2 * ((↑x : Int) + 1)) + 1)) * 4294967296))))))),(SV.v (.bool (Qav (Qc4 (Qaa (Qar (Qa2 (Qaa (Qar (Qa2 (Qaa (NB.v (Qa9 y x))) (Qaa (Qa8 v))))) (Qaa (Qa8 v))))) (Qaa (Qar (IntKind.wrap IntKind.i64 (IntKind.wrap IntKind.i64 (2 * ((↑x : Int) + 1)) * IntKind.wrap IntKind.i64 (IntKind.wrap IntKind.i64 (2 * ((↑x : Int) + 1)) + 1)) * 4294967296)))) (Qjg (Qaa (Qar (Qa2 (Qaa (Qar (Qa2 (Qaa (NB.v (Qa9 y x))) (Qaa (Qa8 v))))) (Qaa (Qa8 v))))) (Qaa (Qar (IntKind.wrap IntKind.i64 (IntKind.wrap IntKind.i64 (2 * ((↑x : Int) + 1)) * IntKind.wrap IntKind.i64 (IntKind.wrap IntKind.i64 (2 * ((↑x : Int) + 1)) + 1)) * 4294967296)))||(Qav (Qar (Qa2 (Qaa (Qar (Qa2 (Qaa (NB.v (Qa9 y x))) (Qaa (Qa8 v))))) (Qaa (Qa8 v)))) (Qcy (Qa2 (Qaa (Qar (Qa2 (Qaa (NB.v (Qa9 y x))) (Qaa (Qa8 v))))) (Qaa (Qa8 v))) (Qav (Qar (Qa2 (Qaa (NB.v (Qa9 y x))) (Qaa (Qa8 v)))) (Qcy (Qa2 (Qaa (NB.v (Qa9 y x))) (Qaa (Qa8 v))) (Qav (NB.v (Qa9 y x)) (NB.f (Qa9 y x))||Qav (Qa8 v) (Qav v f)))||Qav (Qa8 v) (Qav v f)))||Qav (Qar (IntKind.wrap IntKind.i64 (IntKind.wrap IntKind.i64 (2 * ((↑x : Int) + 1)) * IntKind.wrap IntKind.i64 (IntKind.wrap IntKind.i64 (2 * ((↑x : Int) + 1)) + 1)) * 4294967296)) (Qcy (IntKind.wrap IntKind.i64 (IntKind.wrap IntKind.i64 (2 * ((↑x : Int) + 1)) * IntKind.wrap IntKind.i64 (IntKind.wrap IntKind.i64 (2 * ((↑x : Int) + 1)) + 1)) * 4294967296) false))))))] = [(SV.v (.int .i64 (NB.v (Qa9 y x')))),(SV.v (.bool (NB.f (Qa9 y x'))))])))))∧(((1 : Nat) = 1)∧(((1 : Nat) ≤ 1)∧(∀ i : Nat,(((i : Nat) < 1)→([(SV.v (.int .i64 (Qar (Qaa (NB.v (Qb2 y x)) + Qaa (-Qaa (Qc4 (Qaa (Qar (Qa2 (Qaa (Qar (Qa2 (Qaa (NB.v (Qa9 y x))) (Qaa (Qa8 v))))) (Qaa (Qa8 v))))) (Qaa (Qar (IntKind.wrap IntKind.i64 (IntKind.wrap IntKind.i64 (2 * ((↑x : Int) + 1)) * IntKind.wrap IntKind.i64 (IntKind.wrap IntKind.i64 (2 * ((↑x : Int) + 1)) + 1)) * 4294967296))))))))),(SV.v (.bool (Qcy (Qaa (NB.v (Qb2 y x)) + Qaa (-Qaa (Qc4 (Qaa (Qar (Qa2 (Qaa (Qar (Qa2 (Qaa (NB.v (Qa9 y x))) (Qaa (Qa8 v))))) (Qaa (Qa8 v))))) (Qaa (Qar (IntKind.wrap IntKind.i64 (IntKind.wrap IntKind.i64 (2 * ((↑x : Int) + 1)) * IntKind.wrap IntKind.i64 (IntKind.wrap IntKind.i64 (2 * ((↑x : Int) + 1)) + 1)) * 4294967296)))))) (Qav (NB.v (Qb2 y x)) (NB.f (Qb2 y x))||Qav (-Qaa (Qc4 (Qaa (Qar (Qa2 (Qaa (Qar (Qa2 (Qaa (NB.v (Qa9 y x))) (Qaa (Qa8 v))))) (Qaa (Qa8 v))))) (Qaa (Qar (IntKind.wrap IntKind.i64 (IntKind.wrap IntKind.i64 (2 * ((↑x : Int) + 1)) * IntKind.wrap IntKind.i64 (IntKind.wrap IntKind.i64 (2 * ((↑x : Int) + 1)) + 1)) * 4294967296))))) (Qav (Qc4 (Qaa (Qar (Qa2 (Qaa (Qar (Qa2 (Qaa (NB.v (Qa9 y x))) (Qaa (Qa8 v))))) (Qaa (Qa8 v))))) (Qaa (Qar (IntKind.wrap IntKind.i64 (IntKind.wrap IntKind.i64 (2 * ((↑x : Int) + 1)) * IntKind.wrap IntKind.i64 (IntKind.wrap IntKind.i64 (2 * ((↑x : Int) + 1)) + 1)) * 4294967296)))) (Qjg (Qaa (Qar (Qa2 (Qaa (Qar (Qa2 (Qaa (NB.v (Qa9 y x))) (Qaa (Qa8 v))))) (Qaa (Qa8 v))))) (Qaa (Qar (IntKind.wrap IntKind.i64 (IntKind.wrap IntKind.i64 (2 * ((↑x : Int) + 1)) * IntKind.wrap IntKind.i64 (IntKind.wrap IntKind.i64 (2 * ((↑x : Int) + 1)) + 1)) * 4294967296)))||(Qav (Qar (Qa2 (Qaa (Qar (Qa2 (Qaa (NB.v (Qa9 y x))) (Qaa (Qa8 v))))) (Qaa (Qa8 v)))) (Qcy (Qa2 (Qaa (Qar (Qa2 (Qaa (NB.v (Qa9 y x))) (Qaa (Qa8 v))))) (Qaa (Qa8 v))) (Qav (Qar (Qa2 (Qaa (NB.v (Qa9 y x))) (Qaa (Qa8 v)))) (Qcy (Qa2 (Qaa (NB.v (Qa9 y x))) (Qaa (Qa8 v))) (Qav (NB.v (Qa9 y x)) (NB.f (Qa9 y x))||Qav (Qa8 v) (Qav v f)))||Qav (Qa8 v) (Qav v f)))||Qav (Qar (IntKind.wrap IntKind.i64 (IntKind.wrap IntKind.i64 (2 * ((↑x : Int) + 1)) * IntKind.wrap IntKind.i64 (IntKind.wrap IntKind.i64 (2 * ((↑x : Int) + 1)) + 1)) * 4294967296)) (Qcy (IntKind.wrap IntKind.i64 (IntKind.wrap IntKind.i64 (2 * ((↑x : Int) + 1)) * IntKind.wrap IntKind.i64 (IntKind.wrap IntKind.i64 (2 * ((↑x : Int) + 1)) + 1)) * 4294967296) false))))))))] = [(SV.v (.int .i64 (NB.v (Qb2 y x')))),(SV.v (.bool (NB.f (Qb2 y x'))))]))))))))∧(((8 - x') : Nat) < (8 - x)))))))))) (((I64 (NB.v (Qb2 y x)))∧((I64 (-4294967296))∧(I64 4294967296)))∧(R (SV.agg [(SV.v (.int .i64 (Qoe (-4294967296) (Qme (Qaa (NB.v (Qb2 y x))) 4294967296)))),(SV.v (.bool (false||(Qav (NB.v (Qb2 y x)) (NB.f (Qb2 y x))||false))))]))))))) ((∃ x : Nat,((Nat.le x 8)∧(((SV.v (.int .i64 1)) = (SV.v (.int .i64 ((↑x : Int) + 1))))∧((((1 : Nat) = 1)∧(((1 : Nat) ≤ 1)∧(∀ i : Nat,(((i : Nat) < 1)→([(SV.v (.int .i64 (IntKind.wrap IntKind.i64 (13493037704 - Qat (Qaa v))))),(SV.v (.bool (Qav v f)))] = [(SV.v (.int .i64 (NB.v (Qa9 y x)))),(SV.v (.bool (NB.f (Qa9 y x))))])))))∧(((1 : Nat) = 1)∧(((1 : Nat) ≤ 1)∧(∀ i : Nat,(((i : Nat) < 1)→([(SV.v (.int .i64 (IntKind.wrap IntKind.i64 (13493037704 - Qat (Qaa v))))),(SV.v (.bool (Qav v f)))] = [(SV.v (.int .i64 (NB.v (Qb2 y x)))),(SV.v (.bool (NB.f (Qb2 y x))))])))))))))∧(∀ x : Nat,((Nat.le x 8)→(sel (decide ((↑x : Int) + 1 ≤ 8)) (((I64 (NB.v (Qa9 y x)))∧(I64 (IntKind.wrap IntKind.i64 (13493037704 - Qat (Qaa v)))))∧(((I64 (Qar (Qa2 (Qaa (NB.v (Qa9 y x))) (Qbf v))))∧(I64 (IntKind.wrap IntKind.i64 (13493037704 - Qat (Qaa v)))))∧((I64 (IntKind.wrap IntKind.i64 (IntKind.wrap IntKind.i64 (2 * ((↑x : Int) + 1)) * IntKind.wrap IntKind.i64 (IntKind.wrap IntKind.i64 (2 * ((↑x : Int) + 1)) + 1))))∧(((I64 (Qar (Qa2 (Qaa (Qar (Qa2 (Qaa (NB.v (Qa9 y x))) (Qbf v)))) (Qbf v))))∧(I64 (Qar (IntKind.wrap IntKind.i64 (IntKind.wrap IntKind.i64 (2 * ((↑x : Int) + 1)) * IntKind.wrap IntKind.i64 (IntKind.wrap IntKind.i64 (2 * ((↑x : Int) + 1)) + 1)) * 4294967296))))∧((I64 (Qc4 (Qaa (Qar (Qa2 (Qaa (Qar (Qa2 (Qaa (NB.v (Qa9 y x))) (Qbf v)))) (Qbf v)))) (Qaa (Qar (IntKind.wrap IntKind.i64 (IntKind.wrap IntKind.i64 (2 * ((↑x : Int) + 1)) * IntKind.wrap IntKind.i64 (IntKind.wrap IntKind.i64 (2 * ((↑x : Int) + 1)) + 1)) * 4294967296)))))∧(((I64 (NB.v (Qb2 y x)))∧(I64 (-Qaa (Qc4 (Qaa (Qar (Qa2 (Qaa (Qar (Qa2 (Qaa (NB.v (Qa9 y x))) (Qbf v)))) (Qbf v)))) (Qaa (Qar (IntKind.wrap IntKind.i64 (IntKind.wrap IntKind.i64 (2 * ((↑x : Int) + 1)) * IntKind.wrap IntKind.i64 (IntKind.wrap IntKind.i64 (2 * ((↑x : Int) + 1)) + 1)) * 4294967296)))))))∧(∃ x' : Nat,(((Nat.le x' 8)∧(((SV.v (.int .i64 (IntKind.wrap IntKind.i64 ((↑x : Int) + 1 + 1)))) = (SV.v (.int .i64 ((↑x' : Int) + 1))))∧((((1 : Nat) = 1)∧(((1 : Nat) ≤ 1)∧(∀ i : Nat,(((i : Nat) < 1)→([(SV.v (.int .i64 (-Qaa (Qc4 (Qaa (Qar (Qa2 (Qaa (Qar (Qa2 (Qaa (NB.v (Qa9 y x))) (Qbf v)))) (Qbf v)))) (Qaa (Qar (IntKind.wrap IntKind.i64 (IntKind.wrap IntKind.i64 (2 * ((↑x : Int) + 1)) * IntKind.wrap IntKind.i64 (IntKind.wrap IntKind.i64 (2 * ((↑x : Int) + 1)) + 1)) * 4294967296))))))),(SV.v (.bool (Qav (Qc4 (Qaa (Qar (Qa2 (Qaa (Qar (Qa2 (Qaa (NB.v (Qa9 y x))) (Qbf v)))) (Qbf v)))) (Qaa (Qar (IntKind.wrap IntKind.i64 (IntKind.wrap IntKind.i64 (2 * ((↑x : Int) + 1)) * IntKind.wrap IntKind.i64 (IntKind.wrap IntKind.i64 (2 * ((↑x : Int) + 1)) + 1)) * 4294967296)))) (Qjg (Qaa (Qar (Qa2 (Qaa (Qar (Qa2 (Qaa (NB.v (Qa9 y x))) (Qbf v)))) (Qbf v)))) (Qaa (Qar (IntKind.wrap IntKind.i64 (IntKind.wrap IntKind.i64 (2 * ((↑x : Int) + 1)) * IntKind.wrap IntKind.i64 (IntKind.wrap IntKind.i64 (2 * ((↑x : Int) + 1)) + 1)) * 4294967296)))||(Qav (Qar (Qa2 (Qaa (Qar (Qa2 (Qaa (NB.v (Qa9 y x))) (Qbf v)))) (Qbf v))) (Qcy (Qa2 (Qaa (Qar (Qa2 (Qaa (NB.v (Qa9 y x))) (Qbf v)))) (Qbf v)) (Qav (Qar (Qa2 (Qaa (NB.v (Qa9 y x))) (Qbf v))) (Qcy (Qa2 (Qaa (NB.v (Qa9 y x))) (Qbf v)) (Qav (NB.v (Qa9 y x)) (NB.f (Qa9 y x))||Qav (IntKind.wrap IntKind.i64 (13493037704 - Qat (Qaa v))) (Qav v f)))||Qav (IntKind.wrap IntKind.i64 (13493037704 - Qat (Qaa v))) (Qav v f)))||Qav (Qar (IntKind.wrap IntKind.i64 (IntKind.wrap IntKind.i64 (2 * ((↑x : Int) + 1)) * IntKind.wrap IntKind.i64 (IntKind.wrap IntKind.i64 (2 * ((↑x : Int) + 1)) + 1)) * 4294967296)) (Qcy (IntKind.wrap IntKind.i64 (IntKind.wrap IntKind.i64 (2 * ((↑x : Int) + 1)) * IntKind.wrap IntKind.i64 (IntKind.wrap IntKind.i64 (2 * ((↑x : Int) + 1)) + 1)) * 4294967296) false))))))] = [(SV.v (.int .i64 (NB.v (Qa9 y x')))),(SV.v (.bool (NB.f (Qa9 y x'))))])))))∧(((1 : Nat) = 1)∧(((1 : Nat) ≤ 1)∧(∀ i : Nat,(((i : Nat) < 1)→([(SV.v (.int .i64 (Qar (Qaa (NB.v (Qb2 y x)) + Qaa (-Qaa (Qc4 (Qaa (Qar (Qa2 (Qaa (Qar (Qa2 (Qaa (NB.v (Qa9 y x))) (Qbf v)))) (Qbf v)))) (Qaa (Qar (IntKind.wrap IntKind.i64 (IntKind.wrap IntKind.i64 (2 * ((↑x : Int) + 1)) * IntKind.wrap IntKind.i64 (IntKind.wrap IntKind.i64 (2 * ((↑x : Int) + 1)) + 1)) * 4294967296))))))))),(SV.v (.bool (Qcy (Qaa (NB.v (Qb2 y x)) + Qaa (-Qaa (Qc4 (Qaa (Qar (Qa2 (Qaa (Qar (Qa2 (Qaa (NB.v (Qa9 y x))) (Qbf v)))) (Qbf v)))) (Qaa (Qar (IntKind.wrap IntKind.i64 (IntKind.wrap IntKind.i64 (2 * ((↑x : Int) + 1)) * IntKind.wrap IntKind.i64 (IntKind.wrap IntKind.i64 (2 * ((↑x : Int) + 1)) + 1)) * 4294967296)))))) (Qav (NB.v (Qb2 y x)) (NB.f (Qb2 y x))||Qav (-Qaa (Qc4 (Qaa (Qar (Qa2 (Qaa (Qar (Qa2 (Qaa (NB.v (Qa9 y x))) (Qbf v)))) (Qbf v)))) (Qaa (Qar (IntKind.wrap IntKind.i64 (IntKind.wrap IntKind.i64 (2 * ((↑x : Int) + 1)) * IntKind.wrap IntKind.i64 (IntKind.wrap IntKind.i64 (2 * ((↑x : Int) + 1)) + 1)) * 4294967296))))) (Qav (Qc4 (Qaa (Qar (Qa2 (Qaa (Qar (Qa2 (Qaa (NB.v (Qa9 y x))) (Qbf v)))) (Qbf v)))) (Qaa (Qar (IntKind.wrap IntKind.i64 (IntKind.wrap IntKind.i64 (2 * ((↑x : Int) + 1)) * IntKind.wrap IntKind.i64 (IntKind.wrap IntKind.i64 (2 * ((↑x : Int) + 1)) + 1)) * 4294967296)))) (Qjg (Qaa (Qar (Qa2 (Qaa (Qar (Qa2 (Qaa (NB.v (Qa9 y x))) (Qbf v)))) (Qbf v)))) (Qaa (Qar (IntKind.wrap IntKind.i64 (IntKind.wrap IntKind.i64 (2 * ((↑x : Int) + 1)) * IntKind.wrap IntKind.i64 (IntKind.wrap IntKind.i64 (2 * ((↑x : Int) + 1)) + 1)) * 4294967296)))||(Qav (Qar (Qa2 (Qaa (Qar (Qa2 (Qaa (NB.v (Qa9 y x))) (Qbf v)))) (Qbf v))) (Qcy (Qa2 (Qaa (Qar (Qa2 (Qaa (NB.v (Qa9 y x))) (Qbf v)))) (Qbf v)) (Qav (Qar (Qa2 (Qaa (NB.v (Qa9 y x))) (Qbf v))) (Qcy (Qa2 (Qaa (NB.v (Qa9 y x))) (Qbf v)) (Qav (NB.v (Qa9 y x)) (NB.f (Qa9 y x))||Qav (IntKind.wrap IntKind.i64 (13493037704 - Qat (Qaa v))) (Qav v f)))||Qav (IntKind.wrap IntKind.i64 (13493037704 - Qat (Qaa v))) (Qav v f)))||Qav (Qar (IntKind.wrap IntKind.i64 (IntKind.wrap IntKind.i64 (2 * ((↑x : Int) + 1)) * IntKind.wrap IntKind.i64 (IntKind.wrap IntKind.i64 (2 * ((↑x : Int) + 1)) + 1)) * 4294967296)) (Qcy (IntKind.wrap IntKind.i64 (IntKind.wrap IntKind.i64 (2 * ((↑x : Int) + 1)) * IntKind.wrap IntKind.i64 (IntKind.wrap IntKind.i64 (2 * ((↑x : Int) + 1)) + 1)) * 4294967296) false))))))))] = [(SV.v (.int .i64 (NB.v (Qb2 y x')))),(SV.v (.bool (NB.f (Qb2 y x'))))]))))))))∧(((8 - x') : Nat) < (8 - x)))))))))) (((I64 (NB.v (Qb2 y x)))∧((I64 (-4294967296))∧(I64 4294967296)))∧(R (SV.agg [(SV.v (.int .i64 (Qoe (-4294967296) (Qme (Qaa (NB.v (Qb2 y x))) 4294967296)))),(SV.v (.bool (false||(Qav (NB.v (Qb2 y x)) (NB.f (Qb2 y x))||false))))])))))))) (sel (decide (Qat (Qaa v) < -6746518852)) ((∃ x : Nat,((Nat.le x 8)∧(((SV.v (.int .i64 1)) = (SV.v (.int .i64 ((↑x : Int) + 1))))∧((((1 : Nat) = 1)∧(((1 : Nat) ≤ 1)∧(∀ i : Nat,(((i : Nat) < 1)→([(SV.v (.int .i64 (IntKind.wrap IntKind.i64 (-13493037704 - Qat (Qaa v))))),(SV.v (.bool (Qav v f)))] = [(SV.v (.int .i64 (NB.v (Qa9 y x)))),(SV.v (.bool (NB.f (Qa9 y x))))])))))∧(((1 : Nat) = 1)∧(((1 : Nat) ≤ 1)∧(∀ i : Nat,(((i : Nat) < 1)→([(SV.v (.int .i64 (IntKind.wrap IntKind.i64 (-13493037704 - Qat (Qaa v))))),(SV.v (.bool (Qav v f)))] = [(SV.v (.int .i64 (NB.v (Qb2 y x)))),(SV.v (.bool (NB.f (Qb2 y x))))])))))))))∧(∀ x : Nat,((Nat.le x 8)→(sel (decide ((↑x : Int) + 1 ≤ 8)) (((I64 (NB.v (Qa9 y x)))∧(I64 (IntKind.wrap IntKind.i64 (-13493037704 - Qat (Qaa v)))))∧(((I64 (Qar (Qa2 (Qaa (NB.v (Qa9 y x))) (Qbg v))))∧(I64 (IntKind.wrap IntKind.i64 (-13493037704 - Qat (Qaa v)))))∧((I64 (IntKind.wrap IntKind.i64 (IntKind.wrap IntKind.i64 (2 * ((↑x : Int) + 1)) * IntKind.wrap IntKind.i64 (IntKind.wrap IntKind.i64 (2 * ((↑x : Int) + 1)) + 1))))∧(((I64 (Qar (Qa2 (Qaa (Qar (Qa2 (Qaa (NB.v (Qa9 y x))) (Qbg v)))) (Qbg v))))∧(I64 (Qar (IntKind.wrap IntKind.i64 (IntKind.wrap IntKind.i64 (2 * ((↑x : Int) + 1)) * IntKind.wrap IntKind.i64 (IntKind.wrap IntKind.i64 (2 * ((↑x : Int) + 1)) + 1)) * 4294967296))))∧((I64 (Qc4 (Qaa (Qar (Qa2 (Qaa (Qar (Qa2 (Qaa (NB.v (Qa9 y x))) (Qbg v)))) (Qbg v)))) (Qaa (Qar (IntKind.wrap IntKind.i64 (IntKind.wrap IntKind.i64 (2 * ((↑x : Int) + 1)) * IntKind.wrap IntKind.i64 (IntKind.wrap IntKind.i64 (2 * ((↑x : Int) + 1)) + 1)) * 4294967296)))))∧(((I64 (NB.v (Qb2 y x)))∧(I64 (-Qaa (Qc4 (Qaa (Qar (Qa2 (Qaa (Qar (Qa2 (Qaa (NB.v (Qa9 y x))) (Qbg v)))) (Qbg v)))) (Qaa (Qar (IntKind.wrap IntKind.i64 (IntKind.wrap IntKind.i64 (2 * ((↑x : Int) + 1)) * IntKind.wrap IntKind.i64 (IntKind.wrap IntKind.i64 (2 * ((↑x : Int) + 1)) + 1)) * 4294967296)))))))∧(∃ x' : Nat,(((Nat.le x' 8)∧(((SV.v (.int .i64 (IntKind.wrap IntKind.i64 ((↑x : Int) + 1 + 1)))) = (SV.v (.int .i64 ((↑x' : Int) + 1))))∧((((1 : Nat) = 1)∧(((1 : Nat) ≤ 1)∧(∀ i : Nat,(((i : Nat) < 1)→([(SV.v (.int .i64 (-Qaa (Qc4 (Qaa (Qar (Qa2 (Qaa (Qar (Qa2 (Qaa (NB.v (Qa9 y x))) (Qbg v)))) (Qbg v)))) (Qaa (Qar (IntKind.wrap IntKind.i64 (IntKind.wrap IntKind.i64 (2 * ((↑x : Int) + 1)) * IntKind.wrap IntKind.i64 (IntKind.wrap IntKind.i64 (2 * ((↑x : Int) + 1)) + 1)) * 4294967296))))))),(SV.v (.bool (Qav (Qc4 (Qaa (Qar (Qa2 (Qaa (Qar (Qa2 (Qaa (NB.v (Qa9 y x))) (Qbg v)))) (Qbg v)))) (Qaa (Qar (IntKind.wrap IntKind.i64 (IntKind.wrap IntKind.i64 (2 * ((↑x : Int) + 1)) * IntKind.wrap IntKind.i64 (IntKind.wrap IntKind.i64 (2 * ((↑x : Int) + 1)) + 1)) * 4294967296)))) (Qjg (Qaa (Qar (Qa2 (Qaa (Qar (Qa2 (Qaa (NB.v (Qa9 y x))) (Qbg v)))) (Qbg v)))) (Qaa (Qar (IntKind.wrap IntKind.i64 (IntKind.wrap IntKind.i64 (2 * ((↑x : Int) + 1)) * IntKind.wrap IntKind.i64 (IntKind.wrap IntKind.i64 (2 * ((↑x : Int) + 1)) + 1)) * 4294967296)))||(Qav (Qar (Qa2 (Qaa (Qar (Qa2 (Qaa (NB.v (Qa9 y x))) (Qbg v)))) (Qbg v))) (Qcy (Qa2 (Qaa (Qar (Qa2 (Qaa (NB.v (Qa9 y x))) (Qbg v)))) (Qbg v)) (Qav (Qar (Qa2 (Qaa (NB.v (Qa9 y x))) (Qbg v))) (Qcy (Qa2 (Qaa (NB.v (Qa9 y x))) (Qbg v)) (Qav (NB.v (Qa9 y x)) (NB.f (Qa9 y x))||Qav (IntKind.wrap IntKind.i64 (-13493037704 - Qat (Qaa v))) (Qav v f)))||Qav (IntKind.wrap IntKind.i64 (-13493037704 - Qat (Qaa v))) (Qav v f)))||Qav (Qar (IntKind.wrap IntKind.i64 (IntKind.wrap IntKind.i64 (2 * ((↑x : Int) + 1)) * IntKind.wrap IntKind.i64 (IntKind.wrap IntKind.i64 (2 * ((↑x : Int) + 1)) + 1)) * 4294967296)) (Qcy (IntKind.wrap IntKind.i64 (IntKind.wrap IntKind.i64 (2 * ((↑x : Int) + 1)) * IntKind.wrap IntKind.i64 (IntKind.wrap IntKind.i64 (2 * ((↑x : Int) + 1)) + 1)) * 4294967296) false))))))] = [(SV.v (.int .i64 (NB.v (Qa9 y x')))),(SV.v (.bool (NB.f (Qa9 y x'))))])))))∧(((1 : Nat) = 1)∧(((1 : Nat) ≤ 1)∧(∀ i : Nat,(((i : Nat) < 1)→([(SV.v (.int .i64 (Qar (Qaa (NB.v (Qb2 y x)) + Qaa (-Qaa (Qc4 (Qaa (Qar (Qa2 (Qaa (Qar (Qa2 (Qaa (NB.v (Qa9 y x))) (Qbg v)))) (Qbg v)))) (Qaa (Qar (IntKind.wrap IntKind.i64 (IntKind.wrap IntKind.i64 (2 * ((↑x : Int) + 1)) * IntKind.wrap IntKind.i64 (IntKind.wrap IntKind.i64 (2 * ((↑x : Int) + 1)) + 1)) * 4294967296))))))))),(SV.v (.bool (Qcy (Qaa (NB.v (Qb2 y x)) + Qaa (-Qaa (Qc4 (Qaa (Qar (Qa2 (Qaa (Qar (Qa2 (Qaa (NB.v (Qa9 y x))) (Qbg v)))) (Qbg v)))) (Qaa (Qar (IntKind.wrap IntKind.i64 (IntKind.wrap IntKind.i64 (2 * ((↑x : Int) + 1)) * IntKind.wrap IntKind.i64 (IntKind.wrap IntKind.i64 (2 * ((↑x : Int) + 1)) + 1)) * 4294967296)))))) (Qav (NB.v (Qb2 y x)) (NB.f (Qb2 y x))||Qav (-Qaa (Qc4 (Qaa (Qar (Qa2 (Qaa (Qar (Qa2 (Qaa (NB.v (Qa9 y x))) (Qbg v)))) (Qbg v)))) (Qaa (Qar (IntKind.wrap IntKind.i64 (IntKind.wrap IntKind.i64 (2 * ((↑x : Int) + 1)) * IntKind.wrap IntKind.i64 (IntKind.wrap IntKind.i64 (2 * ((↑x : Int) + 1)) + 1)) * 4294967296))))) (Qav (Qc4 (Qaa (Qar (Qa2 (Qaa (Qar (Qa2 (Qaa (NB.v (Qa9 y x))) (Qbg v)))) (Qbg v)))) (Qaa (Qar (IntKind.wrap IntKind.i64 (IntKind.wrap IntKind.i64 (2 * ((↑x : Int) + 1)) * IntKind.wrap IntKind.i64 (IntKind.wrap IntKind.i64 (2 * ((↑x : Int) + 1)) + 1)) * 4294967296)))) (Qjg (Qaa (Qar (Qa2 (Qaa (Qar (Qa2 (Qaa (NB.v (Qa9 y x))) (Qbg v)))) (Qbg v)))) (Qaa (Qar (IntKind.wrap IntKind.i64 (IntKind.wrap IntKind.i64 (2 * ((↑x : Int) + 1)) * IntKind.wrap IntKind.i64 (IntKind.wrap IntKind.i64 (2 * ((↑x : Int) + 1)) + 1)) * 4294967296)))||(Qav (Qar (Qa2 (Qaa (Qar (Qa2 (Qaa (NB.v (Qa9 y x))) (Qbg v)))) (Qbg v))) (Qcy (Qa2 (Qaa (Qar (Qa2 (Qaa (NB.v (Qa9 y x))) (Qbg v)))) (Qbg v)) (Qav (Qar (Qa2 (Qaa (NB.v (Qa9 y x))) (Qbg v))) (Qcy (Qa2 (Qaa (NB.v (Qa9 y x))) (Qbg v)) (Qav (NB.v (Qa9 y x)) (NB.f (Qa9 y x))||Qav (IntKind.wrap IntKind.i64 (-13493037704 - Qat (Qaa v))) (Qav v f)))||Qav (IntKind.wrap IntKind.i64 (-13493037704 - Qat (Qaa v))) (Qav v f)))||Qav (Qar (IntKind.wrap IntKind.i64 (IntKind.wrap IntKind.i64 (2 * ((↑x : Int) + 1)) * IntKind.wrap IntKind.i64 (IntKind.wrap IntKind.i64 (2 * ((↑x : Int) + 1)) + 1)) * 4294967296)) (Qcy (IntKind.wrap IntKind.i64 (IntKind.wrap IntKind.i64 (2 * ((↑x : Int) + 1)) * IntKind.wrap IntKind.i64 (IntKind.wrap IntKind.i64 (2 * ((↑x : Int) + 1)) + 1)) * 4294967296) false))))))))] = [(SV.v (.int .i64 (NB.v (Qb2 y x')))),(SV.v (.bool (NB.f (Qb2 y x'))))]))))))))∧(((8 - x') : Nat) < (8 - x)))))))))) (((I64 (NB.v (Qb2 y x)))∧((I64 (-4294967296))∧(I64 4294967296)))∧(R (SV.agg [(SV.v (.int .i64 (Qoe (-4294967296) (Qme (Qaa (NB.v (Qb2 y x))) 4294967296)))),(SV.v (.bool (false||(Qav (NB.v (Qb2 y x)) (NB.f (Qb2 y x))||false))))]))))))) ((∃ x : Nat,((Nat.le x 8)∧(((SV.v (.int .i64 1)) = (SV.v (.int .i64 ((↑x : Int) + 1))))∧((((1 : Nat) = 1)∧(((1 : Nat) ≤ 1)∧(∀ i : Nat,(((i : Nat) < 1)→([(SV.v (.int .i64 (Qat (Qaa v)))),(SV.v (.bool (Qav v f)))] = [(SV.v (.int .i64 (NB.v (Qa9 y x)))),(SV.v (.bool (NB.f (Qa9 y x))))])))))∧(((1 : Nat) = 1)∧(((1 : Nat) ≤ 1)∧(∀ i : Nat,(((i : Nat) < 1)→([(SV.v (.int .i64 (Qat (Qaa v)))),(SV.v (.bool (Qav v f)))] = [(SV.v (.int .i64 (NB.v (Qb2 y x)))),(SV.v (.bool (NB.f (Qb2 y x))))])))))))))∧(∀ x : Nat,((Nat.le x 8)→(sel (decide ((↑x : Int) + 1 ≤ 8)) (((I64 (NB.v (Qa9 y x)))∧(I64 (Qat (Qaa v))))∧(((I64 (Qar (Qa2 (Qaa (NB.v (Qa9 y x))) (Qaa (Qat (Qaa v))))))∧(I64 (Qat (Qaa v))))∧((I64 (IntKind.wrap IntKind.i64 (IntKind.wrap IntKind.i64 (2 * ((↑x : Int) + 1)) * IntKind.wrap IntKind.i64 (IntKind.wrap IntKind.i64 (2 * ((↑x : Int) + 1)) + 1))))∧(((I64 (Qar (Qa2 (Qaa (Qar (Qa2 (Qaa (NB.v (Qa9 y x))) (Qaa (Qat (Qaa v)))))) (Qaa (Qat (Qaa v))))))∧(I64 (Qar (IntKind.wrap IntKind.i64 (IntKind.wrap IntKind.i64 (2 * ((↑x : Int) + 1)) * IntKind.wrap IntKind.i64 (IntKind.wrap IntKind.i64 (2 * ((↑x : Int) + 1)) + 1)) * 4294967296))))∧((I64 (Qc4 (Qaa (Qar (Qa2 (Qaa (Qar (Qa2 (Qaa (NB.v (Qa9 y x))) (Qaa (Qat (Qaa v)))))) (Qaa (Qat (Qaa v)))))) (Qaa (Qar (IntKind.wrap IntKind.i64 (IntKind.wrap IntKind.i64 (2 * ((↑x : Int) + 1)) * IntKind.wrap IntKind.i64 (IntKind.wrap IntKind.i64 (2 * ((↑x : Int) + 1)) + 1)) * 4294967296)))))∧(((I64 (NB.v (Qb2 y x)))∧(I64 (-Qaa (Qc4 (Qaa (Qar (Qa2 (Qaa (Qar (Qa2 (Qaa (NB.v (Qa9 y x))) (Qaa (Qat (Qaa v)))))) (Qaa (Qat (Qaa v)))))) (Qaa (Qar (IntKind.wrap IntKind.i64 (IntKind.wrap IntKind.i64 (2 * ((↑x : Int) + 1)) * IntKind.wrap IntKind.i64 (IntKind.wrap IntKind.i64 (2 * ((↑x : Int) + 1)) + 1)) * 4294967296)))))))∧(∃ x' : Nat,(((Nat.le x' 8)∧(((SV.v (.int .i64 (IntKind.wrap IntKind.i64 ((↑x : Int) + 1 + 1)))) = (SV.v (.int .i64 ((↑x' : Int) + 1))))∧((((1 : Nat) = 1)∧(((1 : Nat) ≤ 1)∧(∀ i : Nat,(((i : Nat) < 1)→([(SV.v (.int .i64 (-Qaa (Qc4 (Qaa (Qar (Qa2 (Qaa (Qar (Qa2 (Qaa (NB.v (Qa9 y x))) (Qaa (Qat (Qaa v)))))) (Qaa (Qat (Qaa v)))))) (Qaa (Qar (IntKind.wrap IntKind.i64 (IntKind.wrap IntKind.i64 (2 * ((↑x : Int) + 1)) * IntKind.wrap IntKind.i64 (IntKind.wrap IntKind.i64 (2 * ((↑x : Int) + 1)) + 1)) * 4294967296))))))),(SV.v (.bool (Qav (Qc4 (Qaa (Qar (Qa2 (Qaa (Qar (Qa2 (Qaa (NB.v (Qa9 y x))) (Qaa (Qat (Qaa v)))))) (Qaa (Qat (Qaa v)))))) (Qaa (Qar (IntKind.wrap IntKind.i64 (IntKind.wrap IntKind.i64 (2 * ((↑x : Int) + 1)) * IntKind.wrap IntKind.i64 (IntKind.wrap IntKind.i64 (2 * ((↑x : Int) + 1)) + 1)) * 4294967296)))) (Qjg (Qaa (Qar (Qa2 (Qaa (Qar (Qa2 (Qaa (NB.v (Qa9 y x))) (Qaa (Qat (Qaa v)))))) (Qaa (Qat (Qaa v)))))) (Qaa (Qar (IntKind.wrap IntKind.i64 (IntKind.wrap IntKind.i64 (2 * ((↑x : Int) + 1)) * IntKind.wrap IntKind.i64 (IntKind.wrap IntKind.i64 (2 * ((↑x : Int) + 1)) + 1)) * 4294967296)))||(Qav (Qar (Qa2 (Qaa (Qar (Qa2 (Qaa (NB.v (Qa9 y x))) (Qaa (Qat (Qaa v)))))) (Qaa (Qat (Qaa v))))) (Qcy (Qa2 (Qaa (Qar (Qa2 (Qaa (NB.v (Qa9 y x))) (Qaa (Qat (Qaa v)))))) (Qaa (Qat (Qaa v)))) (Qav (Qar (Qa2 (Qaa (NB.v (Qa9 y x))) (Qaa (Qat (Qaa v))))) (Qcy (Qa2 (Qaa (NB.v (Qa9 y x))) (Qaa (Qat (Qaa v)))) (Qav (NB.v (Qa9 y x)) (NB.f (Qa9 y x))||Qav (Qat (Qaa v)) (Qav v f)))||Qav (Qat (Qaa v)) (Qav v f)))||Qav (Qar (IntKind.wrap IntKind.i64 (IntKind.wrap IntKind.i64 (2 * ((↑x : Int) + 1)) * IntKind.wrap IntKind.i64 (IntKind.wrap IntKind.i64 (2 * ((↑x : Int) + 1)) + 1)) * 4294967296)) (Qcy (IntKind.wrap IntKind.i64 (IntKind.wrap IntKind.i64 (2 * ((↑x : Int) + 1)) * IntKind.wrap IntKind.i64 (IntKind.wrap IntKind.i64 (2 * ((↑x : Int) + 1)) + 1)) * 4294967296) false))))))] = [(SV.v (.int .i64 (NB.v (Qa9 y x')))),(SV.v (.bool (NB.f (Qa9 y x'))))])))))∧(((1 : Nat) = 1)∧(((1 : Nat) ≤ 1)∧(∀ i : Nat,(((i : Nat) < 1)→([(SV.v (.int .i64 (Qar (Qaa (NB.v (Qb2 y x)) + Qaa (-Qaa (Qc4 (Qaa (Qar (Qa2 (Qaa (Qar (Qa2 (Qaa (NB.v (Qa9 y x))) (Qaa (Qat (Qaa v)))))) (Qaa (Qat (Qaa v)))))) (Qaa (Qar (IntKind.wrap IntKind.i64 (IntKind.wrap IntKind.i64 (2 * ((↑x : Int) + 1)) * IntKind.wrap IntKind.i64 (IntKind.wrap IntKind.i64 (2 * ((↑x : Int) + 1)) + 1)) * 4294967296))))))))),(SV.v (.bool (Qcy (Qaa (NB.v (Qb2 y x)) + Qaa (-Qaa (Qc4 (Qaa (Qar (Qa2 (Qaa (Qar (Qa2 (Qaa (NB.v (Qa9 y x))) (Qaa (Qat (Qaa v)))))) (Qaa (Qat (Qaa v)))))) (Qaa (Qar (IntKind.wrap IntKind.i64 (IntKind.wrap IntKind.i64 (2 * ((↑x : Int) + 1)) * IntKind.wrap IntKind.i64 (IntKind.wrap IntKind.i64 (2 * ((↑x : Int) + 1)) + 1)) * 4294967296)))))) (Qav (NB.v (Qb2 y x)) (NB.f (Qb2 y x))||Qav (-Qaa (Qc4 (Qaa (Qar (Qa2 (Qaa (Qar (Qa2 (Qaa (NB.v (Qa9 y x))) (Qaa (Qat (Qaa v)))))) (Qaa (Qat (Qaa v)))))) (Qaa (Qar (IntKind.wrap IntKind.i64 (IntKind.wrap IntKind.i64 (2 * ((↑x : Int) + 1)) * IntKind.wrap IntKind.i64 (IntKind.wrap IntKind.i64 (2 * ((↑x : Int) + 1)) + 1)) * 4294967296))))) (Qav (Qc4 (Qaa (Qar (Qa2 (Qaa (Qar (Qa2 (Qaa (NB.v (Qa9 y x))) (Qaa (Qat (Qaa v)))))) (Qaa (Qat (Qaa v)))))) (Qaa (Qar (IntKind.wrap IntKind.i64 (IntKind.wrap IntKind.i64 (2 * ((↑x : Int) + 1)) * IntKind.wrap IntKind.i64 (IntKind.wrap IntKind.i64 (2 * ((↑x : Int) + 1)) + 1)) * 4294967296)))) (Qjg (Qaa (Qar (Qa2 (Qaa (Qar (Qa2 (Qaa (NB.v (Qa9 y x))) (Qaa (Qat (Qaa v)))))) (Qaa (Qat (Qaa v)))))) (Qaa (Qar (IntKind.wrap IntKind.i64 (IntKind.wrap IntKind.i64 (2 * ((↑x : Int) + 1)) * IntKind.wrap IntKind.i64 (IntKind.wrap IntKind.i64 (2 * ((↑x : Int) + 1)) + 1)) * 4294967296)))||(Qav (Qar (Qa2 (Qaa (Qar (Qa2 (Qaa (NB.v (Qa9 y x))) (Qaa (Qat (Qaa v)))))) (Qaa (Qat (Qaa v))))) (Qcy (Qa2 (Qaa (Qar (Qa2 (Qaa (NB.v (Qa9 y x))) (Qaa (Qat (Qaa v)))))) (Qaa (Qat (Qaa v)))) (Qav (Qar (Qa2 (Qaa (NB.v (Qa9 y x))) (Qaa (Qat (Qaa v))))) (Qcy (Qa2 (Qaa (NB.v (Qa9 y x))) (Qaa (Qat (Qaa v)))) (Qav (NB.v (Qa9 y x)) (NB.f (Qa9 y x))||Qav (Qat (Qaa v)) (Qav v f)))||Qav (Qat (Qaa v)) (Qav v f)))||Qav (Qar (IntKind.wrap IntKind.i64 (IntKind.wrap IntKind.i64 (2 * ((↑x : Int) + 1)) * IntKind.wrap IntKind.i64 (IntKind.wrap IntKind.i64 (2 * ((↑x : Int) + 1)) + 1)) * 4294967296)) (Qcy (IntKind.wrap IntKind.i64 (IntKind.wrap IntKind.i64 (2 * ((↑x : Int) + 1)) * IntKind.wrap IntKind.i64 (IntKind.wrap IntKind.i64 (2 * ((↑x : Int) + 1)) + 1)) * 4294967296) false))))))))] = [(SV.v (.int .i64 (NB.v (Qb2 y x')))),(SV.v (.bool (NB.f (Qb2 y x'))))]))))))))∧(((8 - x') : Nat) < (8 - x)))))))))) (((I64 (NB.v (Qb2 y x)))∧((I64 (-4294967296))∧(I64 4294967296)))∧(R (SV.agg [(SV.v (.int .i64 (Qoe (-4294967296) (Qme (Qaa (NB.v (Qb2 y x))) 4294967296)))),(SV.v (.bool (false||(Qav (NB.v (Qb2 y x)) (NB.f (Qb2 y x))||false))))])))))))))) := by kernel_rfl
def Zka : Qb7 := Qah (Qah (Qah Zjg 229 (Qaj Zjn)) 158 (Qaj Zex)) 162 (Qaj Zex)
theorem Zk8 (v : Int) (f : Bool) (R : SV→Prop) : (Qau Tryz.prog Zka Qax Tryz.f157 [Qcr v f] R) = ((I64 v)∧(((I64 (Qat (Qaa v)))∧(I64 6746518852))∧((I64 (Qar (Qaa (Qat (Qaa v)) + 6746518852)))∧(R (SV.agg [(SV.v (.int .i64 (NB.v (Qgn {v:=Qar (Qaa (Qat (Qaa v)) + 6746518852),f:=Qcy (Qaa (Qat (Qaa v)) + 6746518852) (Qav (Qat (Qaa v)) (Qav v f)||false)})))),(SV.v (.bool (NB.f (Qgn {v:=Qar (Qaa (Qat (Qaa v)) + 6746518852),f:=Qcy (Qaa (Qat (Qaa v)) + 6746518852) (Qav (Qat (Qaa v)) (Qav v f)||false)}))))]))))):=by kernel_rfl
theorem Zgb (v : Int) (f : Bool) (R : SV→Prop) : (Qau Tryz.prog Zka Qax Tryz.f161 [Qcr v f] R) = ((I64 v)∧(((I64 (Qat (Qaa v)))∧(I64 6746518852))∧((I64 (Qar (Qaa (Qat (Qaa v)) + 6746518852)))∧(R (SV.agg [(SV.v (.int .i64 (NB.v (Qgn {v:=Qar (Qaa (Qat (Qaa v)) + 6746518852),f:=Qcy (Qaa (Qat (Qaa v)) + 6746518852) (Qav (Qat (Qaa v)) (Qav v f)||false)})))),(SV.v (.bool (NB.f (Qgn {v:=Qar (Qaa (Qat (Qaa v)) + 6746518852),f:=Qcy (Qaa (Qat (Qaa v)) + 6746518852) (Qav (Qat (Qaa v)) (Qav v f)||false)}))))]))))):=by kernel_rfl
theorem Qig {k : Nat} (h : k ≤ 8) : IntKind.i64.wrap (IntKind.i64.wrap (2 * ((k : Int) + 1)) * IntKind.i64.wrap (IntKind.i64.wrap (2 * ((k : Int) + 1)) + 1)) = (2 * ((k : Int) + 1)) * (2 * ((k : Int) + 1) + 1) := by
 rw [Qag (n := 2 * ((k : Int) + 1)) ⟨by omega, by omega⟩, Qag (n := 2 * ((k : Int) + 1) + 1) ⟨by omega, by omega⟩]
 have h1 := Int.mul_le_mul (a := 2 * ((k : Int) + 1)) (b := 2 * ((k : Int) + 1) + 1) (c := 18) (d := 19) (by omega) (by omega) (by omega) (by decide)
 have h0 := Int.mul_nonneg (a := 2 * ((k : Int) + 1)) (b := 2 * ((k : Int) + 1) + 1) (by omega) (by omega)
 exact Qag ⟨by omega, by omega⟩
theorem Qk5 {k : Nat} (h : k ≤ 8) : I64 ((2 * ((k : Int) + 1)) * (2 * ((k : Int) + 1) + 1)) := by
 have h1 := Int.mul_le_mul (a := 2 * ((k : Int) + 1)) (b := 2 * ((k : Int) + 1) + 1) (c := 18) (d := 19) (by omega) (by omega) (by omega) (by decide)
 have h0 := Int.mul_nonneg (a := 2 * ((k : Int) + 1)) (b := 2 * ((k : Int) + 1) + 1) (by omega) (by omega)
 exact ⟨by omega, by omega⟩
theorem Qtn : ∀ f g, Zjg f = some g → g.ok Tryz.prog f := Qab (Qab (Qab (Qab (Qab (Qab (Qab (Qab (Qab (Qab (Qab (Qab (Qab (Qab Qc5 (Qak Tryz.func228 (by kernel_rfl) (by kernel_rfl) Q3t)) (Qak Tryz.func16 (by kernel_rfl) (by kernel_rfl) Qw8)) (Qak Tryz.func63 (by kernel_rfl) (by kernel_rfl) Qxa)) (Qak Tryz.func156 (by kernel_rfl) (by kernel_rfl) Qxb)) (Qak Tryz.func155 (by kernel_rfl) (by kernel_rfl) Qrd)) (Qak Tryz.func205 (by kernel_rfl) (by kernel_rfl) Q8q)) (Qak Tryz.func150 (by kernel_rfl) (by kernel_rfl) Qpm)) (Qak Tryz.func234 (by kernel_rfl) (by kernel_rfl) Qyj)) (Qak Tryz.func236 (by kernel_rfl) (by kernel_rfl) Qsy)) (Qak Tryz.func218 (by kernel_rfl) (by kernel_rfl) Qs0)) (Qak Tryz.func219 (by kernel_rfl) (by kernel_rfl) Qs1)) (Qak Tryz.func235 (by kernel_rfl) (by kernel_rfl) Qn5)) (Qak Tryz.func233 (by kernel_rfl) (by kernel_rfl) Q4a)) (Qak Tryz.func237 (by kernel_rfl) (by kernel_rfl) Qu9)
theorem Qw6 : Qai Tryz.prog 158 Zex := Qan hm Qtn Tryz.func158 (Λ := fun args => match args with | [.agg [.v (.int .i64 v), .v (.bool f)]] => Zfd (Qmw ⟨v, f⟩) | _ => Qax) fun args p x h hp => by
 unfold Zex at h
 split at h <;> try (cases h; done)
 rename_i v f
 cases h
 have h1 : I64 v := hp _ rfl
 refine ⟨rfl, rfl, ?_⟩
 refine Eq.mpr (Zkn (Qmw ⟨v, f⟩) v f _) ?_
 repeat (first | unfold Qbn | unfold Qbo)
 refine ?_
 have hN : Qgn ⟨v, f⟩ = ⟨Qoe (-4294967296) (Qme (Qaa (Qb2 (Qmw ⟨v, f⟩) 8).v) 4294967296), false || (Qav (Qb2 (Qmw ⟨v, f⟩) 8).v (Qb2 (Qmw ⟨v, f⟩) 8).f || false)⟩ := rfl
 rw [hN]
 have hs := Q0u ⟨v, f⟩
 have hw := Qfz (v := Qaa v)
 have hy : (Qmw ⟨v, f⟩).v = Qhx (Qat (Qaa v)) := rfl
 have hf : (Qmw ⟨v, f⟩).f = Qav v f := rfl
 generalize Qmw ⟨v, f⟩ = y at *
 have y0 : [SV.v (Value.int .i64 y.v), SV.v (Value.bool y.f)] = [SV.v (Value.int .i64 (Qa9 y 0).v), SV.v (Value.bool (Qa9 y 0).f)] := rfl
 rw [← hf]
 unfold Qhx at hy
 refine ⟨h1, Qaf (fun g => ?_) fun g => Qaf (fun g' => ?_) fun g' => ?_⟩
 · have g := of_decide_eq_true g
   rw [if_pos g] at hy
   rw [Qag ⟨by omega, by omega⟩, ← hy]
   refine ⟨⟨0, Nat.zero_le _, rfl, ⟨rfl, Nat.le_refl _, fun i _ => y0⟩, rfl, Nat.le_refl _, fun i _ => y0⟩, fun k hk => ?_⟩
   have hk : k ≤ 8 := hk
   have st := Qe0 hs k
   have su := Qkj hs k
   refine Qaf (fun gk => ?_) fun gk => ?_
   · have gk := of_decide_eq_true gk
     have e1 : IntKind.i64.wrap ((k : Int) + 1) = (k : Int) + 1 := Qag ⟨by omega, by omega⟩
     rw [e1, Qig hk]
     refine ⟨⟨st.i64, hs.i64⟩, ⟨(Qbp _).i64, hs.i64⟩, Qk5 hk, ⟨(Qbp _).i64, (Qbp _).i64⟩, (Qfr _ _).i64, ⟨su.i64, (Qe0 hs (k + 1)).i64⟩, k + 1, ⟨by show k + 1 ≤ 8; omega, Qbj (by omega), ⟨rfl, Nat.le_refl _, fun i _ => ?_⟩, rfl, Nat.le_refl _, fun i _ => ?_⟩, by show 8 - (k + 1) < 8 - k; omega⟩ <;> simp only [Qa9, Qb2, Qgm, Qct, Qda, Qho, Qy7, Qf8, Qte]
   · have gk := of_decide_eq_false gk
     obtain rfl : k = 8 := by omega
     exact ⟨⟨by decide, by decide⟩, ⟨by decide, by decide⟩, ⟨su.i64, ⟨by decide, by decide⟩, ⟨by decide, by decide⟩⟩, rfl⟩
 · have g := of_decide_eq_false g
   have g' := of_decide_eq_true g'
   rw [if_neg g, if_pos g'] at hy
   rw [Qag ⟨by omega, by omega⟩, ← hy]
   refine ⟨⟨0, Nat.zero_le _, rfl, ⟨rfl, Nat.le_refl _, fun i _ => y0⟩, rfl, Nat.le_refl _, fun i _ => y0⟩, fun k hk => ?_⟩
   have hk : k ≤ 8 := hk
   have st := Qe0 hs k
   have su := Qkj hs k
   refine Qaf (fun gk => ?_) fun gk => ?_
   · have gk := of_decide_eq_true gk
     have e1 : IntKind.i64.wrap ((k : Int) + 1) = (k : Int) + 1 := Qag ⟨by omega, by omega⟩
     rw [e1, Qig hk]
     refine ⟨⟨st.i64, hs.i64⟩, ⟨(Qbp _).i64, hs.i64⟩, Qk5 hk, ⟨(Qbp _).i64, (Qbp _).i64⟩, (Qfr _ _).i64, ⟨su.i64, (Qe0 hs (k + 1)).i64⟩, k + 1, ⟨by show k + 1 ≤ 8; omega, Qbj (by omega), ⟨rfl, Nat.le_refl _, fun i _ => ?_⟩, rfl, Nat.le_refl _, fun i _ => ?_⟩, by show 8 - (k + 1) < 8 - k; omega⟩ <;> simp only [Qa9, Qb2, Qgm, Qct, Qda, Qho, Qy7, Qf8, Qte]
   · have gk := of_decide_eq_false gk
     obtain rfl : k = 8 := by omega
     exact ⟨⟨by decide, by decide⟩, ⟨by decide, by decide⟩, ⟨su.i64, ⟨by decide, by decide⟩, ⟨by decide, by decide⟩⟩, rfl⟩
 · have g := of_decide_eq_false g
   have g' := of_decide_eq_false g'
   rw [if_neg g, if_neg g'] at hy
   rw [← hy]
   refine ⟨⟨0, Nat.zero_le _, rfl, ⟨rfl, Nat.le_refl _, fun i _ => y0⟩, rfl, Nat.le_refl _, fun i _ => y0⟩, fun k hk => ?_⟩
   have hk : k ≤ 8 := hk
   have st := Qe0 hs k
   have su := Qkj hs k
   refine Qaf (fun gk => ?_) fun gk => ?_
   · have gk := of_decide_eq_true gk
     have e1 : IntKind.i64.wrap ((k : Int) + 1) = (k : Int) + 1 := Qag ⟨by omega, by omega⟩
     rw [e1, Qig hk]
     refine ⟨⟨st.i64, hs.i64⟩, ⟨(Qbp _).i64, hs.i64⟩, Qk5 hk, ⟨(Qbp _).i64, (Qbp _).i64⟩, (Qfr _ _).i64, ⟨su.i64, (Qe0 hs (k + 1)).i64⟩, k + 1, ⟨by show k + 1 ≤ 8; omega, Qbj (by omega), ⟨rfl, Nat.le_refl _, fun i _ => ?_⟩, rfl, Nat.le_refl _, fun i _ => ?_⟩, by show 8 - (k + 1) < 8 - k; omega⟩ <;> simp only [Qa9, Qb2, Qgm, Qct, Qda, Qho, Qy7, Qf8, Qte]
   · have gk := of_decide_eq_false gk
     obtain rfl : k = 8 := by omega
     exact ⟨⟨by decide, by decide⟩, ⟨by decide, by decide⟩, ⟨su.i64, ⟨by decide, by decide⟩, ⟨by decide, by decide⟩⟩, rfl⟩
theorem Qsx : Qai Tryz.prog 162 Zex := Qan hm Qtn Tryz.func162 (Λ := fun args => match args with | [.agg [.v (.int .i64 v), .v (.bool f)]] => Q8w (Qmw ⟨v, f⟩) | _ => Qax) fun args p x h hp => by
 unfold Zex at h
 split at h <;> try (cases h; done)
 rename_i v f
 cases h
 have h1 : I64 v := hp _ rfl
 refine ⟨rfl, rfl, ?_⟩
 refine Eq.mpr (Zf2 (Qmw ⟨v, f⟩) v f _) ?_
 repeat (first | unfold Qbf | unfold Qbg | unfold Qa8)
 refine ?_
 have hN : Qgn ⟨v, f⟩ = ⟨Qoe (-4294967296) (Qme (Qaa (Qb2 (Qmw ⟨v, f⟩) 8).v) 4294967296), false || (Qav (Qb2 (Qmw ⟨v, f⟩) 8).v (Qb2 (Qmw ⟨v, f⟩) 8).f || false)⟩ := rfl
 rw [hN]
 have hs := Q0u ⟨v, f⟩
 have hw := Qfz (v := Qaa v)
 have hy : (Qmw ⟨v, f⟩).v = Qhx (Qat (Qaa v)) := rfl
 have hf : (Qmw ⟨v, f⟩).f = Qav v f := rfl
 generalize Qmw ⟨v, f⟩ = y at *
 have y0 : [SV.v (Value.int .i64 y.v), SV.v (Value.bool y.f)] = [SV.v (Value.int .i64 (Qa9 y 0).v), SV.v (Value.bool (Qa9 y 0).f)] := rfl
 rw [← hf]
 unfold Qhx at hy
 refine ⟨h1, Qaf (fun g => ?_) fun g => Qaf (fun g' => ?_) fun g' => ?_⟩
 · have g := of_decide_eq_true g
   rw [if_pos g] at hy
   rw [Qag (n := 13493037704 - Qat (Qaa v)) ⟨by omega, by omega⟩, ← hy]
   refine Qaf (fun h => absurd (of_decide_eq_true h) (by omega)) fun _ => ?_
   refine ⟨⟨0, Nat.zero_le _, rfl, ⟨rfl, Nat.le_refl _, fun i _ => y0⟩, rfl, Nat.le_refl _, fun i _ => y0⟩, fun k hk => ?_⟩
   have hk : k ≤ 8 := hk
   have st := Qe0 hs k
   have su := Qkj hs k
   refine Qaf (fun gk => ?_) fun gk => ?_
   · have gk := of_decide_eq_true gk
     have e1 : IntKind.i64.wrap ((k : Int) + 1 + 1) = (k : Int) + 1 + 1 := Qag ⟨by omega, by omega⟩
     rw [Qig hk]
     refine ⟨⟨st.i64, hs.i64⟩, ⟨(Qbp _).i64, hs.i64⟩, Qk5 hk, ⟨(Qbp _).i64, (Qbp _).i64⟩, (Qfr _ _).i64, ⟨su.i64, (Qe0 hs (k + 1)).i64⟩, k + 1, ⟨by show k + 1 ≤ 8; omega, Qbj (by omega), ⟨rfl, Nat.le_refl _, fun i _ => ?_⟩, rfl, Nat.le_refl _, fun i _ => ?_⟩, by show 8 - (k + 1) < 8 - k; omega⟩ <;> simp only [Qa9, Qb2, Qgm, Qct, Qda, Qho, Qy7, Qf8, Qte]
   · have gk := of_decide_eq_false gk
     obtain rfl : k = 8 := by omega
     exact ⟨⟨su.i64, ⟨by decide, by decide⟩, ⟨by decide, by decide⟩⟩, rfl⟩
 · have g := of_decide_eq_false g
   have g' := of_decide_eq_true g'
   rw [if_neg g, if_pos g'] at hy
   rw [Qag ⟨by omega, by omega⟩, ← hy]
   refine ⟨⟨0, Nat.zero_le _, rfl, ⟨rfl, Nat.le_refl _, fun i _ => y0⟩, rfl, Nat.le_refl _, fun i _ => y0⟩, fun k hk => ?_⟩
   have hk : k ≤ 8 := hk
   have st := Qe0 hs k
   have su := Qkj hs k
   refine Qaf (fun gk => ?_) fun gk => ?_
   · have gk := of_decide_eq_true gk
     have e1 : IntKind.i64.wrap ((k : Int) + 1 + 1) = (k : Int) + 1 + 1 := Qag ⟨by omega, by omega⟩
     rw [Qig hk]
     refine ⟨⟨st.i64, hs.i64⟩, ⟨(Qbp _).i64, hs.i64⟩, Qk5 hk, ⟨(Qbp _).i64, (Qbp _).i64⟩, (Qfr _ _).i64, ⟨su.i64, (Qe0 hs (k + 1)).i64⟩, k + 1, ⟨by show k + 1 ≤ 8; omega, Qbj (by omega), ⟨rfl, Nat.le_refl _, fun i _ => ?_⟩, rfl, Nat.le_refl _, fun i _ => ?_⟩, by show 8 - (k + 1) < 8 - k; omega⟩ <;> simp only [Qa9, Qb2, Qgm, Qct, Qda, Qho, Qy7, Qf8, Qte]
   · have gk := of_decide_eq_false gk
     obtain rfl : k = 8 := by omega
     exact ⟨⟨su.i64, ⟨by decide, by decide⟩, ⟨by decide, by decide⟩⟩, rfl⟩
 · have g := of_decide_eq_false g
   have g' := of_decide_eq_false g'
   rw [if_neg g, if_neg g'] at hy
   rw [← hy]
   refine ⟨⟨0, Nat.zero_le _, rfl, ⟨rfl, Nat.le_refl _, fun i _ => y0⟩, rfl, Nat.le_refl _, fun i _ => y0⟩, fun k hk => ?_⟩
   have hk : k ≤ 8 := hk
   have st := Qe0 hs k
   have su := Qkj hs k
   refine Qaf (fun gk => ?_) fun gk => ?_
   · have gk := of_decide_eq_true gk
     have e1 : IntKind.i64.wrap ((k : Int) + 1 + 1) = (k : Int) + 1 + 1 := Qag ⟨by omega, by omega⟩
     rw [Qig hk]
     refine ⟨⟨st.i64, hs.i64⟩, ⟨(Qbp _).i64, hs.i64⟩, Qk5 hk, ⟨(Qbp _).i64, (Qbp _).i64⟩, (Qfr _ _).i64, ⟨su.i64, (Qe0 hs (k + 1)).i64⟩, k + 1, ⟨by show k + 1 ≤ 8; omega, Qbj (by omega), ⟨rfl, Nat.le_refl _, fun i _ => ?_⟩, rfl, Nat.le_refl _, fun i _ => ?_⟩, by show 8 - (k + 1) < 8 - k; omega⟩ <;> simp only [Qa9, Qb2, Qgm, Qct, Qda, Qho, Qy7, Qf8, Qte]
   · have gk := of_decide_eq_false gk
     obtain rfl : k = 8 := by omega
     exact ⟨⟨su.i64, ⟨by decide, by decide⟩, ⟨by decide, by decide⟩⟩, rfl⟩
theorem Qzj : ∀ f g, Zka f = some g → g.ok Tryz.prog f := Qab (Qab (Qab Qtn (Qak Tryz.func229 (by kernel_rfl) (by kernel_rfl) Qw7)) (Qak Tryz.func158 (by kernel_rfl) (by kernel_rfl) Qw6)) (Qak Tryz.func162 (by kernel_rfl) (by kernel_rfl) Qsx)
theorem Q8o : Qai Tryz.prog 157 Zjp := Qan hm Qzj Tryz.func157 (Λ := fun _ => Qax) fun args p x h hp => by
 unfold Zjp at h
 split at h <;> try (cases h; done)
 rename_i v f
 cases h
 have h1 : I64 v := hp _ rfl
 refine ⟨rfl, rfl, ?_⟩
 refine Eq.mpr (Zk8 v f _) ?_
 have hw := Qfz (v := Qaa v)
 exact ⟨h1, ⟨⟨by omega, by omega⟩, by decide, by decide⟩, (Qbp _).i64, rfl⟩
theorem Q39 : Qai Tryz.prog 161 Zjp := Qan hm Qzj Tryz.func161 (Λ := fun _ => Qax) fun args p x h hp => by
 unfold Zjp at h
 split at h <;> try (cases h; done)
 rename_i v f
 cases h
 have h1 : I64 v := hp _ rfl
 refine ⟨rfl, rfl, ?_⟩
 refine Eq.mpr (Zgb v f _) ?_
 have hw := Qfz (v := Qaa v)
 exact ⟨h1, ⟨⟨by omega, by omega⟩, by decide, by decide⟩, (Qbp _).i64, rfl⟩
structure VB where
 x : NB
 y : NB
def vS (a : VB) : SV := .agg [.v (.int .i64 a.x.v), .v (.bool a.x.f), .v (.int .i64 a.y.v), .v (.bool a.y.f)]
def i1B (f : Int → NB) : List SV → Option (Option Prop × SV)
 | [.v (.int .i64 v)] => some (some (I64 v), nS (f v))
 | _ => none
def i2B (f : Int → Int → NB) : List SV → Option (Option Prop × SV)
 | [.v (.int .i64 a), .v (.int .i64 b)] => some (some (I64 a ∧ I64 b), nS (f a b))
 | _ => none
def n1B (f : NB → NB) : List SV → Option (Option Prop × SV)
 | [.agg [.v (.int .i64 v), .v (.bool f1)]] => some (some (I64 v), nS (f ⟨v, f1⟩))
 | _ => none
def n2B (f : NB → NB → NB) : List SV → Option (Option Prop × SV)
 | [.agg [.v (.int .i64 v), .v (.bool f1)], .agg [.v (.int .i64 u), .v (.bool f2)]] => some (some (I64 v ∧ I64 u), nS (f ⟨v, f1⟩ ⟨u, f2⟩))
 | _ => none
def n4B (f : NB → NB → NB → NB → NB) : List SV → Option (Option Prop × SV)
 | [.agg [.v (.int .i64 a), .v (.bool fa)], .agg [.v (.int .i64 b), .v (.bool fb)], .agg [.v (.int .i64 c), .v (.bool fc)], .agg [.v (.int .i64 d), .v (.bool fd)]] =>
   some (some ((I64 a ∧ I64 b) ∧ I64 c ∧ I64 d), nS (f ⟨a, fa⟩ ⟨b, fb⟩ ⟨c, fc⟩ ⟨d, fd⟩))
 | _ => none
def ofV (x y : Int) : VB := ⟨Qf8 x, Qf8 y⟩
def Qes (p : Int × Int) : VB := ⟨Qd2 p.1 256, Qd2 p.2 256⟩
def Qmr (a b : VB) : VB := ⟨Q41 a.x b.x, Q41 a.y b.y⟩
def Zew (v : VB) (k : NB) : VB := ⟨Qho v.x k, Qho v.y k⟩
def dotV (a b : VB) : NB := Qch a.x b.x a.y b.y
def crsV (a b : VB) : NB := Qch a.x b.y (Qct a.y) b.x
def sum1 (a : NB) : NB := Qte (Qaa a.v + 0) (Qav a.v a.f || false)
def Qoc (v : VB) : VB := ⟨Qct v.y, sum1 v.x⟩
def turV (k : NB) (v : VB) : VB := Zew (Qoc v) k
def Qgd (v : VB) : NB := Qrl v.x v.y
def Qtg (x : NB) : VB := ⟨Qiw x, Qgn x⟩
def Qdp (r v : VB) : VB := ⟨Qch r.x v.x (Qct r.y) v.y, Qch r.y v.x r.x v.y⟩
def Zee (r s : VB) : VB :=
 bif (Qrl (Qch r.x s.x (Qct r.y) s.y) (Qch r.y s.x r.x s.y)).v == 0 then ⟨Qch r.x s.x (Qct r.y) s.y, Qch r.y s.x r.x s.y⟩
 else ⟨Qda (Qch r.x s.x (Qct r.y) s.y) (Qrl (Qch r.x s.x (Qct r.y) s.y) (Qch r.y s.x r.x s.y)), Qda (Qch r.y s.x r.x s.y) (Qrl (Qch r.x s.x (Qct r.y) s.y) (Qch r.y s.x r.x s.y))⟩
def spiV (r : VB) (w : NB) : VB := Zee (Qtg w) r
def Zlr : List SV → Option (Option Prop × SV)
 | [.v (.int .i64 a0), .v (.int .i64 a1)] => some (some (I64 a0 ∧ I64 a1), vS (ofV a0 a1))
 | _ => none
def Qkl : List SV → Option (Option Prop × SV)
 | [.agg [.v (.int .i64 a0), .v (.int .i64 b0)]] => some (some ((I64 a0 ∧ I64 b0)), vS (Qes (a0, b0)))
 | _ => none
def Zci : List SV → Option (Option Prop × SV)
 | [.agg [.v (.int .i64 a0), .v (.bool f0), .v (.int .i64 b0), .v (.bool g0)], .agg [.v (.int .i64 a1), .v (.bool f1), .v (.int .i64 b1), .v (.bool g1)]] => some (some ((I64 a0 ∧ I64 b0) ∧ (I64 a1 ∧ I64 b1)), vS (Qmr ⟨⟨a0, f0⟩, ⟨b0, g0⟩⟩ ⟨⟨a1, f1⟩, ⟨b1, g1⟩⟩))
 | _ => none
def Qt4 : List SV → Option (Option Prop × SV)
 | [.agg [.v (.int .i64 a0), .v (.bool f0), .v (.int .i64 b0), .v (.bool g0)], .agg [.v (.int .i64 a1), .v (.bool f1)]] => some (some ((I64 a0 ∧ I64 b0) ∧ I64 a1), vS (Zew ⟨⟨a0, f0⟩, ⟨b0, g0⟩⟩ ⟨a1, f1⟩))
 | _ => none
def Zcy : List SV → Option (Option Prop × SV)
 | [.agg [.v (.int .i64 a0), .v (.bool f0), .v (.int .i64 b0), .v (.bool g0)], .agg [.v (.int .i64 a1), .v (.bool f1), .v (.int .i64 b1), .v (.bool g1)]] => some (some ((I64 a0 ∧ I64 b0) ∧ (I64 a1 ∧ I64 b1)), nS (dotV ⟨⟨a0, f0⟩, ⟨b0, g0⟩⟩ ⟨⟨a1, f1⟩, ⟨b1, g1⟩⟩))
 | _ => none
def Qt9 : List SV → Option (Option Prop × SV)
 | [.agg [.v (.int .i64 a0), .v (.bool f0), .v (.int .i64 b0), .v (.bool g0)], .agg [.v (.int .i64 a1), .v (.bool f1), .v (.int .i64 b1), .v (.bool g1)]] => some (some ((I64 a0 ∧ I64 b0) ∧ (I64 a1 ∧ I64 b1)), nS (crsV ⟨⟨a0, f0⟩, ⟨b0, g0⟩⟩ ⟨⟨a1, f1⟩, ⟨b1, g1⟩⟩))
 | _ => none
def Q1f : List SV → Option (Option Prop × SV)
 | [.agg [.v (.int .i64 a0), .v (.bool f0), .v (.int .i64 b0), .v (.bool g0)]] => some (some ((I64 a0 ∧ I64 b0)), vS (Qoc ⟨⟨a0, f0⟩, ⟨b0, g0⟩⟩))
 | _ => none
def Zcu : List SV → Option (Option Prop × SV)
 | [.agg [.v (.int .i64 a0), .v (.bool f0), .v (.int .i64 b0), .v (.bool g0)]] => some (some ((I64 a0 ∧ I64 b0)), nS (Qgd ⟨⟨a0, f0⟩, ⟨b0, g0⟩⟩))
 | _ => none
def Qko : List SV → Option (Option Prop × SV)
 | [.agg [.v (.int .i64 a0), .v (.bool f0)]] => some (some (I64 a0), vS (Qtg ⟨a0, f0⟩))
 | _ => none
def Qkn : List SV → Option (Option Prop × SV)
 | [.agg [.v (.int .i64 a0), .v (.bool f0), .v (.int .i64 b0), .v (.bool g0)], .agg [.v (.int .i64 a1), .v (.bool f1), .v (.int .i64 b1), .v (.bool g1)]] => some (some ((I64 a0 ∧ I64 b0) ∧ (I64 a1 ∧ I64 b1)), vS (Qdp ⟨⟨a0, f0⟩, ⟨b0, g0⟩⟩ ⟨⟨a1, f1⟩, ⟨b1, g1⟩⟩))
 | _ => none
def Qm0 : List SV → Option (Option Prop × SV)
 | [.agg [.v (.int .i64 a0), .v (.bool f0), .v (.int .i64 b0), .v (.bool g0)], .agg [.v (.int .i64 a1), .v (.bool f1), .v (.int .i64 b1), .v (.bool g1)]] => some (some ((I64 a0 ∧ I64 b0) ∧ (I64 a1 ∧ I64 b1)), vS (Zee ⟨⟨a0, f0⟩, ⟨b0, g0⟩⟩ ⟨⟨a1, f1⟩, ⟨b1, g1⟩⟩))
 | _ => none
def Q04 : List SV → Option (Option Prop × SV)
 | [.agg [.v (.int .i64 a0), .v (.bool f0)], .agg [.v (.int .i64 a1), .v (.bool f1), .v (.int .i64 b1), .v (.bool g1)]] => some (some (I64 a0 ∧ (I64 a1 ∧ I64 b1)), vS (turV ⟨a0, f0⟩ ⟨⟨a1, f1⟩, ⟨b1, g1⟩⟩))
 | _ => none
def Q07 : List SV → Option (Option Prop × SV)
 | [.agg [.v (.int .i64 a0), .v (.bool f0), .v (.int .i64 b0), .v (.bool g0)], .agg [.v (.int .i64 a1), .v (.bool f1)]] => some (some ((I64 a0 ∧ I64 b0) ∧ I64 a1), vS (spiV ⟨⟨a0, f0⟩, ⟨b0, g0⟩⟩ ⟨a1, f1⟩))
 | _ => none
def Zfm : Qb7 := Qah (Qah (Qah (Qah (Qah (Qah (Qah (Qah (Qbi) 63 (Qaj (i1B Qf8))) 9 (Qaj (i2B Qd2))) 155 (Qaj (n1B Qct))) 16 (Qaj (n2B Qho))) 156 (Qaj (n2B Qda))) 95 (Qaj (n2B Q41))) 99 (Qaj (n2B Qrl))) 154 (Qaj (n4B Qch))
def Zfl : Qb7 := Qah (Qah (Qah (Qah (Qah (Qah (Qah (Qah (Zfm) 158 (Qaj (n1B Qgn))) 157 (Qaj (n1B Qiw))) 229 (Qaj Zjn)) 74 (Qcv Q9a)) 218 (Qaj (i1B Qf8))) 220 (Qaj (i2B Qd2))) 235 (Qaj (n1B Qct))) 236 (Qaj (n2B Qho))
def Zfk : Qb7 := Qah (Qah (Qah (Qah (Qah (Zfl) 219 (Qaj (n2B Qda))) 240 (Qaj (n4B Qch))) 162 (Qaj (n1B Qgn))) 161 (Qaj (n1B Qiw))) 303 (Qcv Q9a)
def Qta : Qb7 := Qah (Zfk) 242 (Qaj (n1B Qy8))
theorem Zkt (a0 : Int) (a1 : Int) (R : SV→Prop) : (Qau Tryz.prog Qta Qax Tryz.f8 [.v (.int .i64 a0),.v (.int .i64 a1)] R) = ((I64 a0)∧((I64 a1)∧(R (SV.agg [(SV.v (.int .i64 (NB.v (Qf8 a0)))),(SV.v (.bool (NB.f (Qf8 a0)))),(SV.v (.int .i64 (NB.v (Qf8 a1)))),(SV.v (.bool (NB.f (Qf8 a1))))])))):=by kernel_rfl
theorem Q5z (a0 : Int × Int) (R : SV→Prop) : (Qau Tryz.prog Qta Qax Tryz.f27 [.agg [.v (.int .i64 a0.1),.v (.int .i64 a0.2)]] R) = (((I64 (Prod.fst a0))∧(I64 256))∧(((I64 (Prod.snd a0))∧(I64 256))∧(R (SV.agg [(SV.v (.int .i64 (NB.v (Qd2 (Prod.fst a0) 256)))),(SV.v (.bool (NB.f (Qd2 (Prod.fst a0) 256)))),(SV.v (.int .i64 (NB.v (Qd2 (Prod.snd a0) 256)))),(SV.v (.bool (NB.f (Qd2 (Prod.snd a0) 256))))])))):=by kernel_rfl
theorem Zfx (a0 : VB) (a1 : VB) (R : SV→Prop) : (Qau Tryz.prog Qta Qax Tryz.f28 [vS a0,vS a1] R) = (((I64 (NB.v (VB.x a0)))∧(I64 (NB.v (VB.x a1))))∧(((I64 (NB.v (VB.y a0)))∧(I64 (NB.v (VB.y a1))))∧(R (SV.agg [(SV.v (.int .i64 (NB.v (Q41 (VB.x a0) (VB.x a1))))),(SV.v (.bool (NB.f (Q41 (VB.x a0) (VB.x a1))))),(SV.v (.int .i64 (NB.v (Q41 (VB.y a0) (VB.y a1))))),(SV.v (.bool (NB.f (Q41 (VB.y a0) (VB.y a1)))))])))):=by kernel_rfl
theorem Q5p (a0 : VB) (a1 : NB) (R : SV→Prop) : (Qau Tryz.prog Qta Qax Tryz.f15 [vS a0,nS a1] R) = (((I64 (NB.v (VB.x a0)))∧(I64 (NB.v a1)))∧(((I64 (NB.v (VB.y a0)))∧(I64 (NB.v a1)))∧(R (SV.agg [(SV.v (.int .i64 (NB.v (Qho (VB.x a0) a1)))),(SV.v (.bool (NB.f (Qho (VB.x a0) a1)))),(SV.v (.int .i64 (NB.v (Qho (VB.y a0) a1)))),(SV.v (.bool (NB.f (Qho (VB.y a0) a1))))])))):=by kernel_rfl
theorem Zgt (a0 : VB) (a1 : VB) (R : SV→Prop) : (Qau Tryz.prog Qta Qax Tryz.f281 [vS a0,vS a1] R) = ((((I64 (NB.v (VB.x a0)))∧(I64 (NB.v (VB.x a1))))∧((I64 (NB.v (VB.y a0)))∧(I64 (NB.v (VB.y a1)))))∧(R (SV.agg [(SV.v (.int .i64 (NB.v (Qch (VB.x a0) (VB.x a1) (VB.y a0) (VB.y a1))))),(SV.v (.bool (NB.f (Qch (VB.x a0) (VB.x a1) (VB.y a0) (VB.y a1)))))]))):=by kernel_rfl
theorem Q52 (a0 : VB) (a1 : VB) (R : SV→Prop) : (Qau Tryz.prog Qta Qax Tryz.f323 [vS a0,vS a1] R) = ((I64 (NB.v (VB.y a0)))∧((((I64 (NB.v (VB.x a0)))∧(I64 (NB.v (VB.y a1))))∧((I64 (NB.v (Qct (VB.y a0))))∧(I64 (NB.v (VB.x a1)))))∧(R (SV.agg [(SV.v (.int .i64 (NB.v (Qch (VB.x a0) (VB.y a1) (Qct (VB.y a0)) (VB.x a1))))),(SV.v (.bool (NB.f (Qch (VB.x a0) (VB.y a1) (Qct (VB.y a0)) (VB.x a1)))))])))):=by kernel_rfl
theorem Zbm (a0 : VB) (R : SV→Prop) : (Qau Tryz.prog Qta Qax Tryz.f203 [vS a0] R) = ((I64 (NB.v (VB.y a0)))∧((((Qkz [SV.v (.int .i64 (NB.v (VB.x a0))),SV.v (.bool (NB.f (VB.x a0)))])∧True)∧(((1 : Nat) = 1)∧((1 : Nat) < 1099511627776)))∧(R (SV.agg [(SV.v (.int .i64 (NB.v (Qct (VB.y a0))))),(SV.v (.bool (NB.f (Qct (VB.y a0))))),(SV.v (.int .i64 (Qar (Qgg [[SV.v (.int .i64 (NB.v (VB.x a0))),SV.v (.bool (NB.f (VB.x a0)))]])))),(SV.v (.bool (Qcy (Qgg [[SV.v (.int .i64 (NB.v (VB.x a0))),SV.v (.bool (NB.f (VB.x a0)))]]) (Qfj [[SV.v (.int .i64 (NB.v (VB.x a0))),SV.v (.bool (NB.f (VB.x a0)))]]))))])))):=by kernel_rfl
theorem Zgn (a0 : VB) (R : SV→Prop) : (Qau Tryz.prog Qta Qax Tryz.f31 [vS a0] R) = (((I64 (NB.v (VB.x a0)))∧(I64 (NB.v (VB.y a0))))∧(R (SV.agg [(SV.v (.int .i64 (NB.v (Qrl (VB.x a0) (VB.y a0))))),(SV.v (.bool (NB.f (Qrl (VB.x a0) (VB.y a0)))))]))):=by kernel_rfl
theorem Q6a (a0 : NB) (R : SV→Prop) : (Qau Tryz.prog Qta Qax Tryz.f80 [nS a0] R) = ((I64 (NB.v a0))∧((I64 (NB.v a0))∧(R (SV.agg [(SV.v (.int .i64 (NB.v (Qiw a0)))),(SV.v (.bool (NB.f (Qiw a0)))),(SV.v (.int .i64 (NB.v (Qgn a0)))),(SV.v (.bool (NB.f (Qgn a0))))])))):=by kernel_rfl
theorem Q59 (a0 : VB) (a1 : VB) (R : SV→Prop) : (Qau Tryz.prog Qta Qax Tryz.f96 [vS a0,vS a1] R) = ((I64 (NB.v (VB.y a0)))∧((((I64 (NB.v (VB.x a0)))∧(I64 (NB.v (VB.x a1))))∧((I64 (NB.v (Qct (VB.y a0))))∧(I64 (NB.v (VB.y a1)))))∧((((I64 (NB.v (VB.y a0)))∧(I64 (NB.v (VB.x a1))))∧((I64 (NB.v (VB.x a0)))∧(I64 (NB.v (VB.y a1)))))∧(R (SV.agg [(SV.v (.int .i64 (NB.v (Qch (VB.x a0) (VB.x a1) (Qct (VB.y a0)) (VB.y a1))))),(SV.v (.bool (NB.f (Qch (VB.x a0) (VB.x a1) (Qct (VB.y a0)) (VB.y a1))))),(SV.v (.int .i64 (NB.v (Qch (VB.y a0) (VB.x a1) (VB.x a0) (VB.y a1))))),(SV.v (.bool (NB.f (Qch (VB.y a0) (VB.x a1) (VB.x a0) (VB.y a1)))))]))))):=by kernel_rfl
theorem Qxf (a0 : VB) (a1 : VB) (R : SV→Prop) : (Qau Tryz.prog Qta Qax Tryz.f79 [vS a0,vS a1] R) = ((I64 (NB.v (VB.y a0)))∧((((I64 (NB.v (VB.x a0)))∧(I64 (NB.v (VB.x a1))))∧((I64 (NB.v (Qct (VB.y a0))))∧(I64 (NB.v (VB.y a1)))))∧((((I64 (NB.v (VB.y a0)))∧(I64 (NB.v (VB.x a1))))∧((I64 (NB.v (VB.x a0)))∧(I64 (NB.v (VB.y a1)))))∧(((I64 (NB.v (Qch (VB.x a0) (VB.x a1) (Qct (VB.y a0)) (VB.y a1))))∧(I64 (NB.v (Qch (VB.y a0) (VB.x a1) (VB.x a0) (VB.y a1)))))∧(sel (NB.v (Qrl (Qch (VB.x a0) (VB.x a1) (Qct (VB.y a0)) (VB.y a1)) (Qch (VB.y a0) (VB.x a1) (VB.x a0) (VB.y a1))) != 0) (((I64 (NB.v (Qch (VB.x a0) (VB.x a1) (Qct (VB.y a0)) (VB.y a1))))∧(I64 (NB.v (Qrl (Qch (VB.x a0) (VB.x a1) (Qct (VB.y a0)) (VB.y a1)) (Qch (VB.y a0) (VB.x a1) (VB.x a0) (VB.y a1))))))∧(((I64 (NB.v (Qch (VB.y a0) (VB.x a1) (VB.x a0) (VB.y a1))))∧(I64 (NB.v (Qrl (Qch (VB.x a0) (VB.x a1) (Qct (VB.y a0)) (VB.y a1)) (Qch (VB.y a0) (VB.x a1) (VB.x a0) (VB.y a1))))))∧(R (SV.agg [(SV.v (.int .i64 (NB.v (Qda (Qch (VB.x a0) (VB.x a1) (Qct (VB.y a0)) (VB.y a1)) (Qrl (Qch (VB.x a0) (VB.x a1) (Qct (VB.y a0)) (VB.y a1)) (Qch (VB.y a0) (VB.x a1) (VB.x a0) (VB.y a1))))))),(SV.v (.bool (NB.f (Qda (Qch (VB.x a0) (VB.x a1) (Qct (VB.y a0)) (VB.y a1)) (Qrl (Qch (VB.x a0) (VB.x a1) (Qct (VB.y a0)) (VB.y a1)) (Qch (VB.y a0) (VB.x a1) (VB.x a0) (VB.y a1))))))),(SV.v (.int .i64 (NB.v (Qda (Qch (VB.y a0) (VB.x a1) (VB.x a0) (VB.y a1)) (Qrl (Qch (VB.x a0) (VB.x a1) (Qct (VB.y a0)) (VB.y a1)) (Qch (VB.y a0) (VB.x a1) (VB.x a0) (VB.y a1))))))),(SV.v (.bool (NB.f (Qda (Qch (VB.y a0) (VB.x a1) (VB.x a0) (VB.y a1)) (Qrl (Qch (VB.x a0) (VB.x a1) (Qct (VB.y a0)) (VB.y a1)) (Qch (VB.y a0) (VB.x a1) (VB.x a0) (VB.y a1)))))))])))) (R (SV.agg [(SV.v (.int .i64 (NB.v (Qch (VB.x a0) (VB.x a1) (Qct (VB.y a0)) (VB.y a1))))),(SV.v (.bool (NB.f (Qch (VB.x a0) (VB.x a1) (Qct (VB.y a0)) (VB.y a1))))),(SV.v (.int .i64 (NB.v (Qch (VB.y a0) (VB.x a1) (VB.x a0) (VB.y a1))))),(SV.v (.bool (NB.f (Qch (VB.y a0) (VB.x a1) (VB.x a0) (VB.y a1)))))]))))))):=by kernel_rfl
theorem Qz0 (a0 : Int × Int) (R : SV→Prop) : (Qau Tryz.prog Qta Qax Tryz.f175 [.agg [.v (.int .i64 a0.1),.v (.int .i64 a0.2)]] R) = (((I64 (Prod.fst a0))∧(I64 256))∧(((I64 (Prod.snd a0))∧(I64 256))∧(R (SV.agg [(SV.v (.int .i64 (NB.v (Qd2 (Prod.fst a0) 256)))),(SV.v (.bool (NB.f (Qd2 (Prod.fst a0) 256)))),(SV.v (.int .i64 (NB.v (Qd2 (Prod.snd a0) 256)))),(SV.v (.bool (NB.f (Qd2 (Prod.snd a0) 256))))])))):=by kernel_rfl
theorem Qz5 (a0 : NB) (R : SV→Prop) : (Qau Tryz.prog Qta Qax Tryz.f87 [nS a0] R) = ((I64 (NB.v a0))∧((I64 (NB.v a0))∧(R (SV.agg [(SV.v (.int .i64 (NB.v (Qiw a0)))),(SV.v (.bool (NB.f (Qiw a0)))),(SV.v (.int .i64 (NB.v (Qgn a0)))),(SV.v (.bool (NB.f (Qgn a0))))])))):=by kernel_rfl
theorem Qz4 (a0 : VB) (a1 : VB) (R : SV→Prop) : (Qau Tryz.prog Qta Qax Tryz.f245 [vS a0,vS a1] R) = ((I64 (NB.v (VB.y a0)))∧((((I64 (NB.v (VB.x a0)))∧(I64 (NB.v (VB.x a1))))∧((I64 (NB.v (Qct (VB.y a0))))∧(I64 (NB.v (VB.y a1)))))∧((((I64 (NB.v (VB.y a0)))∧(I64 (NB.v (VB.x a1))))∧((I64 (NB.v (VB.x a0)))∧(I64 (NB.v (VB.y a1)))))∧(R (SV.agg [(SV.v (.int .i64 (NB.v (Qch (VB.x a0) (VB.x a1) (Qct (VB.y a0)) (VB.y a1))))),(SV.v (.bool (NB.f (Qch (VB.x a0) (VB.x a1) (Qct (VB.y a0)) (VB.y a1))))),(SV.v (.int .i64 (NB.v (Qch (VB.y a0) (VB.x a1) (VB.x a0) (VB.y a1))))),(SV.v (.bool (NB.f (Qch (VB.y a0) (VB.x a1) (VB.x a0) (VB.y a1)))))]))))):=by kernel_rfl
def Zfj : Qb7 := Qah (Qah (Qah (Qah (Qah (Qah (Qah (Qah (Qta) 8 (Qaj Zlr)) 27 (Qaj Qkl)) 28 (Qaj Zci)) 15 (Qaj Qt4)) 281 (Qaj Zcy)) 323 (Qaj Qt9)) 203 (Qaj Q1f)) 31 (Qaj Zcu)
def Zfi : Qb7 := Qah (Qah (Qah (Qah (Zfj) 80 (Qaj Qko)) 96 (Qaj Qkn)) 79 (Qaj Qm0)) 175 (Qaj Qkl)
def Zjf : Qb7 := Qah (Qah (Zfi) 87 (Qaj Qko)) 245 (Qaj Qkn)
theorem Za3 (a0 : NB) (a1 : VB) (R : SV→Prop) : (Qau Tryz.prog Zjf Qax Tryz.f320 [nS a0,vS a1] R) = (((I64 (NB.v (VB.x a1)))∧(I64 (NB.v (VB.y a1))))∧((((I64 (NB.v (VB.x (Qoc a1))))∧(I64 (NB.v (VB.y (Qoc a1)))))∧(I64 (NB.v a0)))∧(R (SV.agg [(SV.v (.int .i64 (NB.v (VB.x (Zew (Qoc a1) a0))))),(SV.v (.bool (NB.f (VB.x (Zew (Qoc a1) a0))))),(SV.v (.int .i64 (NB.v (VB.y (Zew (Qoc a1) a0))))),(SV.v (.bool (NB.f (VB.y (Zew (Qoc a1) a0)))))])))):=by kernel_rfl
theorem Za5 (a0 : VB) (a1 : NB) (R : SV→Prop) : (Qau Tryz.prog Zjf Qax Tryz.f17 [vS a0,nS a1] R) = ((I64 (NB.v a1))∧((((I64 (NB.v (VB.x (Qtg a1))))∧(I64 (NB.v (VB.y (Qtg a1)))))∧((I64 (NB.v (VB.x a0)))∧(I64 (NB.v (VB.y a0)))))∧(R (SV.agg [(SV.v (.int .i64 (NB.v (VB.x (Zee (Qtg a1) a0))))),(SV.v (.bool (NB.f (VB.x (Zee (Qtg a1) a0))))),(SV.v (.int .i64 (NB.v (VB.y (Zee (Qtg a1) a0))))),(SV.v (.bool (NB.f (VB.y (Zee (Qtg a1) a0)))))])))):=by kernel_rfl
def Zje : Qb7 := Qah (Qah (Zjf) 320 (Qaj Q04)) 17 (Qaj Q07)
theorem Qf6 {a : NB} (h : I64 a.v) : I64 (Qct a).v := (Q2k (Q0s h)).i64
theorem Qim (a : Int) : I64 (Qf8 a).v := (Qbp _).i64
theorem Qgq (a b : Int) : I64 (Qd2 a b).v := (Qfr _ _).i64
theorem Qil (a b : NB) : I64 (Qho a b).v := (Qbp _).i64
theorem Qhb (a b : NB) : I64 (Qda a b).v := (Qfr _ _).i64
theorem Qg8 (a b : NB) : I64 (Q41 a b).v := (Qbp _).i64
theorem Qfy (a b c d : NB) : I64 (Qch a b c d).v := (Qbp _).i64
theorem Qht (a b : NB) : I64 (Qrl a b).v := (Qbp _).i64
theorem Qeq (a : NB) : I64 (sum1 a).v := (Qbp _).i64
theorem Qg9 (a : NB) : I64 (Qgn a).v := by have := Qt1 a; exact ⟨by omega, by omega⟩
theorem Qh1 (a : NB) : I64 (Qiw a).v := Qg9 _
theorem Qe8 (v : Int) (f : Bool) : Qkz [SV.v (Value.int .i64 v), SV.v (Value.bool f)] = I64 v := rfl
theorem Qtc : I64 256 := ⟨by decide, by decide⟩
theorem Qdv {v : VB} (h : I64 v.y.v) : I64 (Qoc v).x.v := Qf6 h
theorem Qdn (v : VB) : I64 (Qoc v).y.v := Qeq _
theorem Qfa (x : NB) : I64 (Qtg x).x.v := Qh1 _
theorem Qe9 (x : NB) : I64 (Qtg x).y.v := Qg9 _
theorem Q5a : ∀ f g, Zfm f = some g → g.ok Tryz.prog f := Qab (Qab (Qab (Qab (Qab (Qab (Qab (Qab (Qas) (Qak Tryz.func63 (by kernel_rfl) (by kernel_rfl) (spec := i1B Qf8) Qxa)) (Qak Tryz.func9 (by kernel_rfl) (by kernel_rfl) (spec := i2B Qd2) Qlb)) (Qak Tryz.func155 (by kernel_rfl) (by kernel_rfl) (spec := n1B Qct) Qrd)) (Qak Tryz.func16 (by kernel_rfl) (by kernel_rfl) (spec := n2B Qho) Qw8)) (Qak Tryz.func156 (by kernel_rfl) (by kernel_rfl) (spec := n2B Qda) Qxb)) (Qak Tryz.func95 (by kernel_rfl) (by kernel_rfl) (spec := n2B Q41) Q72)) (Qak Tryz.func99 (by kernel_rfl) (by kernel_rfl) (spec := n2B Qrl) Qyw)) (Qak Tryz.func154 (by kernel_rfl) (by kernel_rfl) (spec := n4B Qch) Q8m)
theorem Q49 : ∀ f g, Zfl f = some g → g.ok Tryz.prog f := Qab (Qab (Qab (Qab (Qab (Qab (Qab (Qab (Q5a) (Qak Tryz.func158 (by kernel_rfl) (by kernel_rfl) (spec := n1B Qgn) Qw6)) (Qak Tryz.func157 (by kernel_rfl) (by kernel_rfl) (spec := n1B Qiw) Q8o)) (Qak Tryz.func229 (by kernel_rfl) (by kernel_rfl) Qw7)) (Qc0 Tryz.func74 (by kernel_rfl) (by kernel_rfl) Qrb)) (Qak Tryz.func218 (by kernel_rfl) (by kernel_rfl) (spec := i1B Qf8) Qs0)) (Qak Tryz.func220 (by kernel_rfl) (by kernel_rfl) (spec := i2B Qd2) Qn4)) (Qak Tryz.func235 (by kernel_rfl) (by kernel_rfl) (spec := n1B Qct) Qn5)) (Qak Tryz.func236 (by kernel_rfl) (by kernel_rfl) (spec := n2B Qho) Qsy)
theorem Q48 : ∀ f g, Zfk f = some g → g.ok Tryz.prog f := Qab (Qab (Qab (Qab (Qab (Q49) (Qak Tryz.func219 (by kernel_rfl) (by kernel_rfl) (spec := n2B Qda) Qs1)) (Qak Tryz.func240 (by kernel_rfl) (by kernel_rfl) (spec := n4B Qch) Q38)) (Qak Tryz.func162 (by kernel_rfl) (by kernel_rfl) (spec := n1B Qgn) Qsx)) (Qak Tryz.func161 (by kernel_rfl) (by kernel_rfl) (spec := n1B Qiw) Q39)) (Qc0 Tryz.func303 (by kernel_rfl) (by kernel_rfl) Qsw)
theorem Qdt : ∀ f g, Qta f = some g → g.ok Tryz.prog f := Qab (Q48) (Qak Tryz.func242 (by kernel_rfl) (by kernel_rfl) (spec := n1B Qy8) Q4b)
theorem Q8b : Qai Tryz.prog 8 Zlr := Qan hm Qdt Tryz.func8 (Λ := fun _ => Qax) fun args p x h hp => by
 unfold Zlr at h
 split at h <;> try (cases h; done)
 rename_i a0 a1
 cases h
 obtain ⟨h0, h1⟩ := hp _ rfl
 refine ⟨rfl, rfl, ?_⟩
 refine Eq.mpr (Zkt a0 a1 _) ?_
 simp only [Qim, Qgq, Qil, Qhb, Qg8, Qfy, Qht, Qg9, Qh1, Qeq, Qe8, Qtc, Qdn, Qfa, Qe9, and_true, true_and, and_self, Qf6, Qdv, h0, h1] <;> first | rfl | exact ⟨by decide, rfl⟩ | exact ⟨⟨rfl, by decide⟩, rfl⟩
theorem Qva : Qai Tryz.prog 27 Qkl := Qan hm Qdt Tryz.func27 (Λ := fun _ => Qax) fun args p x h hp => by
 unfold Qkl at h
 split at h <;> try (cases h; done)
 rename_i a0 b0
 cases h
 obtain ⟨h0, k0⟩ := hp _ rfl
 refine ⟨rfl, rfl, ?_⟩
 refine Eq.mpr (Q5z (a0, b0) _) ?_
 simp only [Qim, Qgq, Qil, Qhb, Qg8, Qfy, Qht, Qg9, Qh1, Qeq, Qe8, Qtc, Qdn, Qfa, Qe9, and_true, true_and, and_self, Qf6, Qdv, h0, k0] <;> first | rfl | exact ⟨by decide, rfl⟩ | exact ⟨⟨rfl, by decide⟩, rfl⟩
theorem Q30 : Qai Tryz.prog 28 Zci := Qan hm Qdt Tryz.func28 (Λ := fun _ => Qax) fun args p x h hp => by
 unfold Zci at h
 split at h <;> try (cases h; done)
 rename_i a0 f0 b0 g0 a1 f1 b1 g1
 cases h
 obtain ⟨⟨h0, k0⟩, ⟨h1, k1⟩⟩ := hp _ rfl
 refine ⟨rfl, rfl, ?_⟩
 refine Eq.mpr (Zfx ⟨⟨a0, f0⟩, ⟨b0, g0⟩⟩ ⟨⟨a1, f1⟩, ⟨b1, g1⟩⟩ _) ?_
 simp only [Qim, Qgq, Qil, Qhb, Qg8, Qfy, Qht, Qg9, Qh1, Qeq, Qe8, Qtc, Qdn, Qfa, Qe9, and_true, true_and, and_self, Qf6, Qdv, h0, k0, h1, k1] <;> first | rfl | exact ⟨by decide, rfl⟩ | exact ⟨⟨rfl, by decide⟩, rfl⟩
theorem Qu2 : Qai Tryz.prog 15 Qt4 := Qan hm Qdt Tryz.func15 (Λ := fun _ => Qax) fun args p x h hp => by
 unfold Qt4 at h
 split at h <;> try (cases h; done)
 rename_i a0 f0 b0 g0 a1 f1
 cases h
 obtain ⟨⟨h0, k0⟩, h1⟩ := hp _ rfl
 refine ⟨rfl, rfl, ?_⟩
 refine Eq.mpr (Q5p ⟨⟨a0, f0⟩, ⟨b0, g0⟩⟩ ⟨a1, f1⟩ _) ?_
 simp only [Qim, Qgq, Qil, Qhb, Qg8, Qfy, Qht, Qg9, Qh1, Qeq, Qe8, Qtc, Qdn, Qfa, Qe9, and_true, true_and, and_self, Qf6, Qdv, h0, k0, h1] <;> first | rfl | exact ⟨by decide, rfl⟩ | exact ⟨⟨rfl, by decide⟩, rfl⟩
theorem Q4p : Qai Tryz.prog 281 Zcy := Qan hm Qdt Tryz.func281 (Λ := fun _ => Qax) fun args p x h hp => by
 unfold Zcy at h
 split at h <;> try (cases h; done)
 rename_i a0 f0 b0 g0 a1 f1 b1 g1
 cases h
 obtain ⟨⟨h0, k0⟩, ⟨h1, k1⟩⟩ := hp _ rfl
 refine ⟨rfl, rfl, ?_⟩
 refine Eq.mpr (Zgt ⟨⟨a0, f0⟩, ⟨b0, g0⟩⟩ ⟨⟨a1, f1⟩, ⟨b1, g1⟩⟩ _) ?_
 simp only [Qim, Qgq, Qil, Qhb, Qg8, Qfy, Qht, Qg9, Qh1, Qeq, Qe8, Qtc, Qdn, Qfa, Qe9, and_true, true_and, and_self, Qf6, Qdv, h0, k0, h1, k1] <;> first | rfl | exact ⟨by decide, rfl⟩ | exact ⟨⟨rfl, by decide⟩, rfl⟩
theorem Qvd : Qai Tryz.prog 323 Qt9 := Qan hm Qdt Tryz.func323 (Λ := fun _ => Qax) fun args p x h hp => by
 unfold Qt9 at h
 split at h <;> try (cases h; done)
 rename_i a0 f0 b0 g0 a1 f1 b1 g1
 cases h
 obtain ⟨⟨h0, k0⟩, ⟨h1, k1⟩⟩ := hp _ rfl
 refine ⟨rfl, rfl, ?_⟩
 refine Eq.mpr (Q52 ⟨⟨a0, f0⟩, ⟨b0, g0⟩⟩ ⟨⟨a1, f1⟩, ⟨b1, g1⟩⟩ _) ?_
 simp only [Qim, Qgq, Qil, Qhb, Qg8, Qfy, Qht, Qg9, Qh1, Qeq, Qe8, Qtc, Qdn, Qfa, Qe9, and_true, true_and, and_self, Qf6, Qdv, h0, k0, h1, k1] <;> first | rfl | exact ⟨by decide, rfl⟩ | exact ⟨⟨rfl, by decide⟩, rfl⟩
theorem Qyt : Qai Tryz.prog 203 Q1f := Qan hm Qdt Tryz.func203 (Λ := fun _ => Qax) fun args p x h hp => by
 unfold Q1f at h
 split at h <;> try (cases h; done)
 rename_i a0 f0 b0 g0
 cases h
 obtain ⟨h0, k0⟩ := hp _ rfl
 refine ⟨rfl, rfl, ?_⟩
 refine Eq.mpr (Zbm ⟨⟨a0, f0⟩, ⟨b0, g0⟩⟩ _) ?_
 simp only [Qim, Qgq, Qil, Qhb, Qg8, Qfy, Qht, Qg9, Qh1, Qeq, Qe8, Qtc, Qdn, Qfa, Qe9, and_true, true_and, and_self, Qf6, Qdv, h0, k0] <;> first | rfl | exact ⟨by decide, rfl⟩ | exact ⟨⟨rfl, by decide⟩, rfl⟩
theorem Q4l : Qai Tryz.prog 31 Zcu := Qan hm Qdt Tryz.func31 (Λ := fun _ => Qax) fun args p x h hp => by
 unfold Zcu at h
 split at h <;> try (cases h; done)
 rename_i a0 f0 b0 g0
 cases h
 obtain ⟨h0, k0⟩ := hp _ rfl
 refine ⟨rfl, rfl, ?_⟩
 refine Eq.mpr (Zgn ⟨⟨a0, f0⟩, ⟨b0, g0⟩⟩ _) ?_
 simp only [Qim, Qgq, Qil, Qhb, Qg8, Qfy, Qht, Qg9, Qh1, Qeq, Qe8, Qtc, Qdn, Qfa, Qe9, and_true, true_and, and_self, Qf6, Qdv, h0, k0] <;> first | rfl | exact ⟨by decide, rfl⟩ | exact ⟨⟨rfl, by decide⟩, rfl⟩
theorem Qvh : Qai Tryz.prog 80 Qko := Qan hm Qdt Tryz.func80 (Λ := fun _ => Qax) fun args p x h hp => by
 unfold Qko at h
 split at h <;> try (cases h; done)
 rename_i a0 f0
 cases h
 obtain h0 := hp _ rfl
 refine ⟨rfl, rfl, ?_⟩
 refine Eq.mpr (Q6a ⟨a0, f0⟩ _) ?_
 simp only [Qim, Qgq, Qil, Qhb, Qg8, Qfy, Qht, Qg9, Qh1, Qeq, Qe8, Qtc, Qdn, Qfa, Qe9, and_true, true_and, and_self, Qf6, Qdv, h0] <;> first | rfl | exact ⟨by decide, rfl⟩ | exact ⟨⟨rfl, by decide⟩, rfl⟩
theorem Qvg : Qai Tryz.prog 96 Qkn := Qan hm Qdt Tryz.func96 (Λ := fun _ => Qax) fun args p x h hp => by
 unfold Qkn at h
 split at h <;> try (cases h; done)
 rename_i a0 f0 b0 g0 a1 f1 b1 g1
 cases h
 obtain ⟨⟨h0, k0⟩, ⟨h1, k1⟩⟩ := hp _ rfl
 refine ⟨rfl, rfl, ?_⟩
 refine Eq.mpr (Q59 ⟨⟨a0, f0⟩, ⟨b0, g0⟩⟩ ⟨⟨a1, f1⟩, ⟨b1, g1⟩⟩ _) ?_
 simp only [Qim, Qgq, Qil, Qhb, Qg8, Qfy, Qht, Qg9, Qh1, Qeq, Qe8, Qtc, Qdn, Qfa, Qe9, and_true, true_and, and_self, Qf6, Qdv, h0, k0, h1, k1] <;> first | rfl | exact ⟨by decide, rfl⟩ | exact ⟨⟨rfl, by decide⟩, rfl⟩
theorem Qrg : Qai Tryz.prog 79 Qm0 := Qan hm Qdt Tryz.func79 (Λ := fun _ => Qax) fun args p x h hp => by
 unfold Qm0 at h
 split at h <;> try (cases h; done)
 rename_i a0 f0 b0 g0 a1 f1 b1 g1
 cases h
 obtain ⟨⟨h0, k0⟩, ⟨h1, k1⟩⟩ := hp _ rfl
 refine ⟨rfl, rfl, ?_⟩
 refine Eq.mpr (Qxf ⟨⟨a0, f0⟩, ⟨b0, g0⟩⟩ ⟨⟨a1, f1⟩, ⟨b1, g1⟩⟩ _) ?_
 have hn := Qf6 (a := ⟨b0, g0⟩) k0
 simp only [Qim, Qgq, Qil, Qhb, Qg8, Qfy, Qht, Qg9, Qh1, Qeq, Qe8, Qtc, Qdn, Qfa, Qe9, and_true, true_and, and_self, h0, k0, h1, k1, hn, Qf6]
 unfold Zee
 refine Qaf (fun g => ?_) fun g => ?_
 · rw [beq_eq_false_iff_ne.2 (bne_iff_ne.1 g)]; rfl
 · rw [beq_iff_eq.2 (bne_eq_false_iff_eq.1 g)]; rfl
theorem Qsz : Qai Tryz.prog 175 Qkl := Qan hm Qdt Tryz.func175 (Λ := fun _ => Qax) fun args p x h hp => by
 unfold Qkl at h
 split at h <;> try (cases h; done)
 rename_i a0 b0
 cases h
 obtain ⟨h0, k0⟩ := hp _ rfl
 refine ⟨rfl, rfl, ?_⟩
 refine Eq.mpr (Qz0 (a0, b0) _) ?_
 simp only [Qim, Qgq, Qil, Qhb, Qg8, Qfy, Qht, Qg9, Qh1, Qeq, Qe8, Qtc, Qdn, Qfa, Qe9, and_true, true_and, and_self, Qf6, Qdv, h0, k0] <;> first | rfl | exact ⟨by decide, rfl⟩ | exact ⟨⟨rfl, by decide⟩, rfl⟩
theorem Qs4 : Qai Tryz.prog 87 Qko := Qan hm Qdt Tryz.func87 (Λ := fun _ => Qax) fun args p x h hp => by
 unfold Qko at h
 split at h <;> try (cases h; done)
 rename_i a0 f0
 cases h
 obtain h0 := hp _ rfl
 refine ⟨rfl, rfl, ?_⟩
 refine Eq.mpr (Qz5 ⟨a0, f0⟩ _) ?_
 simp only [Qim, Qgq, Qil, Qhb, Qg8, Qfy, Qht, Qg9, Qh1, Qeq, Qe8, Qtc, Qdn, Qfa, Qe9, and_true, true_and, and_self, Qf6, Qdv, h0] <;> first | rfl | exact ⟨by decide, rfl⟩ | exact ⟨⟨rfl, by decide⟩, rfl⟩
theorem Qs3 : Qai Tryz.prog 245 Qkn := Qan hm Qdt Tryz.func245 (Λ := fun _ => Qax) fun args p x h hp => by
 unfold Qkn at h
 split at h <;> try (cases h; done)
 rename_i a0 f0 b0 g0 a1 f1 b1 g1
 cases h
 obtain ⟨⟨h0, k0⟩, ⟨h1, k1⟩⟩ := hp _ rfl
 refine ⟨rfl, rfl, ?_⟩
 refine Eq.mpr (Qz4 ⟨⟨a0, f0⟩, ⟨b0, g0⟩⟩ ⟨⟨a1, f1⟩, ⟨b1, g1⟩⟩ _) ?_
 simp only [Qim, Qgq, Qil, Qhb, Qg8, Qfy, Qht, Qg9, Qh1, Qeq, Qe8, Qtc, Qdn, Qfa, Qe9, and_true, true_and, and_self, Qf6, Qdv, h0, k0, h1, k1] <;> first | rfl | exact ⟨by decide, rfl⟩ | exact ⟨⟨rfl, by decide⟩, rfl⟩
theorem Q47 : ∀ f g, Zfj f = some g → g.ok Tryz.prog f := Qab (Qab (Qab (Qab (Qab (Qab (Qab (Qab (Qdt) (Qak Tryz.func8 (by kernel_rfl) (by kernel_rfl) Q8b)) (Qak Tryz.func27 (by kernel_rfl) (by kernel_rfl) Qva)) (Qak Tryz.func28 (by kernel_rfl) (by kernel_rfl) Q30)) (Qak Tryz.func15 (by kernel_rfl) (by kernel_rfl) Qu2)) (Qak Tryz.func281 (by kernel_rfl) (by kernel_rfl) Q4p)) (Qak Tryz.func323 (by kernel_rfl) (by kernel_rfl) Qvd)) (Qak Tryz.func203 (by kernel_rfl) (by kernel_rfl) Qyt)) (Qak Tryz.func31 (by kernel_rfl) (by kernel_rfl) Q4l)
theorem Q46 : ∀ f g, Zfi f = some g → g.ok Tryz.prog f := Qab (Qab (Qab (Qab (Q47) (Qak Tryz.func80 (by kernel_rfl) (by kernel_rfl) Qvh)) (Qak Tryz.func96 (by kernel_rfl) (by kernel_rfl) Qvg)) (Qak Tryz.func79 (by kernel_rfl) (by kernel_rfl) Qrg)) (Qak Tryz.func175 (by kernel_rfl) (by kernel_rfl) Qsz)
theorem Qtk : ∀ f g, Zjf f = some g → g.ok Tryz.prog f := Qab (Qab (Q46) (Qak Tryz.func87 (by kernel_rfl) (by kernel_rfl) Qs4)) (Qak Tryz.func245 (by kernel_rfl) (by kernel_rfl) Qs3)
theorem Qyb : Qai Tryz.prog 320 Q04 := Qan hm Qtk Tryz.func320 (Λ := fun _ => Qax) fun args p x h hp => by
 unfold Q04 at h
 split at h <;> try (cases h; done)
 rename_i a0 f0 a1 f1 b1 g1
 cases h
 obtain ⟨h0, ⟨h1, k1⟩⟩ := hp _ rfl
 refine ⟨rfl, rfl, ?_⟩
 refine Eq.mpr (Za3 ⟨a0, f0⟩ ⟨⟨a1, f1⟩, ⟨b1, g1⟩⟩ _) ?_
 simp only [Qim, Qgq, Qil, Qhb, Qg8, Qfy, Qht, Qg9, Qh1, Qeq, Qe8, Qtc, Qdn, Qfa, Qe9, and_true, true_and, and_self, Qf6, Qdv, h0, h1, k1] <;> first | rfl | exact ⟨by decide, rfl⟩ | exact ⟨⟨rfl, by decide⟩, rfl⟩
theorem Qyd : Qai Tryz.prog 17 Q07 := Qan hm Qtk Tryz.func17 (Λ := fun _ => Qax) fun args p x h hp => by
 unfold Q07 at h
 split at h <;> try (cases h; done)
 rename_i a0 f0 b0 g0 a1 f1
 cases h
 obtain ⟨⟨h0, k0⟩, h1⟩ := hp _ rfl
 refine ⟨rfl, rfl, ?_⟩
 refine Eq.mpr (Za5 ⟨⟨a0, f0⟩, ⟨b0, g0⟩⟩ ⟨a1, f1⟩ _) ?_
 simp only [Qim, Qgq, Qil, Qhb, Qg8, Qfy, Qht, Qg9, Qh1, Qeq, Qe8, Qtc, Qdn, Qfa, Qe9, and_true, true_and, and_self, Qf6, Qdv, h0, k0, h1] <;> first | rfl | exact ⟨by decide, rfl⟩ | exact ⟨⟨rfl, by decide⟩, rfl⟩
theorem Qtj : ∀ f g, Zje f = some g → g.ok Tryz.prog f := Qab (Qab (Qtk) (Qak Tryz.func320 (by kernel_rfl) (by kernel_rfl) Qyb)) (Qak Tryz.func17 (by kernel_rfl) (by kernel_rfl) Qyd)
end Go.Proofs.YteekigmbopdfjaaGreat
end
section
namespace Go.Proofs.YteekigmbopdfjaaGreat
open Go.SE
def pev : List Int → Int → Int
 | [], _ => 0
 | c :: p, x => c + x * pev p x
def Q6x : List Int → List Int → List Int
 | [], q => q
 | a :: p, [] => a :: p
 | a :: p, b :: q => (a + b) :: Q6x p q
def psc (c : Int) : List Int → List Int
 | [] => []
 | a :: p => c * a :: psc c p
def Zdc : List Int → List Int → List Int
 | [], _ => []
 | a :: p, q => Q6x (psc a q) (0 :: Zdc p q)
def Qxw : List Int → List Int → List Int
 | [], _ => []
 | a :: p, q => Q6x [a] (Zdc q (Qxw p q))
def pab : List Int → Int → Int
 | [], _ => 0
 | c :: p, x => Qac c + x * pab p x
theorem Qm7 (x : Int) : ∀ p q, pev (Q6x p q) x = pev p x + pev q x
 | [], q => by simp [Q6x, pev]
 | a :: p, [] => by simp [Q6x, pev]
 | a :: p, b :: q => by simp only [Q6x, pev, Qm7 x p q, Int.mul_add]; omega
theorem Q9e (c x : Int) : ∀ p, pev (psc c p) x = c * pev p x
 | [] => by simp [psc, pev]
 | a :: p => by simp only [psc, pev, Q9e c x p, Int.mul_add]; rw [Int.mul_left_comm]
theorem Qqf (x : Int) : ∀ p q, pev (Zdc p q) x = pev p x * pev q x
 | [], q => by simp [Zdc, pev]
 | a :: p, q => by simp only [Zdc, Qm7, Q9e, pev, Qqf x p q, Int.add_mul, Int.mul_assoc]; omega
theorem Qv7 (x : Int) : ∀ p q, pev (Qxw p q) x = pev p (pev q x)
 | [], q => by simp [Qxw, pev]
 | a :: p, q => by simp only [Qxw, Qm7, Qqf, pev, Qv7 x p q]; omega
theorem Qoy {x : Int} (h : 0 ≤ x) : ∀ p, 0 ≤ pab p x
 | [] => Int.le_refl _
 | c :: p => by have := Int.mul_nonneg h (Qoy h p); have := Qbk c; show 0 ≤ Qac c + x * pab p x; omega
theorem Q2c {x q : Int} (h0 : 0 ≤ x) (h1 : x ≤ q) : ∀ p, -pab p q ≤ pev p x ∧ pev p x ≤ pab p q
 | [] => ⟨Int.le_refl _, Int.le_refl _⟩
 | c :: p => by
   obtain ⟨a, b⟩ := Q2c h0 h1 p
   have n := Qoy (x := q) (by omega) p
   have m1 : x * pab p q ≤ q * pab p q := Int.mul_le_mul_of_nonneg_right h1 n
   have m2 : x * pev p x ≤ x * pab p q := Int.mul_le_mul_of_nonneg_left b h0
   have m3 : x * -pab p q ≤ x * pev p x := Int.mul_le_mul_of_nonneg_left a h0
   rw [Int.mul_neg] at m3
   have c1 : -Qac c ≤ c ∧ c ≤ Qac c := by unfold Qac; split <;> omega
   show -(Qac c + q * pab p q) ≤ c + x * pev p x ∧ c + x * pev p x ≤ Qac c + q * pab p q
   omega
def mg (a : Int) : Nat → Int
 | 0 => a
 | k + 1 => mg a k * a / 4294967296 * a / 4294967296 / ((2 * ((k : Int) + 1)) * (2 * ((k : Int) + 1) + 1))
def sgk : Nat → Int
 | 0 => 1
 | k + 1 => -sgk k
theorem Q88 : ∀ k, sgk k = 1 ∨ sgk k = -1
 | 0 => .inl rfl
 | k + 1 => by rcases Q88 k with h | h <;> simp [sgk, h]
def tT (v : Int) : Nat → Int
 | 0 => v
 | k + 1 => -Int.tdiv (Qa2 (Qa2 (tT v k) v) v) ((2 * ((k : Int) + 1)) * (2 * ((k : Int) + 1) + 1))
def uT (v : Int) : Nat → Int
 | 0 => v
 | k + 1 => uT v k + tT v (k + 1)
theorem Qwf (a b : Int) : Qa2 (-a) b = -Qa2 a b := by unfold Qa2; rw [Int.neg_mul, Int.neg_tdiv]
theorem Q2n (a b : Int) : Qa2 a (-b) = -Qa2 a b := by unfold Qa2; rw [Int.mul_neg, Int.neg_tdiv]
theorem Q85 (v : Int) : ∀ k, tT (-v) k = -tT v k
 | 0 => rfl
 | k + 1 => by
   show -Int.tdiv (Qa2 (Qa2 (tT (-v) k) (-v)) (-v)) _ = - -Int.tdiv (Qa2 (Qa2 (tT v k) v) v) _
   rw [Q85 v k]
   simp only [Qwf, Q2n, Int.neg_tdiv, Int.neg_neg]
theorem Q83 (v : Int) : ∀ k, uT (-v) k = -uT v k
 | 0 => rfl
 | k + 1 => by show uT (-v) k + tT (-v) (k + 1) = -(uT v k + tT v (k + 1)); rw [Q83 v k, Q85]; omega
theorem Qnr (k : Nat) : (0 : Int) < (2 * ((k : Int) + 1)) * (2 * ((k : Int) + 1) + 1) := Int.mul_pos (by omega) (by omega)
theorem Qne {a : Int} (h : 0 ≤ a) : ∀ k, 0 ≤ mg a k
 | 0 => h
 | k + 1 => by
   have h1 := Int.mul_nonneg (Qne h k) h
   have h2 : 0 ≤ mg a k * a / 4294967296 := Int.ediv_nonneg h1 (by decide)
   exact Int.ediv_nonneg (Int.ediv_nonneg (Int.mul_nonneg h2 h) (by decide)) (Int.le_of_lt (Qnr k))
theorem Qwe {a b : Int} (ha : 0 ≤ a) (hb : 0 ≤ b) : Qa2 a b = a * b / 4294967296 := Int.tdiv_eq_ediv_of_nonneg (Int.mul_nonneg ha hb)
theorem Zhf {a : Int} (h : 0 ≤ a) : ∀ k, tT a k = sgk k * mg a k
 | 0 => by show a = 1 * a; omega
 | k + 1 => by
   have h0 := Qne h k
   have h1 : 0 ≤ mg a k * a / 4294967296 := Int.ediv_nonneg (Int.mul_nonneg h0 h) (by decide)
   have h2 : 0 ≤ mg a k * a / 4294967296 * a / 4294967296 := Int.ediv_nonneg (Int.mul_nonneg h1 h) (by decide)
   show -Int.tdiv (Qa2 (Qa2 (tT a k) a) a) _ = -sgk k * (mg a k * a / 4294967296 * a / 4294967296 / _)
   rw [Zhf h k]
   have e : Int.tdiv (Qa2 (Qa2 (mg a k) a) a) ((2 * ((k : Int) + 1)) * (2 * ((k : Int) + 1) + 1)) = mg a k * a / 4294967296 * a / 4294967296 / ((2 * ((k : Int) + 1)) * (2 * ((k : Int) + 1) + 1)) := by
     rw [Qwe h0 h, Qwe h1 h, Int.tdiv_eq_ediv_of_nonneg h2]
   rw [← e]
   rcases Q88 k with hs | hs
   · rw [hs, Int.one_mul]; omega
   · rw [hs, show (-1 : Int) * mg a k = -mg a k by omega]
     simp only [Qwf, Int.neg_tdiv, Int.neg_neg]; omega
def CC : Nat → Int
 | 0 => 1
 | k + 1 => CC k * (18446744073709551616 * ((2 * ((k : Int) + 1)) * (2 * ((k : Int) + 1) + 1)))
def aa (a : Int) : Nat → Int
 | 0 => a
 | k + 1 => aa a k * (a * a)
theorem Qs8 : ∀ k, 0 < CC k
 | 0 => by decide
 | k + 1 => Int.mul_pos (Qs8 k) (Int.mul_pos (by decide) (Qnr k))
theorem Zia {a : Int} (h : 0 ≤ a) (h1 : a ≤ 6746518852) : ∀ k, mg a k * CC k ≤ aa a k ∧ aa a k ≤ (mg a k + 3) * CC k
 | 0 => by show a * 1 ≤ a ∧ a ≤ (a + 3) * 1; omega
 | k + 1 => by
   obtain ⟨l, u⟩ := Zia h h1 k
   have c0 := Qs8 k
   have m0 := Qne h k
   have hN := Qnr k
   have hN6 : (6 : Int) ≤ (2 * ((k : Int) + 1)) * (2 * ((k : Int) + 1) + 1) := by
     have : (2 : Int) * 3 ≤ (2 * ((k : Int) + 1)) * (2 * ((k : Int) + 1) + 1) := Int.mul_le_mul (by omega) (by omega) (by decide) (by omega)
     omega
   show mg a k * a / 4294967296 * a / 4294967296 / _ * (CC k * (18446744073709551616 * _)) ≤ aa a k * (a * a) ∧ aa a k * (a * a) ≤ (mg a k * a / 4294967296 * a / 4294967296 / _ + 3) * (CC k * (18446744073709551616 * _))
   generalize (2 * ((k : Int) + 1)) * (2 * ((k : Int) + 1) + 1) = N at *
   generalize hm : mg a k = m at *
   generalize CC k = c at *
   have p0 := Int.ediv_nonneg (Int.mul_nonneg m0 h) (show (0 : Int) ≤ 4294967296 by decide)
   have p1 : m * a / 4294967296 * 4294967296 ≤ m * a := Int.ediv_mul_le _ (by decide)
   have p2 : m * a < (m * a / 4294967296 + 1) * 4294967296 := Int.lt_ediv_add_one_mul_self _ (by decide)
   generalize m * a / 4294967296 = p at *
   have q1 : p * a / 4294967296 * 4294967296 ≤ p * a := Int.ediv_mul_le _ (by decide)
   have q2 : p * a < (p * a / 4294967296 + 1) * 4294967296 := Int.lt_ediv_add_one_mul_self _ (by decide)
   generalize p * a / 4294967296 = q at *
   have r1 : q / N * N ≤ q := Int.ediv_mul_le _ (by omega)
   have r2 : q < (q / N + 1) * N := Int.lt_ediv_add_one_mul_self _ hN
   generalize q / N = r at *
   have haa := Qbs a
   -- m a a between
   have e1 : m * (a * a) = m * a * a := (Int.mul_assoc m a a).symm
   have e2 : p * 4294967296 * a = p * a * 4294967296 := Int.mul_right_comm _ _ _
   have s1 : p * 4294967296 * a ≤ m * a * a := Int.mul_le_mul_of_nonneg_right p1 h
   have s2 : m * a * a ≤ (p + 1) * 4294967296 * a := Int.mul_le_mul_of_nonneg_right (by omega) h
   have e3 : (p + 1) * 4294967296 * a = p * a * 4294967296 + 4294967296 * a := by rw [Int.add_mul, Int.add_mul, Int.mul_right_comm p]; omega
   constructor
   · -- r N F F ≤ m a a
     have t1 : r * N * 18446744073709551616 ≤ m * (a * a) := by omega
     have t2 : r * N * 18446744073709551616 * c ≤ m * (a * a) * c := Int.mul_le_mul_of_nonneg_right t1 (by omega)
     have t3 : m * (a * a) * c = m * c * (a * a) := Int.mul_right_comm _ _ _
     have t4 : m * c * (a * a) ≤ aa a k * (a * a) := Int.mul_le_mul_of_nonneg_right l haa
     have t5 : r * (c * (18446744073709551616 * N)) = r * N * 18446744073709551616 * c := by
       rw [Int.mul_comm 18446744073709551616 N, ← Int.mul_assoc c, ← Int.mul_assoc r, Int.mul_right_comm (r * N), ← Int.mul_assoc r, Int.mul_right_comm r c N]
     omega
   · have a2 : a * a ≤ 6746518852 * a := Int.mul_le_mul_of_nonneg_right h1 h
     have e4 : (r + 1) * N = r * N + N := by rw [Int.add_mul]; omega
     have e5 : (r + 3) * N = r * N + 3 * N := by rw [Int.add_mul]
     have t1 : (m + 3) * (a * a) ≤ (r + 3) * N * 18446744073709551616 := by
       have : (m + 3) * (a * a) = m * (a * a) + 3 * (a * a) := Int.add_mul _ _ _
       omega
     have t2 : (m + 3) * (a * a) * c ≤ (r + 3) * N * 18446744073709551616 * c := Int.mul_le_mul_of_nonneg_right t1 (by omega)
     have t3 : (m + 3) * (a * a) * c = (m + 3) * c * (a * a) := Int.mul_right_comm _ _ _
     have t4 : aa a k * (a * a) ≤ (m + 3) * c * (a * a) := Int.mul_le_mul_of_nonneg_right u haa
     have t5 : (r + 3) * (c * (18446744073709551616 * N)) = (r + 3) * N * 18446744073709551616 * c := by
       rw [Int.mul_comm 18446744073709551616 N, ← Int.mul_assoc c, ← Int.mul_assoc (r + 3), Int.mul_right_comm ((r + 3) * N), ← Int.mul_assoc (r + 3), Int.mul_right_comm (r + 3) c N]
     omega
def DD : Int := CC 8
def PL : List Int := [0, CC 8 / CC 0, 0, -(CC 8 / CC 1), 0, CC 8 / CC 2, 0, -(CC 8 / CC 3), 0, CC 8 / CC 4, 0, -(CC 8 / CC 5), 0, CC 8 / CC 6, 0, -(CC 8 / CC 7), 0, CC 8 / CC 8]
def GL (q : Int) : List Int := Q6x (Q6x (Zdc PL PL) (Zdc (Qxw PL [q, -1]) (Qxw PL [q, -1]))) [-(DD * 4294967296 * (DD * 4294967296))]
theorem GL_1 : pab (GL 6746518852) 6746518852 ≤ 512 * 4294967296 * (DD * DD) := by decide +kernel
theorem GL_2 : pab (GL 6746518851) 6746518851 ≤ 512 * 4294967296 * (DD * DD) := by decide +kernel
theorem quot (k : Nat) (h : k ≤ 8) : CC 8 / CC k * CC k = CC 8 := by
 have : ∀ k : Fin 9, CC 8 / CC k.val * CC k.val = CC 8 := by decide +kernel
 exact this ⟨k, by omega⟩
theorem Qhe {a : Int} (h : 0 ≤ a) (h1 : a ≤ 6746518852) (k : Nat) (hk : k ≤ 8) : 0 ≤ CC 8 / CC k * aa a k - DD * mg a k ∧ CC 8 / CC k * aa a k - DD * mg a k ≤ 3 * DD := by
 obtain ⟨l, u⟩ := Zia h h1 k
 have q := quot k hk
 have r0 : 0 ≤ CC 8 / CC k := Int.ediv_nonneg (Int.le_of_lt (Qs8 8)) (Int.le_of_lt (Qs8 k))
 unfold DD
 generalize CC 8 / CC k = R at *
 have a1 := Int.mul_le_mul_of_nonneg_left l r0
 have a2 := Int.mul_le_mul_of_nonneg_left u r0
 have e1 : R * (mg a k * CC k) = CC 8 * mg a k := by rw [Int.mul_left_comm, q, Int.mul_comm]
 have e2 : R * ((mg a k + 3) * CC k) = CC 8 * mg a k + 3 * CC 8 := by rw [Int.mul_left_comm, q, Int.add_mul, Int.mul_comm]
 omega
theorem Zh1 (a : Int) : pev PL a = CC 8 / CC 0 * aa a 0 - CC 8 / CC 1 * aa a 1 + CC 8 / CC 2 * aa a 2 - CC 8 / CC 3 * aa a 3 + CC 8 / CC 4 * aa a 4 - CC 8 / CC 5 * aa a 5 + CC 8 / CC 6 * aa a 6 - CC 8 / CC 7 * aa a 7 + CC 8 / CC 8 * aa a 8 := by
 unfold PL
 generalize CC 8 / CC 0 = c0
 generalize CC 8 / CC 1 = c1
 generalize CC 8 / CC 2 = c2
 generalize CC 8 / CC 3 = c3
 generalize CC 8 / CC 4 = c4
 generalize CC 8 / CC 5 = c5
 generalize CC 8 / CC 6 = c6
 generalize CC 8 / CC 7 = c7
 generalize CC 8 / CC 8 = c8
 have odd : ∀ (c : Int) (p : List Int), pev (0 :: c :: p) a = a * (c + a * pev p a) := fun c p => by simp only [pev]; omega
 have sh : ∀ (c : Int) (p : List Int), pev (0 :: c :: p) a = c * a + (a * a) * pev p a := fun c p => by rw [odd, Int.mul_add, Int.mul_comm a c, Int.mul_assoc]
 have e0 : ∀ k, aa a (k + 1) = (a * a) * aa a k := fun k => by show aa a k * (a * a) = _; rw [Int.mul_comm]
 -- p(x) = c0 x + x² p1(x), where p1 begins with 0 again
 have s0 : pev [0, c0, 0, -c1, 0, c2, 0, -c3, 0, c4, 0, -c5, 0, c6, 0, -c7, 0, c8] a = c0 * a + (a * a) * (-c1 * a + (a * a) * (c2 * a + (a * a) * (-c3 * a + (a * a) * (c4 * a + (a * a) * (-c5 * a + (a * a) * (c6 * a + (a * a) * (-c7 * a + (a * a) * (c8 * a)))))))) := by
   rw [sh, sh, sh, sh, sh, sh, sh, sh, sh]; simp [pev]
 rw [s0]
 simp only [e0, show aa a 0 = a from rfl]
 generalize a * a = b
 simp only [Int.mul_add, Int.neg_mul, Int.mul_neg, Int.mul_left_comm b]
 omega
theorem Zg9 (a : Int) (h : 0 ≤ a) : uT a 8 = mg a 0 - mg a 1 + mg a 2 - mg a 3 + mg a 4 - mg a 5 + mg a 6 - mg a 7 + mg a 8 := by
 have e : ∀ k, uT a (k + 1) = uT a k + sgk (k + 1) * mg a (k + 1) := fun k => by rw [← Zhf h (k + 1)]; rfl
 rw [e 7, e 6, e 5, e 4, e 3, e 2, e 1, e 0]
 show a + -1 * mg a 1 + 1 * mg a 2 + -1 * mg a 3 + 1 * mg a 4 + -1 * mg a 5 + 1 * mg a 6 + -1 * mg a 7 + 1 * mg a 8 = a - _ + _ - _ + _ - _ + _ - _ + _
 omega
theorem Zha {a : Int} (h : 0 ≤ a) (h1 : a ≤ 6746518852) : -(12 * DD) ≤ DD * uT a 8 - pev PL a ∧ DD * uT a 8 - pev PL a ≤ 12 * DD := by
 rw [Zg9 a h, Zh1]
 have t0 : CC 8 / CC 0 * aa a 0 = DD * mg a 0 := by show CC 8 / CC 0 * a = CC 8 * a; rw [show CC 8 / CC 0 = CC 8 by decide +kernel]
 have t1 := Qhe h h1 1 (by decide)
 have t2 := Qhe h h1 2 (by decide)
 have t3 := Qhe h h1 3 (by decide)
 have t4 := Qhe h h1 4 (by decide)
 have t5 := Qhe h h1 5 (by decide)
 have t6 := Qhe h h1 6 (by decide)
 have t7 := Qhe h h1 7 (by decide)
 have t8 := Qhe h h1 8 (by decide)
 simp only [Int.mul_add, Int.mul_sub]
 generalize DD = D at *
 omega
theorem Zjc (q a : Int) : pev (GL q) a = pev PL a * pev PL a + pev PL (q - a) * pev PL (q - a) - DD * 4294967296 * (DD * 4294967296) := by
 have e : pev [q, -1] a = q - a := by simp [pev]; omega
 unfold GL
 rw [Qm7, Qm7, Qqf, Qqf, Qv7, e]
 simp [pev]; omega
theorem Ze8 (a b c d : Int) : a * b * (c * d) = a * c * (b * d) := by rw [Int.mul_assoc, Int.mul_assoc, Int.mul_left_comm b c d]
theorem Qdk {p q P Q : Int} (hP : 0 ≤ P) (a1 : -P ≤ p) (a2 : p ≤ P) (b1 : -Q ≤ q) (b2 : q ≤ Q) : -(P * Q) ≤ p * q ∧ p * q ≤ P * Q := by
 have c1 : Qac p ≤ P := by unfold Qac; split <;> omega
 have c2 : Qac q ≤ Q := by unfold Qac; split <;> omega
 have c3 : Qac p * Qac q ≤ P * Q := Int.mul_le_mul c1 c2 (Qbk q) hP
 have c4 := Qgo p q
 have c5 := Qcq (a := p) (b := q)
 generalize Qac p * Qac q = z at *
 generalize (!(decide (p < 0) == decide (q < 0))) = n at *
 rw [← c4]
 unfold sv
 cases n <;> simp <;> omega
theorem Zhg {D u w A B F : Int} (hD : 0 < D) (hF : 1000 ≤ F) (h1 : -(12 * D) ≤ D * u - A ∧ D * u - A ≤ 12 * D) (h2 : -(12 * D) ≤ D * w - B ∧ D * w - B ≤ 12 * D)
   (h3 : -(512 * F * (D * D)) ≤ A * A + B * B - D * F * (D * F) ∧ A * A + B * B - D * F * (D * F) ≤ 512 * F * (D * D)) : -(640 * F) ≤ u * u + w * w - F * F ∧ u * u + w * w - F * F ≤ 640 * F := by
 have hDD : 0 < D * D := Int.mul_pos hD hD
 have eF : D * F * (D * F) = F * F * (D * D) := by rw [Ze8, Int.mul_comm]
 have k1 : 512 * F * (D * D) = 512 * (F * (D * D)) := Int.mul_assoc _ _ _
 rw [eF, k1] at h3
 have hFF : 1000 * F ≤ F * F := Int.mul_le_mul_of_nonneg_right hF (by omega)
 have hFD : 1000 * (D * D) ≤ F * (D * D) := Int.mul_le_mul_of_nonneg_right hF (by omega)
 have hFFD : 1000 * (F * (D * D)) ≤ F * (F * (D * D)) := Int.mul_le_mul_of_nonneg_right hF (by omega)
 have k2 : F * F * (D * D) = F * (F * (D * D)) := Int.mul_assoc _ _ _
 have k3 : (2 * (D * F)) * (2 * (D * F)) = 4 * (F * (F * (D * D))) := by rw [Ze8, eF, k2]; omega
 have p2 : 0 ≤ D * F := Int.mul_nonneg (Int.le_of_lt hD) (by omega)
 -- A and B are at most 2 D F
 have lim : ∀ {X Y : Int}, X * X + Y * Y - F * F * (D * D) ≤ 512 * (F * (D * D)) → -(2 * (D * F)) ≤ X ∧ X ≤ 2 * (D * F) := by
   intro X Y h
   have y := Qbs Y
   have hX : X * X ≤ (2 * (D * F)) * (2 * (D * F)) := by omega
   have hX' : (-X) * (-X) ≤ (2 * (D * F)) * (2 * (D * F)) := by rw [Int.neg_mul_neg]; exact hX
   have a := Qvp (show 0 ≤ 2 * (D * F) by omega) hX
   have b := Qvp (show 0 ≤ 2 * (D * F) by omega) hX'
   omega
 have lA := lim h3.2
 have lB := lim (X := B) (Y := A) (by omega)
 -- (D u)² and A²
 have near : ∀ {U X : Int}, -(12 * D) ≤ U - X → U - X ≤ 12 * D → -(2 * (D * F)) ≤ X ∧ X ≤ 2 * (D * F) → -(49 * (F * (D * D))) ≤ U * U - X * X ∧ U * U - X * X ≤ 49 * (F * (D * D)) := by
   intro U X l u ⟨xl, xu⟩
   have e : U * U - X * X = (U - X) * (2 * X + (U - X)) := by rw [Int.sub_mul, Int.mul_add, Int.mul_add, Int.mul_sub, Int.mul_sub, Int.mul_left_comm U 2, Int.mul_left_comm X 2, Int.mul_comm X U]; omega
   rw [e]
   have t := Qdk (p := U - X) (q := 2 * X + (U - X)) (P := 12 * D) (Q := 4 * (D * F) + 12 * D) (by omega) (by omega) u (by omega) (by omega)
   have e2 : 12 * D * (4 * (D * F) + 12 * D) = 48 * (F * (D * D)) + 144 * (D * D) := by
     rw [Int.mul_add, Ze8 12 D 4, Ze8 12 D 12, ← Int.mul_assoc D D F, Int.mul_comm (D * D) F]
     omega
   omega
 have nA := near h1.1 h1.2 lA
 have nB := near h2.1 h2.2 lB
 have eu : D * u * (D * u) = u * u * (D * D) := by rw [Ze8, Int.mul_comm]
 have ew : D * w * (D * w) = w * w * (D * D) := by rw [Ze8, Int.mul_comm]
 rw [eu] at nA
 rw [ew] at nB
 have tot : (u * u + w * w - F * F) * (D * D) = u * u * (D * D) + w * w * (D * D) - F * F * (D * D) := by rw [Int.sub_mul, Int.add_mul]
 have b1 : 640 * F * (D * D) = 640 * (F * (D * D)) := Int.mul_assoc _ _ _
 have b2 : -(640 * F) * (D * D) = -(640 * F * (D * D)) := Int.neg_mul _ _
 constructor
 · refine Int.le_of_mul_le_mul_right ?_ hDD
   rw [tot, b2]; omega
 · refine Int.le_of_mul_le_mul_right ?_ hDD
   rw [tot]; omega
theorem Zi1 {a b : Int} (ha : 0 ≤ a) (hb : 0 ≤ b) (h : a + b = 6746518852 ∨ a + b = 6746518851) : -(640 * 4294967296) ≤ uT a 8 * uT a 8 + uT b 8 * uT b 8 - 4294967296 * 4294967296 ∧ uT a 8 * uT a 8 + uT b 8 * uT b 8 - 4294967296 * 4294967296 ≤ 640 * 4294967296 := by
 refine Zhg (D := DD) (Qs8 8) (by decide) (Zha ha (by omega)) (Zha hb (by omega)) ?_
 rcases h with h | h
 · have e : b = 6746518852 - a := by omega
   rw [e, ← Zjc]
   have := Q2c ha (show a ≤ 6746518852 by omega) (GL 6746518852)
   have := GL_1
   omega
 · have e : b = 6746518851 - a := by omega
   rw [e, ← Zjc]
   have := Q2c ha (show a ≤ 6746518851 by omega) (GL 6746518851)
   have := GL_2
   omega
theorem Qeu {e : Int} (h : Sd e) : Qar e = e := by obtain ⟨_, _⟩ := h; unfold Qar; rw [if_neg (by omega), if_neg (by omega)]
theorem Qet {e : Int} {f : Bool} (h : Sd e) : Qcy e f = f := by obtain ⟨_, _⟩ := h; unfold Qcy; rw [if_pos (by unfold Qac; split <;> omega)]
theorem Qfv {e : Int} {f : Bool} (h : Sd e) : Qte e f = ⟨e, f⟩ := by unfold Qte; rw [Qeu h, Qet h]
theorem Qnb {a b : NB} (ha : Sd a.v) (hb : Sd b.v) (h : Sd (Qa2 a.v b.v)) : Qho a b = ⟨Qa2 a.v b.v, a.f || b.f⟩ := by unfold Qho; rw [ha.self, hb.self, ha.flag, hb.flag, Qfv h]
theorem Qsu {a b : NB} (ha : Sd a.v) (hb : Sd b.v) (h : Sd (a.v + b.v)) : Qy7 a b = ⟨a.v + b.v, a.f || b.f⟩ := by unfold Qy7; rw [ha.self, hb.self, ha.flag, hb.flag, Qfv h]
theorem Qr7 {a : NB} (ha : Sd a.v) : Qct a = ⟨-a.v, a.f⟩ := by unfold Qct; rw [ha.self, ha.flag]
theorem Qtv {x B d : Int} (hd : 0 < d) (h : -B ≤ x ∧ x ≤ B) : -(B / d) ≤ Int.tdiv x d ∧ Int.tdiv x d ≤ B / d := by
 have key : ∀ y, 0 ≤ y → y ≤ B → 0 ≤ Int.tdiv y d ∧ Int.tdiv y d ≤ B / d := fun y h0 h1 => by
   rw [Int.tdiv_eq_ediv_of_nonneg h0]
   exact ⟨Int.ediv_nonneg h0 (by omega), Int.ediv_le_ediv hd h1⟩
 rcases Int.le_total 0 x with hx | hx
 · have := key x hx h.2; omega
 · have := key (-x) (by omega) (by omega)
   rw [Int.neg_tdiv] at this
   omega
theorem Qjy {a : NB} {n : Int} (ha : Sd a.v) (hn : 0 < n) (hn1 : n < 2147483648) : Qda a (Qf8 n) = ⟨Int.tdiv a.v n, a.f⟩ := by
 have hs : Sd (n * 4294967296) := ⟨by omega, by omega⟩
 have e : Qf8 n = ⟨n * 4294967296, false⟩ := Qfv hs
 have e2 : Q6w a.v (n * 4294967296) = Int.tdiv a.v n := Int.mul_tdiv_mul_of_pos_left _ _ (by decide)
 have hq := Qtv (x := a.v) (B := 9223372036854775807) hn ha
 have hB : (9223372036854775807 : Int) / n ≤ 9223372036854775807 := Int.ediv_le_self _ (by decide)
 have ht : Sd (Int.tdiv a.v n) := ⟨by omega, by omega⟩
 unfold Qda Qc4 Qjg
 rw [e]
 simp only
 rw [ha.self, hs.self, ha.flag, hs.flag, if_neg (by omega), if_neg (by omega), e2, Qeu ht, Qet ht, Bool.false_or, Bool.or_false]
theorem Qqh {a b A B : Int} (hA : 0 ≤ A) (ha : -A ≤ a ∧ a ≤ A) (hb : -B ≤ b ∧ b ≤ B) : -(A * B / 4294967296) ≤ Qa2 a b ∧ Qa2 a b ≤ A * B / 4294967296 := Qtv (by decide) (Qdk hA ha.1 ha.2 hb.1 hb.2)
def InQ (v : Int) : Prop := -6746518852 ≤ v ∧ v ≤ 6746518852
theorem Q0h {v : Int} (h : InQ v) : ∀ k, InQ (tT v k)
 | 0 => h
 | k + 1 => by
   have h1 := Qqh (by decide) (Q0h h k) h
   have h2 := Qqh (A := 10597451456) (by decide) ⟨Int.le_trans (by decide) h1.1, Int.le_trans h1.2 (by decide)⟩ h
   have hN := Qnr k
   have hN6 : (6 : Int) ≤ (2 * ((k : Int) + 1)) * (2 * ((k : Int) + 1) + 1) := by
     have : (2 : Int) * 3 ≤ (2 * ((k : Int) + 1)) * (2 * ((k : Int) + 1) + 1) := Int.mul_le_mul (by omega) (by omega) (by decide) (by omega)
     omega
   have h3 := Qtv (B := 40479113112) hN ⟨Int.le_trans (by decide) h2.1, Int.le_trans h2.2 (by decide)⟩
   have h4 : (40479113112 : Int) / ((2 * ((k : Int) + 1)) * (2 * ((k : Int) + 1) + 1)) ≤ 6746518852 := by
     refine Int.ediv_le_of_le_mul hN ?_
     have := Int.mul_le_mul_of_nonneg_left hN6 (show (0 : Int) ≤ 6746518852 by decide)
     omega
   show InQ (-Int.tdiv _ _)
   unfold InQ
   omega
theorem InQ.sd {v : Int} (h : InQ v) : Sd v := by obtain ⟨_, _⟩ := h; exact ⟨by omega, by omega⟩
theorem Q0x {y : NB} (h : InQ y.v) : ∀ k, k ≤ 8 → Qa9 y k = ⟨tT y.v k, y.f⟩
 | 0, _ => rfl
 | k + 1, hk => by
   have ih := Q0x h k (by omega)
   have hs : Sd y.v := h.sd
   have ht := Q0h h k
   have h1 := Qqh (by decide) ht h
   have h1' : Sd (Qa2 (tT y.v k) y.v) := ⟨Int.le_trans (by decide) h1.1, Int.le_trans h1.2 (by decide)⟩
   have h2 := Qqh (A := 10597451456) (by decide) ⟨Int.le_trans (by decide) h1.1, Int.le_trans h1.2 (by decide)⟩ h
   have h2' : Sd (Qa2 (Qa2 (tT y.v k) y.v) y.v) := ⟨Int.le_trans (by decide) h2.1, Int.le_trans h2.2 (by decide)⟩
   have hN := Qnr k
   have hN1 := Int.mul_le_mul (a := 2 * ((k : Int) + 1)) (b := 2 * ((k : Int) + 1) + 1) (c := 18) (d := 19) (by omega) (by omega) (by omega) (by decide)
   have h5 := Q0h h (k + 1)
   show Qgm y (Qa9 y k) k = _
   unfold Qgm
   rw [ih, Qnb (a := ⟨tT y.v k, y.f⟩) ht.sd hs h1', Qnb (a := ⟨Qa2 (tT y.v k) y.v, y.f || y.f⟩) h1' hs h2', Qjy (a := ⟨Qa2 (Qa2 (tT y.v k) y.v) y.v, _⟩) h2' hN (by omega), Qr7]
   · simp only [Bool.or_self]; rfl
   · have e : Int.tdiv (Qa2 (Qa2 (tT y.v k) y.v) y.v) ((2 * ((k : Int) + 1)) * (2 * ((k : Int) + 1) + 1)) = -tT y.v (k + 1) := by show _ = - -Int.tdiv _ _; omega
     show Sd (Int.tdiv _ _)
     rw [e]; exact Q2k h5.sd
theorem Qvm {v : Int} (h : InQ v) : ∀ k : Nat, -(((k : Int) + 1) * 6746518852) ≤ uT v k ∧ uT v k ≤ ((k : Int) + 1) * 6746518852
 | 0 => by obtain ⟨_, _⟩ := h; show _ ≤ v ∧ v ≤ _; omega
 | k + 1 => by
   have a := Qvm h k
   obtain ⟨_, _⟩ := Q0h h (k + 1)
   show _ ≤ uT v k + tT v (k + 1) ∧ uT v k + tT v (k + 1) ≤ _
   omega
theorem Q0w {y : NB} (h : InQ y.v) : ∀ k, k ≤ 8 → Qb2 y k = ⟨uT y.v k, y.f⟩
 | 0, _ => rfl
 | k + 1, hk => by
   have a := Qvm h k
   have b := Qvm h (k + 1)
   show Qy7 (Qb2 y k) (Qa9 y (k + 1)) = _
   rw [Q0w h k (by omega), Q0x h (k + 1) hk, Qsu ⟨by show -9223372036854775807 ≤ uT y.v k; omega, by show uT y.v k ≤ 9223372036854775807; omega⟩ (Q0h h (k + 1)).sd ⟨by show _ ≤ uT y.v k + tT y.v (k + 1); have : uT y.v k + tT y.v (k + 1) = uT y.v (k + 1) := rfl; omega, by show uT y.v k + tT y.v (k + 1) ≤ _; have : uT y.v k + tT y.v (k + 1) = uT y.v (k + 1) := rfl; omega⟩]
   simp only [Bool.or_self]; rfl
def clE (u : Int) : Int := Qoe (-4294967296) (Qme u 4294967296)
theorem Zmc (u : Int) : clE (-u) = -clE u := by unfold clE Qoe Qme; (repeat' split) <;> omega
theorem Q6n (a : NB) : InQ (Qmw a).v := Q0v a
theorem Qmx (a : NB) : Qgn a = ⟨clE (uT (Qmw a).v 8), Qav a.v a.f⟩ := by
 have h := Q6n a
 have b := Qvm h 8
 have hs : Sd (uT (Qmw a).v 8) := ⟨by omega, by omega⟩
 unfold Qgn Qwv
 rw [Q0w h 8 (Nat.le_refl _)]
 simp only
 rw [hs.self, hs.flag]
 have e1 : Qaa (-4294967296) = -4294967296 := by decide
 have e2 : Qaa 4294967296 = 4294967296 := by decide
 have e3 : ∀ f, Qav (-4294967296) f = f := fun f => Qb8 (by decide)
 have e4 : ∀ f, Qav 4294967296 f = f := fun f => Qb8 (by decide)
 rw [e1, e2, e3, e4, Bool.or_false, Bool.false_or]
 rfl
theorem Qzt (v : Int) : ∃ k, Qat v = v - 26986075409 * k := by
 have h := Int.tmod_add_mul_tdiv v 26986075409
 unfold Qat
 split
 · exact ⟨Int.tdiv v 26986075409 + 1, by omega⟩
 · split
   · exact ⟨Int.tdiv v 26986075409 - 1, by omega⟩
   · exact ⟨Int.tdiv v 26986075409, by omega⟩
theorem Qpt {w : Int} (h : -13493037704 ≤ w ∧ w ≤ 13493037704) : Qat (w + 6746518852) = if w + 6746518852 > 13493037704 then w + 6746518852 - 26986075409 else w + 6746518852 := by
 obtain ⟨k, hk⟩ := Qzt (w + 6746518852)
 have a := Qfz (v := w + 6746518852)
 split <;> omega
theorem Qq0 (a : NB) : Qiw a = ⟨clE (uT (Qhx (Qat (Qat (Qaa a.v) + 6746518852))) 8), Qav a.v a.f⟩ := by
 have hw := Qfz (v := Qaa a.v)
 have s1 : Sd (Qat (Qaa a.v)) := ⟨by omega, by omega⟩
 have s2 : Sd (Qat (Qaa a.v) + 6746518852) := ⟨by omega, by omega⟩
 have e : Qy7 (Q5f a) ⟨6746518852, false⟩ = ⟨Qat (Qaa a.v) + 6746518852, Qav a.v a.f⟩ := by
   rw [Qsu (a := Q5f a) (b := ⟨6746518852, false⟩) s1 ⟨by decide, by decide⟩ s2]
   show NB.mk _ (Qav a.v a.f || false) = _
   rw [Bool.or_false]; rfl
 unfold Qiw
 rw [e, Qmx]
 show NB.mk (clE (uT (Qhx (Qat (Qaa (Qat (Qaa a.v) + 6746518852)))) 8)) (Qav (Qat (Qaa a.v) + 6746518852) (Qav a.v a.f)) = _
 rw [s2.self, s2.flag]
theorem Q84 (v : Int) : uT v 8 * uT v 8 = uT (Qac v) 8 * uT (Qac v) 8 := by
 unfold Qac
 split
 · rw [Q83, Int.neg_mul_neg]
 · rfl
theorem Q68 {w : Int} (h : -13493037704 ≤ w ∧ w ≤ 13493037704) : Qac (Qhx w) + Qac (Qhx (Qat (w + 6746518852))) = 6746518852 ∨ Qac (Qhx w) + Qac (Qhx (Qat (w + 6746518852))) = 6746518851 := by
 rw [Qpt h]
 obtain ⟨_, _⟩ := h
 unfold Qhx Qac
 (repeat' split) <;> omega
theorem Q3g (u : Int) : (clE u = u) ∨ (clE u = 4294967296 ∧ 4294967296 < u) ∨ (clE u = -4294967296 ∧ u < -4294967296) := by unfold clE Qoe Qme; (repeat' split) <;> omega
theorem Q90 (u : Int) : clE u * clE u ≤ u * u ∧ (clE u * clE u = u * u ∨ clE u * clE u = 4294967296 * 4294967296) := by
 rcases Q3g u with h | ⟨h, h'⟩ | ⟨h, h'⟩
 · rw [h]; exact ⟨Int.le_refl _, .inl rfl⟩
 · rw [h]; exact ⟨Qtz (by decide) (by omega), .inr rfl⟩
 · rw [h]
   have := Qtz (a := 4294967296) (b := -u) (by decide) (by omega)
   rw [Int.neg_mul_neg] at this
   exact ⟨this, .inr rfl⟩
theorem Qx2 {u w B : Int} (h : -B ≤ u * u + w * w - 4294967296 * 4294967296 ∧ u * u + w * w - 4294967296 * 4294967296 ≤ B) : -B ≤ clE u * clE u + clE w * clE w - 4294967296 * 4294967296 ∧ clE u * clE u + clE w * clE w - 4294967296 * 4294967296 ≤ B := by
 obtain ⟨u1, u2⟩ := Q90 u
 obtain ⟨w1, w2⟩ := Q90 w
 have p := Qbs (clE u)
 have q := Qbs (clE w)
 rcases u2 with u2 | u2 <;> rcases w2 with w2 | w2 <;> omega
theorem Qop (a : NB) : -2748779069440 ≤ (Qgn a).v * (Qgn a).v + (Qiw a).v * (Qiw a).v - 18446744073709551616 ∧ (Qgn a).v * (Qgn a).v + (Qiw a).v * (Qiw a).v - 18446744073709551616 ≤ 2748779069440 := by
 rw [Qmx, Qq0 a]
 have hw := Qfz (v := Qaa a.v)
 have c := Zi1 (Qbk (Qhx (Qat (Qaa a.v)))) (Qbk (Qhx (Qat (Qat (Qaa a.v) + 6746518852)))) (Q68 hw)
 rw [← Q84, ← Q84] at c
 exact Qx2 c
end Go.Proofs.YteekigmbopdfjaaGreat
end
section
namespace Go.Proofs.YteekigmbopdfjaaGreat
open Go.SE Go.RowKit
def rX (r : List SV) : NB := match r with | [.v (.int _ a), .v (.bool f), _, _] => ⟨a, f⟩ | _ => ⟨0, false⟩
def rY (r : List SV) : NB := match r with | [_, _, .v (.int _ a), .v (.bool f)] => ⟨a, f⟩ | _ => ⟨0, false⟩
def rV (r : List SV) : VB := ⟨rX r, rY r⟩
def Qn9 : List SV → Prop
 | [.v (.int .i64 a), .v (.bool _), .v (.int .i64 b), .v (.bool _)] => I64 a ∧ I64 b
 | _ => False
def nR (a : NB) : List SV := [.v (.int .i64 a.v), .v (.bool a.f)]
def vR (a : VB) : List SV := [.v (.int .i64 a.x.v), .v (.bool a.x.f), .v (.int .i64 a.y.v), .v (.bool a.y.f)]
def Zb6 (l : List (List SV)) : NB := ⟨Qar (Qgg l), Qcy (Qgg l) (Qfj l)⟩
def Q3r (n : Nat) (g : Nat → VB) : VB := ⟨Zb6 (Qal n fun i => nR (g i).x), Zb6 (Qal n fun i => nR (g i).y)⟩
def Qlq (a : VB) : Bool := Qav a.x.v a.x.f || Qav a.y.v a.y.f
def Qw3 (n : Nat) (g : Nat → VB) : Bool := match n with
 | 0 => false
 | k + 1 => Qw3 k g || Qlq (g k)
def Qxq : List SV → List Ro → Option (Option Prop × SV)
 | [.sl 0 4 0 n _], [⟨4, n', row⟩] => some (some (Qcc Qn9 (Qal n' row) ∧ n' = n ∧ n < 1099511627776), vS (Q3r n fun i => rV (row i)))
 | _, _ => none
def Qt7 : List SV → List Ro → Option (Option Prop × SV)
 | [.sl 0 4 0 n _], [⟨4, n', row⟩] => some (some (Qcc Qn9 (Qal n' row) ∧ n' = n ∧ n < 1099511627776), .v (.bool (Qw3 n fun i => rV (row i))))
 | _, _ => none
def Qt8 : List SV → Option (Option Prop × SV)
 | [.agg [.v (.int .i64 a), .v (.bool f), .v (.int .i64 b), .v (.bool g)]] => some (some (I64 a ∧ I64 b), .v (.bool (Qlq ⟨⟨a, f⟩, ⟨b, g⟩⟩)))
 | _ => none
def Q1i : List SV → Option (Option Prop × SV)
 | [.agg [.v (.int .i64 a), .v (.bool f)]] => some (some (I64 a), .v (.bool (Qav a f)))
 | _ => none
def Qse (g : Nat → VB) : Nat → Nat → Int
 | 0, _ => -1
 | m + 1, k => bif Qlq (g k) then (k : Int) else Qse g m (k + 1)
def Zlt : List SV → List Ro → Option (Option Prop × SV)
 | [.sl 0 4 0 n _, .fn f []], [⟨4, n', row⟩] => bif Nat.beq f 231 then some (some (Qcc Qn9 (Qal n' row) ∧ n' = n ∧ n < 1099511627776), .v (.int .i64 (Qse (fun i => rV (row i)) n 0))) else none
 | _, _ => none
def Qmz : List SV → List Ro → Option (Option Prop × SV)
 | [.sl 0 4 0 n _, .fn f []], [⟨4, n', row⟩] => bif Nat.beq f 231 then some (some (Qcc Qn9 (Qal n' row) ∧ n' = n ∧ n < 1099511627776), .v (.bool (Qw3 n fun i => rV (row i)))) else none
 | _, _ => none
def Qi1 (g : Nat → VB) : Nat → List SV := fun i => vR (g i)
def Zjz (n : Nat) (c : Nat) (g : Nat → NB) : Blk := { elem := 30, size := 2, rw := true, lock := false, lit := false, flat := true, n, row := fun i => nR (g i), ext := c }
noncomputable def Zah (n : Nat) (g : Nat → VB) : Nat → Option LoopSpec := Qx6 (Qb9 Qax Tryz.f14 0 Nat (fun k => k ≤ n) (fun k => n - k) [(15, fun k => .v (.int .i64 k))] [(88, fun k => Zjz n n fun i => if i < k then (g i).x else ⟨0, false⟩), (112, fun k => Zjz n n fun i => if i < k then (g i).y else ⟨0, false⟩)]) 5 [(9, fun _ => 88), (11, fun _ => 112)]
structure KCD where
 k : Nat
 c : Nat
 d : Nat
noncomputable def Qza (n : Nat) (g : Nat → VB) : Nat → Option LoopSpec := Q3q (Qq8 Qax Tryz.f244 0 KCD (fun x => x.k ≤ n ∧ x.k ≤ x.c ∧ x.k ≤ x.d) (fun x => n - x.k) [(5, fun x => .v (.int .i64 x.k)), (3, fun x => .sl 40 2 0 x.k x.c), (4, fun x => .sl 41 2 0 x.k x.d)] [] [(40, fun x => Zjz x.k x.c fun i => (g i).x, Q9p 3), (41, fun x => Zjz x.k x.d fun i => (g i).y, Q9p 4)]) 5 [(7, fun nx => [40, nx + 48]), (15, fun nx => [41, nx + 112])]
noncomputable def Zad (n : Nat) (g : Nat → VB) : Nat → Option LoopSpec := Qb9 Qax Tryz.f302 0 Nat (fun k => k ≤ n ∧ Qse g (n - k) k = Qse g n 0) (fun k => n - k) [(8, fun k => .v (.int .i64 k))] []
theorem Q51 (a : VB) (R : SV→Prop) : (Qau Tryz.prog Zje Qax Tryz.f231 [vS a] R) = ((I64 (NB.v (VB.x a)))∧(sel (NB.f (Qct (VB.x a))) (R (SV.v (.bool true))) ((I64 (NB.v (VB.y a)))∧(R (SV.v (.bool (NB.f (Qct (VB.y a))))))))):=by kernel_rfl
theorem Zbv (a : NB) (R : SV→Prop) : (Qau Tryz.prog Zje Qax Tryz.f241 [nS a] R) = ((((Qkz [SV.v (.int .i64 (NB.v a)),SV.v (.bool (NB.f a))])∧True)∧(((1 : Nat) = 1)∧((1 : Nat) < 1099511627776)))∧(R (SV.v (.bool (Qcy (Qgg [[SV.v (.int .i64 (NB.v a)),SV.v (.bool (NB.f a))]]) (Qfj [[SV.v (.int .i64 (NB.v a)),SV.v (.bool (NB.f a))]])))))):=by kernel_rfl
def Zfh : Qb7 := Qah (Qah Zje 231 (Qaj Qt8)) 241 (Qaj Q1i)
theorem Zg3 (n n' c : Nat) (g : Nat→VB) (R : SV→Prop) : (Qcm Tryz.prog Zfh (Zah n g) Tryz.f14 [.sl 0 4 0 n c] (Qbe [⟨4,n',Qi1 g⟩]) 64 (fun y _ => R y)) =
((((0 : Int) ≤ ((↑n : Int)))∧(((((↑n : Int)) : Int) ≤ ((↑n : Int)))∧(((16 * (↑n : Int)) : Int) ≤ 140737488355328)))∧((((0 : Int) ≤ ((↑n : Int)))∧(((((↑n : Int)) : Int) ≤ ((↑n : Int)))∧(((16 * (↑n : Int)) : Int) ≤ 140737488355328)))∧((∃ x : Nat,((Nat.le x n)∧(((SV.v (.int .i64 0)) = (SV.v (.int .i64 ((↑x : Int)))))∧(((((Int.toNat (↑n : Int)) : Nat) = n)∧(((n : Nat) ≤ (Int.toNat (↑n : Int)))∧(∀ i : Nat,(((i : Nat) < n)→([(SV.v (.int .i64 0)),(SV.v (.bool false))] = [(SV.v (.int .i64 (NB.v (if i < x then VB.x (g i) else {v:=0,f:=false})))),(SV.v (.bool (NB.f (if i < x then VB.x (g i) else {v:=0,f:=false}))))])))))∧((((Int.toNat (↑n : Int)) : Nat) = n)∧(((n : Nat) ≤ (Int.toNat (↑n : Int)))∧(∀ i : Nat,(((i : Nat) < n)→([(SV.v (.int .i64 0)),(SV.v (.bool false))] = [(SV.v (.int .i64 (NB.v (if i < x then VB.y (g i) else {v:=0,f:=false})))),(SV.v (.bool (NB.f (if i < x then VB.y (g i) else {v:=0,f:=false}))))])))))))))∧(∀ x : Nat,((Nat.le x n)→(sel (decide ((↑x : Int) < (↑n : Int))) ((((0 : Int) ≤ ((↑x : Int)))∧((((↑x : Int)) : Int) < ((↑n : Int))))∧((((0 : Int) ≤ ((↑x : Int)))∧((((↑x : Int)) : Int) < ((↑(Int.toNat (↑n : Int)) : Int))))∧((((0 : Int) ≤ ((↑x : Int)))∧((((↑x : Int)) : Int) < ((↑(Int.toNat (↑n : Int)) : Int))))∧(∃ x' : Nat,(((Nat.le x' n)∧(((SV.v (.int .i64 (IntKind.wrap IntKind.i64 ((↑x : Int) + 1)))) = (SV.v (.int .i64 ((↑x' : Int)))))∧((((n : Nat) = n)∧(((n : Nat) ≤ n)∧(∀ i : Nat,(((i : Nat) < n)→([(SV.v (.int .i64 (bop (Nat.beq i (0 + Int.toNat (↑x : Int))) (NB.v (VB.x (g (0 + Int.toNat (↑x : Int))))) (NB.v (if i < x then VB.x (g i) else {v:=0,f:=false}))))),(SV.v (.bool (bop (Nat.beq i (0 + Int.toNat (↑x : Int))) (NB.f (VB.x (g (0 + Int.toNat (↑x : Int))))) (NB.f (if i < x then VB.x (g i) else {v:=0,f:=false})))))] = [(SV.v (.int .i64 (NB.v (if i < x' then VB.x (g i) else {v:=0,f:=false})))),(SV.v (.bool (NB.f (if i < x' then VB.x (g i) else {v:=0,f:=false}))))])))))∧(((n : Nat) = n)∧(((n : Nat) ≤ n)∧(∀ i : Nat,(((i : Nat) < n)→([(SV.v (.int .i64 (bop (Nat.beq i (0 + Int.toNat (↑x : Int))) (NB.v (VB.y (g (0 + Int.toNat (↑x : Int))))) (NB.v (if i < x then VB.y (g i) else {v:=0,f:=false}))))),(SV.v (.bool (bop (Nat.beq i (0 + Int.toNat (↑x : Int))) (NB.f (VB.y (g (0 + Int.toNat (↑x : Int))))) (NB.f (if i < x then VB.y (g i) else {v:=0,f:=false})))))] = [(SV.v (.int .i64 (NB.v (if i < x' then VB.y (g i) else {v:=0,f:=false})))),(SV.v (.bool (NB.f (if i < x' then VB.y (g i) else {v:=0,f:=false}))))]))))))))∧(((n - x') : Nat) < (n - x))))))) (((Qcc Qkz (Qal (Int.toNat (↑n : Int)) fun y => [SV.v (.int .i64 (NB.v ((fun i => if i < x then VB.x (g i) else {v:=0,f:=false}) (0 + y)))),SV.v (.bool (NB.f ((fun i => if i < x then VB.x (g i) else {v:=0,f:=false}) (0 + y))))]))∧((((Int.toNat (↑n : Int)) : Nat) = (Int.toNat (↑n : Int)))∧(((Int.toNat (↑n : Int)) : Nat) < 1099511627776)))∧(((Qcc Qkz (Qal (Int.toNat (↑n : Int)) fun y => [SV.v (.int .i64 (NB.v ((fun i => if i < x then VB.y (g i) else {v:=0,f:=false}) (0 + y)))),SV.v (.bool (NB.f ((fun i => if i < x then VB.y (g i) else {v:=0,f:=false}) (0 + y))))]))∧((((Int.toNat (↑n : Int)) : Nat) = (Int.toNat (↑n : Int)))∧(((Int.toNat (↑n : Int)) : Nat) < 1099511627776)))∧(R (SV.agg [(SV.v (.int .i64 (Qar (Qgg (Qal (Int.toNat (↑n : Int)) fun y => [SV.v (.int .i64 (NB.v ((fun i => if i < x then VB.x (g i) else {v:=0,f:=false}) (0 + y)))),SV.v (.bool (NB.f ((fun i => if i < x then VB.x (g i) else {v:=0,f:=false}) (0 + y))))]))))),(SV.v (.bool (Qcy (Qgg (Qal (Int.toNat (↑n : Int)) fun y => [SV.v (.int .i64 (NB.v ((fun i => if i < x then VB.x (g i) else {v:=0,f:=false}) (0 + y)))),SV.v (.bool (NB.f ((fun i => if i < x then VB.x (g i) else {v:=0,f:=false}) (0 + y))))])) (Qfj (Qal (Int.toNat (↑n : Int)) fun y => [SV.v (.int .i64 (NB.v ((fun i => if i < x then VB.x (g i) else {v:=0,f:=false}) (0 + y)))),SV.v (.bool (NB.f ((fun i => if i < x then VB.x (g i) else {v:=0,f:=false}) (0 + y))))]))))),(SV.v (.int .i64 (Qar (Qgg (Qal (Int.toNat (↑n : Int)) fun y => [SV.v (.int .i64 (NB.v ((fun i => if i < x then VB.y (g i) else {v:=0,f:=false}) (0 + y)))),SV.v (.bool (NB.f ((fun i => if i < x then VB.y (g i) else {v:=0,f:=false}) (0 + y))))]))))),(SV.v (.bool (Qcy (Qgg (Qal (Int.toNat (↑n : Int)) fun y => [SV.v (.int .i64 (NB.v ((fun i => if i < x then VB.y (g i) else {v:=0,f:=false}) (0 + y)))),SV.v (.bool (NB.f ((fun i => if i < x then VB.y (g i) else {v:=0,f:=false}) (0 + y))))])) (Qfj (Qal (Int.toNat (↑n : Int)) fun y => [SV.v (.int .i64 (NB.v ((fun i => if i < x then VB.y (g i) else {v:=0,f:=false}) (0 + y)))),SV.v (.bool (NB.f ((fun i => if i < x then VB.y (g i) else {v:=0,f:=false}) (0 + y))))])))))])))))))))) := by kernel_rfl
theorem Zbl (n n' c : Nat) (g : Nat→VB) (R : SV→Prop) : (Qcm Tryz.prog Zfh (Qza n g) Tryz.f244 [.sl 0 4 0 n c] (Qbe [⟨4,n',Qi1 g⟩]) 64 (fun y _ => R y)) =
((∃ x : KCD,(((((KCD.k x) : Nat) ≤ n)∧((((KCD.k x) : Nat) ≤ (KCD.c x))∧(((KCD.k x) : Nat) ≤ (KCD.d x))))∧((((SV.v (.int .i64 0)) = (SV.v (.int .i64 ((↑(KCD.k x) : Int)))))∧((((SV.v (Value.slice none 0 0)) = (SV.v (Value.slice none 0 0)))∧(((0 : Nat) = 0)∧((((KCD.k x) : Nat) = 0)∧(((KCD.c x) : Nat) = 0))))∧(((SV.v (Value.slice none 0 0)) = (SV.v (Value.slice none 0 0)))∧(((0 : Nat) = 0)∧((((KCD.k x) : Nat) = 0)∧(((KCD.d x) : Nat) = 0))))))∧(((((KCD.k x) : Nat) = 0)∧((((KCD.c x) : Nat) = 0)∧True))∧(((((KCD.k x) : Nat) = 0)∧((((KCD.d x) : Nat) = 0)∧True))∧True)))))∧(∀ x : KCD,(((((KCD.k x) : Nat) ≤ n)∧((((KCD.k x) : Nat) ≤ (KCD.c x))∧(((KCD.k x) : Nat) ≤ (KCD.d x))))→(sel (decide ((↑(KCD.k x) : Int) < (↑n : Int))) ((((0 : Int) ≤ ((↑(KCD.k x) : Int)))∧((((↑(KCD.k x) : Int)) : Int) < ((↑n : Int))))∧((((((KCD.k x + 1) * 16) : Nat) ≤ 140737488355328)∧((((0 + KCD.c x) : Nat) ≤ (KCD.c x))∧(∀ y : Nat,(((y : Nat) < 1)→True))))∧(∀ c_1 : Nat,((((0 : Int) ≤ ((↑(KCD.k x) : Int)))∧((((↑(KCD.k x) : Int)) : Int) < ((↑n : Int))))∧((((((KCD.k x + 1) * 16) : Nat) ≤ 140737488355328)∧((((0 + KCD.d x) : Nat) ≤ (KCD.d x))∧(∀ y : Nat,(((y : Nat) < 1)→True))))∧(∀ c_2 : Nat,(∃ x' : KCD,((((((KCD.k x') : Nat) ≤ n)∧((((KCD.k x') : Nat) ≤ (KCD.c x'))∧(((KCD.k x') : Nat) ≤ (KCD.d x'))))∧((((SV.v (.int .i64 (IntKind.wrap IntKind.i64 ((↑(KCD.k x) : Int) + 1)))) = (SV.v (.int .i64 ((↑(KCD.k x') : Int)))))∧(((SV.sl 184 2 0 (KCD.k x + 1) (KCD.k x + 1 + c_1)) = (SV.sl 184 2 0 (KCD.k x') (KCD.c x')))∧((SV.sl 248 2 0 (KCD.k x + 1) (KCD.k x + 1 + c_2)) = (SV.sl 248 2 0 (KCD.k x') (KCD.d x')))))∧(((((KCD.k x + 1) : Nat) = (KCD.k x'))∧((((KCD.c x') : Nat) ≤ (KCD.k x + 1 + c_1))∧(∀ i : Nat,(((i : Nat) < (KCD.k x'))→([(SV.v (.int .i64 (bop (Nat.blt i (KCD.k x)) (NB.v (VB.x (g (0 + i)))) (NB.v (VB.x (g (0 + Int.toNat (↑(KCD.k x) : Int)))))))),(SV.v (.bool (bop (Nat.blt i (KCD.k x)) (NB.f (VB.x (g (0 + i)))) (NB.f (VB.x (g (0 + Int.toNat (↑(KCD.k x) : Int))))))))] = [(SV.v (.int .i64 (NB.v (VB.x (g i))))),(SV.v (.bool (NB.f (VB.x (g i)))))])))))∧((((KCD.k x + 1) : Nat) = (KCD.k x'))∧((((KCD.d x') : Nat) ≤ (KCD.k x + 1 + c_2))∧(∀ i : Nat,(((i : Nat) < (KCD.k x'))→([(SV.v (.int .i64 (bop (Nat.blt i (KCD.k x)) (NB.v (VB.y (g (0 + i)))) (NB.v (VB.y (g (0 + Int.toNat (↑(KCD.k x) : Int)))))))),(SV.v (.bool (bop (Nat.blt i (KCD.k x)) (NB.f (VB.y (g (0 + i)))) (NB.f (VB.y (g (0 + Int.toNat (↑(KCD.k x) : Int))))))))] = [(SV.v (.int .i64 (NB.v (VB.y (g i))))),(SV.v (.bool (NB.f (VB.y (g i)))))]))))))))∧(((n - KCD.k x') : Nat) < (n - KCD.k x)))))))))) (((Qcc Qkz (Qal (KCD.k x) fun y => [SV.v (.int .i64 (NB.v ((fun i => VB.x (g i)) (0 + y)))),SV.v (.bool (NB.f ((fun i => VB.x (g i)) (0 + y))))]))∧((((KCD.k x) : Nat) = (KCD.k x))∧(((KCD.k x) : Nat) < 1099511627776)))∧(((Qcc Qkz (Qal (KCD.k x) fun y => [SV.v (.int .i64 (NB.v ((fun i => VB.y (g i)) (0 + y)))),SV.v (.bool (NB.f ((fun i => VB.y (g i)) (0 + y))))]))∧((((KCD.k x) : Nat) = (KCD.k x))∧(((KCD.k x) : Nat) < 1099511627776)))∧(R (SV.agg [(SV.v (.int .i64 (Qar (Qgg (Qal (KCD.k x) fun y => [SV.v (.int .i64 (NB.v ((fun i => VB.x (g i)) (0 + y)))),SV.v (.bool (NB.f ((fun i => VB.x (g i)) (0 + y))))]))))),(SV.v (.bool (Qcy (Qgg (Qal (KCD.k x) fun y => [SV.v (.int .i64 (NB.v ((fun i => VB.x (g i)) (0 + y)))),SV.v (.bool (NB.f ((fun i => VB.x (g i)) (0 + y))))])) (Qfj (Qal (KCD.k x) fun y => [SV.v (.int .i64 (NB.v ((fun i => VB.x (g i)) (0 + y)))),SV.v (.bool (NB.f ((fun i => VB.x (g i)) (0 + y))))]))))),(SV.v (.int .i64 (Qar (Qgg (Qal (KCD.k x) fun y => [SV.v (.int .i64 (NB.v ((fun i => VB.y (g i)) (0 + y)))),SV.v (.bool (NB.f ((fun i => VB.y (g i)) (0 + y))))]))))),(SV.v (.bool (Qcy (Qgg (Qal (KCD.k x) fun y => [SV.v (.int .i64 (NB.v ((fun i => VB.y (g i)) (0 + y)))),SV.v (.bool (NB.f ((fun i => VB.y (g i)) (0 + y))))])) (Qfj (Qal (KCD.k x) fun y => [SV.v (.int .i64 (NB.v ((fun i => VB.y (g i)) (0 + y)))),SV.v (.bool (NB.f ((fun i => VB.y (g i)) (0 + y))))])))))])))))))) := by kernel_rfl
theorem Zk1 (n n' c : Nat) (g : Nat→VB) (R : SV→Prop) : (Qcm Tryz.prog Zfh (Zad n g) Tryz.f302 [.sl 0 4 0 n c,.fn 231 []] (Qbe [⟨4,n',Qi1 g⟩]) 64 (fun y _ => R y)) = ((∃ x : Nat,((((x : Nat) ≤ n)∧(((Qse g (n - x) x) : Int) = (Qse g n 0)))∧(((SV.v (.int .i64 0)) = (SV.v (.int .i64 ((↑x : Int)))))∧True)))∧(∀ x : Nat,((((x : Nat) ≤ n)∧(((Qse g (n - x) x) : Int) = (Qse g n 0)))→(sel (decide ((↑x : Int) < (↑n : Int))) ((((0 : Int) ≤ ((↑x : Int)))∧((((↑x : Int)) : Int) < ((↑n : Int))))∧(((I64 (NB.v (VB.x (g (0 + Int.toNat (↑x : Int))))))∧(I64 (NB.v (VB.y (g (0 + Int.toNat (↑x : Int)))))))∧(sel (Qlq (g (0 + Int.toNat (↑x : Int)))) (R (SV.v (.int .i64 ((↑x : Int))))) (∃ x' : Nat,(((((x' : Nat) ≤ n)∧(((Qse g (n - x') x') : Int) = (Qse g n 0)))∧(((SV.v (.int .i64 (IntKind.wrap IntKind.i64 ((↑x : Int) + 1)))) = (SV.v (.int .i64 ((↑x' : Int)))))∧True))∧(((n - x') : Nat) < (n - x))))))) (R (SV.v (.int .i64 (-1)))))))):=by kernel_rfl
def Zj8 : Qb7 := Qah Zfh 302 (Qcv Zlt)
theorem Qxe (n n' c : Nat) (g : Nat→VB) (R : SV→Prop) : (Qcm Tryz.prog Zj8 Qax Tryz.f230 [.sl 0 4 0 n c,.fn 231 []] (Qbe [⟨4,n',Qi1 g⟩]) 64 (fun y _ => R y)) = (((Qcc Qn9 (Qal n fun y => [SV.v (.int .i64 (NB.v (VB.x (g (0 + y))))),SV.v (.bool (NB.f (VB.x (g (0 + y))))),SV.v (.int .i64 (NB.v (VB.y (g (0 + y))))),SV.v (.bool (NB.f (VB.y (g (0 + y)))))]))∧(((n : Nat) = n)∧((n : Nat) < 1099511627776)))∧(R (SV.v (.bool (decide (Qse (fun i => rV [SV.v (.int .i64 (NB.v (VB.x (g (0 + i))))),SV.v (.bool (NB.f (VB.x (g (0 + i))))),SV.v (.int .i64 (NB.v (VB.y (g (0 + i))))),SV.v (.bool (NB.f (VB.y (g (0 + i)))))]) n 0 ≥ 0)))))):=by kernel_rfl
def Zj7 : Qb7 := Qah Zj8 230 (Qcv Qmz)
theorem Zbw (n n' c : Nat) (g : Nat→VB) (R : SV→Prop) : (Qcm Tryz.prog Zj7 Qax Tryz.f159 [.sl 0 4 0 n c] (Qbe [⟨4,n',Qi1 g⟩]) 64 (fun y _ => R y)) = (((Qcc Qn9 (Qal n fun y => [SV.v (.int .i64 (NB.v (VB.x (g (0 + y))))),SV.v (.bool (NB.f (VB.x (g (0 + y))))),SV.v (.int .i64 (NB.v (VB.y (g (0 + y))))),SV.v (.bool (NB.f (VB.y (g (0 + y)))))]))∧(((n : Nat) = n)∧((n : Nat) < 1099511627776)))∧(R (SV.v (.bool (Qw3 n fun i => rV [SV.v (.int .i64 (NB.v (VB.x (g (0 + i))))),SV.v (.bool (NB.f (VB.x (g (0 + i))))),SV.v (.int .i64 (NB.v (VB.y (g (0 + i))))),SV.v (.bool (NB.f (VB.y (g (0 + i)))))]))))):=by kernel_rfl
theorem Qky {r : List SV} (h : Qn9 r) : r = vR (rV r) ∧ I64 (rV r).x.v ∧ I64 (rV r).y.v := by
 unfold Qn9 at h
 split at h
 · exact ⟨rfl, h.1, h.2⟩
 · exact h.elim
theorem Q2f {n : Nat} {g : Nat → VB} (h : ∀ i, i < n → I64 (g i).x.v ∧ I64 (g i).y.v) : Qcc Qn9 (Qal n fun i => vR (g i)) := okAll_rows.2 fun i hi => h i hi
theorem Qmc {n : Nat} {g : Nat → NB} (h : ∀ i, i < n → I64 (g i).v) : Qcc Qkz (Qal n fun i => nR (g i)) := okAll_rows.2 fun i hi => h i hi
theorem Qmo {n : Nat} {row : Nat → List SV} (h : ∀ i, i < n → Qn9 (row i)) : ∀ i, i < n → row i = vR (rV (row i)) := fun i hi => (Qky (h i hi)).1
theorem Qvc : Qai Tryz.prog 231 Qt8 := Qan hm Qtj Tryz.func231 (Λ := fun _ => Qax) fun args p x h hp => by
 unfold Qt8 at h
 split at h <;> try (cases h; done)
 rename_i a f b g
 cases h
 obtain ⟨h0, k0⟩ := hp _ rfl
 refine ⟨rfl, rfl, ?_⟩
 refine Eq.mpr (Q51 ⟨⟨a, f⟩, ⟨b, g⟩⟩ _) ?_
 refine ⟨h0, Qaf (fun e => Qdo ?_) fun e => ⟨k0, Qdo ?_⟩⟩
 · show true = (Qav a f || Qav b g)
   rw [show Qav a f = true from e]; rfl
 · show Qav b g = (Qav a f || Qav b g)
   rw [show Qav a f = false from e]; rfl
theorem Qyy : Qai Tryz.prog 241 Q1i := Qan hm Qtj Tryz.func241 (Λ := fun _ => Qax) fun args p x h hp => by
 unfold Q1i at h
 split at h <;> try (cases h; done)
 rename_i a f
 cases h
 have h0 : I64 a := hp _ rfl
 refine ⟨rfl, rfl, ?_⟩
 refine Eq.mpr (Zbv ⟨a, f⟩ _) ?_
 refine ⟨⟨⟨h0, trivial⟩, by decide⟩, Qdo ?_⟩
 show Qcy (Qaa a + 0) (Qav a f || false) = _
 rw [Int.add_zero, Qet (Q0s h0), Bool.or_false]
theorem Qpr : ∀ f g, Zfh f = some g → g.ok Tryz.prog f := Qab (Qab Qtj (Qak Tryz.func231 (by kernel_rfl) (by kernel_rfl) Qvc)) (Qak Tryz.func241 (by kernel_rfl) (by kernel_rfl) Qyy)
theorem setRow (g : Nat → NB) (x i : Nat) : [SV.v (.int .i64 (bop (Nat.beq i (0 + Int.toNat (x : Int))) (g (0 + Int.toNat (x : Int))).v (if i < x then g i else ⟨0, false⟩ : NB).v)), SV.v (.bool (bop (Nat.beq i (0 + Int.toNat (x : Int))) (g (0 + Int.toNat (x : Int))).f (if i < x then g i else ⟨0, false⟩ : NB).f))] = nR (if i < x + 1 then g i else ⟨0, false⟩) := by
 rw [Int.toNat_natCast, Nat.zero_add]
 by_cases h : i = x
 · subst h
   rw [Nat.beq_refl, if_pos (Nat.lt_succ_self i)]; rfl
 · rw [Go.SE.Qb0 h]
   by_cases h' : i < x
   · rw [if_pos h', if_pos (by omega)]; rfl
   · rw [if_neg h', if_neg (by omega)]; rfl
theorem Qpy {x n : Nat} (h : x < n) (h1 : n < 1099511627776) : IntKind.i64.wrap ((x : Int) + 1) = ((x + 1 : Nat) : Int) := by rw [Qag ⟨by omega, by omega⟩]; omega
theorem Qs9 : Qca Tryz.prog 14 Qxq := Qbw hm Qpr Tryz.func14 (Λ := fun args bs => match args, bs with | [.sl 0 4 0 n _], [⟨4, _, row⟩] => Zah n (fun i => rV (row i)) | _, _ => Qax) fun args bs p x h hp => by
 unfold Qxq at h
 split at h <;> try (cases h; done)
 rename_i n c n' row
 cases h
 obtain ⟨h0, rfl, hn⟩ := hp _ rfl
 have h0 := okAll_rows.1 h0
 refine ⟨rfl, [⟨4, n', Qi1 fun i => rV (row i)⟩], ⟨⟨rfl, rfl, fun i hi => Qmo h0 i hi⟩, trivial⟩, ?_⟩
 have hg : ∀ i, i < n' → I64 ((fun i => rV (row i)) i).x.v ∧ I64 ((fun i => rV (row i)) i).y.v := fun i hi => (Qky (h0 i hi)).2
 show Qcm _ _ (Zah n' fun i => rV (row i)) _ _ (Qbe [⟨4, n', Qi1 fun i => rV (row i)⟩]) _ (fun y _ => y = vS (Q3r n' fun i => rV (row i)))
 generalize (fun i => rV (row i)) = g at *
 refine Eq.mpr (Zg3 n' n' c g _) ?_
 rw [Int.toNat_natCast]
 refine ⟨⟨by omega, by omega, by omega⟩, ⟨by omega, by omega, by omega⟩, ⟨0, Nat.zero_le _, rfl, ⟨rfl, Nat.le_refl _, fun i _ => by rw [if_neg (Nat.not_lt_zero i)]⟩, rfl, Nat.le_refl _, fun i _ => by rw [if_neg (Nat.not_lt_zero i)]⟩, fun x hx => Qaf (fun e => ?_) fun e => ?_⟩
 · have e := of_decide_eq_true e
   have hx : x < n' := by omega
   refine ⟨⟨by omega, by omega⟩, ⟨by omega, by omega⟩, ⟨by omega, by omega⟩, x + 1, ⟨hx, Qbj (Qpy hx hn), ⟨rfl, Nat.le_refl _, fun i _ => setRow (fun i => (g i).x) x i⟩, rfl, Nat.le_refl _, fun i _ => setRow (fun i => (g i).y) x i⟩, by omega⟩
 · have e := of_decide_eq_false e
   have hx : x ≤ n' := hx
   obtain rfl : x = n' := by omega
   have ex : ∀ (c : VB → NB), (Qal x fun y => [SV.v (.int .i64 ((fun i => if i < x then c (g i) else (⟨0, false⟩ : NB)) (0 + y)).v), SV.v (.bool ((fun i => if i < x then c (g i) else (⟨0, false⟩ : NB)) (0 + y)).f)]) = Qal x fun i => nR (c (g i)) := fun c => Qdy fun i hi => by
     simp only [Nat.zero_add, if_pos hi]; rfl
   have e1 := ex fun a => a.x
   have e2 := ex fun a => a.y
   simp only at e1 e2
   rw [e1, e2]
   exact ⟨⟨Qmc fun i hi => (hg i hi).1, rfl, hn⟩, ⟨Qmc fun i hi => (hg i hi).2, rfl, hn⟩, rfl⟩
theorem Q94 (g : Nat → NB) (k i : Nat) (h : i < k + 1) : [SV.v (.int .i64 (bop (Nat.blt i k) (g (0 + i)).v (g (0 + Int.toNat (k : Int))).v)), SV.v (.bool (bop (Nat.blt i k) (g (0 + i)).f (g (0 + Int.toNat (k : Int))).f))] = nR (g i) := by
 rw [Int.toNat_natCast, Nat.zero_add, Nat.zero_add]
 by_cases h' : i < k
 · rw [show Nat.blt i k = true from Nat.ble_eq_true_of_le h']; rfl
 · obtain rfl : i = k := by omega
   rw [show Nat.blt i i = false from by cases hb : Nat.blt i i with | false => rfl | true => exact absurd (Nat.le_of_ble_eq_true hb) h']; rfl
theorem nR_0 (n : Nat) (g : Nat → NB) : (Qal n fun y => [SV.v (.int .i64 ((fun i => g i) (0 + y)).v), SV.v (.bool ((fun i => g i) (0 + y)).f)]) = Qal n fun i => nR (g i) := Qdy fun i _ => by rw [Nat.zero_add]; rfl
theorem Qys : Qca Tryz.prog 244 Qxq := Qbw hm Qpr Tryz.func244 (Λ := fun args bs => match args, bs with | [.sl 0 4 0 n _], [⟨4, _, row⟩] => Qza n (fun i => rV (row i)) | _, _ => Qax) fun args bs p x h hp => by
 unfold Qxq at h
 split at h <;> try (cases h; done)
 rename_i n c n' row
 cases h
 obtain ⟨h0, rfl, hn⟩ := hp _ rfl
 have h0 := okAll_rows.1 h0
 refine ⟨rfl, [⟨4, n', Qi1 fun i => rV (row i)⟩], ⟨⟨rfl, rfl, fun i hi => Qmo h0 i hi⟩, trivial⟩, ?_⟩
 have hg : ∀ i, i < n' → I64 ((fun i => rV (row i)) i).x.v ∧ I64 ((fun i => rV (row i)) i).y.v := fun i hi => (Qky (h0 i hi)).2
 show Qcm _ _ (Qza n' fun i => rV (row i)) _ _ (Qbe [⟨4, n', Qi1 fun i => rV (row i)⟩]) _ (fun y _ => y = vS (Q3r n' fun i => rV (row i)))
 generalize (fun i => rV (row i)) = g at *
 refine Eq.mpr (Zbl n' n' c g _) ?_
 refine ⟨⟨⟨0, 0, 0⟩, ⟨Nat.zero_le _, Nat.le_refl _, Nat.le_refl _⟩, ⟨rfl, ⟨rfl, rfl, rfl, rfl⟩, rfl, rfl, rfl, rfl⟩, ⟨rfl, rfl, trivial⟩, ⟨rfl, rfl, trivial⟩, trivial⟩, fun ⟨k, cc, d⟩ ⟨x1, x2, x3⟩ => ?_⟩
 have x1 : k ≤ n' := x1
 have x2 : k ≤ cc := x2
 have x3 : k ≤ d := x3
 simp only
 refine Qaf (fun e => ?_) fun e => ?_
 · have e := of_decide_eq_true e
   have hx : k < n' := by omega
   exact ⟨⟨by omega, by omega⟩, ⟨by omega, by omega, fun _ _ => trivial⟩, fun c1 => ⟨⟨by omega, by omega⟩, ⟨by omega, by omega, fun _ _ => trivial⟩, fun c2 => ⟨⟨k + 1, k + 1 + c1, k + 1 + c2⟩, ⟨⟨hx, Nat.le_add_right _ _, Nat.le_add_right _ _⟩, ⟨Qbj (Qpy hx hn), rfl, rfl⟩, ⟨rfl, Nat.le_refl _, fun i hi => Q94 (fun i => (g i).x) k i hi⟩, rfl, Nat.le_refl _, fun i hi => Q94 (fun i => (g i).y) k i hi⟩, by show n' - (k + 1) < n' - k; omega⟩⟩⟩
 · have e := of_decide_eq_false e
   obtain rfl : k = n' := by omega
   have e1 := nR_0 k fun i => (g i).x
   have e2 := nR_0 k fun i => (g i).y
   simp only at e1 e2
   rw [e1, e2]
   exact ⟨⟨Qmc fun i hi => (hg i hi).1, trivial, hn⟩, ⟨Qmc fun i hi => (hg i hi).2, trivial, hn⟩, rfl⟩
theorem Q8g : Qca Tryz.prog 302 Zlt := Qbw hm Qpr Tryz.func302 (Λ := fun args bs => match args, bs with | [.sl 0 4 0 n _, _], [⟨4, _, row⟩] => Zad n (fun i => rV (row i)) | _, _ => Qax) fun args bs p x h hp => by
 unfold Zlt at h
 split at h <;> try (cases h; done)
 rename_i n c f n' row
 cases hf : Nat.beq f 231 with
 | false => rw [hf] at h; cases h
 | true =>
   rw [hf] at h
   obtain rfl := Nat.eq_of_beq_eq_true hf
   cases h
   obtain ⟨h0, rfl, hn⟩ := hp _ rfl
   have h0 := okAll_rows.1 h0
   refine ⟨rfl, [⟨4, n', Qi1 fun i => rV (row i)⟩], ⟨⟨rfl, rfl, fun i hi => Qmo h0 i hi⟩, trivial⟩, ?_⟩
   have hg : ∀ i, i < n' → I64 ((fun i => rV (row i)) i).x.v ∧ I64 ((fun i => rV (row i)) i).y.v := fun i hi => (Qky (h0 i hi)).2
   show Qcm _ _ (Zad n' fun i => rV (row i)) _ _ (Qbe [⟨4, n', Qi1 fun i => rV (row i)⟩]) _ (fun y _ => y = .v (.int .i64 (Qse (fun i => rV (row i)) n' 0)))
   generalize (fun i => rV (row i)) = g at *
   refine Eq.mpr (Zk1 n' n' c g _) ?_
   refine ⟨⟨0, ⟨Nat.zero_le _, rfl⟩, rfl, trivial⟩, fun x ⟨hx, hi⟩ => Qaf (fun e => ?_) fun e => ?_⟩
   · have e := of_decide_eq_true e
     have hx : x < n' := by omega
     rw [show n' - x = (n' - (x + 1)) + 1 by omega] at hi
     rw [Int.toNat_natCast, Nat.zero_add]
     refine ⟨⟨by omega, by omega⟩, hg x hx, Qaf (fun b => ?_) fun b => ?_⟩
     · have hi : (bif Qlq (g x) then (x : Int) else Qse g (n' - (x + 1)) (x + 1)) = _ := hi
       rw [b] at hi; exact Qbj hi
     · have hi : (bif Qlq (g x) then (x : Int) else Qse g (n' - (x + 1)) (x + 1)) = _ := hi
       rw [b] at hi
       exact ⟨x + 1, ⟨⟨hx, hi⟩, Qbj (Qpy hx hn), trivial⟩, by omega⟩
   · have e := of_decide_eq_false e
     obtain rfl : x = n' := by omega
     rw [Nat.sub_self] at hi
     exact Qbj hi
theorem Qq7 (g : Nat → VB) : ∀ n, Qw3 n g = true ↔ ∃ j, j < n ∧ Qlq (g j) = true
 | 0 => by simp [Qw3]
 | n + 1 => by
   simp only [Qw3, Bool.or_eq_true, Qq7 g n]
   constructor
   · rintro (⟨j, h1, h2⟩ | h)
     · exact ⟨j, by omega, h2⟩
     · exact ⟨n, by omega, h⟩
   · rintro ⟨j, h1, h2⟩
     by_cases h : j < n
     · exact .inl ⟨j, h, h2⟩
     · obtain rfl : j = n := by omega
       exact .inr h2
theorem Qqo (g : Nat → VB) : ∀ m k, Qse g m k ≥ 0 ↔ ∃ j, k ≤ j ∧ j < k + m ∧ Qlq (g j) = true
 | 0, k => by
   show (-1 : Int) ≥ 0 ↔ _
   constructor
   · intro h; omega
   · rintro ⟨j, h1, h2, _⟩; omega
 | m + 1, k => by
   show (bif Qlq (g k) then (k : Int) else Qse g m (k + 1)) ≥ 0 ↔ _
   cases hb : Qlq (g k) with
   | true => exact ⟨fun _ => ⟨k, Nat.le_refl _, by omega, hb⟩, fun _ => by show (k : Int) ≥ 0; omega⟩
   | false =>
     rw [cond_false, Qqo g m (k + 1)]
     constructor
     · rintro ⟨j, h1, h2, h3⟩; exact ⟨j, by omega, by omega, h3⟩
     · rintro ⟨j, h1, h2, h3⟩
       have : j ≠ k := fun e => by rw [e, hb] at h3; cases h3
       exact ⟨j, by omega, by omega, h3⟩
theorem Zdr (n : Nat) (g : Nat → VB) : decide (Qse g n 0 ≥ 0) = Qw3 n g := by
 cases h : Qw3 n g with
 | true =>
   obtain ⟨j, h1, h2⟩ := (Qq7 g n).1 h
   exact decide_eq_true ((Qqo g n 0).2 ⟨j, Nat.zero_le _, by omega, h2⟩)
 | false =>
   refine decide_eq_false fun hx => ?_
   obtain ⟨j, _, h1, h2⟩ := (Qqo g n 0).1 hx
   rw [(Qq7 g n).2 ⟨j, by omega, h2⟩] at h; cases h
theorem Qzi : ∀ f g, Zj8 f = some g → g.ok Tryz.prog f := Qab Qpr (Qc0 Tryz.func302 (by kernel_rfl) (by kernel_rfl) Q8g)
theorem vR_0 (n : Nat) (g : Nat → VB) : (Qal n fun y => [SV.v (.int .i64 (g (0 + y)).x.v), SV.v (.bool (g (0 + y)).x.f), SV.v (.int .i64 (g (0 + y)).y.v), SV.v (.bool (g (0 + y)).y.f)]) = Qal n fun i => vR (g i) := Qdy fun i _ => by rw [Nat.zero_add]; rfl
theorem rV_0 (g : Nat → VB) : (fun i => rV [SV.v (.int .i64 (g (0 + i)).x.v), SV.v (.bool (g (0 + i)).x.f), SV.v (.int .i64 (g (0 + i)).y.v), SV.v (.bool (g (0 + i)).y.f)]) = g := funext fun i => by rw [Nat.zero_add]; rfl
theorem Qrf : Qca Tryz.prog 230 Qmz := Qbw hm Qzi Tryz.func230 (Λ := fun _ _ => Qax) fun args bs p x h hp => by
 unfold Qmz at h
 split at h <;> try (cases h; done)
 rename_i n c f n' row
 cases hf : Nat.beq f 231 with
 | false => rw [hf] at h; cases h
 | true =>
   rw [hf] at h
   obtain rfl := Nat.eq_of_beq_eq_true hf
   cases h
   obtain ⟨h0, rfl, hn⟩ := hp _ rfl
   have h0 := okAll_rows.1 h0
   refine ⟨rfl, [⟨4, n', Qi1 fun i => rV (row i)⟩], ⟨⟨rfl, rfl, fun i hi => Qmo h0 i hi⟩, trivial⟩, ?_⟩
   have hg : ∀ i, i < n' → I64 ((fun i => rV (row i)) i).x.v ∧ I64 ((fun i => rV (row i)) i).y.v := fun i hi => (Qky (h0 i hi)).2
   show Qcm _ _ Qax _ _ (Qbe [⟨4, n', Qi1 fun i => rV (row i)⟩]) _ (fun y _ => y = .v (.bool (Qw3 n' fun i => rV (row i))))
   generalize (fun i => rV (row i)) = g at *
   refine Eq.mpr (Qxe n' n' c g _) ?_
   rw [vR_0, rV_0, Zdr]
   exact ⟨⟨Q2f hg, rfl, hn⟩, rfl⟩
theorem Qzh : ∀ f g, Zj7 f = some g → g.ok Tryz.prog f := Qab Qzi (Qc0 Tryz.func230 (by kernel_rfl) (by kernel_rfl) Qrf)
theorem Qyz : Qca Tryz.prog 159 Qt7 := Qbw hm Qzh Tryz.func159 (Λ := fun _ _ => Qax) fun args bs p x h hp => by
 unfold Qt7 at h
 split at h <;> try (cases h; done)
 rename_i n c n' row
 cases h
 obtain ⟨h0, rfl, hn⟩ := hp _ rfl
 have h0 := okAll_rows.1 h0
 refine ⟨rfl, [⟨4, n', Qi1 fun i => rV (row i)⟩], ⟨⟨rfl, rfl, fun i hi => Qmo h0 i hi⟩, trivial⟩, ?_⟩
 have hg : ∀ i, i < n' → I64 ((fun i => rV (row i)) i).x.v ∧ I64 ((fun i => rV (row i)) i).y.v := fun i hi => (Qky (h0 i hi)).2
 show Qcm _ _ Qax _ _ (Qbe [⟨4, n', Qi1 fun i => rV (row i)⟩]) _ (fun y _ => y = .v (.bool (Qw3 n' fun i => rV (row i))))
 generalize (fun i => rV (row i)) = g at *
 refine Eq.mpr (Zbw n' n' c g _) ?_
 rw [vR_0, rV_0]
 exact ⟨⟨Q2f hg, rfl, hn⟩, rfl⟩
def Zao : Qb7 := Qah (Qah (Qah Zj7 14 (Qcv Qxq)) 244 (Qcv Qxq)) 159 (Qcv Qt7)
def Qps : VB := ⟨⟨0, false⟩, ⟨0, false⟩⟩
def Qfk (a b : VB) : VB := ⟨Zb6 [nR a.x, nR b.x], Zb6 [nR a.y, nR b.y]⟩
def Qdl (v : VB) : VB := bif decide (Qac v.x.v < 16777216) && decide (Qac v.y.v < 16777216) then ⟨⟨v.x.v * 16777216, v.x.f⟩, ⟨v.y.v * 16777216, v.y.f⟩⟩ else v
def Qij (v : VB) : VB × Bool := bif Qlq v then (Qps, false) else bif (Qgd (Qdl v)).f || (Qgd (Qdl v)).v == 0 then (Qps, false) else (⟨Qda (Qdl v).x (Qgd (Qdl v)), Qda (Qdl v).y (Qgd (Qdl v))⟩, true)
def Q42 (a b c d : NB) : NB := Qch a d (Qct b) c
def Zjm (a b c d : NB) (v : VB) : VB := ⟨Qda (Qch v.x d (Qct b) v.y) (Q42 a b c d), Qda (Qch a v.y (Qct v.x) c) (Q42 a b c d)⟩
def Zev (a b c d : NB) (v : VB) : VB × Bool := bif (Q42 a b c d).f || (Q42 a b c d).v == 0 then (Qps, false) else bif Qlq (Zjm a b c d v) then (Qps, false) else (Zjm a b c d v, true)
def Q43 (r : VB) : Int := bif Qlq r then 3 else bif decide ((Qch r.x r.x r.y r.y).v - 4294967296 > 65536) || decide (4294967296 - (Qch r.x r.x r.y r.y).v > 65536) then 3 else 0
def Zcf : List SV → Option (Option Prop × SV)
 | [.agg [.v (.int .i64 a), .v (.bool f), .v (.int .i64 b), .v (.bool g)]] => some (some (I64 a ∧ I64 b), .tup [vS (Qij ⟨⟨a, f⟩, ⟨b, g⟩⟩).1, .v (.bool (Qij ⟨⟨a, f⟩, ⟨b, g⟩⟩).2)])
 | _ => none
def Q09 : List SV → Option (Option Prop × SV)
 | [.agg [.v (.int .i64 a), .v (.bool fa)], .agg [.v (.int .i64 b), .v (.bool fb)], .agg [.v (.int .i64 c), .v (.bool fc)], .agg [.v (.int .i64 d), .v (.bool fd)], .agg [.v (.int .i64 x), .v (.bool f), .v (.int .i64 y), .v (.bool g)]] =>
   some (some ((I64 a ∧ I64 b) ∧ (I64 c ∧ I64 d) ∧ I64 x ∧ I64 y), .tup [vS (Zev ⟨a, fa⟩ ⟨b, fb⟩ ⟨c, fc⟩ ⟨d, fd⟩ ⟨⟨x, f⟩, ⟨y, g⟩⟩).1, .v (.bool (Zev ⟨a, fa⟩ ⟨b, fb⟩ ⟨c, fc⟩ ⟨d, fd⟩ ⟨⟨x, f⟩, ⟨y, g⟩⟩).2)])
 | _ => none
def Zlz : List SV → Option (Option Prop × SV)
 | [.agg [.v (.int .i64 a), .v (.bool f), .v (.int .i64 b), .v (.bool g)]] => some (some (I64 a ∧ I64 b), .v (.int .i64 (Q43 ⟨⟨a, f⟩, ⟨b, g⟩⟩)))
 | _ => none
def sTo : List SV → Option (Option Prop × SV)
 | [.agg [.v (.int .i64 p), .v (.bool fp), .v (.int .i64 q), .v (.bool fq), .v (.int .i64 c), .v (.bool fc), .v (.int .i64 s), .v (.bool fs)], .agg [.v (.int .i64 x), .v (.bool f), .v (.int .i64 y), .v (.bool g)]] =>
   some (some ((I64 p ∧ I64 q) ∧ (I64 c ∧ I64 s) ∧ I64 x ∧ I64 y), vS (Qfk ⟨⟨p, fp⟩, ⟨q, fq⟩⟩ (Qdp ⟨⟨c, fc⟩, ⟨s, fs⟩⟩ ⟨⟨x, f⟩, ⟨y, g⟩⟩)))
 | _ => none
def pS (a r : VB) : SV := .agg [.v (.int .i64 a.x.v), .v (.bool a.x.f), .v (.int .i64 a.y.v), .v (.bool a.y.f), .v (.int .i64 r.x.v), .v (.bool r.x.f), .v (.int .i64 r.y.v), .v (.bool r.y.f)]
theorem Zfv (v : VB) (R : SV→Prop) : (Qau Tryz.prog Zao Qax Tryz.f271 [vS v] R) = ((((Qn9 [SV.v (.int .i64 (NB.v (VB.x v))),SV.v (.bool (NB.f (VB.x v))),SV.v (.int .i64 (NB.v (VB.y v))),SV.v (.bool (NB.f (VB.y v)))])∧True)∧(((1 : Nat) = 1)∧((1 : Nat) < 1099511627776)))∧(sel (Qw3 1 fun i => rV [SV.v (.int .i64 (NB.v (VB.x v))),SV.v (.bool (NB.f (VB.x v))),SV.v (.int .i64 (NB.v (VB.y v))),SV.v (.bool (NB.f (VB.y v)))]) (R (SV.tup [(SV.agg [(SV.v (.int .i64 0)),(SV.v (.bool false)),(SV.v (.int .i64 0)),(SV.v (.bool false))]),(SV.v (.bool false))])) (sel (decide (max (max (max (NB.v (VB.x v)) (IntKind.wrap IntKind.i64 (0 - NB.v (VB.x v)))) (NB.v (VB.y v))) (IntKind.wrap IntKind.i64 (0 - NB.v (VB.y v))) < 16777216)) (((I64 (IntKind.wrap IntKind.i64 (NB.v (VB.x v) * 16777216)))∧(I64 (IntKind.wrap IntKind.i64 (NB.v (VB.y v) * 16777216))))∧(sel (NB.f (Qgd {x:={v:=IntKind.wrap IntKind.i64 (NB.v (VB.x v) * 16777216),f:=NB.f (VB.x v)},y:={v:=IntKind.wrap IntKind.i64 (NB.v (VB.y v) * 16777216),f:=NB.f (VB.y v)}})) (R (SV.tup [(SV.agg [(SV.v (.int .i64 0)),(SV.v (.bool false)),(SV.v (.int .i64 0)),(SV.v (.bool false))]),(SV.v (.bool false))])) (sel (NB.v (Qgd {x:={v:=IntKind.wrap IntKind.i64 (NB.v (VB.x v) * 16777216),f:=NB.f (VB.x v)},y:={v:=IntKind.wrap IntKind.i64 (NB.v (VB.y v) * 16777216),f:=NB.f (VB.y v)}}) == 0) (R (SV.tup [(SV.agg [(SV.v (.int .i64 0)),(SV.v (.bool false)),(SV.v (.int .i64 0)),(SV.v (.bool false))]),(SV.v (.bool false))])) (((I64 (IntKind.wrap IntKind.i64 (NB.v (VB.x v) * 16777216)))∧(I64 (NB.v (Qgd {x:={v:=IntKind.wrap IntKind.i64 (NB.v (VB.x v) * 16777216),f:=NB.f (VB.x v)},y:={v:=IntKind.wrap IntKind.i64 (NB.v (VB.y v) * 16777216),f:=NB.f (VB.y v)}}))))∧(((I64 (IntKind.wrap IntKind.i64 (NB.v (VB.y v) * 16777216)))∧(I64 (NB.v (Qgd {x:={v:=IntKind.wrap IntKind.i64 (NB.v (VB.x v) * 16777216),f:=NB.f (VB.x v)},y:={v:=IntKind.wrap IntKind.i64 (NB.v (VB.y v) * 16777216),f:=NB.f (VB.y v)}}))))∧(R (SV.tup [(SV.agg [(SV.v (.int .i64 (NB.v (Qda {v:=IntKind.wrap IntKind.i64 (NB.v (VB.x v) * 16777216),f:=NB.f (VB.x v)} (Qgd {x:={v:=IntKind.wrap IntKind.i64 (NB.v (VB.x v) * 16777216),f:=NB.f (VB.x v)},y:={v:=IntKind.wrap IntKind.i64 (NB.v (VB.y v) * 16777216),f:=NB.f (VB.y v)}}))))),(SV.v (.bool (NB.f (Qda {v:=IntKind.wrap IntKind.i64 (NB.v (VB.x v) * 16777216),f:=NB.f (VB.x v)} (Qgd {x:={v:=IntKind.wrap IntKind.i64 (NB.v (VB.x v) * 16777216),f:=NB.f (VB.x v)},y:={v:=IntKind.wrap IntKind.i64 (NB.v (VB.y v) * 16777216),f:=NB.f (VB.y v)}}))))),(SV.v (.int .i64 (NB.v (Qda {v:=IntKind.wrap IntKind.i64 (NB.v (VB.y v) * 16777216),f:=NB.f (VB.y v)} (Qgd {x:={v:=IntKind.wrap IntKind.i64 (NB.v (VB.x v) * 16777216),f:=NB.f (VB.x v)},y:={v:=IntKind.wrap IntKind.i64 (NB.v (VB.y v) * 16777216),f:=NB.f (VB.y v)}}))))),(SV.v (.bool (NB.f (Qda {v:=IntKind.wrap IntKind.i64 (NB.v (VB.y v) * 16777216),f:=NB.f (VB.y v)} (Qgd {x:={v:=IntKind.wrap IntKind.i64 (NB.v (VB.x v) * 16777216),f:=NB.f (VB.x v)},y:={v:=IntKind.wrap IntKind.i64 (NB.v (VB.y v) * 16777216),f:=NB.f (VB.y v)}})))))]),(SV.v (.bool true))]))))))) (((I64 (NB.v (VB.x v)))∧(I64 (NB.v (VB.y v))))∧(sel (NB.f (Qgd v)) (R (SV.tup [(SV.agg [(SV.v (.int .i64 0)),(SV.v (.bool false)),(SV.v (.int .i64 0)),(SV.v (.bool false))]),(SV.v (.bool false))])) (sel (NB.v (Qgd v) == 0) (R (SV.tup [(SV.agg [(SV.v (.int .i64 0)),(SV.v (.bool false)),(SV.v (.int .i64 0)),(SV.v (.bool false))]),(SV.v (.bool false))])) (((I64 (NB.v (VB.x v)))∧(I64 (NB.v (Qgd v))))∧(((I64 (NB.v (VB.y v)))∧(I64 (NB.v (Qgd v))))∧(R (SV.tup [(SV.agg [(SV.v (.int .i64 (NB.v (Qda (VB.x v) (Qgd v))))),(SV.v (.bool (NB.f (Qda (VB.x v) (Qgd v))))),(SV.v (.int .i64 (NB.v (Qda (VB.y v) (Qgd v))))),(SV.v (.bool (NB.f (Qda (VB.y v) (Qgd v)))))]),(SV.v (.bool true))])))))))))):=by kernel_rfl
theorem Za7 (a b c d : NB) (v : VB) (R : SV→Prop) : (Qau Tryz.prog Zao Qax Tryz.f322 [nS a,nS b,nS c,nS d,vS v] R) = ((I64 (NB.v b))∧((((I64 (NB.v a))∧(I64 (NB.v d)))∧((I64 (NB.v (Qct b)))∧(I64 (NB.v c))))∧(sel (NB.f (Qch a d (Qct b) c)) (R (SV.tup [(SV.agg [(SV.v (.int .i64 0)),(SV.v (.bool false)),(SV.v (.int .i64 0)),(SV.v (.bool false))]),(SV.v (.bool false))])) (sel (NB.v (Qch a d (Qct b) c) == 0) (R (SV.tup [(SV.agg [(SV.v (.int .i64 0)),(SV.v (.bool false)),(SV.v (.int .i64 0)),(SV.v (.bool false))]),(SV.v (.bool false))])) ((I64 (NB.v b))∧((((I64 (NB.v (VB.x v)))∧(I64 (NB.v d)))∧((I64 (NB.v (Qct b)))∧(I64 (NB.v (VB.y v)))))∧(((I64 (NB.v (Qch (VB.x v) d (Qct b) (VB.y v))))∧(I64 (NB.v (Qch a d (Qct b) c))))∧((I64 (NB.v (VB.x v)))∧((((I64 (NB.v a))∧(I64 (NB.v (VB.y v))))∧((I64 (NB.v (Qct (VB.x v))))∧(I64 (NB.v c))))∧(((I64 (NB.v (Qch a (VB.y v) (Qct (VB.x v)) c)))∧(I64 (NB.v (Qch a d (Qct b) c))))∧((((Qn9 [SV.v (.int .i64 (NB.v (Qda (Qch (VB.x v) d (Qct b) (VB.y v)) (Qch a d (Qct b) c)))),SV.v (.bool (NB.f (Qda (Qch (VB.x v) d (Qct b) (VB.y v)) (Qch a d (Qct b) c)))),SV.v (.int .i64 (NB.v (Qda (Qch a (VB.y v) (Qct (VB.x v)) c) (Qch a d (Qct b) c)))),SV.v (.bool (NB.f (Qda (Qch a (VB.y v) (Qct (VB.x v)) c) (Qch a d (Qct b) c))))])∧True)∧(((1 : Nat) = 1)∧((1 : Nat) < 1099511627776)))∧(sel (Qw3 1 fun i => rV [SV.v (.int .i64 (NB.v (Qda (Qch (VB.x v) d (Qct b) (VB.y v)) (Qch a d (Qct b) c)))),SV.v (.bool (NB.f (Qda (Qch (VB.x v) d (Qct b) (VB.y v)) (Qch a d (Qct b) c)))),SV.v (.int .i64 (NB.v (Qda (Qch a (VB.y v) (Qct (VB.x v)) c) (Qch a d (Qct b) c)))),SV.v (.bool (NB.f (Qda (Qch a (VB.y v) (Qct (VB.x v)) c) (Qch a d (Qct b) c))))]) (R (SV.tup [(SV.agg [(SV.v (.int .i64 0)),(SV.v (.bool false)),(SV.v (.int .i64 0)),(SV.v (.bool false))]),(SV.v (.bool false))])) (R (SV.tup [(SV.agg [(SV.v (.int .i64 (NB.v (Qda (Qch (VB.x v) d (Qct b) (VB.y v)) (Qch a d (Qct b) c))))),(SV.v (.bool (NB.f (Qda (Qch (VB.x v) d (Qct b) (VB.y v)) (Qch a d (Qct b) c))))),(SV.v (.int .i64 (NB.v (Qda (Qch a (VB.y v) (Qct (VB.x v)) c) (Qch a d (Qct b) c))))),(SV.v (.bool (NB.f (Qda (Qch a (VB.y v) (Qct (VB.x v)) c) (Qch a d (Qct b) c)))))]),(SV.v (.bool true))])))))))))))))):=by kernel_rfl
theorem Zla (v : VB) (R : SV→Prop) : (Qau Tryz.prog Zao Qax Tryz.f81 [vS v] R) = ((((Qn9 [SV.v (.int .i64 (NB.v (VB.x v))),SV.v (.bool (NB.f (VB.x v))),SV.v (.int .i64 (NB.v (VB.y v))),SV.v (.bool (NB.f (VB.y v)))])∧True)∧(((1 : Nat) = 1)∧((1 : Nat) < 1099511627776)))∧(sel (Qw3 1 fun i => rV [SV.v (.int .i64 (NB.v (VB.x v))),SV.v (.bool (NB.f (VB.x v))),SV.v (.int .i64 (NB.v (VB.y v))),SV.v (.bool (NB.f (VB.y v)))]) (R (SV.v (.int .i64 3))) ((((I64 (NB.v (VB.x v)))∧(I64 (NB.v (VB.x v))))∧((I64 (NB.v (VB.y v)))∧(I64 (NB.v (VB.y v)))))∧(sel (decide (IntKind.wrap IntKind.i64 (NB.v (Qch (VB.x v) (VB.x v) (VB.y v) (VB.y v)) - 4294967296) > 65536)) (R (SV.v (.int .i64 3))) (sel (decide (IntKind.wrap IntKind.i64 (NB.v (Qch (VB.x v) (VB.x v) (VB.y v) (VB.y v)) - 4294967296) < -65536)) (R (SV.v (.int .i64 3))) (R (SV.v (.int .i64 0)))))))):=by kernel_rfl
theorem vcTo (a r v : VB) (R : SV→Prop) : (Qau Tryz.prog Zao Qax Tryz.f29 [pS a r,vS v] R) = ((((I64 (NB.v (VB.x r)))∧(I64 (NB.v (VB.y r))))∧((I64 (NB.v (VB.x v)))∧(I64 (NB.v (VB.y v)))))∧((((Qn9 [SV.v (.int .i64 (NB.v (VB.x a))),SV.v (.bool (NB.f (VB.x a))),SV.v (.int .i64 (NB.v (VB.y a))),SV.v (.bool (NB.f (VB.y a)))])∧((Qn9 [SV.v (.int .i64 (NB.v (VB.x (Qdp r v)))),SV.v (.bool (NB.f (VB.x (Qdp r v)))),SV.v (.int .i64 (NB.v (VB.y (Qdp r v)))),SV.v (.bool (NB.f (VB.y (Qdp r v))))])∧True))∧(((2 : Nat) = 2)∧((2 : Nat) < 1099511627776)))∧(R (SV.agg [(SV.v (.int .i64 (NB.v (VB.x (Q3r 2 fun i => rV [SV.v (.int .i64 (bop (Nat.beq (0 + i) 0) (NB.v (VB.x a)) (NB.v (VB.x (Qdp r v))))),SV.v (.bool (bop (Nat.beq (0 + i) 0) (NB.f (VB.x a)) (NB.f (VB.x (Qdp r v))))),SV.v (.int .i64 (bop (Nat.beq (0 + i) 0) (NB.v (VB.y a)) (NB.v (VB.y (Qdp r v))))),SV.v (.bool (bop (Nat.beq (0 + i) 0) (NB.f (VB.y a)) (NB.f (VB.y (Qdp r v)))))]))))),(SV.v (.bool (NB.f (VB.x (Q3r 2 fun i => rV [SV.v (.int .i64 (bop (Nat.beq (0 + i) 0) (NB.v (VB.x a)) (NB.v (VB.x (Qdp r v))))),SV.v (.bool (bop (Nat.beq (0 + i) 0) (NB.f (VB.x a)) (NB.f (VB.x (Qdp r v))))),SV.v (.int .i64 (bop (Nat.beq (0 + i) 0) (NB.v (VB.y a)) (NB.v (VB.y (Qdp r v))))),SV.v (.bool (bop (Nat.beq (0 + i) 0) (NB.f (VB.y a)) (NB.f (VB.y (Qdp r v)))))]))))),(SV.v (.int .i64 (NB.v (VB.y (Q3r 2 fun i => rV [SV.v (.int .i64 (bop (Nat.beq (0 + i) 0) (NB.v (VB.x a)) (NB.v (VB.x (Qdp r v))))),SV.v (.bool (bop (Nat.beq (0 + i) 0) (NB.f (VB.x a)) (NB.f (VB.x (Qdp r v))))),SV.v (.int .i64 (bop (Nat.beq (0 + i) 0) (NB.v (VB.y a)) (NB.v (VB.y (Qdp r v))))),SV.v (.bool (bop (Nat.beq (0 + i) 0) (NB.f (VB.y a)) (NB.f (VB.y (Qdp r v)))))]))))),(SV.v (.bool (NB.f (VB.y (Q3r 2 fun i => rV [SV.v (.int .i64 (bop (Nat.beq (0 + i) 0) (NB.v (VB.x a)) (NB.v (VB.x (Qdp r v))))),SV.v (.bool (bop (Nat.beq (0 + i) 0) (NB.f (VB.x a)) (NB.f (VB.x (Qdp r v))))),SV.v (.int .i64 (bop (Nat.beq (0 + i) 0) (NB.v (VB.y a)) (NB.v (VB.y (Qdp r v))))),SV.v (.bool (bop (Nat.beq (0 + i) 0) (NB.f (VB.y a)) (NB.f (VB.y (Qdp r v)))))])))))])))):=by kernel_rfl
theorem Zkr (a r v : VB) (R : SV→Prop) : (Qau Tryz.prog Zao Qax Tryz.f174 [pS a r,vS v] R) = ((((I64 (NB.v (VB.x r)))∧(I64 (NB.v (VB.y r))))∧((I64 (NB.v (VB.x v)))∧(I64 (NB.v (VB.y v)))))∧((((Qn9 [SV.v (.int .i64 (NB.v (VB.x a))),SV.v (.bool (NB.f (VB.x a))),SV.v (.int .i64 (NB.v (VB.y a))),SV.v (.bool (NB.f (VB.y a)))])∧((Qn9 [SV.v (.int .i64 (NB.v (VB.x (Qdp r v)))),SV.v (.bool (NB.f (VB.x (Qdp r v)))),SV.v (.int .i64 (NB.v (VB.y (Qdp r v)))),SV.v (.bool (NB.f (VB.y (Qdp r v))))])∧True))∧(((2 : Nat) = 2)∧((2 : Nat) < 1099511627776)))∧(R (SV.agg [(SV.v (.int .i64 (NB.v (VB.x (Q3r 2 fun i => rV [SV.v (.int .i64 (bop (Nat.beq (0 + i) 0) (NB.v (VB.x a)) (NB.v (VB.x (Qdp r v))))),SV.v (.bool (bop (Nat.beq (0 + i) 0) (NB.f (VB.x a)) (NB.f (VB.x (Qdp r v))))),SV.v (.int .i64 (bop (Nat.beq (0 + i) 0) (NB.v (VB.y a)) (NB.v (VB.y (Qdp r v))))),SV.v (.bool (bop (Nat.beq (0 + i) 0) (NB.f (VB.y a)) (NB.f (VB.y (Qdp r v)))))]))))),(SV.v (.bool (NB.f (VB.x (Q3r 2 fun i => rV [SV.v (.int .i64 (bop (Nat.beq (0 + i) 0) (NB.v (VB.x a)) (NB.v (VB.x (Qdp r v))))),SV.v (.bool (bop (Nat.beq (0 + i) 0) (NB.f (VB.x a)) (NB.f (VB.x (Qdp r v))))),SV.v (.int .i64 (bop (Nat.beq (0 + i) 0) (NB.v (VB.y a)) (NB.v (VB.y (Qdp r v))))),SV.v (.bool (bop (Nat.beq (0 + i) 0) (NB.f (VB.y a)) (NB.f (VB.y (Qdp r v)))))]))))),(SV.v (.int .i64 (NB.v (VB.y (Q3r 2 fun i => rV [SV.v (.int .i64 (bop (Nat.beq (0 + i) 0) (NB.v (VB.x a)) (NB.v (VB.x (Qdp r v))))),SV.v (.bool (bop (Nat.beq (0 + i) 0) (NB.f (VB.x a)) (NB.f (VB.x (Qdp r v))))),SV.v (.int .i64 (bop (Nat.beq (0 + i) 0) (NB.v (VB.y a)) (NB.v (VB.y (Qdp r v))))),SV.v (.bool (bop (Nat.beq (0 + i) 0) (NB.f (VB.y a)) (NB.f (VB.y (Qdp r v)))))]))))),(SV.v (.bool (NB.f (VB.y (Q3r 2 fun i => rV [SV.v (.int .i64 (bop (Nat.beq (0 + i) 0) (NB.v (VB.x a)) (NB.v (VB.x (Qdp r v))))),SV.v (.bool (bop (Nat.beq (0 + i) 0) (NB.f (VB.x a)) (NB.f (VB.x (Qdp r v))))),SV.v (.int .i64 (bop (Nat.beq (0 + i) 0) (NB.v (VB.y a)) (NB.v (VB.y (Qdp r v))))),SV.v (.bool (bop (Nat.beq (0 + i) 0) (NB.f (VB.y a)) (NB.f (VB.y (Qdp r v)))))])))))])))):=by kernel_rfl
theorem Qke : ∀ f g, Zao f = some g → g.ok Tryz.prog f := Qab (Qab (Qab Qzh (Qc0 Tryz.func14 (by kernel_rfl) (by kernel_rfl) Qs9)) (Qc0 Tryz.func244 (by kernel_rfl) (by kernel_rfl) Qys)) (Qc0 Tryz.func159 (by kernel_rfl) (by kernel_rfl) Qyz)
theorem Zi4 {v : VB} (h : Qlq v = false) (h1 : I64 v.x.v) (h2 : I64 v.y.v) : Sd v.x.v ∧ Sd v.y.v ∧ v.x.f = false ∧ v.y.f = false := by
 unfold Qlq at h
 rw [Bool.or_eq_false_iff] at h
 obtain ⟨a, b⟩ := h
 have key : ∀ {x : Int} {f : Bool}, I64 x → Qav x f = false → Sd x ∧ f = false := fun {x f} hx hf => by
   obtain ⟨l, u⟩ := hx
   unfold Qav at hf
   by_cases e : x = -9223372036854775808
   · rw [if_pos e] at hf; cases hf
   · rw [if_neg e] at hf; exact ⟨⟨by omega, by omega⟩, hf⟩
 exact ⟨(key h1 a).1, (key h2 b).1, (key h1 a).2, (key h2 b).2⟩
theorem Q6d {v : VB} (h : Qlq v = true) : Qij v = (Qps, false) := by unfold Qij; rw [h]; rfl
theorem Zg5 {v : VB} (h : Qlq v = false) (h1 : (Qgd (Qdl v)).f = true) : Qij v = (Qps, false) := by unfold Qij; rw [h, h1]; rfl
theorem Zg7 {v : VB} (h : Qlq v = false) (h1 : ((Qgd (Qdl v)).v == 0) = true) : Qij v = (Qps, false) := by unfold Qij; rw [h, h1, Bool.or_true]; rfl
theorem Zg6 {v : VB} (h : Qlq v = false) (h1 : (Qgd (Qdl v)).f = false) (h2 : ((Qgd (Qdl v)).v == 0) = false) : Qij v = (⟨Qda (Qdl v).x (Qgd (Qdl v)), Qda (Qdl v).y (Qgd (Qdl v))⟩, true) := by unfold Qij; rw [h, h1, h2]; rfl
theorem Zib (v : VB) : I64 (Qgd v).v := Qht _ _
theorem Qru {v u : VB} (hb : Qlq v = false) (hu : Qdl v = u) (i1 : I64 u.x.v) (i2 : I64 u.y.v) : sel (Qgd u).f (SV.tup [SV.agg [SV.v (.int .i64 0), SV.v (.bool false), SV.v (.int .i64 0), SV.v (.bool false)], SV.v (.bool false)] = .tup [vS (Qij v).1, .v (.bool (Qij v).2)])
   (sel ((Qgd u).v == 0) (SV.tup [SV.agg [SV.v (.int .i64 0), SV.v (.bool false), SV.v (.int .i64 0), SV.v (.bool false)], SV.v (.bool false)] = .tup [vS (Qij v).1, .v (.bool (Qij v).2)])
     ((I64 u.x.v ∧ I64 (Qgd u).v) ∧ (I64 u.y.v ∧ I64 (Qgd u).v) ∧ SV.tup [SV.agg [SV.v (.int .i64 (Qda u.x (Qgd u)).v), SV.v (.bool (Qda u.x (Qgd u)).f), SV.v (.int .i64 (Qda u.y (Qgd u)).v), SV.v (.bool (Qda u.y (Qgd u)).f)], SV.v (.bool true)] = .tup [vS (Qij v).1, .v (.bool (Qij v).2)])) := by
 subst hu
 refine Qaf (fun e => ?_) fun e => Qaf (fun e' => ?_) fun e' => ⟨⟨i1, Zib _⟩, ⟨i2, Zib _⟩, ?_⟩
 · rw [Zg5 hb e]; rfl
 · rw [Zg7 hb e']; rfl
 · rw [Zg6 hb e e']; rfl
theorem Q20 {v : VB} (h1 : Qac v.x.v < 16777216) (h2 : Qac v.y.v < 16777216) : Qdl v = ⟨⟨v.x.v * 16777216, v.x.f⟩, ⟨v.y.v * 16777216, v.y.f⟩⟩ := by unfold Qdl; rw [decide_eq_true h1, decide_eq_true h2]; rfl
theorem Q22 {v : VB} (h1 : ¬ Qac v.x.v < 16777216) : Qdl v = v := by unfold Qdl; rw [decide_eq_false h1]; rfl
theorem Q21 {v : VB} (h1 : ¬ Qac v.y.v < 16777216) : Qdl v = v := by unfold Qdl; rw [decide_eq_false h1, Bool.and_false]; rfl
theorem Qxk {a : Int} (h : Qac a < 16777216) : IntKind.i64.wrap (a * 16777216) = a * 16777216 ∧ Sd (a * 16777216) := by
 have : -16777216 < a ∧ a < 16777216 := by unfold Qac at h; split at h <;> omega
 exact ⟨Qag ⟨by omega, by omega⟩, by omega, by omega⟩
theorem Q3w : Qai Tryz.prog 271 Zcf := Qan hm Qke Tryz.func271 (Λ := fun _ => Qax) fun args p x h hp => by
 unfold Zcf at h
 split at h <;> try (cases h; done)
 rename_i a f b g
 cases h
 obtain ⟨h0, k0⟩ := hp _ rfl
 refine ⟨rfl, rfl, ?_⟩
 generalize hv : (⟨⟨a, f⟩, ⟨b, g⟩⟩ : VB) = v
 have e0 : SV.agg [SV.v (Value.int .i64 a), SV.v (Value.bool f), SV.v (Value.int .i64 b), SV.v (Value.bool g)] = vS v := by rw [← hv]; rfl
 rw [e0]
 have h0 : I64 v.x.v := by rw [← hv]; exact h0
 have k0 : I64 v.y.v := by rw [← hv]; exact k0
 clear hv e0
 refine Eq.mpr (Zfv v _) ?_
 refine ⟨⟨⟨⟨h0, k0⟩, trivial⟩, by decide⟩, Qaf (fun e => ?_) fun e => ?_⟩
 · rw [Q6d (v := v) e]; rfl
 · have e : Qlq v = false := e
   obtain ⟨s1, s2, f1, f2⟩ := Zi4 e h0 k0
   have w1 : IntKind.i64.wrap (0 - v.x.v) = -v.x.v := by obtain ⟨_, _⟩ := s1; rw [Qag ⟨by omega, by omega⟩]; omega
   have w2 : IntKind.i64.wrap (0 - v.y.v) = -v.y.v := by obtain ⟨_, _⟩ := s2; rw [Qag ⟨by omega, by omega⟩]; omega
   rw [w1, w2]
   refine Qaf (fun m => ?_) fun m => ?_
   · have m := of_decide_eq_true m
     have m1 : Qac v.x.v < 16777216 := by unfold Qac; split <;> omega
     have m2 : Qac v.y.v < 16777216 := by unfold Qac; split <;> omega
     rw [(Qxk m1).1, (Qxk m2).1]
     exact ⟨⟨(Qxk m1).2.i64, (Qxk m2).2.i64⟩, Qru e (Q20 m1 m2) (Qxk m1).2.i64 (Qxk m2).2.i64⟩
   · have m := of_decide_eq_false m
     have hg : Qdl v = v := by
       by_cases m1 : Qac v.x.v < 16777216
       · refine Q21 fun m2 => m ?_
         unfold Qac at m1 m2
         split at m1 <;> split at m2 <;> omega
       · exact Q22 m1
     exact ⟨⟨h0, k0⟩, Qru e hg h0 k0⟩
theorem Zd0 (r : VB) : 0 ≤ (Qch r.x r.x r.y r.y).v ∧ (Qch r.x r.x r.y r.y).v ≤ 9223372036854775807 := by
 refine ⟨?_, (Qbp _).2⟩
 show 0 ≤ Qar (Quq (Qaa r.x.v) (Qaa r.x.v) (Qaa r.y.v) (Qaa r.y.v))
 have a := Qbs (Qaa r.x.v)
 have b := Qbs (Qaa r.y.v)
 have : 0 ≤ Quq (Qaa r.x.v) (Qaa r.x.v) (Qaa r.y.v) (Qaa r.y.v) := by
   unfold Quq
   rw [Int.tdiv_eq_ediv_of_nonneg (by omega)]
   exact Int.ediv_nonneg (by omega) (by decide)
 unfold Qar
 (repeat' split) <;> omega
theorem Q8p : Qai Tryz.prog 81 Zlz := Qan hm Qke Tryz.func81 (Λ := fun _ => Qax) fun args p x h hp => by
 unfold Zlz at h
 split at h <;> try (cases h; done)
 rename_i a f b g
 cases h
 obtain ⟨h0, k0⟩ := hp _ rfl
 refine ⟨rfl, rfl, ?_⟩
 refine Eq.mpr (Zla ⟨⟨a, f⟩, ⟨b, g⟩⟩ _) ?_
 have hd := Zd0 ⟨⟨a, f⟩, ⟨b, g⟩⟩
 refine ⟨⟨⟨⟨h0, k0⟩, trivial⟩, by decide⟩, Qaf (fun e => Qbj ?_) fun e => ?_⟩
 · have e : Qlq ⟨⟨a, f⟩, ⟨b, g⟩⟩ = true := e
   unfold Q43; rw [e]; rfl
 · have e : Qlq ⟨⟨a, f⟩, ⟨b, g⟩⟩ = false := e
   unfold Q43; rw [e, cond_false]
   generalize (Qch (⟨⟨a, f⟩, ⟨b, g⟩⟩ : VB).x (⟨⟨a, f⟩, ⟨b, g⟩⟩ : VB).x (⟨⟨a, f⟩, ⟨b, g⟩⟩ : VB).y (⟨⟨a, f⟩, ⟨b, g⟩⟩ : VB).y).v = n at *
   rw [Qag (n := n - 4294967296) ⟨by omega, by omega⟩]
   refine ⟨⟨⟨h0, h0⟩, k0, k0⟩, Qaf (fun e1 => Qbj ?_) fun e1 => Qaf (fun e2 => Qbj ?_) fun e2 => Qbj ?_⟩
   · rw [show decide (n - 4294967296 > 65536) = true from e1]; rfl
   · have e2 := of_decide_eq_true e2
     rw [show decide (4294967296 - n > 65536) = true from decide_eq_true (by omega), Bool.or_true]; rfl
   · have e2 := of_decide_eq_false e2
     rw [show decide (n - 4294967296 > 65536) = false from e1, show decide (4294967296 - n > 65536) = false from decide_eq_false (by omega)]; rfl
theorem Q93 (r v : VB) : I64 (Qdp r v).x.v ∧ I64 (Qdp r v).y.v := ⟨Qfy _ _ _ _, Qfy _ _ _ _⟩
theorem Zel : Qai Tryz.prog 29 sTo := Qan hm Qke Tryz.func29 (Λ := fun _ => Qax) fun args p x h hp => by
 unfold sTo at h
 split at h <;> try (cases h; done)
 rename_i p fp q fq c fc s fs x f y g
 cases h
 obtain ⟨ha, hr, hv⟩ := hp _ rfl
 refine ⟨rfl, rfl, ?_⟩
 refine Eq.mpr (vcTo ⟨⟨p, fp⟩, ⟨q, fq⟩⟩ ⟨⟨c, fc⟩, ⟨s, fs⟩⟩ ⟨⟨x, f⟩, ⟨y, g⟩⟩ _) ?_
 exact ⟨⟨hr, hv⟩, ⟨⟨ha, Q93 _ _, trivial⟩, rfl, by decide⟩, rfl⟩
theorem Q78 : Qai Tryz.prog 174 sTo := Qan hm Qke Tryz.func174 (Λ := fun _ => Qax) fun args p x h hp => by
 unfold sTo at h
 split at h <;> try (cases h; done)
 rename_i p fp q fq c fc s fs x f y g
 cases h
 obtain ⟨ha, hr, hv⟩ := hp _ rfl
 refine ⟨rfl, rfl, ?_⟩
 refine Eq.mpr (Zkr ⟨⟨p, fp⟩, ⟨q, fq⟩⟩ ⟨⟨c, fc⟩, ⟨s, fs⟩⟩ ⟨⟨x, f⟩, ⟨y, g⟩⟩ _) ?_
 exact ⟨⟨hr, hv⟩, ⟨⟨ha, Q93 _ _, trivial⟩, rfl, by decide⟩, rfl⟩
theorem Qyf : Qai Tryz.prog 322 Q09 := Qan hm Qke Tryz.func322 (Λ := fun _ => Qax) fun args p x h hp => by
 unfold Q09 at h
 split at h <;> try (cases h; done)
 rename_i a fa b fb c fc d fd x f y g
 cases h
 obtain ⟨⟨ha, hb⟩, ⟨hc, hd⟩, hx, hy⟩ := hp _ rfl
 refine ⟨rfl, rfl, ?_⟩
 refine Eq.mpr (Za7 ⟨a, fa⟩ ⟨b, fb⟩ ⟨c, fc⟩ ⟨d, fd⟩ ⟨⟨x, f⟩, ⟨y, g⟩⟩ _) ?_
 refine ⟨hb, ⟨⟨ha, hd⟩, Qf6 hb, hc⟩, Qaf (fun e => ?_) fun e => Qaf (fun e' => ?_) fun e' => ⟨hb, ⟨⟨hx, hd⟩, Qf6 hb, hy⟩, ⟨Qfy _ _ _ _, Qfy _ _ _ _⟩, hx, ⟨⟨ha, hy⟩, Qf6 hx, hc⟩, ⟨Qfy _ _ _ _, Qfy _ _ _ _⟩, ⟨⟨⟨Qhb _ _, Qhb _ _⟩, trivial⟩, rfl, by decide⟩, Qaf (fun e'' => ?_) fun e'' => ?_⟩⟩
 · unfold Zev; rw [show (Q42 ⟨a, fa⟩ ⟨b, fb⟩ ⟨c, fc⟩ ⟨d, fd⟩).f = true from e]; rfl
 · unfold Zev; rw [show ((Q42 ⟨a, fa⟩ ⟨b, fb⟩ ⟨c, fc⟩ ⟨d, fd⟩).v == 0) = true from e', Bool.or_true]; rfl
 · unfold Zev
   rw [show (Q42 ⟨a, fa⟩ ⟨b, fb⟩ ⟨c, fc⟩ ⟨d, fd⟩).f = false from e, show ((Q42 ⟨a, fa⟩ ⟨b, fb⟩ ⟨c, fc⟩ ⟨d, fd⟩).v == 0) = false from e', show Qlq (Zjm ⟨a, fa⟩ ⟨b, fb⟩ ⟨c, fc⟩ ⟨d, fd⟩ ⟨⟨x, f⟩, ⟨y, g⟩⟩) = true from e'']; rfl
 · unfold Zev
   rw [show (Q42 ⟨a, fa⟩ ⟨b, fb⟩ ⟨c, fc⟩ ⟨d, fd⟩).f = false from e, show ((Q42 ⟨a, fa⟩ ⟨b, fb⟩ ⟨c, fc⟩ ⟨d, fd⟩).v == 0) = false from e', show Qlq (Zjm ⟨a, fa⟩ ⟨b, fb⟩ ⟨c, fc⟩ ⟨d, fd⟩ ⟨⟨x, f⟩, ⟨y, g⟩⟩) = false from e'']; rfl
end Go.Proofs.YteekigmbopdfjaaGreat
end
