/-
  Contracts: directions, equations, rotations that are none, poses.
-/
import Derived.Test.YtheljpebapokjaaPaC
set_option maxRecDepth 100000
set_option linter.unusedSimpArgs false
set_option linter.unusedVariables false
namespace Go.Proofs.Ytheljpebapokjaa
open Go.SE Go.RowKit

def ΓV6 : Ctrs := addCtr (addCtr (addCtr (addCtr ΓV5 49 (roCtr sAddL)) 54 (roCtr sAddL)) 55 (roCtr sFaultL)) 56 (roCtr sFaultL)
def zeroV : VB := ⟨⟨0, false⟩, ⟨0, false⟩⟩
def add2V (a b : VB) : VB := ⟨sumL [nR a.x, nR b.x], sumL [nR a.y, nR b.y]⟩
def greatV (v : VB) : VB := bif decide (iabs v.x.v < 16777216) && decide (iabs v.y.v < 16777216) then ⟨⟨v.x.v * 16777216, v.x.f⟩, ⟨v.y.v * 16777216, v.y.f⟩⟩ else v
def unitV (v : VB) : VB × Bool := bif badV v then (zeroV, false) else bif (lenV (greatV v)).f || (lenV (greatV v)).v == 0 then (zeroV, false) else (⟨divN (greatV v).x (lenV (greatV v)), divN (greatV v).y (lenV (greatV v))⟩, true)
def solN (a b c d : NB) : NB := dotN a d (negN b) c
def solX (a b c d : NB) (v : VB) : VB := ⟨divN (dotN v.x d (negN b) v.y) (solN a b c d), divN (dotN a v.y (negN v.x) c) (solN a b c d)⟩
def solV (a b c d : NB) (v : VB) : VB × Bool := bif (solN a b c d).f || (solN a b c d).v == 0 then (zeroV, false) else bif badV (solX a b c d v) then (zeroV, false) else (solX a b c d v, true)
def chkV (r : VB) : Int := bif badV r then 3 else bif decide ((dotN r.x r.x r.y r.y).v - 4294967296 > 65536) || decide (4294967296 - (dotN r.x r.x r.y r.y).v > 65536) then 3 else 0
def sUnit : List SV → Option (Option Prop × SV)
  | [.agg [.v (.int .i64 a), .v (.bool f), .v (.int .i64 b), .v (.bool g)]] => some (some (I64 a ∧ I64 b), .tup [vS (unitV ⟨⟨a, f⟩, ⟨b, g⟩⟩).1, .v (.bool (unitV ⟨⟨a, f⟩, ⟨b, g⟩⟩).2)])
  | _ => none
def sSolve : List SV → Option (Option Prop × SV)
  | [.agg [.v (.int .i64 a), .v (.bool fa)], .agg [.v (.int .i64 b), .v (.bool fb)], .agg [.v (.int .i64 c), .v (.bool fc)], .agg [.v (.int .i64 d), .v (.bool fd)], .agg [.v (.int .i64 x), .v (.bool f), .v (.int .i64 y), .v (.bool g)]] =>
    some (some ((I64 a ∧ I64 b) ∧ (I64 c ∧ I64 d) ∧ I64 x ∧ I64 y), .tup [vS (solV ⟨a, fa⟩ ⟨b, fb⟩ ⟨c, fc⟩ ⟨d, fd⟩ ⟨⟨x, f⟩, ⟨y, g⟩⟩).1, .v (.bool (solV ⟨a, fa⟩ ⟨b, fb⟩ ⟨c, fc⟩ ⟨d, fd⟩ ⟨⟨x, f⟩, ⟨y, g⟩⟩).2)])
  | _ => none
def sChk : List SV → Option (Option Prop × SV)
  | [.agg [.v (.int .i64 a), .v (.bool f), .v (.int .i64 b), .v (.bool g)]] => some (some (I64 a ∧ I64 b), .v (.int .i64 (chkV ⟨⟨a, f⟩, ⟨b, g⟩⟩)))
  | _ => none
def sTo : List SV → Option (Option Prop × SV)
  | [.agg [.v (.int .i64 p), .v (.bool fp), .v (.int .i64 q), .v (.bool fq), .v (.int .i64 c), .v (.bool fc), .v (.int .i64 s), .v (.bool fs)], .agg [.v (.int .i64 x), .v (.bool f), .v (.int .i64 y), .v (.bool g)]] =>
    some (some ((I64 p ∧ I64 q) ∧ (I64 c ∧ I64 s) ∧ I64 x ∧ I64 y), vS (add2V ⟨⟨p, fp⟩, ⟨q, fq⟩⟩ (appV ⟨⟨c, fc⟩, ⟨s, fs⟩⟩ ⟨⟨x, f⟩, ⟨y, g⟩⟩)))
  | _ => none
def sFrom : List SV → Option (Option Prop × SV)
  | [.agg [.v (.int .i64 p), .v (.bool fp), .v (.int .i64 q), .v (.bool fq), .v (.int .i64 c), .v (.bool fc), .v (.int .i64 s), .v (.bool fs)], .agg [.v (.int .i64 x), .v (.bool f), .v (.int .i64 y), .v (.bool g)]] =>
    some (some ((I64 p ∧ I64 q) ∧ (I64 c ∧ I64 s) ∧ I64 x ∧ I64 y), vS (bacV ⟨⟨c, fc⟩, ⟨s, fs⟩⟩ (subV ⟨⟨x, f⟩, ⟨y, g⟩⟩ ⟨⟨p, fp⟩, ⟨q, fq⟩⟩)))
  | _ => none
def pS (a r : VB) : SV := .agg [.v (.int .i64 a.x.v), .v (.bool a.x.f), .v (.int .i64 a.y.v), .v (.bool a.y.f), .v (.int .i64 r.x.v), .v (.bool r.x.f), .v (.int .i64 r.y.v), .v (.bool r.y.f)]
theorem vcUnit (v : VB) (R : SV → Prop) : (vcPure Try.prog ΓV6 noΛ Try.f18 [vS v] R) =
((((isVI [SV.v (Value.int IntKind.i64 (NB.v (VB.x v))), SV.v (Value.bool (NB.f (VB.x v))), SV.v (Value.int IntKind.i64 (NB.v (VB.y v))), SV.v (Value.bool (NB.f (VB.y v)))]) ∧ True) ∧ (((1 : Nat) = 1) ∧ ((1 : Nat) < 1099511627776))) ∧ 
(sel (anyV 1 fun i => rV [SV.v (Value.int IntKind.i64 (NB.v (VB.x v))), SV.v (Value.bool (NB.f (VB.x v))), SV.v (Value.int IntKind.i64 (NB.v (VB.y v))), SV.v (Value.bool (NB.f (VB.y v)))]) (R (SV.tup [(SV.agg [(SV.v (Value.int IntKind.i64 0)), (SV.v (Value.bool false)), (SV.v (Value.int IntKind.i64 0)), (SV.v (Value.bool false))]), (SV.v (Value.bool false))])) 
(sel (decide (max (max (max (NB.v (VB.x v)) (IntKind.wrap IntKind.i64 (0 - NB.v (VB.x v)))) (NB.v (VB.y v))) (IntKind.wrap IntKind.i64 (0 - NB.v (VB.y v))) < 16777216)) (((I64 (IntKind.wrap IntKind.i64 (NB.v (VB.x v) * 16777216))) ∧ (I64 (IntKind.wrap IntKind.i64 (NB.v (VB.y v) * 16777216)))) ∧ 
(sel (NB.f (lenV { x := { v := IntKind.wrap IntKind.i64 (NB.v (VB.x v) * 16777216), f := NB.f (VB.x v) }, y := { v := IntKind.wrap IntKind.i64 (NB.v (VB.y v) * 16777216), f := NB.f (VB.y v) } })) (R (SV.tup [(SV.agg [(SV.v (Value.int IntKind.i64 0)), (SV.v (Value.bool false)), (SV.v (Value.int IntKind.i64 0)), (SV.v (Value.bool false))]), (SV.v (Value.bool false))])) 
(sel (NB.v (lenV { x := { v := IntKind.wrap IntKind.i64 (NB.v (VB.x v) * 16777216), f := NB.f (VB.x v) }, y := { v := IntKind.wrap IntKind.i64 (NB.v (VB.y v) * 16777216), f := NB.f (VB.y v) } }) == 0) (R (SV.tup [(SV.agg [(SV.v (Value.int IntKind.i64 0)), (SV.v (Value.bool false)), (SV.v (Value.int IntKind.i64 0)), (SV.v (Value.bool false))]), (SV.v (Value.bool false))])) (((I64 (IntKind.wrap IntKind.i64 (NB.v (VB.x v) * 16777216))) ∧ (I64 (NB.v (lenV { x := { v := IntKind.wrap IntKind.i64 (NB.v (VB.x v) * 16777216), f := NB.f (VB.x v) }, y := { v := IntKind.wrap IntKind.i64 (NB.v (VB.y v) * 16777216), f := NB.f (VB.y v) } })))) ∧ (((I64 (IntKind.wrap IntKind.i64 (NB.v (VB.y v) * 16777216))) ∧ (I64 (NB.v (lenV { x := { v := IntKind.wrap IntKind.i64 (NB.v (VB.x v) * 16777216), f := NB.f (VB.x v) }, y := { v := IntKind.wrap IntKind.i64 (NB.v (VB.y v) * 16777216), f := NB.f (VB.y v) } })))) ∧ (R (SV.tup [(SV.agg [(SV.v (Value.int IntKind.i64 (NB.v (divN { v := IntKind.wrap IntKind.i64 (NB.v (VB.x v) * 16777216), f := NB.f (VB.x v) } (lenV { x := { v := IntKind.wrap IntKind.i64 (NB.v (VB.x v) * 16777216), f := NB.f (VB.x v) }, y := { v := IntKind.wrap IntKind.i64 (NB.v (VB.y v) * 16777216), f := NB.f (VB.y v) } }))))), (SV.v (Value.bool (NB.f (divN { v := IntKind.wrap IntKind.i64 (NB.v (VB.x v) * 16777216), f := NB.f (VB.x v) } (lenV { x := { v := IntKind.wrap IntKind.i64 (NB.v (VB.x v) * 16777216), f := NB.f (VB.x v) }, y := { v := IntKind.wrap IntKind.i64 (NB.v (VB.y v) * 16777216), f := NB.f (VB.y v) } }))))), (SV.v (Value.int IntKind.i64 (NB.v (divN { v := IntKind.wrap IntKind.i64 (NB.v (VB.y v) * 16777216), f := NB.f (VB.y v) } (lenV { x := { v := IntKind.wrap IntKind.i64 (NB.v (VB.x v) * 16777216), f := NB.f (VB.x v) }, y := { v := IntKind.wrap IntKind.i64 (NB.v (VB.y v) * 16777216), f := NB.f (VB.y v) } }))))), (SV.v (Value.bool (NB.f (divN { v := IntKind.wrap IntKind.i64 (NB.v (VB.y v) * 16777216), f := NB.f (VB.y v) } (lenV { x := { v := IntKind.wrap IntKind.i64 (NB.v (VB.x v) * 16777216), f := NB.f (VB.x v) }, y := { v := IntKind.wrap IntKind.i64 (NB.v (VB.y v) * 16777216), f := NB.f (VB.y v) } })))))]), (SV.v (Value.bool true))]))))))) (((I64 (NB.v (VB.x v))) ∧ (I64 (NB.v (VB.y v)))) ∧ 
(sel (NB.f (lenV v)) (R (SV.tup [(SV.agg [(SV.v (Value.int IntKind.i64 0)), (SV.v (Value.bool false)), (SV.v (Value.int IntKind.i64 0)), (SV.v (Value.bool false))]), (SV.v (Value.bool false))])) 
(sel (NB.v (lenV v) == 0) (R (SV.tup [(SV.agg [(SV.v (Value.int IntKind.i64 0)), (SV.v (Value.bool false)), (SV.v (Value.int IntKind.i64 0)), (SV.v (Value.bool false))]), (SV.v (Value.bool false))])) (((I64 (NB.v (VB.x v))) ∧ (I64 (NB.v (lenV v)))) ∧ (((I64 (NB.v (VB.y v))) ∧ (I64 (NB.v (lenV v)))) ∧ (R (SV.tup [(SV.agg [(SV.v (Value.int IntKind.i64 (NB.v (divN (VB.x v) (lenV v))))), (SV.v (Value.bool (NB.f (divN (VB.x v) (lenV v))))), (SV.v (Value.int IntKind.i64 (NB.v (divN (VB.y v) (lenV v))))), (SV.v (Value.bool (NB.f (divN (VB.y v) (lenV v)))))]), (SV.v (Value.bool true))])))))))))) := by kernel_rfl
theorem vcRUnit (v : VB) (R : SV → Prop) : (vcPure Try.prog ΓV6 noΛ Try.f19 [vS v] R) =
((((isVI [SV.v (Value.int IntKind.i64 (NB.v (VB.x v))), SV.v (Value.bool (NB.f (VB.x v))), SV.v (Value.int IntKind.i64 (NB.v (VB.y v))), SV.v (Value.bool (NB.f (VB.y v)))]) ∧ True) ∧ (((1 : Nat) = 1) ∧ ((1 : Nat) < 1099511627776))) ∧ 
(sel (anyV 1 fun i => rV [SV.v (Value.int IntKind.i64 (NB.v (VB.x v))), SV.v (Value.bool (NB.f (VB.x v))), SV.v (Value.int IntKind.i64 (NB.v (VB.y v))), SV.v (Value.bool (NB.f (VB.y v)))]) (R (SV.tup [(SV.agg [(SV.v (Value.int IntKind.i64 0)), (SV.v (Value.bool false)), (SV.v (Value.int IntKind.i64 0)), (SV.v (Value.bool false))]), (SV.v (Value.bool false))])) ((I64 (NB.v (VB.x v))) ∧ 
(sel (decide (NB.v (absN (VB.x v)) < 16777216)) ((I64 (NB.v (VB.y v))) ∧ 
(sel (decide (NB.v (absN (VB.y v)) < 16777216)) (((I64 (sndV (IntKind.wrap IntKind.i64 (NB.v (VB.x v) * 16777216)))) ∧ (I64 (sndV (IntKind.wrap IntKind.i64 (NB.v (VB.y v) * 16777216))))) ∧ 
(sel (NB.f (lenV { x := { v := sndV (IntKind.wrap IntKind.i64 (NB.v (VB.x v) * 16777216)), f := sndF (IntKind.wrap IntKind.i64 (NB.v (VB.x v) * 16777216)) false }, y := { v := sndV (IntKind.wrap IntKind.i64 (NB.v (VB.y v) * 16777216)), f := sndF (IntKind.wrap IntKind.i64 (NB.v (VB.y v) * 16777216)) false } })) (R (SV.tup [(SV.agg [(SV.v (Value.int IntKind.i64 0)), (SV.v (Value.bool false)), (SV.v (Value.int IntKind.i64 0)), (SV.v (Value.bool false))]), (SV.v (Value.bool false))])) 
(sel (NB.v (lenV { x := { v := sndV (IntKind.wrap IntKind.i64 (NB.v (VB.x v) * 16777216)), f := sndF (IntKind.wrap IntKind.i64 (NB.v (VB.x v) * 16777216)) false }, y := { v := sndV (IntKind.wrap IntKind.i64 (NB.v (VB.y v) * 16777216)), f := sndF (IntKind.wrap IntKind.i64 (NB.v (VB.y v) * 16777216)) false } }) == 0) (R (SV.tup [(SV.agg [(SV.v (Value.int IntKind.i64 0)), (SV.v (Value.bool false)), (SV.v (Value.int IntKind.i64 0)), (SV.v (Value.bool false))]), (SV.v (Value.bool false))])) (((I64 (sndV (IntKind.wrap IntKind.i64 (NB.v (VB.x v) * 16777216)))) ∧ (I64 (NB.v (lenV { x := { v := sndV (IntKind.wrap IntKind.i64 (NB.v (VB.x v) * 16777216)), f := sndF (IntKind.wrap IntKind.i64 (NB.v (VB.x v) * 16777216)) false }, y := { v := sndV (IntKind.wrap IntKind.i64 (NB.v (VB.y v) * 16777216)), f := sndF (IntKind.wrap IntKind.i64 (NB.v (VB.y v) * 16777216)) false } })))) ∧ (((I64 (sndV (IntKind.wrap IntKind.i64 (NB.v (VB.y v) * 16777216)))) ∧ (I64 (NB.v (lenV { x := { v := sndV (IntKind.wrap IntKind.i64 (NB.v (VB.x v) * 16777216)), f := sndF (IntKind.wrap IntKind.i64 (NB.v (VB.x v) * 16777216)) false }, y := { v := sndV (IntKind.wrap IntKind.i64 (NB.v (VB.y v) * 16777216)), f := sndF (IntKind.wrap IntKind.i64 (NB.v (VB.y v) * 16777216)) false } })))) ∧ (R (SV.tup [(SV.agg [(SV.v (Value.int IntKind.i64 (NB.v (divN { v := sndV (IntKind.wrap IntKind.i64 (NB.v (VB.x v) * 16777216)), f := sndF (IntKind.wrap IntKind.i64 (NB.v (VB.x v) * 16777216)) false } (lenV { x := { v := sndV (IntKind.wrap IntKind.i64 (NB.v (VB.x v) * 16777216)), f := sndF (IntKind.wrap IntKind.i64 (NB.v (VB.x v) * 16777216)) false }, y := { v := sndV (IntKind.wrap IntKind.i64 (NB.v (VB.y v) * 16777216)), f := sndF (IntKind.wrap IntKind.i64 (NB.v (VB.y v) * 16777216)) false } }))))), (SV.v (Value.bool (NB.f (divN { v := sndV (IntKind.wrap IntKind.i64 (NB.v (VB.x v) * 16777216)), f := sndF (IntKind.wrap IntKind.i64 (NB.v (VB.x v) * 16777216)) false } (lenV { x := { v := sndV (IntKind.wrap IntKind.i64 (NB.v (VB.x v) * 16777216)), f := sndF (IntKind.wrap IntKind.i64 (NB.v (VB.x v) * 16777216)) false }, y := { v := sndV (IntKind.wrap IntKind.i64 (NB.v (VB.y v) * 16777216)), f := sndF (IntKind.wrap IntKind.i64 (NB.v (VB.y v) * 16777216)) false } }))))), (SV.v (Value.int IntKind.i64 (NB.v (divN { v := sndV (IntKind.wrap IntKind.i64 (NB.v (VB.y v) * 16777216)), f := sndF (IntKind.wrap IntKind.i64 (NB.v (VB.y v) * 16777216)) false } (lenV { x := { v := sndV (IntKind.wrap IntKind.i64 (NB.v (VB.x v) * 16777216)), f := sndF (IntKind.wrap IntKind.i64 (NB.v (VB.x v) * 16777216)) false }, y := { v := sndV (IntKind.wrap IntKind.i64 (NB.v (VB.y v) * 16777216)), f := sndF (IntKind.wrap IntKind.i64 (NB.v (VB.y v) * 16777216)) false } }))))), (SV.v (Value.bool (NB.f (divN { v := sndV (IntKind.wrap IntKind.i64 (NB.v (VB.y v) * 16777216)), f := sndF (IntKind.wrap IntKind.i64 (NB.v (VB.y v) * 16777216)) false } (lenV { x := { v := sndV (IntKind.wrap IntKind.i64 (NB.v (VB.x v) * 16777216)), f := sndF (IntKind.wrap IntKind.i64 (NB.v (VB.x v) * 16777216)) false }, y := { v := sndV (IntKind.wrap IntKind.i64 (NB.v (VB.y v) * 16777216)), f := sndF (IntKind.wrap IntKind.i64 (NB.v (VB.y v) * 16777216)) false } })))))]), (SV.v (Value.bool true))]))))))) (((I64 (NB.v (VB.x v))) ∧ (I64 (NB.v (VB.y v)))) ∧ 
(sel (NB.f (lenV v)) (R (SV.tup [(SV.agg [(SV.v (Value.int IntKind.i64 0)), (SV.v (Value.bool false)), (SV.v (Value.int IntKind.i64 0)), (SV.v (Value.bool false))]), (SV.v (Value.bool false))])) 
(sel (NB.v (lenV v) == 0) (R (SV.tup [(SV.agg [(SV.v (Value.int IntKind.i64 0)), (SV.v (Value.bool false)), (SV.v (Value.int IntKind.i64 0)), (SV.v (Value.bool false))]), (SV.v (Value.bool false))])) (((I64 (NB.v (VB.x v))) ∧ (I64 (NB.v (lenV v)))) ∧ (((I64 (NB.v (VB.y v))) ∧ (I64 (NB.v (lenV v)))) ∧ (R (SV.tup [(SV.agg [(SV.v (Value.int IntKind.i64 (NB.v (divN (VB.x v) (lenV v))))), (SV.v (Value.bool (NB.f (divN (VB.x v) (lenV v))))), (SV.v (Value.int IntKind.i64 (NB.v (divN (VB.y v) (lenV v))))), (SV.v (Value.bool (NB.f (divN (VB.y v) (lenV v)))))]), (SV.v (Value.bool true))]))))))))) (((I64 (NB.v (VB.x v))) ∧ (I64 (NB.v (VB.y v)))) ∧ 
(sel (NB.f (lenV v)) (R (SV.tup [(SV.agg [(SV.v (Value.int IntKind.i64 0)), (SV.v (Value.bool false)), (SV.v (Value.int IntKind.i64 0)), (SV.v (Value.bool false))]), (SV.v (Value.bool false))])) 
(sel (NB.v (lenV v) == 0) (R (SV.tup [(SV.agg [(SV.v (Value.int IntKind.i64 0)), (SV.v (Value.bool false)), (SV.v (Value.int IntKind.i64 0)), (SV.v (Value.bool false))]), (SV.v (Value.bool false))])) (((I64 (NB.v (VB.x v))) ∧ (I64 (NB.v (lenV v)))) ∧ (((I64 (NB.v (VB.y v))) ∧ (I64 (NB.v (lenV v)))) ∧ (R (SV.tup [(SV.agg [(SV.v (Value.int IntKind.i64 (NB.v (divN (VB.x v) (lenV v))))), (SV.v (Value.bool (NB.f (divN (VB.x v) (lenV v))))), (SV.v (Value.int IntKind.i64 (NB.v (divN (VB.y v) (lenV v))))), (SV.v (Value.bool (NB.f (divN (VB.y v) (lenV v)))))]), (SV.v (Value.bool true))]))))))))))) := by kernel_rfl
theorem vcSolve (a b c d : NB) (v : VB) (R : SV → Prop) : (vcPure Try.prog ΓV6 noΛ Try.f43 [nS a, nS b, nS c, nS d, vS v] R) =
((I64 (NB.v b)) ∧ ((((I64 (NB.v a)) ∧ (I64 (NB.v d))) ∧ ((I64 (NB.v (negN b))) ∧ (I64 (NB.v c)))) ∧ 
(sel (NB.f (dotN a d (negN b) c)) (R (SV.tup [(SV.agg [(SV.v (Value.int IntKind.i64 0)), (SV.v (Value.bool false)), (SV.v (Value.int IntKind.i64 0)), (SV.v (Value.bool false))]), (SV.v (Value.bool false))])) 
(sel (NB.v (dotN a d (negN b) c) == 0) (R (SV.tup [(SV.agg [(SV.v (Value.int IntKind.i64 0)), (SV.v (Value.bool false)), (SV.v (Value.int IntKind.i64 0)), (SV.v (Value.bool false))]), (SV.v (Value.bool false))])) ((I64 (NB.v b)) ∧ ((((I64 (NB.v (VB.x v))) ∧ (I64 (NB.v d))) ∧ ((I64 (NB.v (negN b))) ∧ (I64 (NB.v (VB.y v))))) ∧ (((I64 (NB.v (dotN (VB.x v) d (negN b) (VB.y v)))) ∧ (I64 (NB.v (dotN a d (negN b) c)))) ∧ ((I64 (NB.v (VB.x v))) ∧ ((((I64 (NB.v a)) ∧ (I64 (NB.v (VB.y v)))) ∧ ((I64 (NB.v (negN (VB.x v)))) ∧ (I64 (NB.v c)))) ∧ (((I64 (NB.v (dotN a (VB.y v) (negN (VB.x v)) c))) ∧ (I64 (NB.v (dotN a d (negN b) c)))) ∧ ((((isVI [SV.v (Value.int IntKind.i64 (NB.v (divN (dotN (VB.x v) d (negN b) (VB.y v)) (dotN a d (negN b) c)))), SV.v (Value.bool (NB.f (divN (dotN (VB.x v) d (negN b) (VB.y v)) (dotN a d (negN b) c)))), SV.v (Value.int IntKind.i64 (NB.v (divN (dotN a (VB.y v) (negN (VB.x v)) c) (dotN a d (negN b) c)))), SV.v (Value.bool (NB.f (divN (dotN a (VB.y v) (negN (VB.x v)) c) (dotN a d (negN b) c))))]) ∧ True) ∧ (((1 : Nat) = 1) ∧ ((1 : Nat) < 1099511627776))) ∧ 
(sel (anyV 1 fun i => rV [SV.v (Value.int IntKind.i64 (NB.v (divN (dotN (VB.x v) d (negN b) (VB.y v)) (dotN a d (negN b) c)))), SV.v (Value.bool (NB.f (divN (dotN (VB.x v) d (negN b) (VB.y v)) (dotN a d (negN b) c)))), SV.v (Value.int IntKind.i64 (NB.v (divN (dotN a (VB.y v) (negN (VB.x v)) c) (dotN a d (negN b) c)))), SV.v (Value.bool (NB.f (divN (dotN a (VB.y v) (negN (VB.x v)) c) (dotN a d (negN b) c))))]) (R (SV.tup [(SV.agg [(SV.v (Value.int IntKind.i64 0)), (SV.v (Value.bool false)), (SV.v (Value.int IntKind.i64 0)), (SV.v (Value.bool false))]), (SV.v (Value.bool false))])) (R (SV.tup [(SV.agg [(SV.v (Value.int IntKind.i64 (NB.v (divN (dotN (VB.x v) d (negN b) (VB.y v)) (dotN a d (negN b) c))))), (SV.v (Value.bool (NB.f (divN (dotN (VB.x v) d (negN b) (VB.y v)) (dotN a d (negN b) c))))), (SV.v (Value.int IntKind.i64 (NB.v (divN (dotN a (VB.y v) (negN (VB.x v)) c) (dotN a d (negN b) c))))), (SV.v (Value.bool (NB.f (divN (dotN a (VB.y v) (negN (VB.x v)) c) (dotN a d (negN b) c)))))]), (SV.v (Value.bool true))])))))))))))))) := by kernel_rfl
theorem vcRSolve (a b c d : NB) (v : VB) (R : SV → Prop) : (vcPure Try.prog ΓV6 noΛ Try.f44 [nS a, nS b, nS c, nS d, vS v] R) =
((I64 (NB.v b)) ∧ ((((I64 (NB.v a)) ∧ (I64 (NB.v d))) ∧ ((I64 (NB.v (negN b))) ∧ (I64 (NB.v c)))) ∧ 
(sel (NB.f (dotN a d (negN b) c)) (R (SV.tup [(SV.agg [(SV.v (Value.int IntKind.i64 0)), (SV.v (Value.bool false)), (SV.v (Value.int IntKind.i64 0)), (SV.v (Value.bool false))]), (SV.v (Value.bool false))])) 
(sel (NB.v (dotN a d (negN b) c) == 0) (R (SV.tup [(SV.agg [(SV.v (Value.int IntKind.i64 0)), (SV.v (Value.bool false)), (SV.v (Value.int IntKind.i64 0)), (SV.v (Value.bool false))]), (SV.v (Value.bool false))])) ((I64 (NB.v b)) ∧ ((((I64 (NB.v (VB.x v))) ∧ (I64 (NB.v d))) ∧ ((I64 (NB.v (negN b))) ∧ (I64 (NB.v (VB.y v))))) ∧ (((I64 (NB.v (dotN (VB.x v) d (negN b) (VB.y v)))) ∧ (I64 (NB.v (dotN a d (negN b) c)))) ∧ ((I64 (NB.v (VB.x v))) ∧ ((((I64 (NB.v a)) ∧ (I64 (NB.v (VB.y v)))) ∧ ((I64 (NB.v (negN (VB.x v)))) ∧ (I64 (NB.v c)))) ∧ (((I64 (NB.v (dotN a (VB.y v) (negN (VB.x v)) c))) ∧ (I64 (NB.v (dotN a d (negN b) c)))) ∧ ((((isVI [SV.v (Value.int IntKind.i64 (NB.v (divN (dotN (VB.x v) d (negN b) (VB.y v)) (dotN a d (negN b) c)))), SV.v (Value.bool (NB.f (divN (dotN (VB.x v) d (negN b) (VB.y v)) (dotN a d (negN b) c)))), SV.v (Value.int IntKind.i64 (NB.v (divN (dotN a (VB.y v) (negN (VB.x v)) c) (dotN a d (negN b) c)))), SV.v (Value.bool (NB.f (divN (dotN a (VB.y v) (negN (VB.x v)) c) (dotN a d (negN b) c))))]) ∧ True) ∧ (((1 : Nat) = 1) ∧ ((1 : Nat) < 1099511627776))) ∧ 
(sel (anyV 1 fun i => rV [SV.v (Value.int IntKind.i64 (NB.v (divN (dotN (VB.x v) d (negN b) (VB.y v)) (dotN a d (negN b) c)))), SV.v (Value.bool (NB.f (divN (dotN (VB.x v) d (negN b) (VB.y v)) (dotN a d (negN b) c)))), SV.v (Value.int IntKind.i64 (NB.v (divN (dotN a (VB.y v) (negN (VB.x v)) c) (dotN a d (negN b) c)))), SV.v (Value.bool (NB.f (divN (dotN a (VB.y v) (negN (VB.x v)) c) (dotN a d (negN b) c))))]) (R (SV.tup [(SV.agg [(SV.v (Value.int IntKind.i64 0)), (SV.v (Value.bool false)), (SV.v (Value.int IntKind.i64 0)), (SV.v (Value.bool false))]), (SV.v (Value.bool false))])) (R (SV.tup [(SV.agg [(SV.v (Value.int IntKind.i64 (NB.v (divN (dotN (VB.x v) d (negN b) (VB.y v)) (dotN a d (negN b) c))))), (SV.v (Value.bool (NB.f (divN (dotN (VB.x v) d (negN b) (VB.y v)) (dotN a d (negN b) c))))), (SV.v (Value.int IntKind.i64 (NB.v (divN (dotN a (VB.y v) (negN (VB.x v)) c) (dotN a d (negN b) c))))), (SV.v (Value.bool (NB.f (divN (dotN a (VB.y v) (negN (VB.x v)) c) (dotN a d (negN b) c)))))]), (SV.v (Value.bool true))])))))))))))))) := by kernel_rfl
theorem vcChk (v : VB) (R : SV → Prop) : (vcPure Try.prog ΓV6 noΛ Try.f79 [vS v] R) =
((((isVI [SV.v (Value.int IntKind.i64 (NB.v (VB.x v))), SV.v (Value.bool (NB.f (VB.x v))), SV.v (Value.int IntKind.i64 (NB.v (VB.y v))), SV.v (Value.bool (NB.f (VB.y v)))]) ∧ True) ∧ (((1 : Nat) = 1) ∧ ((1 : Nat) < 1099511627776))) ∧ 
(sel (anyV 1 fun i => rV [SV.v (Value.int IntKind.i64 (NB.v (VB.x v))), SV.v (Value.bool (NB.f (VB.x v))), SV.v (Value.int IntKind.i64 (NB.v (VB.y v))), SV.v (Value.bool (NB.f (VB.y v)))]) (R (SV.v (Value.int IntKind.i64 3))) ((((I64 (NB.v (VB.x v))) ∧ (I64 (NB.v (VB.x v)))) ∧ ((I64 (NB.v (VB.y v))) ∧ (I64 (NB.v (VB.y v))))) ∧ 
(sel (decide (IntKind.wrap IntKind.i64 (NB.v (dotN (VB.x v) (VB.x v) (VB.y v) (VB.y v)) - 4294967296) > 65536)) (R (SV.v (Value.int IntKind.i64 3))) 
(sel (decide (IntKind.wrap IntKind.i64 (NB.v (dotN (VB.x v) (VB.x v) (VB.y v) (VB.y v)) - 4294967296) < -65536)) (R (SV.v (Value.int IntKind.i64 3))) (R (SV.v (Value.int IntKind.i64 0)))))))) := by kernel_rfl
theorem vcTo (a r v : VB) (R : SV → Prop) : (vcPure Try.prog ΓV6 noΛ Try.f50 [pS a r, vS v] R) =
((((I64 (NB.v (VB.x r))) ∧ (I64 (NB.v (VB.y r)))) ∧ ((I64 (NB.v (VB.x v))) ∧ (I64 (NB.v (VB.y v))))) ∧ ((((isVI [SV.v (Value.int IntKind.i64 (NB.v (VB.x a))), SV.v (Value.bool (NB.f (VB.x a))), SV.v (Value.int IntKind.i64 (NB.v (VB.y a))), SV.v (Value.bool (NB.f (VB.y a)))]) ∧ ((isVI [SV.v (Value.int IntKind.i64 (NB.v (VB.x (appV r v)))), SV.v (Value.bool (NB.f (VB.x (appV r v)))), SV.v (Value.int IntKind.i64 (NB.v (VB.y (appV r v)))), SV.v (Value.bool (NB.f (VB.y (appV r v))))]) ∧ True)) ∧ (((2 : Nat) = 2) ∧ ((2 : Nat) < 1099511627776))) ∧ (R (SV.agg [(SV.v (Value.int IntKind.i64 (NB.v (VB.x (addL 2 fun i => rV [SV.v (Value.int IntKind.i64 (bop (Nat.beq (0 + i) 0) (NB.v (VB.x a)) (NB.v (VB.x (appV r v))))), SV.v (Value.bool (bop (Nat.beq (0 + i) 0) (NB.f (VB.x a)) (NB.f (VB.x (appV r v))))), SV.v (Value.int IntKind.i64 (bop (Nat.beq (0 + i) 0) (NB.v (VB.y a)) (NB.v (VB.y (appV r v))))), SV.v (Value.bool (bop (Nat.beq (0 + i) 0) (NB.f (VB.y a)) (NB.f (VB.y (appV r v)))))]))))), (SV.v (Value.bool (NB.f (VB.x (addL 2 fun i => rV [SV.v (Value.int IntKind.i64 (bop (Nat.beq (0 + i) 0) (NB.v (VB.x a)) (NB.v (VB.x (appV r v))))), SV.v (Value.bool (bop (Nat.beq (0 + i) 0) (NB.f (VB.x a)) (NB.f (VB.x (appV r v))))), SV.v (Value.int IntKind.i64 (bop (Nat.beq (0 + i) 0) (NB.v (VB.y a)) (NB.v (VB.y (appV r v))))), SV.v (Value.bool (bop (Nat.beq (0 + i) 0) (NB.f (VB.y a)) (NB.f (VB.y (appV r v)))))]))))), (SV.v (Value.int IntKind.i64 (NB.v (VB.y (addL 2 fun i => rV [SV.v (Value.int IntKind.i64 (bop (Nat.beq (0 + i) 0) (NB.v (VB.x a)) (NB.v (VB.x (appV r v))))), SV.v (Value.bool (bop (Nat.beq (0 + i) 0) (NB.f (VB.x a)) (NB.f (VB.x (appV r v))))), SV.v (Value.int IntKind.i64 (bop (Nat.beq (0 + i) 0) (NB.v (VB.y a)) (NB.v (VB.y (appV r v))))), SV.v (Value.bool (bop (Nat.beq (0 + i) 0) (NB.f (VB.y a)) (NB.f (VB.y (appV r v)))))]))))), (SV.v (Value.bool (NB.f (VB.y (addL 2 fun i => rV [SV.v (Value.int IntKind.i64 (bop (Nat.beq (0 + i) 0) (NB.v (VB.x a)) (NB.v (VB.x (appV r v))))), SV.v (Value.bool (bop (Nat.beq (0 + i) 0) (NB.f (VB.x a)) (NB.f (VB.x (appV r v))))), SV.v (Value.int IntKind.i64 (bop (Nat.beq (0 + i) 0) (NB.v (VB.y a)) (NB.v (VB.y (appV r v))))), SV.v (Value.bool (bop (Nat.beq (0 + i) 0) (NB.f (VB.y a)) (NB.f (VB.y (appV r v)))))])))))])))) := by kernel_rfl
theorem vcRTo (a r v : VB) (R : SV → Prop) : (vcPure Try.prog ΓV6 noΛ Try.f51 [pS a r, vS v] R) =
((((I64 (NB.v (VB.x r))) ∧ (I64 (NB.v (VB.y r)))) ∧ ((I64 (NB.v (VB.x v))) ∧ (I64 (NB.v (VB.y v))))) ∧ ((((isVI [SV.v (Value.int IntKind.i64 (NB.v (VB.x a))), SV.v (Value.bool (NB.f (VB.x a))), SV.v (Value.int IntKind.i64 (NB.v (VB.y a))), SV.v (Value.bool (NB.f (VB.y a)))]) ∧ ((isVI [SV.v (Value.int IntKind.i64 (NB.v (VB.x (appV r v)))), SV.v (Value.bool (NB.f (VB.x (appV r v)))), SV.v (Value.int IntKind.i64 (NB.v (VB.y (appV r v)))), SV.v (Value.bool (NB.f (VB.y (appV r v))))]) ∧ True)) ∧ (((2 : Nat) = 2) ∧ ((2 : Nat) < 1099511627776))) ∧ (R (SV.agg [(SV.v (Value.int IntKind.i64 (NB.v (VB.x (addL 2 fun i => rV [SV.v (Value.int IntKind.i64 (bop (Nat.beq (0 + i) 0) (NB.v (VB.x a)) (NB.v (VB.x (appV r v))))), SV.v (Value.bool (bop (Nat.beq (0 + i) 0) (NB.f (VB.x a)) (NB.f (VB.x (appV r v))))), SV.v (Value.int IntKind.i64 (bop (Nat.beq (0 + i) 0) (NB.v (VB.y a)) (NB.v (VB.y (appV r v))))), SV.v (Value.bool (bop (Nat.beq (0 + i) 0) (NB.f (VB.y a)) (NB.f (VB.y (appV r v)))))]))))), (SV.v (Value.bool (NB.f (VB.x (addL 2 fun i => rV [SV.v (Value.int IntKind.i64 (bop (Nat.beq (0 + i) 0) (NB.v (VB.x a)) (NB.v (VB.x (appV r v))))), SV.v (Value.bool (bop (Nat.beq (0 + i) 0) (NB.f (VB.x a)) (NB.f (VB.x (appV r v))))), SV.v (Value.int IntKind.i64 (bop (Nat.beq (0 + i) 0) (NB.v (VB.y a)) (NB.v (VB.y (appV r v))))), SV.v (Value.bool (bop (Nat.beq (0 + i) 0) (NB.f (VB.y a)) (NB.f (VB.y (appV r v)))))]))))), (SV.v (Value.int IntKind.i64 (NB.v (VB.y (addL 2 fun i => rV [SV.v (Value.int IntKind.i64 (bop (Nat.beq (0 + i) 0) (NB.v (VB.x a)) (NB.v (VB.x (appV r v))))), SV.v (Value.bool (bop (Nat.beq (0 + i) 0) (NB.f (VB.x a)) (NB.f (VB.x (appV r v))))), SV.v (Value.int IntKind.i64 (bop (Nat.beq (0 + i) 0) (NB.v (VB.y a)) (NB.v (VB.y (appV r v))))), SV.v (Value.bool (bop (Nat.beq (0 + i) 0) (NB.f (VB.y a)) (NB.f (VB.y (appV r v)))))]))))), (SV.v (Value.bool (NB.f (VB.y (addL 2 fun i => rV [SV.v (Value.int IntKind.i64 (bop (Nat.beq (0 + i) 0) (NB.v (VB.x a)) (NB.v (VB.x (appV r v))))), SV.v (Value.bool (bop (Nat.beq (0 + i) 0) (NB.f (VB.x a)) (NB.f (VB.x (appV r v))))), SV.v (Value.int IntKind.i64 (bop (Nat.beq (0 + i) 0) (NB.v (VB.y a)) (NB.v (VB.y (appV r v))))), SV.v (Value.bool (bop (Nat.beq (0 + i) 0) (NB.f (VB.y a)) (NB.f (VB.y (appV r v)))))])))))])))) := by kernel_rfl
theorem vcFrom (a r v : VB) (R : SV → Prop) : (vcPure Try.prog ΓV6 noΛ Try.f52 [pS a r, vS v] R) =
((((I64 (NB.v (VB.x v))) ∧ (I64 (NB.v (VB.y v)))) ∧ ((I64 (NB.v (VB.x a))) ∧ (I64 (NB.v (VB.y a))))) ∧ ((((I64 (NB.v (VB.x r))) ∧ (I64 (NB.v (VB.y r)))) ∧ ((I64 (NB.v (VB.x (subV v a)))) ∧ (I64 (NB.v (VB.y (subV v a)))))) ∧ (R (SV.agg [(SV.v (Value.int IntKind.i64 (NB.v (VB.x (bacV r (subV v a)))))), (SV.v (Value.bool (NB.f (VB.x (bacV r (subV v a)))))), (SV.v (Value.int IntKind.i64 (NB.v (VB.y (bacV r (subV v a)))))), (SV.v (Value.bool (NB.f (VB.y (bacV r (subV v a))))))])))) := by kernel_rfl
theorem vcRFrom (a r v : VB) (R : SV → Prop) : (vcPure Try.prog ΓV6 noΛ Try.f53 [pS a r, vS v] R) =
((((I64 (NB.v (VB.x v))) ∧ (I64 (NB.v (VB.y v)))) ∧ ((I64 (NB.v (VB.x a))) ∧ (I64 (NB.v (VB.y a))))) ∧ ((((I64 (NB.v (VB.x r))) ∧ (I64 (NB.v (VB.y r)))) ∧ ((I64 (NB.v (VB.x (subV v a)))) ∧ (I64 (NB.v (VB.y (subV v a)))))) ∧ (R (SV.agg [(SV.v (Value.int IntKind.i64 (NB.v (VB.x (bacV r (subV v a)))))), (SV.v (Value.bool (NB.f (VB.x (bacV r (subV v a)))))), (SV.v (Value.int IntKind.i64 (NB.v (VB.y (bacV r (subV v a)))))), (SV.v (Value.bool (NB.f (VB.y (bacV r (subV v a))))))])))) := by kernel_rfl
theorem ΓV6_ok : ∀ f g, ΓV6 f = some g → g.ok Try.prog f := addCtr_ok (addCtr_ok (addCtr_ok (addCtr_ok ΓV5_ok (ro_ok Try.func49 (by kernel_rfl) (by kernel_rfl) Add2_spec)) (ro_ok Try.func54 (by kernel_rfl) (by kernel_rfl) RAdd2_spec)) (ro_ok Try.func55 (by kernel_rfl) (by kernel_rfl) Fault_spec)) (ro_ok Try.func56 (by kernel_rfl) (by kernel_rfl) RFault_spec)
theorem bad_no {v : VB} (h : badV v = false) (h1 : I64 v.x.v) (h2 : I64 v.y.v) : Sd v.x.v ∧ Sd v.y.v ∧ v.x.f = false ∧ v.y.f = false := by
  unfold badV at h
  rw [Bool.or_eq_false_iff] at h
  obtain ⟨a, b⟩ := h
  have key : ∀ {x : Int} {f : Bool}, I64 x → sndF x f = false → Sd x ∧ f = false := fun {x f} hx hf => by
    obtain ⟨l, u⟩ := hx
    unfold sndF at hf
    by_cases e : x = -9223372036854775808
    · rw [if_pos e] at hf; cases hf
    · rw [if_neg e] at hf; exact ⟨⟨by omega, by omega⟩, hf⟩
  exact ⟨(key h1 a).1, (key h2 b).1, (key h1 a).2, (key h2 b).2⟩
theorem unit_bad {v : VB} (h : badV v = true) : unitV v = (zeroV, false) := by unfold unitV; rw [h]; rfl
theorem unit_f {v : VB} (h : badV v = false) (h1 : (lenV (greatV v)).f = true) : unitV v = (zeroV, false) := by unfold unitV; rw [h, h1]; rfl
theorem unit_0 {v : VB} (h : badV v = false) (h1 : ((lenV (greatV v)).v == 0) = true) : unitV v = (zeroV, false) := by unfold unitV; rw [h, h1, Bool.or_true]; rfl
theorem unit_d {v : VB} (h : badV v = false) (h1 : (lenV (greatV v)).f = false) (h2 : ((lenV (greatV v)).v == 0) = false) : unitV v = (⟨divN (greatV v).x (lenV (greatV v)), divN (greatV v).y (lenV (greatV v))⟩, true) := by unfold unitV; rw [h, h1, h2]; rfl
theorem len_i (v : VB) : I64 (lenV v).v := hyp_i _ _
theorem unit_tail {v u : VB} (hb : badV v = false) (hu : greatV v = u) (i1 : I64 u.x.v) (i2 : I64 u.y.v) : sel (lenV u).f (SV.tup [SV.agg [SV.v (.int .i64 0), SV.v (.bool false), SV.v (.int .i64 0), SV.v (.bool false)], SV.v (.bool false)] = .tup [vS (unitV v).1, .v (.bool (unitV v).2)])
    (sel ((lenV u).v == 0) (SV.tup [SV.agg [SV.v (.int .i64 0), SV.v (.bool false), SV.v (.int .i64 0), SV.v (.bool false)], SV.v (.bool false)] = .tup [vS (unitV v).1, .v (.bool (unitV v).2)])
      ((I64 u.x.v ∧ I64 (lenV u).v) ∧ (I64 u.y.v ∧ I64 (lenV u).v) ∧ SV.tup [SV.agg [SV.v (.int .i64 (divN u.x (lenV u)).v), SV.v (.bool (divN u.x (lenV u)).f), SV.v (.int .i64 (divN u.y (lenV u)).v), SV.v (.bool (divN u.y (lenV u)).f)], SV.v (.bool true)] = .tup [vS (unitV v).1, .v (.bool (unitV v).2)])) := by
  subst hu
  refine sel_of (fun e => ?_) fun e => sel_of (fun e' => ?_) fun e' => ⟨⟨i1, len_i _⟩, ⟨i2, len_i _⟩, ?_⟩
  · rw [unit_f hb e]; rfl
  · rw [unit_0 hb e']; rfl
  · rw [unit_d hb e e']; rfl
theorem great_yes {v : VB} (h1 : iabs v.x.v < 16777216) (h2 : iabs v.y.v < 16777216) : greatV v = ⟨⟨v.x.v * 16777216, v.x.f⟩, ⟨v.y.v * 16777216, v.y.f⟩⟩ := by unfold greatV; rw [decide_eq_true h1, decide_eq_true h2]; rfl
theorem great_no1 {v : VB} (h1 : ¬ iabs v.x.v < 16777216) : greatV v = v := by unfold greatV; rw [decide_eq_false h1]; rfl
theorem great_no2 {v : VB} (h1 : ¬ iabs v.y.v < 16777216) : greatV v = v := by unfold greatV; rw [decide_eq_false h1, Bool.and_false]; rfl
theorem shl_i {a : Int} (h : iabs a < 16777216) : IntKind.i64.wrap (a * 16777216) = a * 16777216 ∧ Sd (a * 16777216) := by
  have : -16777216 < a ∧ a < 16777216 := by unfold iabs at h; split at h <;> omega
  exact ⟨wrap_i64 ⟨by omega, by omega⟩, by omega, by omega⟩
theorem Unit_spec : PureSpec Try.prog 18 sUnit := vc_spec hm ΓV6_ok Try.func18 (Λ := fun _ => noΛ) fun args p x h hp => by
  unfold sUnit at h
  split at h <;> try (cases h; done)
  rename_i a f b g
  cases h
  obtain ⟨h0, k0⟩ := hp _ rfl
  refine ⟨rfl, rfl, ?_⟩
  generalize hv : (⟨⟨a, f⟩, ⟨b, g⟩⟩ : VB) = v
  have e0 : SV.agg [SV.v (Value.int .i64 a), SV.v (Value.bool f), SV.v (Value.int .i64 b), SV.v (Value.bool g)] = vS v := by rw [← hv]; rfl
  rw [e0]
  have h0 : I64 v.x.v := by rw [← hv]; exact h0
  have k0 : I64 v.y.v := by rw [← hv]; exact k0
  clear hv e0
  refine Eq.mpr (vcUnit v _) ?_
  refine ⟨⟨⟨⟨h0, k0⟩, trivial⟩, by decide⟩, sel_of (fun e => ?_) fun e => ?_⟩
  · rw [unit_bad (v := v) e]; rfl
  · have e : badV v = false := e
    obtain ⟨s1, s2, f1, f2⟩ := bad_no e h0 k0
    have w1 : IntKind.i64.wrap (0 - v.x.v) = -v.x.v := by obtain ⟨_, _⟩ := s1; rw [wrap_i64 ⟨by omega, by omega⟩]; omega
    have w2 : IntKind.i64.wrap (0 - v.y.v) = -v.y.v := by obtain ⟨_, _⟩ := s2; rw [wrap_i64 ⟨by omega, by omega⟩]; omega
    rw [w1, w2]
    refine sel_of (fun m => ?_) fun m => ?_
    · have m := of_decide_eq_true m
      have m1 : iabs v.x.v < 16777216 := by unfold iabs; split <;> omega
      have m2 : iabs v.y.v < 16777216 := by unfold iabs; split <;> omega
      rw [(shl_i m1).1, (shl_i m2).1]
      exact ⟨⟨(shl_i m1).2.i64, (shl_i m2).2.i64⟩, unit_tail e (great_yes m1 m2) (shl_i m1).2.i64 (shl_i m2).2.i64⟩
    · have m := of_decide_eq_false m
      have hg : greatV v = v := by
        by_cases m1 : iabs v.x.v < 16777216
        · refine great_no2 fun m2 => m ?_
          unfold iabs at m1 m2
          split at m1 <;> split at m2 <;> omega
        · exact great_no1 m1
      exact ⟨⟨h0, k0⟩, unit_tail e hg h0 k0⟩
theorem RUnit_spec : PureSpec Try.prog 19 sUnit := vc_spec hm ΓV6_ok Try.func19 (Λ := fun _ => noΛ) fun args p x h hp => by
  unfold sUnit at h
  split at h <;> try (cases h; done)
  rename_i a f b g
  cases h
  obtain ⟨h0, k0⟩ := hp _ rfl
  refine ⟨rfl, rfl, ?_⟩
  generalize hv : (⟨⟨a, f⟩, ⟨b, g⟩⟩ : VB) = v
  have e0 : SV.agg [SV.v (Value.int .i64 a), SV.v (Value.bool f), SV.v (Value.int .i64 b), SV.v (Value.bool g)] = vS v := by rw [← hv]; rfl
  rw [e0]
  have h0 : I64 v.x.v := by rw [← hv]; exact h0
  have k0 : I64 v.y.v := by rw [← hv]; exact k0
  clear hv e0
  refine Eq.mpr (vcRUnit v _) ?_
  refine ⟨⟨⟨⟨h0, k0⟩, trivial⟩, by decide⟩, sel_of (fun e => ?_) fun e => ?_⟩
  · rw [unit_bad (v := v) e]; rfl
  · have e : badV v = false := e
    obtain ⟨s1, s2, f1, f2⟩ := bad_no e h0 k0
    have a1 : (absN v.x).v = iabs v.x.v := by show iabs (sndV v.x.v) = _; rw [s1.self]
    have a2 : (absN v.y).v = iabs v.y.v := by show iabs (sndV v.y.v) = _; rw [s2.self]
    rw [a1, a2]
    refine ⟨h0, sel_of (fun m1 => ⟨k0, sel_of (fun m2 => ?_) fun m2 => ?_⟩) fun m1 => ?_⟩
    · have m1 := of_decide_eq_true m1
      have m2 := of_decide_eq_true m2
      obtain ⟨w1, d1⟩ := shl_i m1
      obtain ⟨w2, d2⟩ := shl_i m2
      rw [w1, w2, d1.self, d2.self, d1.flag, d2.flag]
      have hg := great_yes m1 m2
      rw [f1, f2] at hg
      exact ⟨⟨d1.i64, d2.i64⟩, unit_tail e hg d1.i64 d2.i64⟩
    · exact ⟨⟨h0, k0⟩, unit_tail e (great_no2 (of_decide_eq_false m2)) h0 k0⟩
    · exact ⟨⟨h0, k0⟩, unit_tail e (great_no1 (of_decide_eq_false m1)) h0 k0⟩
theorem dotsq_i (r : VB) : 0 ≤ (dotN r.x r.x r.y r.y).v ∧ (dotN r.x r.x r.y r.y).v ≤ 9223372036854775807 := by
  refine ⟨?_, (fitE_sd _).2⟩
  show 0 ≤ fitE (dotE (sndV r.x.v) (sndV r.x.v) (sndV r.y.v) (sndV r.y.v))
  have a := sq_nonneg (sndV r.x.v)
  have b := sq_nonneg (sndV r.y.v)
  have : 0 ≤ dotE (sndV r.x.v) (sndV r.x.v) (sndV r.y.v) (sndV r.y.v) := by
    unfold dotE
    rw [Int.tdiv_eq_ediv_of_nonneg (by omega)]
    exact Int.ediv_nonneg (by omega) (by decide)
  unfold fitE
  (repeat' split) <;> omega
theorem Chk_spec : PureSpec Try.prog 79 sChk := vc_spec hm ΓV6_ok Try.func79 (Λ := fun _ => noΛ) fun args p x h hp => by
  unfold sChk at h
  split at h <;> try (cases h; done)
  rename_i a f b g
  cases h
  obtain ⟨h0, k0⟩ := hp _ rfl
  refine ⟨rfl, rfl, ?_⟩
  refine Eq.mpr (vcChk ⟨⟨a, f⟩, ⟨b, g⟩⟩ _) ?_
  have hd := dotsq_i ⟨⟨a, f⟩, ⟨b, g⟩⟩
  refine ⟨⟨⟨⟨h0, k0⟩, trivial⟩, by decide⟩, sel_of (fun e => int_mk ?_) fun e => ?_⟩
  · have e : badV ⟨⟨a, f⟩, ⟨b, g⟩⟩ = true := e
    unfold chkV; rw [e]; rfl
  · have e : badV ⟨⟨a, f⟩, ⟨b, g⟩⟩ = false := e
    unfold chkV; rw [e, cond_false]
    generalize (dotN (⟨⟨a, f⟩, ⟨b, g⟩⟩ : VB).x (⟨⟨a, f⟩, ⟨b, g⟩⟩ : VB).x (⟨⟨a, f⟩, ⟨b, g⟩⟩ : VB).y (⟨⟨a, f⟩, ⟨b, g⟩⟩ : VB).y).v = n at *
    rw [wrap_i64 (n := n - 4294967296) ⟨by omega, by omega⟩]
    refine ⟨⟨⟨h0, h0⟩, k0, k0⟩, sel_of (fun e1 => int_mk ?_) fun e1 => sel_of (fun e2 => int_mk ?_) fun e2 => int_mk ?_⟩
    · rw [show decide (n - 4294967296 > 65536) = true from e1]; rfl
    · have e2 := of_decide_eq_true e2
      rw [show decide (4294967296 - n > 65536) = true from decide_eq_true (by omega), Bool.or_true]; rfl
    · have e2 := of_decide_eq_false e2
      rw [show decide (n - 4294967296 > 65536) = false from e1, show decide (4294967296 - n > 65536) = false from decide_eq_false (by omega)]; rfl
theorem app_ix (r v : VB) : I64 (appV r v).x.v ∧ I64 (appV r v).y.v := ⟨dot_i _ _ _ _, dot_i _ _ _ _⟩
theorem To_spec : PureSpec Try.prog 50 sTo := vc_spec hm ΓV6_ok Try.func50 (Λ := fun _ => noΛ) fun args p x h hp => by
  unfold sTo at h
  split at h <;> try (cases h; done)
  rename_i p fp q fq c fc s fs x f y g
  cases h
  obtain ⟨ha, hr, hv⟩ := hp _ rfl
  refine ⟨rfl, rfl, ?_⟩
  refine Eq.mpr (vcTo ⟨⟨p, fp⟩, ⟨q, fq⟩⟩ ⟨⟨c, fc⟩, ⟨s, fs⟩⟩ ⟨⟨x, f⟩, ⟨y, g⟩⟩ _) ?_
  exact ⟨⟨hr, hv⟩, ⟨⟨ha, app_ix _ _, trivial⟩, rfl, by decide⟩, rfl⟩
theorem RTo_spec : PureSpec Try.prog 51 sTo := vc_spec hm ΓV6_ok Try.func51 (Λ := fun _ => noΛ) fun args p x h hp => by
  unfold sTo at h
  split at h <;> try (cases h; done)
  rename_i p fp q fq c fc s fs x f y g
  cases h
  obtain ⟨ha, hr, hv⟩ := hp _ rfl
  refine ⟨rfl, rfl, ?_⟩
  refine Eq.mpr (vcRTo ⟨⟨p, fp⟩, ⟨q, fq⟩⟩ ⟨⟨c, fc⟩, ⟨s, fs⟩⟩ ⟨⟨x, f⟩, ⟨y, g⟩⟩ _) ?_
  exact ⟨⟨hr, hv⟩, ⟨⟨ha, app_ix _ _, trivial⟩, rfl, by decide⟩, rfl⟩
theorem From_spec : PureSpec Try.prog 52 sFrom := vc_spec hm ΓV6_ok Try.func52 (Λ := fun _ => noΛ) fun args p x h hp => by
  unfold sFrom at h
  split at h <;> try (cases h; done)
  rename_i p fp q fq c fc s fs x f y g
  cases h
  obtain ⟨ha, hr, hv⟩ := hp _ rfl
  refine ⟨rfl, rfl, ?_⟩
  refine Eq.mpr (vcFrom ⟨⟨p, fp⟩, ⟨q, fq⟩⟩ ⟨⟨c, fc⟩, ⟨s, fs⟩⟩ ⟨⟨x, f⟩, ⟨y, g⟩⟩ _) ?_
  exact ⟨⟨hv, ha⟩, ⟨hr, sub_i _ _, sub_i _ _⟩, rfl⟩
theorem RFrom_spec : PureSpec Try.prog 53 sFrom := vc_spec hm ΓV6_ok Try.func53 (Λ := fun _ => noΛ) fun args p x h hp => by
  unfold sFrom at h
  split at h <;> try (cases h; done)
  rename_i p fp q fq c fc s fs x f y g
  cases h
  obtain ⟨ha, hr, hv⟩ := hp _ rfl
  refine ⟨rfl, rfl, ?_⟩
  refine Eq.mpr (vcRFrom ⟨⟨p, fp⟩, ⟨q, fq⟩⟩ ⟨⟨c, fc⟩, ⟨s, fs⟩⟩ ⟨⟨x, f⟩, ⟨y, g⟩⟩ _) ?_
  exact ⟨⟨hv, ha⟩, ⟨hr, sub_i _ _, sub_i _ _⟩, rfl⟩
theorem Solve_spec : PureSpec Try.prog 43 sSolve := vc_spec hm ΓV6_ok Try.func43 (Λ := fun _ => noΛ) fun args p x h hp => by
  unfold sSolve at h
  split at h <;> try (cases h; done)
  rename_i a fa b fb c fc d fd x f y g
  cases h
  obtain ⟨⟨ha, hb⟩, ⟨hc, hd⟩, hx, hy⟩ := hp _ rfl
  refine ⟨rfl, rfl, ?_⟩
  refine Eq.mpr (vcSolve ⟨a, fa⟩ ⟨b, fb⟩ ⟨c, fc⟩ ⟨d, fd⟩ ⟨⟨x, f⟩, ⟨y, g⟩⟩ _) ?_
  refine ⟨hb, ⟨⟨ha, hd⟩, neg_i hb, hc⟩, sel_of (fun e => ?_) fun e => sel_of (fun e' => ?_) fun e' => ⟨hb, ⟨⟨hx, hd⟩, neg_i hb, hy⟩, ⟨dot_i _ _ _ _, dot_i _ _ _ _⟩, hx, ⟨⟨ha, hy⟩, neg_i hx, hc⟩, ⟨dot_i _ _ _ _, dot_i _ _ _ _⟩, ⟨⟨⟨div_i _ _, div_i _ _⟩, trivial⟩, rfl, by decide⟩, sel_of (fun e'' => ?_) fun e'' => ?_⟩⟩
  · unfold solV; rw [show (solN ⟨a, fa⟩ ⟨b, fb⟩ ⟨c, fc⟩ ⟨d, fd⟩).f = true from e]; rfl
  · unfold solV; rw [show ((solN ⟨a, fa⟩ ⟨b, fb⟩ ⟨c, fc⟩ ⟨d, fd⟩).v == 0) = true from e', Bool.or_true]; rfl
  · unfold solV
    rw [show (solN ⟨a, fa⟩ ⟨b, fb⟩ ⟨c, fc⟩ ⟨d, fd⟩).f = false from e, show ((solN ⟨a, fa⟩ ⟨b, fb⟩ ⟨c, fc⟩ ⟨d, fd⟩).v == 0) = false from e', show badV (solX ⟨a, fa⟩ ⟨b, fb⟩ ⟨c, fc⟩ ⟨d, fd⟩ ⟨⟨x, f⟩, ⟨y, g⟩⟩) = true from e'']; rfl
  · unfold solV
    rw [show (solN ⟨a, fa⟩ ⟨b, fb⟩ ⟨c, fc⟩ ⟨d, fd⟩).f = false from e, show ((solN ⟨a, fa⟩ ⟨b, fb⟩ ⟨c, fc⟩ ⟨d, fd⟩).v == 0) = false from e', show badV (solX ⟨a, fa⟩ ⟨b, fb⟩ ⟨c, fc⟩ ⟨d, fd⟩ ⟨⟨x, f⟩, ⟨y, g⟩⟩) = false from e'']; rfl
theorem RSolve_spec : PureSpec Try.prog 44 sSolve := vc_spec hm ΓV6_ok Try.func44 (Λ := fun _ => noΛ) fun args p x h hp => by
  unfold sSolve at h
  split at h <;> try (cases h; done)
  rename_i a fa b fb c fc d fd x f y g
  cases h
  obtain ⟨⟨ha, hb⟩, ⟨hc, hd⟩, hx, hy⟩ := hp _ rfl
  refine ⟨rfl, rfl, ?_⟩
  refine Eq.mpr (vcRSolve ⟨a, fa⟩ ⟨b, fb⟩ ⟨c, fc⟩ ⟨d, fd⟩ ⟨⟨x, f⟩, ⟨y, g⟩⟩ _) ?_
  refine ⟨hb, ⟨⟨ha, hd⟩, neg_i hb, hc⟩, sel_of (fun e => ?_) fun e => sel_of (fun e' => ?_) fun e' => ⟨hb, ⟨⟨hx, hd⟩, neg_i hb, hy⟩, ⟨dot_i _ _ _ _, dot_i _ _ _ _⟩, hx, ⟨⟨ha, hy⟩, neg_i hx, hc⟩, ⟨dot_i _ _ _ _, dot_i _ _ _ _⟩, ⟨⟨⟨div_i _ _, div_i _ _⟩, trivial⟩, rfl, by decide⟩, sel_of (fun e'' => ?_) fun e'' => ?_⟩⟩
  · unfold solV; rw [show (solN ⟨a, fa⟩ ⟨b, fb⟩ ⟨c, fc⟩ ⟨d, fd⟩).f = true from e]; rfl
  · unfold solV; rw [show ((solN ⟨a, fa⟩ ⟨b, fb⟩ ⟨c, fc⟩ ⟨d, fd⟩).v == 0) = true from e', Bool.or_true]; rfl
  · unfold solV
    rw [show (solN ⟨a, fa⟩ ⟨b, fb⟩ ⟨c, fc⟩ ⟨d, fd⟩).f = false from e, show ((solN ⟨a, fa⟩ ⟨b, fb⟩ ⟨c, fc⟩ ⟨d, fd⟩).v == 0) = false from e', show badV (solX ⟨a, fa⟩ ⟨b, fb⟩ ⟨c, fc⟩ ⟨d, fd⟩ ⟨⟨x, f⟩, ⟨y, g⟩⟩) = true from e'']; rfl
  · unfold solV
    rw [show (solN ⟨a, fa⟩ ⟨b, fb⟩ ⟨c, fc⟩ ⟨d, fd⟩).f = false from e, show ((solN ⟨a, fa⟩ ⟨b, fb⟩ ⟨c, fc⟩ ⟨d, fd⟩).v == 0) = false from e', show badV (solX ⟨a, fa⟩ ⟨b, fb⟩ ⟨c, fc⟩ ⟨d, fd⟩ ⟨⟨x, f⟩, ⟨y, g⟩⟩) = false from e'']; rfl
end Go.Proofs.Ytheljpebapokjaa
