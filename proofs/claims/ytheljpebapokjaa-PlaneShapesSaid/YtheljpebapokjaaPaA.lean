/-
  The contracts of package fixed in the words of pairs; vectors.
-/
import Derived.Test.YtheljpebapokjaaPaS
set_option maxRecDepth 100000
namespace Go.Proofs.Ytheljpebapokjaa
open Go.SE Go.RowKit

structure VB where
  x : NB
  y : NB
def vS (a : VB) : SV := .agg [.v (.int .i64 a.x.v), .v (.bool a.x.f), .v (.int .i64 a.y.v), .v (.bool a.y.f)]
def i1B (f : Int → NB) : List SV → Option (Option Prop × SV)
  | [.v (.int .i64 v)] => some (some (I64 v), nS (f v))
  | _ => none
def i2B (f : Int → Int → NB) : List SV → Option (Option Prop × SV)
  | [.v (.int .i64 a), .v (.int .i64 b)] => some (some (I64 a ∧ I64 b), nS (f a b))
  | _ => none
def n1B (f : NB → NB) : List SV → Option (Option Prop × SV)
  | [.agg [.v (.int .i64 v), .v (.bool f1)]] => some (some (I64 v), nS (f ⟨v, f1⟩))
  | _ => none
def n2B (f : NB → NB → NB) : List SV → Option (Option Prop × SV)
  | [.agg [.v (.int .i64 v), .v (.bool f1)], .agg [.v (.int .i64 u), .v (.bool f2)]] => some (some (I64 v ∧ I64 u), nS (f ⟨v, f1⟩ ⟨u, f2⟩))
  | _ => none
def n4B (f : NB → NB → NB → NB → NB) : List SV → Option (Option Prop × SV)
  | [.agg [.v (.int .i64 a), .v (.bool fa)], .agg [.v (.int .i64 b), .v (.bool fb)], .agg [.v (.int .i64 c), .v (.bool fc)], .agg [.v (.int .i64 d), .v (.bool fd)]] =>
    some (some ((I64 a ∧ I64 b) ∧ I64 c ∧ I64 d), nS (f ⟨a, fa⟩ ⟨b, fb⟩ ⟨c, fc⟩ ⟨d, fd⟩))
  | _ => none
theorem sInt_B : sInt = i1B intN := rfl
theorem sRatio_B : sRatio = i2B ratN := rfl
theorem sNeg_B : sNeg = n1B negN := rfl
theorem sMul_B : sMul = n2B mulN := rfl
theorem sDiv_B : sDiv = n2B divN := rfl
theorem sSub_B : sSub = n2B subN := rfl
theorem sHypot_B : sHypot = n2B hypN := rfl
theorem sDot_B : sDot = n4B dotN := rfl
theorem sSin_B : sSin = n1B sinN := rfl
theorem sCos_B : sCos = n1B cosN := rfl
end Go.Proofs.Ytheljpebapokjaa
