/-
  Contracts of the small functions below package fixed: math/bits, cmp. Every condition stands in a specification's first part.
-/
import Derived.Test.YtjdldadmaaeimaaRows
import Derived.Test.YtjdldadmaaeimaaSeRo
import Derived.Test.YtjdldadmaaeimaaFxMath
set_option maxRecDepth 100000
namespace Go.Proofs.Ytjdldadmaaeimaa
open Go.SE Go.RowKit

theorem hm : Try.prog.follows .mixedOrders = true := by kernel_rfl

/-! ### the model's own entries -/
theorem extern_ok {f : FuncId} {fn : Func} {e : Array Value → Sem Value} (hf : Try.prog.funcs[f]? = some fn) (hname : (fn.name == "runtime.NumGoroutine") = false) (hb : fn.body.isNone = true) (hn : Extern.findNext fn = none) (he : Extern.find fn = some e)
    {spec : List SV → Option (Option Prop × SV)} (hs : ∀ args p x, spec args = some (p, x) → (∀ q, p = some q → q) → plainL args = true ∧ plain x = true ∧ ∀ w, (e (vsOfS args).toArray).run Try.prog w = .ok (vOfS x) w) : (pureCtr spec).ok Try.prog f := by
  intro args h base ef hef δ w vals ha hr hp _
  simp only [pureCtr] at hef
  cases hsp : spec args with
  | none => rw [hsp] at hef; cases hef
  | some px =>
    obtain ⟨p, x⟩ := px
    rw [hsp] at hef
    cases hef
    obtain ⟨h1, h2, h3⟩ := hs args p x hsp hp
    have hv := (absL_plain _ _ h1).1 ha
    subst hv
    rw [run_callFunc_extern hf hname hb hn he, h3 w]
    exact ⟨x, [], δ, ⟨rfl, rfl⟩, (absV_plain _ _ h2).2 rfl, Upd.same hr⟩

def sAdd64 : List SV → Option (Option Prop × SV)
  | [.v (.int .u64 x), .v (.int .u64 y), .v (.int .u64 c)] => some (some (U64 x ∧ U64 y ∧ 0 ≤ c ∧ c ≤ 1), .tup [.v (.int .u64 ((x + y + c) % 18446744073709551616)), .v (.int .u64 ((x + y + c) / 18446744073709551616))])
  | _ => none
def sSub64 : List SV → Option (Option Prop × SV)
  | [.v (.int .u64 x), .v (.int .u64 y), .v (.int .u64 b)] => some (some (U64 x ∧ U64 y ∧ 0 ≤ b ∧ b ≤ 1), .tup [.v (.int .u64 ((x - y - b) % 18446744073709551616)), .v (.int .u64 (bor x (y + b)))])
  | _ => none
def sub64Entry : Array Value → Sem Value := fun args => do
  let (x, y, b) ← Extern.MathBitsCarry.three "Sub64" args
  pure (Extern.MathBitsCarry.pair ((x + Extern.MathBitsCarry.m64 - y - b) % Extern.MathBitsCarry.m64) (if x < y + b then 1 else 0))

theorem run_sub64 {P : Program} (x y b : Int) (hx : U64 x) (hy : U64 y) (hb0 : 0 ≤ b) (hb : b ≤ 1) (w : World) :
    (sub64Entry #[.int .u64 x, .int .u64 y, .int .u64 b]).run P w = .ok (.tuple #[.int .u64 ((x - y - b) % 18446744073709551616), .int .u64 (bor x (y + b))]) w := by
  have key : ∀ k : Nat, k ≤ 1 → (sub64Entry #[.int .u64 x, .int .u64 y, .int .u64 (k : Int)]).run P w =
      .ok (Extern.MathBitsCarry.pair ((x.toNat + Extern.MathBitsCarry.m64 - y.toNat - k) % Extern.MathBitsCarry.m64) (if x.toNat < y.toNat + k then 1 else 0)) w := by
    intro k hk
    have : k = 0 ∨ k = 1 := by omega
    rcases this with rfl | rfl <;> rfl
  obtain ⟨k, rfl⟩ := Int.eq_ofNat_of_zero_le hb0
  rw [key k (by omega)]
  obtain ⟨hx0, hx1⟩ := hx
  obtain ⟨hy0, hy1⟩ := hy
  obtain ⟨X, rfl⟩ := Int.eq_ofNat_of_zero_le hx0
  obtain ⟨Y, rfl⟩ := Int.eq_ofNat_of_zero_le hy0
  simp only [Extern.MathBitsCarry.pair, Extern.MathBitsCarry.m64, Int.toNat_natCast, bor]
  have e1 : (Int.ofNat ((X + 2 ^ 64 - Y - k) % 2 ^ 64)) = ((X : Int) - Y - k) % 18446744073709551616 := by
    show (((X + 2 ^ 64 - Y - k) % 2 ^ 64 : Nat) : Int) = _
    omega
  have e2 : Int.ofNat (if X < Y + k then 1 else 0) = if (X : Int) < Y + k then 1 else 0 := by
    by_cases h : X < Y + k
    · rw [if_pos h, if_pos (by omega)]; rfl
    · rw [if_neg h, if_neg (by omega)]; rfl
  rw [e1, e2]


/-! ### cmp -/
def sNaN (k : IntKind) : List SV → Option (Option Prop × SV)
  | [.v (.int k' _)] => if k' = k then some (none, .v (.bool false)) else none
  | _ => none
def sCmp (k : IntKind) : List SV → Option (Option Prop × SV)
  | [.v (.int k1 x), .v (.int k2 y)] => if k1 = k ∧ k2 = k then some (none, .v (.int .i64 (cmpI x y))) else none
  | _ => none
def Γ1 : Ctrs := noCtrs
def Γ2 : Ctrs := Γ1
def Γ3 : Ctrs := Γ2
def noΛ : Nat → Option LoopSpec := fun _ => none
theorem Γ1_ok : ∀ f g, Γ1 f = some g → g.ok Try.prog f := noCtrs_ok
theorem Γ2_ok : ∀ f g, Γ2 f = some g → g.ok Try.prog f := Γ1_ok
theorem Γ3_ok : ∀ f g, Γ3 f = some g → g.ok Try.prog f := Γ2_ok
end Go.Proofs.Ytjdldadmaaeimaa
