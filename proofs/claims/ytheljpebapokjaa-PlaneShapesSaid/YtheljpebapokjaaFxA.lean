/-
  Contracts of the small functions below package fixed: math/bits, cmp. Every condition stands in a specification's first part.
-/
import Derived.Test.YtheljpebapokjaaRows
import Derived.Test.YtheljpebapokjaaSeRo
import Derived.Test.YtheljpebapokjaaFxMath
set_option maxRecDepth 100000
namespace Go.Proofs.Ytheljpebapokjaa
open Go.SE Go.RowKit

theorem hm : Try.prog.follows .mixedOrders = true := by kernel_rfl

/-! ### the model's own entries -/
theorem extern_ok {f : FuncId} {fn : Func} {e : Array Value → Sem Value} (hf : Try.prog.funcs[f]? = some fn) (hname : (fn.name == "runtime.NumGoroutine") = false) (hb : fn.body.isNone = true) (hn : Extern.findNext fn = none) (he : Extern.find fn = some e)
    {spec : List SV → Option (Option Prop × SV)} (hs : ∀ args p x, spec args = some (p, x) → (∀ q, p = some q → q) → plainL args = true ∧ plain x = true ∧ ∀ w, (e (vsOfS args).toArray).run Try.prog w = .ok (vOfS x) w) : (pureCtr spec).ok Try.prog f := by
  intro args h base ef hef δ w vals ha hr hp _
  simp only [pureCtr] at hef
  cases hsp : spec args with
  | none => rw [hsp] at hef; cases hef
  | some px =>
    obtain ⟨p, x⟩ := px
    rw [hsp] at hef
    cases hef
    obtain ⟨h1, h2, h3⟩ := hs args p x hsp hp
    have hv := (absL_plain _ _ h1).1 ha
    subst hv
    rw [run_callFunc_extern hf hname hb hn he, h3 w]
    exact ⟨x, [], δ, ⟨rfl, rfl⟩, (absV_plain _ _ h2).2 rfl, Upd.same hr⟩

def sAdd64 : List SV → Option (Option Prop × SV)
  | [.v (.int .u64 x), .v (.int .u64 y), .v (.int .u64 c)] => some (some (U64 x ∧ U64 y ∧ 0 ≤ c ∧ c ≤ 1), .tup [.v (.int .u64 ((x + y + c) % 18446744073709551616)), .v (.int .u64 ((x + y + c) / 18446744073709551616))])
  | _ => none
def sSub64 : List SV → Option (Option Prop × SV)
  | [.v (.int .u64 x), .v (.int .u64 y), .v (.int .u64 b)] => some (some (U64 x ∧ U64 y ∧ 0 ≤ b ∧ b ≤ 1), .tup [.v (.int .u64 ((x - y - b) % 18446744073709551616)), .v (.int .u64 (bor x (y + b)))])
  | _ => none
theorem Add64_ok : (pureCtr sAdd64).ok Try.prog 161 := by
  refine extern_ok Try.func161 (by kernel_rfl) (by kernel_rfl) (by kernel_rfl) (e := add64Entry) (by kernel_rfl) ?_
  intro args p x h hp
  unfold sAdd64 at h
  split at h
  · cases h
    obtain ⟨h1, h2, h3, h4⟩ := hp _ rfl
    exact ⟨rfl, rfl, fun w => run_add64 _ _ _ h1.1 h2.1 h3 h4 w⟩
  · cases h

def sub64Entry : Array Value → Sem Value := fun args => do
  let (x, y, b) ← Extern.MathBitsCarry.three "Sub64" args
  pure (Extern.MathBitsCarry.pair ((x + Extern.MathBitsCarry.m64 - y - b) % Extern.MathBitsCarry.m64) (if x < y + b then 1 else 0))

theorem run_sub64 {P : Program} (x y b : Int) (hx : U64 x) (hy : U64 y) (hb0 : 0 ≤ b) (hb : b ≤ 1) (w : World) :
    (sub64Entry #[.int .u64 x, .int .u64 y, .int .u64 b]).run P w = .ok (.tuple #[.int .u64 ((x - y - b) % 18446744073709551616), .int .u64 (bor x (y + b))]) w := by
  have key : ∀ k : Nat, k ≤ 1 → (sub64Entry #[.int .u64 x, .int .u64 y, .int .u64 (k : Int)]).run P w =
      .ok (Extern.MathBitsCarry.pair ((x.toNat + Extern.MathBitsCarry.m64 - y.toNat - k) % Extern.MathBitsCarry.m64) (if x.toNat < y.toNat + k then 1 else 0)) w := by
    intro k hk
    have : k = 0 ∨ k = 1 := by omega
    rcases this with rfl | rfl <;> rfl
  obtain ⟨k, rfl⟩ := Int.eq_ofNat_of_zero_le hb0
  rw [key k (by omega)]
  obtain ⟨hx0, hx1⟩ := hx
  obtain ⟨hy0, hy1⟩ := hy
  obtain ⟨X, rfl⟩ := Int.eq_ofNat_of_zero_le hx0
  obtain ⟨Y, rfl⟩ := Int.eq_ofNat_of_zero_le hy0
  simp only [Extern.MathBitsCarry.pair, Extern.MathBitsCarry.m64, Int.toNat_natCast, bor]
  have e1 : (Int.ofNat ((X + 2 ^ 64 - Y - k) % 2 ^ 64)) = ((X : Int) - Y - k) % 18446744073709551616 := by
    show (((X + 2 ^ 64 - Y - k) % 2 ^ 64 : Nat) : Int) = _
    omega
  have e2 : Int.ofNat (if X < Y + k then 1 else 0) = if (X : Int) < Y + k then 1 else 0 := by
    by_cases h : X < Y + k
    · rw [if_pos h, if_pos (by omega)]; rfl
    · rw [if_neg h, if_neg (by omega)]; rfl
  rw [e1, e2]

theorem Sub64_ok : (pureCtr sSub64).ok Try.prog 163 := by
  refine extern_ok Try.func163 (by kernel_rfl) (by kernel_rfl) (by kernel_rfl) (e := sub64Entry) (by kernel_rfl) ?_
  intro args p x h hp
  unfold sSub64 at h
  split at h
  · cases h
    obtain ⟨h1, h2, h3, h4⟩ := hp _ rfl
    exact ⟨rfl, rfl, fun w => run_sub64 _ _ _ h1 h2 h3 h4 w⟩
  · cases h

/-! ### cmp -/
def sNaN (k : IntKind) : List SV → Option (Option Prop × SV)
  | [.v (.int k' _)] => if k' = k then some (none, .v (.bool false)) else none
  | _ => none
def sCmp (k : IntKind) : List SV → Option (Option Prop × SV)
  | [.v (.int k1 x), .v (.int k2 y)] => if k1 = k ∧ k2 = k then some (none, .v (.int .i64 (cmpI x y))) else none
  | _ => none
def Γ1 : Ctrs := addCtr (addCtr noCtrs 161 (pureCtr sAdd64)) 163 (pureCtr sSub64)
def Γ2 : Ctrs := addCtr (addCtr Γ1 158 (pureCtr (sNaN .i64))) 171 (pureCtr (sNaN .u64))
def Γ3 : Ctrs := addCtr (addCtr Γ2 132 (pureCtr (sCmp .i64))) 169 (pureCtr (sCmp .u64))
def noΛ : Nat → Option LoopSpec := fun _ => none
theorem vcNaN1 (x : Int) (R : SV → Prop) : (vcPure Try.prog noCtrs noΛ Try.f158 [.v (.int .i64 x)] R) =
(R (SV.v (Value.bool (x != x)))) := by kernel_rfl
theorem vcNaN2 (x : Int) (R : SV → Prop) : (vcPure Try.prog noCtrs noΛ Try.f171 [.v (.int .u64 x)] R) =
(R (SV.v (Value.bool (x != x)))) := by kernel_rfl
theorem vcCmp1 (x y : Int) (R : SV → Prop) : (vcPure Try.prog Γ2 noΛ Try.f132 [.v (.int .i64 x), .v (.int .i64 y)] R) =

(sel (decide (x < y)) (R (SV.v (Value.int IntKind.i64 (-1)))) 
(sel (decide (x > y)) (R (SV.v (Value.int IntKind.i64 1))) (R (SV.v (Value.int IntKind.i64 0))))) := by kernel_rfl
theorem vcCmp2 (x y : Int) (R : SV → Prop) : (vcPure Try.prog Γ2 noΛ Try.f169 [.v (.int .u64 x), .v (.int .u64 y)] R) =

(sel (decide (x < y)) (R (SV.v (Value.int IntKind.i64 (-1)))) 
(sel (decide (x > y)) (R (SV.v (Value.int IntKind.i64 1))) (R (SV.v (Value.int IntKind.i64 0))))) := by kernel_rfl
theorem Γ1_ok : ∀ f g, Γ1 f = some g → g.ok Try.prog f := addCtr_ok (addCtr_ok noCtrs_ok Add64_ok) Sub64_ok
theorem NaN1_spec : PureSpec Try.prog 158 (sNaN .i64) := vc_spec hm noCtrs_ok Try.func158 (Λ := fun _ => noΛ) fun args p x h _ => by
  unfold sNaN at h
  split at h <;> try (cases h; done)
  split at h <;> try (cases h; done)
  rename_i k' v hk
  subst hk
  cases h
  refine ⟨rfl, rfl, ?_⟩
  rw [vcNaN1]
  simp
theorem NaN2_spec : PureSpec Try.prog 171 (sNaN .u64) := vc_spec hm noCtrs_ok Try.func171 (Λ := fun _ => noΛ) fun args p x h _ => by
  unfold sNaN at h
  split at h <;> try (cases h; done)
  split at h <;> try (cases h; done)
  rename_i k' v hk
  subst hk
  cases h
  refine ⟨rfl, rfl, ?_⟩
  rw [vcNaN2]
  simp
theorem Γ2_ok : ∀ f g, Γ2 f = some g → g.ok Try.prog f := addCtr_ok (addCtr_ok Γ1_ok (pure_ok Try.func158 (by kernel_rfl) (by kernel_rfl) NaN1_spec)) (pure_ok Try.func171 (by kernel_rfl) (by kernel_rfl) NaN2_spec)
theorem Cmp1_spec : PureSpec Try.prog 132 (sCmp .i64) := vc_spec hm Γ2_ok Try.func132 (Λ := fun _ => noΛ) fun args p x h _ => by
  unfold sCmp at h
  split at h <;> try (cases h; done)
  split at h <;> try (cases h; done)
  rename_i k1 a k2 b hk
  obtain ⟨rfl, rfl⟩ := hk
  cases h
  refine ⟨rfl, rfl, ?_⟩
  rw [vcCmp1]
  unfold cmpI
  refine sel_of (fun h => ?_) fun h => sel_of (fun h' => ?_) fun h' => ?_
  · rw [if_pos (of_decide_eq_true h)]
  · rw [if_neg (of_decide_eq_false h), if_pos (of_decide_eq_true h')]
  · rw [if_neg (of_decide_eq_false h), if_neg (of_decide_eq_false h')]
theorem Cmp2_spec : PureSpec Try.prog 169 (sCmp .u64) := vc_spec hm Γ2_ok Try.func169 (Λ := fun _ => noΛ) fun args p x h _ => by
  unfold sCmp at h
  split at h <;> try (cases h; done)
  split at h <;> try (cases h; done)
  rename_i k1 a k2 b hk
  obtain ⟨rfl, rfl⟩ := hk
  cases h
  refine ⟨rfl, rfl, ?_⟩
  rw [vcCmp2]
  unfold cmpI
  refine sel_of (fun h => ?_) fun h => sel_of (fun h' => ?_) fun h' => ?_
  · rw [if_pos (of_decide_eq_true h)]
  · rw [if_neg (of_decide_eq_false h), if_pos (of_decide_eq_true h')]
  · rw [if_neg (of_decide_eq_false h), if_neg (of_decide_eq_false h')]
theorem Γ3_ok : ∀ f g, Γ3 f = some g → g.ok Try.prog f := addCtr_ok (addCtr_ok Γ2_ok (pure_ok Try.func132 (by kernel_rfl) (by kernel_rfl) Cmp1_spec)) (pure_ok Try.func169 (by kernel_rfl) (by kernel_rfl) Cmp2_spec)
end Go.Proofs.Ytheljpebapokjaa
