/-
  Contracts of package fixed's exact integers, and of the reference's.
-/
import Derived.Test.YtheljpebapokjaaFxA
set_option maxRecDepth 100000
namespace Go.Proofs.Ytheljpebapokjaa
open Go.SE Go.RowKit

theorem vcMul64 (x y : Int) (R : SV → Prop) : (vcPure Try.prog noCtrs noΛ Try.f160 [.v (.int .u64 x), .v (.int .u64 y)] R) =
(R (SV.tup [(SV.v (Value.int IntKind.u64 (IntKind.wrap IntKind.u64 (IntKind.wrap IntKind.u64 (IntKind.wrap IntKind.u64 (x / 4294967296 * (y / 4294967296)) + IntKind.wrap IntKind.u64 (IntKind.wrap IntKind.u64 (x / 4294967296 * bits BinOp.and IntKind.u64 y 4294967295) + IntKind.wrap IntKind.u64 (bits BinOp.and IntKind.u64 x 4294967295 * bits BinOp.and IntKind.u64 y 4294967295) / 4294967296) / 4294967296) + IntKind.wrap IntKind.u64 (bits BinOp.and IntKind.u64 (IntKind.wrap IntKind.u64 (IntKind.wrap IntKind.u64 (x / 4294967296 * bits BinOp.and IntKind.u64 y 4294967295) + IntKind.wrap IntKind.u64 (bits BinOp.and IntKind.u64 x 4294967295 * bits BinOp.and IntKind.u64 y 4294967295) / 4294967296)) 4294967295 + IntKind.wrap IntKind.u64 (bits BinOp.and IntKind.u64 x 4294967295 * (y / 4294967296))) / 4294967296)))), (SV.v (Value.int IntKind.u64 (IntKind.wrap IntKind.u64 (x * y))))])) := by kernel_rfl
theorem vcOf (v : Int) (R : SV → Prop) : (vcPure Try.prog noCtrs noΛ Try.f129 [.v (.int .i64 v)] R) =

(sel (decide (v < 0)) (R (SV.agg [(SV.v (Value.bool true)), (SV.v (Value.int IntKind.u64 (IntKind.wrap IntKind.u64 (0 - IntKind.wrap IntKind.u64 v)))), (SV.v (Value.int IntKind.u64 0))])) (R (SV.agg [(SV.v (Value.bool false)), (SV.v (Value.int IntKind.u64 (IntKind.wrap IntKind.u64 v))), (SV.v (Value.int IntKind.u64 0))]))) := by kernel_rfl
theorem vcDown (n : Bool) (lo hi : Int) (R : SV → Prop) : (vcPure Try.prog noCtrs noΛ Try.f143 [exS n lo hi] R) =
(R (SV.agg [(SV.v (Value.bool n)), (SV.v (Value.int IntKind.u64 (bits BinOp.or IntKind.u64 (IntKind.wrap IntKind.u64 (hi * 4294967296)) (lo / 4294967296)))), (SV.v (Value.int IntKind.u64 (hi / 4294967296)))])) := by kernel_rfl
theorem vcUp (n : Bool) (lo hi : Int) (R : SV → Prop) : (vcPure Try.prog noCtrs noΛ Try.f130 [exS n lo hi] R) =
(R (SV.agg [(SV.v (Value.bool n)), (SV.v (Value.int IntKind.u64 (IntKind.wrap IntKind.u64 (lo * 4294967296)))), (SV.v (Value.int IntKind.u64 (bits BinOp.or IntKind.u64 (IntKind.wrap IntKind.u64 (hi * 4294967296)) (lo / 4294967296))))])) := by kernel_rfl
theorem vcFit (n : Bool) (lo hi : Int) (f : Bool) (R : SV → Prop) : (vcPure Try.prog noCtrs noΛ Try.f131 [exS n lo hi, .v (.bool f)] R) =

(sel (hi == 0) 
(sel (decide (lo ≤ 9223372036854775807)) 
(sel n (R (SV.agg [(SV.v (Value.int IntKind.i64 (IntKind.wrap IntKind.i64 (0 - IntKind.wrap IntKind.i64 lo)))), (SV.v (Value.bool f))])) (R (SV.agg [(SV.v (Value.int IntKind.i64 (IntKind.wrap IntKind.i64 lo))), (SV.v (Value.bool f))]))) 
(sel n (R (SV.agg [(SV.v (Value.int IntKind.i64 (-9223372036854775807))), (SV.v (Value.bool true))])) (R (SV.agg [(SV.v (Value.int IntKind.i64 9223372036854775807)), (SV.v (Value.bool true))])))) 
(sel n (R (SV.agg [(SV.v (Value.int IntKind.i64 (-9223372036854775807))), (SV.v (Value.bool true))])) (R (SV.agg [(SV.v (Value.int IntKind.i64 9223372036854775807)), (SV.v (Value.bool true))])))) := by kernel_rfl
theorem vcSound (v : Int) (f : Bool) (R : SV → Prop) : (vcPure Try.prog noCtrs noΛ Try.f125 [numS v f] R) =

(sel (v == -9223372036854775808) (R (SV.agg [(SV.v (Value.int IntKind.i64 (-9223372036854775807))), (SV.v (Value.bool true))])) (R (SV.agg [(SV.v (Value.int IntKind.i64 v)), (SV.v (Value.bool f))]))) := by kernel_rfl
theorem vcWhole (v : Int) (f : Bool) (R : SV → Prop) : (vcPure Try.prog noCtrs noΛ Try.f127 [numS v f] R) =

(sel (v == -9223372036854775808) (R (SV.tup [(SV.v (Value.int IntKind.i64 (-9223372036854775807))), (SV.v (Value.bool true))])) (R (SV.tup [(SV.v (Value.int IntKind.i64 v)), (SV.v (Value.bool f))]))) := by kernel_rfl
theorem vcSize (v : Int) (R : SV → Prop) : (vcPure Try.prog noCtrs noΛ Try.f139 [.v (.int .i64 v)] R) =

(sel (decide (v < 0)) (R (SV.v (Value.int IntKind.u64 (IntKind.wrap IntKind.u64 (IntKind.wrap IntKind.i64 (0 - v)))))) (R (SV.v (Value.int IntKind.u64 (IntKind.wrap IntKind.u64 v))))) := by kernel_rfl
theorem vcLess (n1 : Bool) (h1 l1 : Int) (n2 : Bool) (h2 l2 : Int) (R : SV → Prop) : (vcPure Try.prog noCtrs noΛ Try.f165 [wiS n1 h1 l1, wiS n2 h2 l2] R) =

(sel (decide (h1 < h2)) (R (SV.v (Value.bool true))) 
(sel (h1 == h2) (R (SV.v (Value.bool (decide (l1 < l2))))) (R (SV.v (Value.bool false))))) := by kernel_rfl
theorem vcRDown (n1 : Bool) (h1 l1 : Int) (R : SV → Prop) : (vcPure Try.prog noCtrs noΛ Try.f144 [wiS n1 h1 l1] R) =
(R (SV.agg [(SV.v (Value.bool n1)), (SV.v (Value.int IntKind.u64 (h1 / 4294967296))), (SV.v (Value.int IntKind.u64 (bits BinOp.or IntKind.u64 (IntKind.wrap IntKind.u64 (h1 * 4294967296)) (l1 / 4294967296))))])) := by kernel_rfl
theorem vcRUp (n1 : Bool) (h1 l1 : Int) (R : SV → Prop) : (vcPure Try.prog noCtrs noΛ Try.f136 [wiS n1 h1 l1] R) =
(R (SV.agg [(SV.v (Value.bool n1)), (SV.v (Value.int IntKind.u64 (bits BinOp.or IntKind.u64 (IntKind.wrap IntKind.u64 (h1 * 4294967296)) (l1 / 4294967296)))), (SV.v (Value.int IntKind.u64 (IntKind.wrap IntKind.u64 (l1 * 4294967296))))])) := by kernel_rfl
theorem vcRFit (n1 : Bool) (h1 l1 : Int) (f : Bool) (R : SV → Prop) : (vcPure Try.prog noCtrs noΛ Try.f135 [wiS n1 h1 l1, .v (.bool f)] R) =

(sel (h1 != 0) 
(sel n1 (R (SV.agg [(SV.v (Value.int IntKind.i64 (-9223372036854775807))), (SV.v (Value.bool true))])) (R (SV.agg [(SV.v (Value.int IntKind.i64 9223372036854775807)), (SV.v (Value.bool true))]))) 
(sel (decide (l1 > 9223372036854775807)) 
(sel n1 (R (SV.agg [(SV.v (Value.int IntKind.i64 (-9223372036854775807))), (SV.v (Value.bool true))])) (R (SV.agg [(SV.v (Value.int IntKind.i64 9223372036854775807)), (SV.v (Value.bool true))]))) 
(sel n1 (R (SV.agg [(SV.v (Value.int IntKind.i64 (IntKind.wrap IntKind.i64 (0 - IntKind.wrap IntKind.i64 l1)))), (SV.v (Value.bool f))])) (R (SV.agg [(SV.v (Value.int IntKind.i64 (IntKind.wrap IntKind.i64 l1))), (SV.v (Value.bool f))]))))) := by kernel_rfl
theorem vcRNone (v : Int) (R : SV → Prop) : (vcPure Try.prog noCtrs noΛ Try.f128 [.v (.int .i64 v)] R) =

(sel (decide (v > 0)) (R (SV.agg [(SV.v (Value.int IntKind.i64 9223372036854775807)), (SV.v (Value.bool true))])) 
(sel (decide (v < 0)) (R (SV.agg [(SV.v (Value.int IntKind.i64 (-9223372036854775807))), (SV.v (Value.bool true))])) (R (SV.agg [(SV.v (Value.int IntKind.i64 0)), (SV.v (Value.bool true))])))) := by kernel_rfl

/-! ### what they reckon -/
def sMul64 : List SV → Option (Option Prop × SV)
  | [.v (.int .u64 x), .v (.int .u64 y)] => some (some (U64 x ∧ U64 y), .tup [.v (.int .u64 (x * y / 18446744073709551616)), .v (.int .u64 (x * y % 18446744073709551616))])
  | _ => none
def sOf : List SV → Option (Option Prop × SV)
  | [.v (.int .i64 v)] => some (some (I64 v), exS (decide (v < 0)) (iabs v) 0)
  | _ => none
def sDown : List SV → Option (Option Prop × SV)
  | [.agg [.v (.bool n), .v (.int .u64 lo), .v (.int .u64 hi)]] => some (some (U64 lo ∧ U64 hi), exM n (MM lo hi / 4294967296))
  | _ => none
def sUp : List SV → Option (Option Prop × SV)
  | [.agg [.v (.bool n), .v (.int .u64 lo), .v (.int .u64 hi)]] => some (some (U64 lo ∧ U64 hi ∧ MM lo hi < 79228162514264337593543950336), exM n (MM lo hi * 4294967296))
  | _ => none
def sFit : List SV → Option (Option Prop × SV)
  | [.agg [.v (.bool n), .v (.int .u64 lo), .v (.int .u64 hi)], .v (.bool f)] => some (some (U64 lo ∧ U64 hi), numS (fitV n (MM lo hi)) (fitF (MM lo hi) f))
  | _ => none
def sSound : List SV → Option (Option Prop × SV)
  | [.agg [.v (.int .i64 v), .v (.bool f)]] => some (none, numS (sndV v) (sndF v f))
  | _ => none
def sWhole : List SV → Option (Option Prop × SV)
  | [.agg [.v (.int .i64 v), .v (.bool f)]] => some (none, .tup [.v (.int .i64 (sndV v)), .v (.bool (sndF v f))])
  | _ => none
def sSize : List SV → Option (Option Prop × SV)
  | [.v (.int .i64 v)] => some (some (I64 v), .v (.int .u64 (iabs v)))
  | _ => none
def sLess : List SV → Option (Option Prop × SV)
  | [.agg [.v (.bool _), .v (.int .u64 h1), .v (.int .u64 l1)], .agg [.v (.bool _), .v (.int .u64 h2), .v (.int .u64 l2)]] => some (some (U64 l1 ∧ U64 l2), .v (.bool (decide (MM l1 h1 < MM l2 h2))))
  | _ => none
def sRDown : List SV → Option (Option Prop × SV)
  | [.agg [.v (.bool n), .v (.int .u64 hi), .v (.int .u64 lo)]] => some (some (U64 lo ∧ U64 hi), wiM n (MM lo hi / 4294967296))
  | _ => none
def sRUp : List SV → Option (Option Prop × SV)
  | [.agg [.v (.bool n), .v (.int .u64 hi), .v (.int .u64 lo)]] => some (some (U64 lo ∧ U64 hi ∧ MM lo hi < 79228162514264337593543950336), wiM n (MM lo hi * 4294967296))
  | _ => none
def sRFit : List SV → Option (Option Prop × SV)
  | [.agg [.v (.bool n), .v (.int .u64 hi), .v (.int .u64 lo)], .v (.bool f)] => some (some (U64 lo ∧ U64 hi), numS (fitV n (MM lo hi)) (fitF (MM lo hi) f))
  | _ => none
def noneV (a : Int) : Int := if a > 0 then 9223372036854775807 else if a < 0 then -9223372036854775807 else 0
def sRNone : List SV → Option (Option Prop × SV)
  | [.v (.int .i64 v)] => some (none, numS (noneV v) true)
  | _ => none
def ΓB : Ctrs := addCtr (addCtr (addCtr (addCtr (addCtr (addCtr (addCtr (addCtr (addCtr (addCtr (addCtr (addCtr (addCtr Γ3
  160 (pureCtr sMul64)) 129 (pureCtr sOf)) 143 (pureCtr sDown)) 130 (pureCtr sUp)) 131 (pureCtr sFit)) 125 (pureCtr sSound))
  127 (pureCtr sWhole)) 139 (pureCtr sSize)) 165 (pureCtr sLess)) 144 (pureCtr sRDown)) 136 (pureCtr sRUp)) 135 (pureCtr sRFit))
  128 (pureCtr sRNone)

theorem Mul64_spec : PureSpec Try.prog 160 sMul64 := vc_spec hm noCtrs_ok Try.func160 (Λ := fun _ => noΛ) fun args p x h hp => by
  unfold sMul64 at h
  split at h <;> try (cases h; done)
  rename_i x y
  cases h
  obtain ⟨h1, h2⟩ := hp _ rfl
  refine ⟨rfl, rfl, ?_⟩
  rw [vcMul64]
  have e1 := and_mask32 h1
  have e2 := and_mask32 h2
  simp only [e1, e2, wrap_u64]
  rw [and_mask32 (mod_u64 _)]
  have := mul64_arith x y h1.1 h1.2 h2.1 h2.2
  rw [← this]
theorem Of_spec : PureSpec Try.prog 129 sOf := vc_spec hm noCtrs_ok Try.func129 (Λ := fun _ => noΛ) fun args p x h hp => by
  unfold sOf at h
  split at h <;> try (cases h; done)
  rename_i v
  cases h
  obtain ⟨h1, h2⟩ := hp _ rfl
  refine ⟨rfl, rfl, ?_⟩
  rw [vcOf]
  refine sel_of (fun h => ?_) fun h => ?_
  · have h' := of_decide_eq_true h
    refine ex_mk h.symm ?_ rfl
    rw [wrap_u64, wrap_u64]; unfold iabs; rw [if_pos h']; omega
  · have h' := of_decide_eq_false h
    refine ex_mk h.symm ?_ rfl
    rw [wrap_u64]; unfold iabs; rw [if_neg h']; omega
theorem Down_spec : PureSpec Try.prog 143 sDown := vc_spec hm noCtrs_ok Try.func143 (Λ := fun _ => noΛ) fun args p x h hp => by
  unfold sDown at h
  split at h <;> try (cases h; done)
  cases h
  obtain ⟨h1, h2⟩ := hp _ rfl
  refine ⟨rfl, rfl, ?_⟩
  rw [show ∀ n lo hi, SV.agg [.v (.bool n), .v (.int .u64 lo), .v (.int .u64 hi)] = exS n lo hi from fun _ _ _ => rfl, vcDown]
  refine ex_mk rfl ?_ ?_
  · rw [or_shift h2 h1]; obtain ⟨_, _⟩ := h1; obtain ⟨_, _⟩ := h2; unfold MM; omega
  · obtain ⟨_, _⟩ := h1; obtain ⟨_, _⟩ := h2; unfold MM; omega
theorem Up_spec : PureSpec Try.prog 130 sUp := vc_spec hm noCtrs_ok Try.func130 (Λ := fun _ => noΛ) fun args p x h hp => by
  unfold sUp at h
  split at h <;> try (cases h; done)
  cases h
  obtain ⟨h1, h2, h3⟩ := hp _ rfl
  refine ⟨rfl, rfl, ?_⟩
  rw [show ∀ n lo hi, SV.agg [.v (.bool n), .v (.int .u64 lo), .v (.int .u64 hi)] = exS n lo hi from fun _ _ _ => rfl, vcUp]
  refine ex_mk rfl ?_ ?_
  · rw [wrap_u64]; obtain ⟨_, _⟩ := h1; obtain ⟨_, _⟩ := h2; unfold MM; omega
  · rw [or_shift h2 h1]; unfold MM at h3; obtain ⟨_, _⟩ := h1; obtain ⟨_, _⟩ := h2; unfold MM; omega
theorem RDown_spec : PureSpec Try.prog 144 sRDown := vc_spec hm noCtrs_ok Try.func144 (Λ := fun _ => noΛ) fun args p x h hp => by
  unfold sRDown at h
  split at h <;> try (cases h; done)
  cases h
  obtain ⟨h1, h2⟩ := hp _ rfl
  refine ⟨rfl, rfl, ?_⟩
  rw [show ∀ n lo hi, SV.agg [.v (.bool n), .v (.int .u64 hi), .v (.int .u64 lo)] = wiS n hi lo from fun _ _ _ => rfl, vcRDown]
  refine wi_mk rfl ?_ ?_
  · rw [or_shift h2 h1]; obtain ⟨_, _⟩ := h1; obtain ⟨_, _⟩ := h2; unfold MM; omega
  · obtain ⟨_, _⟩ := h1; obtain ⟨_, _⟩ := h2; unfold MM; omega
theorem RUp_spec : PureSpec Try.prog 136 sRUp := vc_spec hm noCtrs_ok Try.func136 (Λ := fun _ => noΛ) fun args p x h hp => by
  unfold sRUp at h
  split at h <;> try (cases h; done)
  cases h
  obtain ⟨h1, h2, h3⟩ := hp _ rfl
  refine ⟨rfl, rfl, ?_⟩
  rw [show ∀ n lo hi, SV.agg [.v (.bool n), .v (.int .u64 hi), .v (.int .u64 lo)] = wiS n hi lo from fun _ _ _ => rfl, vcRUp]
  refine wi_mk rfl ?_ ?_
  · rw [wrap_u64]; obtain ⟨_, _⟩ := h1; obtain ⟨_, _⟩ := h2; unfold MM; omega
  · rw [or_shift h2 h1]; unfold MM at h3; obtain ⟨_, _⟩ := h1; obtain ⟨_, _⟩ := h2; unfold MM; omega
theorem MM_small {lo hi : Int} (h1 : U64 lo) (h2 : U64 hi) : (hi = 0 ∧ lo ≤ 9223372036854775807) ↔ MM lo hi ≤ 9223372036854775807 := by
  obtain ⟨_, _⟩ := h1; obtain ⟨_, _⟩ := h2; unfold MM; omega
theorem Fit_spec : PureSpec Try.prog 131 sFit := vc_spec hm noCtrs_ok Try.func131 (Λ := fun _ => noΛ) fun args p x h hp => by
  unfold sFit at h
  split at h <;> try (cases h; done)
  rename_i n lo hi f
  cases h
  obtain ⟨h1, h2⟩ := hp _ rfl
  refine ⟨rfl, rfl, ?_⟩
  rw [show ∀ n lo hi, SV.agg [.v (.bool n), .v (.int .u64 lo), .v (.int .u64 hi)] = exS n lo hi from fun _ _ _ => rfl, vcFit]
  have hs := MM_small h1 h2
  obtain ⟨a1, a2⟩ := h1
  have big : ∀ b : Bool, n = b → ¬ MM lo hi ≤ 9223372036854775807 → SV.agg [.v (.int .i64 (if b then -9223372036854775807 else 9223372036854775807)), .v (.bool true)] = numS (fitV n (MM lo hi)) (fitF (MM lo hi) f) := fun b hb e => by
    subst hb
    refine num_mk ?_ ?_
    · unfold fitV; rw [if_neg e]
    · unfold fitF; rw [if_neg e]
  have low : hi = 0 → lo ≤ 9223372036854775807 → MM lo hi = lo ∧ MM lo hi ≤ 9223372036854775807 := fun e1 e2 => ⟨by unfold MM; omega, hs.1 ⟨e1, e2⟩⟩
  refine sel_of (fun h => sel_of (fun h' => sel_of (fun h'' => ?_) fun h'' => ?_) fun h' => sel_of (fun h'' => ?_) fun h'' => ?_) fun h => sel_of (fun h'' => ?_) fun h'' => ?_
  · obtain ⟨e1, e2⟩ := low (by simpa using h) (of_decide_eq_true h')
    subst h''
    refine num_mk ?_ ?_
    · unfold fitV; rw [if_pos e2, if_pos rfl, e1, wrap_i64 (n := lo) ⟨by omega, by omega⟩, wrap_i64 ⟨by omega, by omega⟩]; omega
    · unfold fitF; rw [if_pos e2]
  · obtain ⟨e1, e2⟩ := low (by simpa using h) (of_decide_eq_true h')
    subst h''
    refine num_mk ?_ ?_
    · unfold fitV; rw [if_pos e2, if_neg (by simp), e1, wrap_i64 ⟨by omega, by omega⟩]
    · unfold fitF; rw [if_pos e2]
  · exact big true h'' fun e => of_decide_eq_false h' (hs.2 e).2
  · exact big false h'' fun e => of_decide_eq_false h' (hs.2 e).2
  · exact big true h'' fun e => (by have := (hs.2 e).1; simp [this] at h)
  · exact big false h'' fun e => (by have := (hs.2 e).1; simp [this] at h)
theorem RFit_spec : PureSpec Try.prog 135 sRFit := vc_spec hm noCtrs_ok Try.func135 (Λ := fun _ => noΛ) fun args p x h hp => by
  unfold sRFit at h
  split at h <;> try (cases h; done)
  rename_i n hi lo f
  cases h
  obtain ⟨h1, h2⟩ := hp _ rfl
  refine ⟨rfl, rfl, ?_⟩
  rw [show ∀ n lo hi, SV.agg [.v (.bool n), .v (.int .u64 hi), .v (.int .u64 lo)] = wiS n hi lo from fun _ _ _ => rfl, vcRFit]
  have hs := MM_small h1 h2
  obtain ⟨a1, a2⟩ := h1
  have big : ∀ b : Bool, n = b → ¬ MM lo hi ≤ 9223372036854775807 → SV.agg [.v (.int .i64 (if b then -9223372036854775807 else 9223372036854775807)), .v (.bool true)] = numS (fitV n (MM lo hi)) (fitF (MM lo hi) f) := fun b hb e => by
    subst hb
    refine num_mk ?_ ?_
    · unfold fitV; rw [if_neg e]
    · unfold fitF; rw [if_neg e]
  have low : hi = 0 → lo ≤ 9223372036854775807 → MM lo hi = lo ∧ MM lo hi ≤ 9223372036854775807 := fun e1 e2 => ⟨by unfold MM; omega, hs.1 ⟨e1, e2⟩⟩
  refine sel_of (fun h => sel_of (fun h'' => ?_) fun h'' => ?_) fun h => sel_of (fun h' => sel_of (fun h'' => ?_) fun h'' => ?_) fun h' => sel_of (fun h'' => ?_) fun h'' => ?_
  · exact big true h'' fun e => (by have := (hs.2 e).1; simp [this] at h)
  · exact big false h'' fun e => (by have := (hs.2 e).1; simp [this] at h)
  · exact big true h'' fun e => (by have := of_decide_eq_true h'; have := (hs.2 e).2; omega)
  · exact big false h'' fun e => (by have := of_decide_eq_true h'; have := (hs.2 e).2; omega)
  · obtain ⟨e1, e2⟩ := low (by simpa using h) (by have := of_decide_eq_false h'; omega)
    subst h''
    refine num_mk ?_ ?_
    · unfold fitV; rw [if_pos e2, if_pos rfl, e1, wrap_i64 (n := lo) ⟨by omega, by omega⟩, wrap_i64 ⟨by omega, by omega⟩]; omega
    · unfold fitF; rw [if_pos e2]
  · obtain ⟨e1, e2⟩ := low (by simpa using h) (by have := of_decide_eq_false h'; omega)
    subst h''
    refine num_mk ?_ ?_
    · unfold fitV; rw [if_pos e2, if_neg (by simp), e1, wrap_i64 ⟨by omega, by omega⟩]
    · unfold fitF; rw [if_pos e2]
theorem Sound_spec : PureSpec Try.prog 125 sSound := vc_spec hm noCtrs_ok Try.func125 (Λ := fun _ => noΛ) fun args p x h hp => by
  unfold sSound at h
  split at h <;> try (cases h; done)
  rename_i v f
  cases h
  refine ⟨rfl, rfl, ?_⟩
  rw [show ∀ v f, SV.agg [.v (.int .i64 v), .v (.bool f)] = numS v f from fun _ _ => rfl, vcSound]
  refine sel_of (fun h => ?_) fun h => ?_
  · have h := eq_of_beq h
    exact num_mk (by unfold sndV; rw [if_pos h]) (by unfold sndF; rw [if_pos h])
  · have h : ¬ v = -9223372036854775808 := fun e => by rw [e] at h; exact absurd h (by decide)
    exact num_mk (by unfold sndV; rw [if_neg h]) (by unfold sndF; rw [if_neg h])
theorem Whole_spec : PureSpec Try.prog 127 sWhole := vc_spec hm noCtrs_ok Try.func127 (Λ := fun _ => noΛ) fun args p x h hp => by
  unfold sWhole at h
  split at h <;> try (cases h; done)
  rename_i v f
  cases h
  refine ⟨rfl, rfl, ?_⟩
  rw [show ∀ v f, SV.agg [.v (.int .i64 v), .v (.bool f)] = numS v f from fun _ _ => rfl, vcWhole]
  refine sel_of (fun h => ?_) fun h => ?_
  · have h := eq_of_beq h
    show SV.tup _ = SV.tup _
    unfold sndV sndF; rw [if_pos h, if_pos h]
  · have h : ¬ v = -9223372036854775808 := fun e => by rw [e] at h; exact absurd h (by decide)
    show SV.tup _ = SV.tup _
    unfold sndV sndF; rw [if_neg h, if_neg h]
theorem Size_spec : PureSpec Try.prog 139 sSize := vc_spec hm noCtrs_ok Try.func139 (Λ := fun _ => noΛ) fun args p x h hp => by
  unfold sSize at h
  split at h <;> try (cases h; done)
  rename_i v
  cases h
  obtain ⟨h1, h2⟩ := hp _ rfl
  refine ⟨rfl, rfl, ?_⟩
  rw [vcSize]
  refine sel_of (fun h => ?_) fun h => ?_
  · have h' := of_decide_eq_true h
    refine int_mk ?_
    rw [wrap_u64, wrap_i64e]; unfold iabs; rw [if_pos h']; split <;> omega
  · have h' := of_decide_eq_false h
    refine int_mk ?_
    rw [wrap_u64]; unfold iabs; rw [if_neg h']; omega
theorem Less_spec : PureSpec Try.prog 165 sLess := vc_spec hm noCtrs_ok Try.func165 (Λ := fun _ => noΛ) fun args p x h hp => by
  unfold sLess at h
  split at h <;> try (cases h; done)
  rename_i n1 hi1 lo1 n2 hi2 lo2
  cases h
  obtain ⟨⟨h1, h2⟩, ⟨h3, h4⟩⟩ := hp _ rfl
  refine ⟨rfl, rfl, ?_⟩
  rw [show ∀ n lo hi, SV.agg [.v (.bool n), .v (.int .u64 hi), .v (.int .u64 lo)] = wiS n hi lo from fun _ _ _ => rfl, show ∀ n lo hi, SV.agg [.v (.bool n), .v (.int .u64 hi), .v (.int .u64 lo)] = wiS n hi lo from fun _ _ _ => rfl, vcLess]
  refine sel_of (fun h => ?_) fun h => sel_of (fun h' => ?_) fun h' => ?_
  · have h := of_decide_eq_true h
    refine bool_mk (decide_eq_true ?_).symm
    unfold MM; omega
  · have h' : hi1 = hi2 := eq_of_beq h'
    refine bool_mk (decide_eq_decide.2 ?_)
    unfold MM; omega
  · have h := of_decide_eq_false h
    have h' : ¬ hi1 = hi2 := fun e => by rw [e] at h'; simp at h'
    refine bool_mk (decide_eq_false ?_).symm
    unfold MM; omega
theorem RNone_spec : PureSpec Try.prog 128 sRNone := vc_spec hm noCtrs_ok Try.func128 (Λ := fun _ => noΛ) fun args p x h hp => by
  unfold sRNone at h
  split at h <;> try (cases h; done)
  rename_i v
  cases h
  refine ⟨rfl, rfl, ?_⟩
  rw [vcRNone]
  refine sel_of (fun h => ?_) fun h => sel_of (fun h' => ?_) fun h' => ?_
  · refine num_mk ?_ rfl; unfold noneV; rw [if_pos (of_decide_eq_true h)]
  · refine num_mk ?_ rfl; unfold noneV; rw [if_neg (of_decide_eq_false h), if_pos (of_decide_eq_true h')]
  · refine num_mk ?_ rfl; unfold noneV; rw [if_neg (of_decide_eq_false h), if_neg (of_decide_eq_false h')]
theorem ΓB_ok : ∀ f g, ΓB f = some g → g.ok Try.prog f := addCtr_ok (addCtr_ok (addCtr_ok (addCtr_ok (addCtr_ok (addCtr_ok (addCtr_ok (addCtr_ok (addCtr_ok (addCtr_ok (addCtr_ok (addCtr_ok (addCtr_ok Γ3_ok
  (pure_ok Try.func160 (by kernel_rfl) (by kernel_rfl) Mul64_spec)) (pure_ok Try.func129 (by kernel_rfl) (by kernel_rfl) Of_spec)) (pure_ok Try.func143 (by kernel_rfl) (by kernel_rfl) Down_spec))
  (pure_ok Try.func130 (by kernel_rfl) (by kernel_rfl) Up_spec)) (pure_ok Try.func131 (by kernel_rfl) (by kernel_rfl) Fit_spec)) (pure_ok Try.func125 (by kernel_rfl) (by kernel_rfl) Sound_spec))
  (pure_ok Try.func127 (by kernel_rfl) (by kernel_rfl) Whole_spec)) (pure_ok Try.func139 (by kernel_rfl) (by kernel_rfl) Size_spec)) (pure_ok Try.func165 (by kernel_rfl) (by kernel_rfl) Less_spec))
  (pure_ok Try.func144 (by kernel_rfl) (by kernel_rfl) RDown_spec)) (pure_ok Try.func136 (by kernel_rfl) (by kernel_rfl) RUp_spec)) (pure_ok Try.func135 (by kernel_rfl) (by kernel_rfl) RFit_spec))
  (pure_ok Try.func128 (by kernel_rfl) (by kernel_rfl) RNone_spec)
end Go.Proofs.Ytheljpebapokjaa
