/-
  Contracts: order of products, floors, nearest integers, opposites, comparisons.
-/
import Derived.Test.YtnnmfonapfhcaaaFxC
set_option maxRecDepth 100000
namespace Go.Proofs.Ytnnmfonapfhcaaa
open Go.SE Go.RowKit

def T31 : Int := 26986075409
def wrapT (v : Int) : Int := if Int.tmod v 26986075409 > 13493037704 then Int.tmod v 26986075409 - 26986075409 else if Int.tmod v 26986075409 < -13493037704 then Int.tmod v 26986075409 + 26986075409 else Int.tmod v 26986075409
def sOrder : List SV → Option (Option Prop × SV)
  | [.v (.int .i64 a), .v (.int .i64 b), .v (.int .i64 c), .v (.int .i64 d)] => some (some ((I64 a ∧ I64 b) ∧ I64 c ∧ I64 d), .v (.int .i64 (cmpI (a * b) (c * d))))
  | _ => none
def sFloor : List SV → Option (Option Prop × SV)
  | [.agg [.v (.int .i64 v), .v (.bool _)]] => some (none, .v (.int .i64 (sndV v / 4294967296)))
  | _ => none
def sRound : List SV → Option (Option Prop × SV)
  | [.agg [.v (.int .i64 v), .v (.bool _)]] => some (some (I64 v), .v (.int .i64 ((sndV v + 2147483648) / 4294967296)))
  | _ => none
def sOfN : List SV → Option (Option Prop × SV)
  | [.v (.int .i64 v)] => some (none, numS (sndV v) (sndF v false))
  | _ => none
def sInt : List SV → Option (Option Prop × SV)
  | [.v (.int .i64 v)] => some (some (I64 v), numS (fitE (v * 4294967296)) (fitG (v * 4294967296) false))
  | _ => none
def sNeg : List SV → Option (Option Prop × SV)
  | [.agg [.v (.int .i64 v), .v (.bool f)]] => some (some (I64 v), numS (-sndV v) (sndF v f))
  | _ => none
def sAbs : List SV → Option (Option Prop × SV)
  | [.agg [.v (.int .i64 v), .v (.bool f)]] => some (some (I64 v), numS (iabs (sndV v)) (sndF v f))
  | _ => none
def sCmpN : List SV → Option (Option Prop × SV)
  | [.agg [.v (.int .i64 v), .v (.bool _)], .agg [.v (.int .i64 u), .v (.bool _)]] => some (none, .v (.int .i64 (cmpI (sndV v) (sndV u))))
  | _ => none
def sWrap : List SV → Option (Option Prop × SV)
  | [.agg [.v (.int .i64 v), .v (.bool f)]] => some (some (I64 v), numS (wrapT (sndV v)) (sndF v f))
  | _ => none
def mulE (a b : Int) : Int := Int.tdiv (a * b) 4294967296
def sMul : List SV → Option (Option Prop × SV)
  | [.agg [.v (.int .i64 v), .v (.bool f)], .agg [.v (.int .i64 u), .v (.bool g)]] => some (some (I64 v ∧ I64 u), numS (fitE (mulE (sndV v) (sndV u))) (fitG (mulE (sndV v) (sndV u)) (sndF v f || sndF u g)))
  | _ => none
theorem vcOrder (a b c d : Int) (R : SV → Prop) : (vcPure Try.prog ΓC noΛ Try.f21 [.v (.int .i64 a), .v (.int .i64 b), .v (.int .i64 c), .v (.int .i64 d)] R) =
(((I64 a) ∧ (I64 b)) ∧ (((I64 c) ∧ (I64 d)) ∧ ((((U64 (iabs a * iabs b % 18446744073709551616)) ∧ (U64 (iabs a * iabs b / 18446744073709551616))) ∧ (((U64 (iabs c * iabs d % 18446744073709551616)) ∧ (U64 (iabs c * iabs d / 18446744073709551616))) ∧ (((MM (iabs a * iabs b % 18446744073709551616) (iabs a * iabs b / 18446744073709551616) + MM (iabs c * iabs d % 18446744073709551616) (iabs c * iabs d / 18446744073709551616)) : Int) < 340282366920938463463374607431768211456))) ∧ 
(sel (plM (!decide (a < 0) == decide (b < 0)) (MM (iabs a * iabs b % 18446744073709551616) (iabs a * iabs b / 18446744073709551616)) (!!decide (c < 0) == decide (d < 0)) (MM (iabs c * iabs d % 18446744073709551616) (iabs c * iabs d / 18446744073709551616)) % 18446744073709551616 == 0 && plM (!decide (a < 0) == decide (b < 0)) (MM (iabs a * iabs b % 18446744073709551616) (iabs a * iabs b / 18446744073709551616)) (!!decide (c < 0) == decide (d < 0)) (MM (iabs c * iabs d % 18446744073709551616) (iabs c * iabs d / 18446744073709551616)) / 18446744073709551616 == 0) (R (SV.v (Value.int IntKind.i64 0))) 
(sel (plN (!decide (a < 0) == decide (b < 0)) (MM (iabs a * iabs b % 18446744073709551616) (iabs a * iabs b / 18446744073709551616)) (!!decide (c < 0) == decide (d < 0)) (MM (iabs c * iabs d % 18446744073709551616) (iabs c * iabs d / 18446744073709551616))) (R (SV.v (Value.int IntKind.i64 (-1)))) (R (SV.v (Value.int IntKind.i64 1)))))))) := by kernel_rfl
theorem vcROrder (a b c d : Int) (R : SV → Prop) : (vcPure Try.prog ΓC noΛ Try.f22 [.v (.int .i64 a), .v (.int .i64 b), .v (.int .i64 c), .v (.int .i64 d)] R) =
(((I64 a) ∧ (I64 b)) ∧ (((I64 c) ∧ (I64 d)) ∧ 
(sel ((!decide (a < 0) == decide (b < 0) && a != 0 && b != 0) == (!decide (c < 0) == decide (d < 0) && c != 0 && d != 0) && (iabs a * iabs b / 18446744073709551616 == iabs c * iabs d / 18446744073709551616 && iabs a * iabs b % 18446744073709551616 == iabs c * iabs d % 18446744073709551616)) (R (SV.v (Value.int IntKind.i64 0))) 
(sel (!(!decide (a < 0) == decide (b < 0) && a != 0 && b != 0) == (!decide (c < 0) == decide (d < 0) && c != 0 && d != 0)) 
(sel (!decide (a < 0) == decide (b < 0) && a != 0 && b != 0) (R (SV.v (Value.int IntKind.i64 (-1)))) (R (SV.v (Value.int IntKind.i64 1)))) (((U64 (iabs a * iabs b % 18446744073709551616)) ∧ (U64 (iabs c * iabs d % 18446744073709551616))) ∧ 
(sel (!decide (MM (iabs a * iabs b % 18446744073709551616) (iabs a * iabs b / 18446744073709551616) < MM (iabs c * iabs d % 18446744073709551616) (iabs c * iabs d / 18446744073709551616)) == (!decide (a < 0) == decide (b < 0) && a != 0 && b != 0)) (R (SV.v (Value.int IntKind.i64 (-1)))) (R (SV.v (Value.int IntKind.i64 1))))))))) := by kernel_rfl
theorem vcFloor (v : Int) (f : Bool) (R : SV → Prop) : (vcPure Try.prog ΓC noΛ Try.f17 [numS v f] R) =
(R (SV.v (Value.int IntKind.i64 (sndV v / 4294967296)))) := by kernel_rfl
theorem vcRFloor (v : Int) (f : Bool) (R : SV → Prop) : (vcPure Try.prog ΓC noΛ Try.f18 [numS v f] R) =
(R (SV.v (Value.int IntKind.i64 (sndV v / 4294967296)))) := by kernel_rfl
theorem vcRound (v : Int) (f : Bool) (R : SV → Prop) : (vcPure Try.prog ΓC noΛ Try.f19 [numS v f] R) =

(sel (decide (IntKind.wrap IntKind.u32 (sndV v) ≥ 2147483648)) (R (SV.v (Value.int IntKind.i64 (IntKind.wrap IntKind.i64 (sndV v / 4294967296 + 1))))) (R (SV.v (Value.int IntKind.i64 (sndV v / 4294967296))))) := by kernel_rfl
theorem vcRRound (v : Int) (f : Bool) (R : SV → Prop) : (vcPure Try.prog ΓC noΛ Try.f20 [numS v f] R) =
(R (SV.v (Value.int IntKind.i64 (IntKind.wrap IntKind.i64 (sndV v / 4294967296 + bits BinOp.and IntKind.i64 (sndV v / 2147483648) 1))))) := by kernel_rfl
theorem vcOf2 (v : Int) (R : SV → Prop) : (vcPure Try.prog ΓC noΛ Try.f42 [.v (.int .i64 v)] R) =
(R (SV.agg [(SV.v (Value.int IntKind.i64 (sndV v))), (SV.v (Value.bool (sndF v false)))])) := by kernel_rfl
theorem vcROf (v : Int) (R : SV → Prop) : (vcPure Try.prog ΓC noΛ Try.f43 [.v (.int .i64 v)] R) =
(R (SV.agg [(SV.v (Value.int IntKind.i64 (sndV v))), (SV.v (Value.bool (sndF v false)))])) := by kernel_rfl
theorem vcInt (v : Int) (R : SV → Prop) : (vcPure Try.prog ΓC noΛ Try.f38 [.v (.int .i64 v)] R) =
((I64 v) ∧ (((U64 (iabs v)) ∧ ((U64 0) ∧ (((MM (iabs v) 0) : Int) < 79228162514264337593543950336))) ∧ (((U64 (MM (iabs v) 0 * 4294967296 % 18446744073709551616)) ∧ (U64 (MM (iabs v) 0 * 4294967296 / 18446744073709551616))) ∧ (R (SV.agg [(SV.v (Value.int IntKind.i64 (fitV (decide (v < 0)) (MM (MM (iabs v) 0 * 4294967296 % 18446744073709551616) (MM (iabs v) 0 * 4294967296 / 18446744073709551616))))), (SV.v (Value.bool (fitF (MM (MM (iabs v) 0 * 4294967296 % 18446744073709551616) (MM (iabs v) 0 * 4294967296 / 18446744073709551616)) false)))]))))) := by kernel_rfl
theorem vcRInt (v : Int) (R : SV → Prop) : (vcPure Try.prog ΓC noΛ Try.f44 [.v (.int .i64 v)] R) =
((I64 v) ∧ (((U64 (iabs v)) ∧ ((U64 0) ∧ (((MM (iabs v) 0) : Int) < 79228162514264337593543950336))) ∧ (((U64 (MM (iabs v) 0 * 4294967296 % 18446744073709551616)) ∧ (U64 (MM (iabs v) 0 * 4294967296 / 18446744073709551616))) ∧ (R (SV.agg [(SV.v (Value.int IntKind.i64 (fitV (decide (v < 0)) (MM (MM (iabs v) 0 * 4294967296 % 18446744073709551616) (MM (iabs v) 0 * 4294967296 / 18446744073709551616))))), (SV.v (Value.bool (fitF (MM (MM (iabs v) 0 * 4294967296 % 18446744073709551616) (MM (iabs v) 0 * 4294967296 / 18446744073709551616)) false)))]))))) := by kernel_rfl
theorem vcNeg (v : Int) (f : Bool) (R : SV → Prop) : (vcPure Try.prog ΓC noΛ Try.f47 [numS v f] R) =
(R (SV.agg [(SV.v (Value.int IntKind.i64 (IntKind.wrap IntKind.i64 (0 - sndV v)))), (SV.v (Value.bool (sndF v f)))])) := by kernel_rfl
theorem vcRNeg (v : Int) (f : Bool) (R : SV → Prop) : (vcPure Try.prog ΓC noΛ Try.f48 [numS v f] R) =
(R (SV.agg [(SV.v (Value.int IntKind.i64 (IntKind.wrap IntKind.i64 (0 - sndV v)))), (SV.v (Value.bool (sndF v f)))])) := by kernel_rfl
theorem vcRAbs (v : Int) (f : Bool) (R : SV → Prop) : (vcPure Try.prog ΓC noΛ Try.f49 [numS v f] R) =

(sel (decide (sndV v < 0)) (R (SV.agg [(SV.v (Value.int IntKind.i64 (IntKind.wrap IntKind.i64 (0 - sndV v)))), (SV.v (Value.bool (sndF v f)))])) (R (SV.agg [(SV.v (Value.int IntKind.i64 (sndV v))), (SV.v (Value.bool (sndF v f)))]))) := by kernel_rfl
theorem vcCmp (v : Int) (f : Bool) (u : Int) (g : Bool) (R : SV → Prop) : (vcPure Try.prog ΓC noΛ Try.f24 [numS v f, numS u g] R) =
(R (SV.v (Value.int IntKind.i64 (cmpI (sndV v) (sndV u))))) := by kernel_rfl
theorem vcRCmp (v : Int) (f : Bool) (u : Int) (g : Bool) (R : SV → Prop) : (vcPure Try.prog ΓC noΛ Try.f37 [numS v f, numS u g] R) =

(sel (decide (sndV v < sndV u)) (R (SV.v (Value.int IntKind.i64 (-1)))) 
(sel (decide (sndV v > sndV u)) (R (SV.v (Value.int IntKind.i64 1))) (R (SV.v (Value.int IntKind.i64 0))))) := by kernel_rfl
theorem vcWrap (v : Int) (f : Bool) (R : SV → Prop) : (vcPure Try.prog ΓC noΛ Try.f64 [numS v f] R) =

(sel (decide (Int.tmod (sndV v) 26986075409 > 13493037704)) (R (SV.agg [(SV.v (Value.int IntKind.i64 (IntKind.wrap IntKind.i64 (Int.tmod (sndV v) 26986075409 - 26986075409)))), (SV.v (Value.bool (sndF v f)))])) 
(sel (decide (Int.tmod (sndV v) 26986075409 < -13493037704)) (R (SV.agg [(SV.v (Value.int IntKind.i64 (IntKind.wrap IntKind.i64 (Int.tmod (sndV v) 26986075409 + 26986075409)))), (SV.v (Value.bool (sndF v f)))])) (R (SV.agg [(SV.v (Value.int IntKind.i64 (Int.tmod (sndV v) 26986075409))), (SV.v (Value.bool (sndF v f)))])))) := by kernel_rfl
theorem vcRWrap (v : Int) (f : Bool) (R : SV → Prop) : (vcPure Try.prog ΓC noΛ Try.f65 [numS v f] R) =

(sel (decide (Int.tmod (sndV v) 26986075409 > 13493037704)) 
(sel (decide (IntKind.wrap IntKind.i64 (Int.tmod (sndV v) 26986075409 - 26986075409) < -13493037704)) (R (SV.agg [(SV.v (Value.int IntKind.i64 (IntKind.wrap IntKind.i64 (IntKind.wrap IntKind.i64 (Int.tmod (sndV v) 26986075409 - 26986075409) + 26986075409)))), (SV.v (Value.bool (sndF v f)))])) (R (SV.agg [(SV.v (Value.int IntKind.i64 (IntKind.wrap IntKind.i64 (Int.tmod (sndV v) 26986075409 - 26986075409)))), (SV.v (Value.bool (sndF v f)))]))) 
(sel (decide (Int.tmod (sndV v) 26986075409 < -13493037704)) (R (SV.agg [(SV.v (Value.int IntKind.i64 (IntKind.wrap IntKind.i64 (Int.tmod (sndV v) 26986075409 + 26986075409)))), (SV.v (Value.bool (sndF v f)))])) (R (SV.agg [(SV.v (Value.int IntKind.i64 (Int.tmod (sndV v) 26986075409))), (SV.v (Value.bool (sndF v f)))])))) := by kernel_rfl
theorem vcRMul (v : Int) (f : Bool) (u : Int) (g : Bool) (R : SV → Prop) : (vcPure Try.prog ΓC noΛ Try.f52 [numS v f, numS u g] R) =
(((I64 (sndV v)) ∧ (I64 (sndV u))) ∧ (((U64 (iabs (sndV v) * iabs (sndV u) % 18446744073709551616)) ∧ (U64 (iabs (sndV v) * iabs (sndV u) / 18446744073709551616))) ∧ 
(sel (sndF v f) (((U64 (MM (iabs (sndV v) * iabs (sndV u) % 18446744073709551616) (iabs (sndV v) * iabs (sndV u) / 18446744073709551616) / 4294967296 % 18446744073709551616)) ∧ (U64 (MM (iabs (sndV v) * iabs (sndV u) % 18446744073709551616) (iabs (sndV v) * iabs (sndV u) / 18446744073709551616) / 4294967296 / 18446744073709551616))) ∧ (R (SV.agg [(SV.v (Value.int IntKind.i64 (fitV (!decide (sndV v < 0) == decide (sndV u < 0) && sndV v != 0 && sndV u != 0) (MM (MM (iabs (sndV v) * iabs (sndV u) % 18446744073709551616) (iabs (sndV v) * iabs (sndV u) / 18446744073709551616) / 4294967296 % 18446744073709551616) (MM (iabs (sndV v) * iabs (sndV u) % 18446744073709551616) (iabs (sndV v) * iabs (sndV u) / 18446744073709551616) / 4294967296 / 18446744073709551616))))), (SV.v (Value.bool (fitF (MM (MM (iabs (sndV v) * iabs (sndV u) % 18446744073709551616) (iabs (sndV v) * iabs (sndV u) / 18446744073709551616) / 4294967296 % 18446744073709551616) (MM (iabs (sndV v) * iabs (sndV u) % 18446744073709551616) (iabs (sndV v) * iabs (sndV u) / 18446744073709551616) / 4294967296 / 18446744073709551616)) true)))]))) (((U64 (MM (iabs (sndV v) * iabs (sndV u) % 18446744073709551616) (iabs (sndV v) * iabs (sndV u) / 18446744073709551616) / 4294967296 % 18446744073709551616)) ∧ (U64 (MM (iabs (sndV v) * iabs (sndV u) % 18446744073709551616) (iabs (sndV v) * iabs (sndV u) / 18446744073709551616) / 4294967296 / 18446744073709551616))) ∧ (R (SV.agg [(SV.v (Value.int IntKind.i64 (fitV (!decide (sndV v < 0) == decide (sndV u < 0) && sndV v != 0 && sndV u != 0) (MM (MM (iabs (sndV v) * iabs (sndV u) % 18446744073709551616) (iabs (sndV v) * iabs (sndV u) / 18446744073709551616) / 4294967296 % 18446744073709551616) (MM (iabs (sndV v) * iabs (sndV u) % 18446744073709551616) (iabs (sndV v) * iabs (sndV u) / 18446744073709551616) / 4294967296 / 18446744073709551616))))), (SV.v (Value.bool (fitF (MM (MM (iabs (sndV v) * iabs (sndV u) % 18446744073709551616) (iabs (sndV v) * iabs (sndV u) / 18446744073709551616) / 4294967296 % 18446744073709551616) (MM (iabs (sndV v) * iabs (sndV u) % 18446744073709551616) (iabs (sndV v) * iabs (sndV u) / 18446744073709551616) / 4294967296 / 18446744073709551616)) (sndF u g))))])))))) := by kernel_rfl
theorem iabs_neg {a : Int} (h : a < 0) : iabs a = -a := by unfold iabs; rw [if_pos h]
theorem iabs_pos {a : Int} (h : ¬ a < 0) : iabs a = a := by unfold iabs; rw [if_neg h]
/-- The value of a product of two integers. -/
theorem sgn_mul (a b : Int) : sv (!(decide (a < 0) == decide (b < 0))) (iabs a * iabs b) = a * b := by
  unfold sv
  by_cases ha : a < 0 <;> by_cases hb : b < 0
  · rw [iabs_neg ha, iabs_neg hb]; simp [ha, hb, Int.neg_mul_neg]
  · rw [iabs_neg ha, iabs_pos hb]; simp [ha, hb, Int.neg_mul]
  · rw [iabs_pos ha, iabs_neg hb]; simp [ha, hb, Int.mul_neg]
  · rw [iabs_pos ha, iabs_pos hb]; simp [ha, hb]
theorem sgn_mul' (a b : Int) : sv (!(decide (a < 0) == decide (b < 0)) && a != 0 && b != 0) (iabs a * iabs b) = a * b := by
  by_cases ha : a = 0
  · subst ha; simp [sv, iabs]
  · by_cases hb : b = 0
    · subst hb; simp [sv, iabs]
    · rw [bne_iff_ne.2 ha, bne_iff_ne.2 hb, Bool.and_true, Bool.and_true, sgn_mul]
theorem sv_tdiv (n : Bool) {m k : Int} (h : 0 ≤ m) : sv n (m / k) = Int.tdiv (sv n m) k := by
  unfold sv
  cases n with
  | false => simp [Int.tdiv_eq_ediv_of_nonneg h]
  | true => simp [Int.neg_tdiv, Int.tdiv_eq_ediv_of_nonneg h]
theorem iabs_mul_lt {a b : Int} (ha : I64 a) (hb : I64 b) : iabs a * iabs b ≤ 85070591730234615865843651857942052864 := by
  have h1 := iabs_le ha
  have h2 := iabs_le hb
  have := Int.mul_le_mul h1 h2 (iabs_nonneg b) (by decide)
  simpa using this
theorem Order_spec : PureSpec Try.prog 21 sOrder := vc_spec hm ΓC_ok Try.func21 (Λ := fun _ => noΛ) fun args p x h hp => by
  unfold sOrder at h
  split at h <;> try (cases h; done)
  rename_i a b c d
  cases h
  obtain ⟨⟨h1, h2⟩, h3, h4⟩ := hp _ rfl
  refine ⟨rfl, rfl, ?_⟩
  rw [vcOrder]
  have l1 := iabs_mul_lt h1 h2
  have l2 := iabs_mul_lt h3 h4
  have n1 := iabs_mul (a := a) (b := b)
  have n2 := iabs_mul (a := c) (b := d)
  have s1 := sgn_mul a b
  have s2 := sgn_mul c d
  simp only [MM_split]
  have hv := pl_sv (!(decide (a < 0) == decide (b < 0))) (iabs a * iabs b) (!!(decide (c < 0) == decide (d < 0))) (iabs c * iabs d)
  have hn := plM_nonneg (n1 := !(decide (a < 0) == decide (b < 0))) (n2 := !!(decide (c < 0) == decide (d < 0))) n1 n2
  have hneg : ∀ (n : Bool) (m : Int), sv (!n) m = - sv n m := fun n m => by unfold sv; cases n <;> simp
  rw [hneg (!(decide (c < 0) == decide (d < 0))), s2, s1] at hv
  generalize plM (!(decide (a < 0) == decide (b < 0))) (iabs a * iabs b) (!!(decide (c < 0) == decide (d < 0))) (iabs c * iabs d) = m at hv hn ⊢
  generalize plN (!(decide (a < 0) == decide (b < 0))) (iabs a * iabs b) (!!(decide (c < 0) == decide (d < 0))) (iabs c * iabs d) = n at hv ⊢
  refine ⟨⟨h1, h2⟩, ⟨h3, h4⟩, ⟨⟨mod_u64 _, div_u64 n1 (by omega)⟩, ⟨mod_u64 _, div_u64 n2 (by omega)⟩, by omega⟩, sel_of (fun g => ?_) fun g => ?_⟩
  · have g : m = 0 := by simp at g; omega
    subst g
    refine int_mk ?_
    have : a * b = c * d := by unfold sv at hv; cases n <;> simp at hv <;> omega
    rw [this, cmpI_eq]
  · have g : m ≠ 0 := fun e => by rw [e] at g; simp at g
    refine sel_of (fun g' => int_mk ?_) fun g' => int_mk ?_
    · subst g'
      rw [cmpI_lt]
      unfold sv at hv; simp at hv; omega
    · subst g'
      rw [cmpI_gt]
      unfold sv at hv; simp at hv; omega
theorem sndV_neg {v : Int} (h : I64 v) : IntKind.i64.wrap (0 - sndV v) = - sndV v := by
  have := sndV_in h
  rw [wrap_i64 ⟨by omega, by omega⟩]; omega
theorem sv_inj {n n' : Bool} {m m' : Int} (h0 : 0 ≤ m) (h0' : 0 ≤ m') (hz : m = 0 → n = false) (hz' : m' = 0 → n' = false) : sv n m = sv n' m' ↔ n = n' ∧ m = m' := by
  unfold sv
  cases n <;> cases n' <;> simp at * <;> omega
theorem words_eq {m m' : Int} : (m / 18446744073709551616 = m' / 18446744073709551616 ∧ m % 18446744073709551616 = m' % 18446744073709551616) ↔ m = m' := by omega
theorem sgn_zero {a b : Int} (h : iabs a * iabs b = 0) : (!(decide (a < 0) == decide (b < 0)) && a != 0 && b != 0) = false := by
  rcases Int.mul_eq_zero.1 h with h | h
  · have : a = 0 := by unfold iabs at h; split at h <;> omega
    simp [this]
  · have : b = 0 := by unfold iabs at h; split at h <;> omega
    simp [this]
theorem ROrder_spec : PureSpec Try.prog 22 sOrder := vc_spec hm ΓC_ok Try.func22 (Λ := fun _ => noΛ) fun args p x h hp => by
  unfold sOrder at h
  split at h <;> try (cases h; done)
  rename_i a b c d
  cases h
  obtain ⟨⟨h1, h2⟩, h3, h4⟩ := hp _ rfl
  refine ⟨rfl, rfl, ?_⟩
  rw [vcROrder]
  have n1 := iabs_mul (a := a) (b := b)
  have n2 := iabs_mul (a := c) (b := d)
  have s1 := sgn_mul' a b
  have s2 := sgn_mul' c d
  have z1 := sgn_zero (a := a) (b := b)
  have z2 := sgn_zero (a := c) (b := d)
  simp only [MM_split]
  generalize iabs a * iabs b = m at *
  generalize iabs c * iabs d = m' at *
  generalize (!(decide (a < 0) == decide (b < 0)) && a != 0 && b != 0) = n at *
  generalize (!(decide (c < 0) == decide (d < 0)) && c != 0 && d != 0) = n' at *
  have key := sv_inj n1 n2 z1 z2
  rw [s1, s2] at key
  refine ⟨⟨h1, h2⟩, ⟨h3, h4⟩, sel_of (fun g => int_mk ?_) fun g => sel_of (fun g' => sel_of (fun g'' => int_mk ?_) fun g'' => int_mk ?_) fun g' => ⟨⟨mod_u64 _, mod_u64 _⟩, sel_of (fun g'' => int_mk ?_) fun g'' => int_mk ?_⟩⟩
  · simp only [Bool.and_eq_true, beq_iff_eq] at g
    rw [key.2 ⟨g.1, words_eq.1 g.2⟩, cmpI_eq]
  · subst g''
    have : n' = false := by simpa using g'
    subst this
    rw [cmpI_lt]
    have hm : m ≠ 0 := fun e => by have := z1 e; cases this
    unfold sv at s1 s2; simp at s1 s2; omega
  · subst g''
    have : n' = true := by simpa using g'
    subst this
    rw [cmpI_gt]
    have hm : m' ≠ 0 := fun e => by have := z2 e; cases this
    unfold sv at s1 s2; simp at s1 s2; omega
  · have e : n = n' := by simpa using g'
    subst e
    have hne : m ≠ m' := fun e => by subst e; simp at g
    have g'' : ¬ (decide (m < m') = n) := by simpa using g''
    rw [cmpI_lt]
    unfold sv at s1 s2; cases n <;> simp at s1 s2 g'' <;> omega
  · have e : n = n' := by simpa using g'
    subst e
    have hne : m ≠ m' := fun e => by subst e; simp at g
    have g'' : decide (m < m') = n := by simpa using g''
    rw [cmpI_gt]
    unfold sv at s1 s2; cases n <;> simp at s1 s2 g'' <;> omega
theorem Floor_spec : PureSpec Try.prog 17 sFloor := vc_spec hm ΓC_ok Try.func17 (Λ := fun _ => noΛ) fun args p x h hp => by
  unfold sFloor at h
  split at h <;> try (cases h; done)
  cases h
  refine ⟨rfl, rfl, ?_⟩
  rw [show ∀ v f, SV.agg [.v (.int .i64 v), .v (.bool f)] = numS v f from fun _ _ => rfl, vcFloor]
theorem RFloor_spec : PureSpec Try.prog 18 sFloor := vc_spec hm ΓC_ok Try.func18 (Λ := fun _ => noΛ) fun args p x h hp => by
  unfold sFloor at h
  split at h <;> try (cases h; done)
  cases h
  refine ⟨rfl, rfl, ?_⟩
  rw [show ∀ v f, SV.agg [.v (.int .i64 v), .v (.bool f)] = numS v f from fun _ _ => rfl, vcRFloor]
/-- The lowest bit. -/
theorem i64_and1 (n : Int) : bits .and .i64 n 1 = n % 2 := by
  have h1 : (BitVec.ofInt 64 1).toNat = 2 ^ 1 - 1 := by decide
  have key : (BitVec.ofInt 64 n &&& BitVec.ofInt 64 1).toNat = (n % ((2 ^ 64 : Nat) : Int)).toNat % 2 := by
    rw [BitVec.toNat_and, BitVec.toNat_ofInt, h1, Nat.and_two_pow_sub_one_eq_mod]
  show IntKind.i64.wrap ((BitVec.ofInt 64 n &&& BitVec.ofInt 64 1).toNat : Nat) = n % 2
  rw [key, wrap_i64 ⟨by omega, by omega⟩]
  omega
theorem Round_spec : PureSpec Try.prog 19 sRound := vc_spec hm ΓC_ok Try.func19 (Λ := fun _ => noΛ) fun args p x h hp => by
  unfold sRound at h
  split at h <;> try (cases h; done)
  cases h
  have h1 := sndV_in (hp _ rfl)
  refine ⟨rfl, rfl, ?_⟩
  rw [show ∀ v f, SV.agg [.v (.int .i64 v), .v (.bool f)] = numS v f from fun _ _ => rfl, vcRound]
  simp only [wrap_u32]
  refine sel_of (fun g => int_mk ?_) fun g => int_mk ?_
  · have g := of_decide_eq_true g
    rw [wrap_i64 ⟨by omega, by omega⟩]; omega
  · have g := of_decide_eq_false g
    omega
theorem RRound_spec : PureSpec Try.prog 20 sRound := vc_spec hm ΓC_ok Try.func20 (Λ := fun _ => noΛ) fun args p x h hp => by
  unfold sRound at h
  split at h <;> try (cases h; done)
  cases h
  have h1 := sndV_in (hp _ rfl)
  refine ⟨rfl, rfl, ?_⟩
  rw [show ∀ v f, SV.agg [.v (.int .i64 v), .v (.bool f)] = numS v f from fun _ _ => rfl, vcRRound]
  refine int_mk ?_
  rw [i64_and1, wrap_i64 ⟨by omega, by omega⟩]; omega
theorem Of2_spec : PureSpec Try.prog 42 sOfN := vc_spec hm ΓC_ok Try.func42 (Λ := fun _ => noΛ) fun args p x h hp => by
  unfold sOfN at h
  split at h <;> try (cases h; done)
  cases h
  refine ⟨rfl, rfl, ?_⟩
  rw [vcOf2]; rfl
theorem ROf_spec : PureSpec Try.prog 43 sOfN := vc_spec hm ΓC_ok Try.func43 (Λ := fun _ => noΛ) fun args p x h hp => by
  unfold sOfN at h
  split at h <;> try (cases h; done)
  cases h
  refine ⟨rfl, rfl, ?_⟩
  rw [vcROf]; rfl
theorem MM_0 (lo : Int) : MM lo 0 = lo := by unfold MM; omega
theorem sv_of (v : Int) : sv (decide (v < 0)) (iabs v) = v := by
  unfold sv
  by_cases h : v < 0
  · rw [iabs_neg h]; simp [h]
  · rw [iabs_pos h]; simp [h]
theorem sv_scale (n : Bool) (m k : Int) : sv n (m * k) = sv n m * k := by unfold sv; cases n <;> simp [Int.neg_mul]
theorem u64_0 : U64 0 := ⟨by decide, by decide⟩
theorem Int_spec : PureSpec Try.prog 38 sInt := vc_spec hm ΓC_ok Try.func38 (Λ := fun _ => noΛ) fun args p x h hp => by
  unfold sInt at h
  split at h <;> try (cases h; done)
  cases h
  have h1 := hp _ rfl
  have h2 := iabs_le h1
  have h3 := iabs_nonneg ‹Int›
  refine ⟨rfl, rfl, ?_⟩
  rw [vcInt]
  simp only [MM_0, MM_split]
  refine ⟨h1, ⟨iabs_u64 h1, u64_0, by omega⟩, ⟨mod_u64 _, div_u64 (by omega) (by omega)⟩, num_mk ?_ ?_⟩
  · rw [fitV_E _ (by omega), sv_scale, sv_of]
  · rw [fitF_G (decide (‹Int› < 0)) _ (by omega), sv_scale, sv_of]
theorem RInt_spec : PureSpec Try.prog 44 sInt := vc_spec hm ΓC_ok Try.func44 (Λ := fun _ => noΛ) fun args p x h hp => by
  unfold sInt at h
  split at h <;> try (cases h; done)
  cases h
  have h1 := hp _ rfl
  have h2 := iabs_le h1
  have h3 := iabs_nonneg ‹Int›
  refine ⟨rfl, rfl, ?_⟩
  rw [vcRInt]
  simp only [MM_0, MM_split]
  refine ⟨h1, ⟨iabs_u64 h1, u64_0, by omega⟩, ⟨mod_u64 _, div_u64 (by omega) (by omega)⟩, num_mk ?_ ?_⟩
  · rw [fitV_E _ (by omega), sv_scale, sv_of]
  · rw [fitF_G (decide (‹Int› < 0)) _ (by omega), sv_scale, sv_of]
theorem Neg_spec : PureSpec Try.prog 47 sNeg := vc_spec hm ΓC_ok Try.func47 (Λ := fun _ => noΛ) fun args p x h hp => by
  unfold sNeg at h
  split at h <;> try (cases h; done)
  cases h
  have h1 := hp _ rfl
  refine ⟨rfl, rfl, ?_⟩
  rw [show ∀ v f, SV.agg [.v (.int .i64 v), .v (.bool f)] = numS v f from fun _ _ => rfl, vcNeg, sndV_neg h1]
  rfl
theorem RNeg_spec : PureSpec Try.prog 48 sNeg := vc_spec hm ΓC_ok Try.func48 (Λ := fun _ => noΛ) fun args p x h hp => by
  unfold sNeg at h
  split at h <;> try (cases h; done)
  cases h
  have h1 := hp _ rfl
  refine ⟨rfl, rfl, ?_⟩
  rw [show ∀ v f, SV.agg [.v (.int .i64 v), .v (.bool f)] = numS v f from fun _ _ => rfl, vcRNeg, sndV_neg h1]
  rfl
theorem RAbs_spec : PureSpec Try.prog 49 sAbs := vc_spec hm ΓC_ok Try.func49 (Λ := fun _ => noΛ) fun args p x h hp => by
  unfold sAbs at h
  split at h <;> try (cases h; done)
  cases h
  have h1 := hp _ rfl
  refine ⟨rfl, rfl, ?_⟩
  rw [show ∀ v f, SV.agg [.v (.int .i64 v), .v (.bool f)] = numS v f from fun _ _ => rfl, vcRAbs, sndV_neg h1]
  refine sel_of (fun g => num_mk ?_ rfl) fun g => num_mk ?_ rfl
  · rw [iabs_neg (of_decide_eq_true g)]
  · rw [iabs_pos (of_decide_eq_false g)]
theorem CmpN_spec : PureSpec Try.prog 24 sCmpN := vc_spec hm ΓC_ok Try.func24 (Λ := fun _ => noΛ) fun args p x h hp => by
  unfold sCmpN at h
  split at h <;> try (cases h; done)
  rename_i v f u g
  cases h
  refine ⟨rfl, rfl, ?_⟩
  rw [show SV.agg [.v (.int .i64 v), .v (.bool f)] = numS v f from rfl, show SV.agg [.v (.int .i64 u), .v (.bool g)] = numS u g from rfl, vcCmp]
theorem RCmpN_spec : PureSpec Try.prog 37 sCmpN := vc_spec hm ΓC_ok Try.func37 (Λ := fun _ => noΛ) fun args p x h hp => by
  unfold sCmpN at h
  split at h <;> try (cases h; done)
  rename_i v f u g
  cases h
  refine ⟨rfl, rfl, ?_⟩
  rw [show SV.agg [.v (.int .i64 v), .v (.bool f)] = numS v f from rfl, show SV.agg [.v (.int .i64 u), .v (.bool g)] = numS u g from rfl, vcRCmp]
  refine sel_of (fun h => int_mk ?_) fun h => sel_of (fun h' => int_mk ?_) fun h' => int_mk ?_
  · rw [cmpI_lt (of_decide_eq_true h)]
  · rw [cmpI_gt (of_decide_eq_true h')]
  · have : sndV v = sndV u := by have := of_decide_eq_false h; have := of_decide_eq_false h'; omega
    rw [this, cmpI_eq]
theorem tmod_in (v : Int) : -26986075409 < Int.tmod v 26986075409 ∧ Int.tmod v 26986075409 < 26986075409 := by
  have h1 := Int.tmod_lt_of_pos v (show (0 : Int) < 26986075409 by decide)
  have h2 := Int.tmod_lt_of_pos (-v) (show (0 : Int) < 26986075409 by decide)
  rw [Int.neg_tmod] at h2
  omega
theorem Wrap_spec : PureSpec Try.prog 64 sWrap := vc_spec hm ΓC_ok Try.func64 (Λ := fun _ => noΛ) fun args p x h hp => by
  unfold sWrap at h
  split at h <;> try (cases h; done)
  rename_i v f
  cases h
  refine ⟨rfl, rfl, ?_⟩
  rw [show ∀ v f, SV.agg [.v (.int .i64 v), .v (.bool f)] = numS v f from fun _ _ => rfl, vcWrap]
  have ht := tmod_in (sndV v)
  unfold wrapT
  generalize Int.tmod (sndV v) 26986075409 = r at ht ⊢
  refine sel_of (fun h => num_mk ?_ rfl) fun h => sel_of (fun h' => num_mk ?_ rfl) fun h' => num_mk ?_ rfl
  · have h := of_decide_eq_true h
    rw [if_pos h, wrap_i64 ⟨by omega, by omega⟩]
  · have h := of_decide_eq_false h
    have h' := of_decide_eq_true h'
    rw [if_neg h, if_pos h', wrap_i64 ⟨by omega, by omega⟩]
  · rw [if_neg (of_decide_eq_false h), if_neg (of_decide_eq_false h')]
theorem RWrap_spec : PureSpec Try.prog 65 sWrap := vc_spec hm ΓC_ok Try.func65 (Λ := fun _ => noΛ) fun args p x h hp => by
  unfold sWrap at h
  split at h <;> try (cases h; done)
  rename_i v f
  cases h
  refine ⟨rfl, rfl, ?_⟩
  rw [show ∀ v f, SV.agg [.v (.int .i64 v), .v (.bool f)] = numS v f from fun _ _ => rfl, vcRWrap]
  have ht := tmod_in (sndV v)
  unfold wrapT
  generalize Int.tmod (sndV v) 26986075409 = r at ht ⊢
  refine sel_of (fun h => sel_of (fun h' => ?_) fun h' => num_mk ?_ rfl) fun h => sel_of (fun h' => num_mk ?_ rfl) fun h' => num_mk ?_ rfl
  · have h := of_decide_eq_true h
    have h' := of_decide_eq_true h'
    rw [wrap_i64 ⟨by omega, by omega⟩] at h'
    omega
  · have h := of_decide_eq_true h
    rw [if_pos h, wrap_i64 ⟨by omega, by omega⟩]
  · have h := of_decide_eq_false h
    have h' := of_decide_eq_true h'
    rw [if_neg h, if_pos h', wrap_i64 ⟨by omega, by omega⟩]
  · rw [if_neg (of_decide_eq_false h), if_neg (of_decide_eq_false h')]
theorem RMul_spec : PureSpec Try.prog 52 sMul := vc_spec hm ΓC_ok Try.func52 (Λ := fun _ => noΛ) fun args p x h hp => by
  unfold sMul at h
  split at h <;> try (cases h; done)
  rename_i v f u g
  cases h
  obtain ⟨h1, h2⟩ := hp _ rfl
  have h1 := sndV_i64 h1
  have h2 := sndV_i64 h2
  refine ⟨rfl, rfl, ?_⟩
  rw [show SV.agg [.v (.int .i64 v), .v (.bool f)] = numS v f from rfl, show SV.agg [.v (.int .i64 u), .v (.bool g)] = numS u g from rfl, vcRMul]
  simp only [MM_split]
  have l1 := iabs_mul_lt h1 h2
  have n1 := iabs_mul (a := sndV v) (b := sndV u)
  have s1 := sgn_mul' (sndV v) (sndV u)
  generalize iabs (sndV v) * iabs (sndV u) = m at *
  generalize (!(decide (sndV v < 0) == decide (sndV u < 0)) && sndV v != 0 && sndV u != 0) = n at *
  have e : sv n (m / 4294967296) = mulE (sndV v) (sndV u) := by rw [sv_tdiv n n1, s1]; rfl
  refine ⟨⟨h1, h2⟩, ⟨mod_u64 _, div_u64 n1 (by omega)⟩, sel_of (fun hf => ⟨⟨mod_u64 _, div_u64 (by omega) (by omega)⟩, num_mk ?_ ?_⟩) fun hf => ⟨⟨mod_u64 _, div_u64 (by omega) (by omega)⟩, num_mk ?_ ?_⟩⟩
  · rw [fitV_E _ (by omega), e]
  · rw [fitF_G n _ (by omega), e, hf, Bool.true_or]
  · rw [fitV_E _ (by omega), e]
  · rw [fitF_G n _ (by omega), e, hf, Bool.false_or]
end Go.Proofs.Ytnnmfonapfhcaaa
