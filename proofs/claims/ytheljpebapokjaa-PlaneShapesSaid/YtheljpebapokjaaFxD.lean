/-
  Contracts: order of products, floors, nearest integers, opposites, comparisons.
-/
import Derived.Test.YtheljpebapokjaaFxC
set_option maxRecDepth 100000
namespace Go.Proofs.Ytheljpebapokjaa
open Go.SE Go.RowKit

def T31 : Int := 26986075409
def wrapT (v : Int) : Int := if Int.tmod v 26986075409 > 13493037704 then Int.tmod v 26986075409 - 26986075409 else if Int.tmod v 26986075409 < -13493037704 then Int.tmod v 26986075409 + 26986075409 else Int.tmod v 26986075409
def sOrder : List SV → Option (Option Prop × SV)
  | [.v (.int .i64 a), .v (.int .i64 b), .v (.int .i64 c), .v (.int .i64 d)] => some (some ((I64 a ∧ I64 b) ∧ I64 c ∧ I64 d), .v (.int .i64 (cmpI (a * b) (c * d))))
  | _ => none
def sFloor : List SV → Option (Option Prop × SV)
  | [.agg [.v (.int .i64 v), .v (.bool _)]] => some (none, .v (.int .i64 (sndV v / 4294967296)))
  | _ => none
def sRound : List SV → Option (Option Prop × SV)
  | [.agg [.v (.int .i64 v), .v (.bool _)]] => some (some (I64 v), .v (.int .i64 ((sndV v + 2147483648) / 4294967296)))
  | _ => none
def sOfN : List SV → Option (Option Prop × SV)
  | [.v (.int .i64 v)] => some (none, numS (sndV v) (sndF v false))
  | _ => none
def sInt : List SV → Option (Option Prop × SV)
  | [.v (.int .i64 v)] => some (some (I64 v), numS (fitE (v * 4294967296)) (fitG (v * 4294967296) false))
  | _ => none
def sNeg : List SV → Option (Option Prop × SV)
  | [.agg [.v (.int .i64 v), .v (.bool f)]] => some (some (I64 v), numS (-sndV v) (sndF v f))
  | _ => none
def sAbs : List SV → Option (Option Prop × SV)
  | [.agg [.v (.int .i64 v), .v (.bool f)]] => some (some (I64 v), numS (iabs (sndV v)) (sndF v f))
  | _ => none
def sCmpN : List SV → Option (Option Prop × SV)
  | [.agg [.v (.int .i64 v), .v (.bool _)], .agg [.v (.int .i64 u), .v (.bool _)]] => some (none, .v (.int .i64 (cmpI (sndV v) (sndV u))))
  | _ => none
def sWrap : List SV → Option (Option Prop × SV)
  | [.agg [.v (.int .i64 v), .v (.bool f)]] => some (some (I64 v), numS (wrapT (sndV v)) (sndF v f))
  | _ => none
def mulE (a b : Int) : Int := Int.tdiv (a * b) 4294967296
def sMul : List SV → Option (Option Prop × SV)
  | [.agg [.v (.int .i64 v), .v (.bool f)], .agg [.v (.int .i64 u), .v (.bool g)]] => some (some (I64 v ∧ I64 u), numS (fitE (mulE (sndV v) (sndV u))) (fitG (mulE (sndV v) (sndV u)) (sndF v f || sndF u g)))
  | _ => none
theorem vcOf2 (v : Int) (R : SV → Prop) : (vcPure Try.prog ΓC noΛ Try.f86 [.v (.int .i64 v)] R) =
(R (SV.agg [(SV.v (Value.int IntKind.i64 (sndV v))), (SV.v (Value.bool (sndF v false)))])) := by kernel_rfl
theorem vcROf (v : Int) (R : SV → Prop) : (vcPure Try.prog ΓC noΛ Try.f83 [.v (.int .i64 v)] R) =
(R (SV.agg [(SV.v (Value.int IntKind.i64 (sndV v))), (SV.v (Value.bool (sndF v false)))])) := by kernel_rfl
theorem vcInt (v : Int) (R : SV → Prop) : (vcPure Try.prog ΓC noΛ Try.f85 [.v (.int .i64 v)] R) =
((I64 v) ∧ (((U64 (iabs v)) ∧ ((U64 0) ∧ (((MM (iabs v) 0) : Int) < 79228162514264337593543950336))) ∧ (((U64 (MM (iabs v) 0 * 4294967296 % 18446744073709551616)) ∧ (U64 (MM (iabs v) 0 * 4294967296 / 18446744073709551616))) ∧ (R (SV.agg [(SV.v (Value.int IntKind.i64 (fitV (decide (v < 0)) (MM (MM (iabs v) 0 * 4294967296 % 18446744073709551616) (MM (iabs v) 0 * 4294967296 / 18446744073709551616))))), (SV.v (Value.bool (fitF (MM (MM (iabs v) 0 * 4294967296 % 18446744073709551616) (MM (iabs v) 0 * 4294967296 / 18446744073709551616)) false)))]))))) := by kernel_rfl
theorem vcRInt (v : Int) (R : SV → Prop) : (vcPure Try.prog ΓC noΛ Try.f91 [.v (.int .i64 v)] R) =
((I64 v) ∧ (((U64 (iabs v)) ∧ ((U64 0) ∧ (((MM (iabs v) 0) : Int) < 79228162514264337593543950336))) ∧ (((U64 (MM (iabs v) 0 * 4294967296 % 18446744073709551616)) ∧ (U64 (MM (iabs v) 0 * 4294967296 / 18446744073709551616))) ∧ (R (SV.agg [(SV.v (Value.int IntKind.i64 (fitV (decide (v < 0)) (MM (MM (iabs v) 0 * 4294967296 % 18446744073709551616) (MM (iabs v) 0 * 4294967296 / 18446744073709551616))))), (SV.v (Value.bool (fitF (MM (MM (iabs v) 0 * 4294967296 % 18446744073709551616) (MM (iabs v) 0 * 4294967296 / 18446744073709551616)) false)))]))))) := by kernel_rfl
theorem vcNeg (v : Int) (f : Bool) (R : SV → Prop) : (vcPure Try.prog ΓC noΛ Try.f100 [numS v f] R) =
(R (SV.agg [(SV.v (Value.int IntKind.i64 (IntKind.wrap IntKind.i64 (0 - sndV v)))), (SV.v (Value.bool (sndF v f)))])) := by kernel_rfl
theorem vcRNeg (v : Int) (f : Bool) (R : SV → Prop) : (vcPure Try.prog ΓC noΛ Try.f102 [numS v f] R) =
(R (SV.agg [(SV.v (Value.int IntKind.i64 (IntKind.wrap IntKind.i64 (0 - sndV v)))), (SV.v (Value.bool (sndF v f)))])) := by kernel_rfl
theorem vcRAbs (v : Int) (f : Bool) (R : SV → Prop) : (vcPure Try.prog ΓC noΛ Try.f82 [numS v f] R) =

(sel (decide (sndV v < 0)) (R (SV.agg [(SV.v (Value.int IntKind.i64 (IntKind.wrap IntKind.i64 (0 - sndV v)))), (SV.v (Value.bool (sndF v f)))])) (R (SV.agg [(SV.v (Value.int IntKind.i64 (sndV v))), (SV.v (Value.bool (sndF v f)))]))) := by kernel_rfl
theorem vcWrap (v : Int) (f : Bool) (R : SV → Prop) : (vcPure Try.prog ΓC noΛ Try.f156 [numS v f] R) =

(sel (decide (Int.tmod (sndV v) 26986075409 > 13493037704)) (R (SV.agg [(SV.v (Value.int IntKind.i64 (IntKind.wrap IntKind.i64 (Int.tmod (sndV v) 26986075409 - 26986075409)))), (SV.v (Value.bool (sndF v f)))])) 
(sel (decide (Int.tmod (sndV v) 26986075409 < -13493037704)) (R (SV.agg [(SV.v (Value.int IntKind.i64 (IntKind.wrap IntKind.i64 (Int.tmod (sndV v) 26986075409 + 26986075409)))), (SV.v (Value.bool (sndF v f)))])) (R (SV.agg [(SV.v (Value.int IntKind.i64 (Int.tmod (sndV v) 26986075409))), (SV.v (Value.bool (sndF v f)))])))) := by kernel_rfl
theorem vcRMul (v : Int) (f : Bool) (u : Int) (g : Bool) (R : SV → Prop) : (vcPure Try.prog ΓC noΛ Try.f112 [numS v f, numS u g] R) =
(((I64 (sndV v)) ∧ (I64 (sndV u))) ∧ (((U64 (iabs (sndV v) * iabs (sndV u) % 18446744073709551616)) ∧ (U64 (iabs (sndV v) * iabs (sndV u) / 18446744073709551616))) ∧ 
(sel (sndF v f) (((U64 (MM (iabs (sndV v) * iabs (sndV u) % 18446744073709551616) (iabs (sndV v) * iabs (sndV u) / 18446744073709551616) / 4294967296 % 18446744073709551616)) ∧ (U64 (MM (iabs (sndV v) * iabs (sndV u) % 18446744073709551616) (iabs (sndV v) * iabs (sndV u) / 18446744073709551616) / 4294967296 / 18446744073709551616))) ∧ (R (SV.agg [(SV.v (Value.int IntKind.i64 (fitV (!decide (sndV v < 0) == decide (sndV u < 0) && sndV v != 0 && sndV u != 0) (MM (MM (iabs (sndV v) * iabs (sndV u) % 18446744073709551616) (iabs (sndV v) * iabs (sndV u) / 18446744073709551616) / 4294967296 % 18446744073709551616) (MM (iabs (sndV v) * iabs (sndV u) % 18446744073709551616) (iabs (sndV v) * iabs (sndV u) / 18446744073709551616) / 4294967296 / 18446744073709551616))))), (SV.v (Value.bool (fitF (MM (MM (iabs (sndV v) * iabs (sndV u) % 18446744073709551616) (iabs (sndV v) * iabs (sndV u) / 18446744073709551616) / 4294967296 % 18446744073709551616) (MM (iabs (sndV v) * iabs (sndV u) % 18446744073709551616) (iabs (sndV v) * iabs (sndV u) / 18446744073709551616) / 4294967296 / 18446744073709551616)) true)))]))) (((U64 (MM (iabs (sndV v) * iabs (sndV u) % 18446744073709551616) (iabs (sndV v) * iabs (sndV u) / 18446744073709551616) / 4294967296 % 18446744073709551616)) ∧ (U64 (MM (iabs (sndV v) * iabs (sndV u) % 18446744073709551616) (iabs (sndV v) * iabs (sndV u) / 18446744073709551616) / 4294967296 / 18446744073709551616))) ∧ (R (SV.agg [(SV.v (Value.int IntKind.i64 (fitV (!decide (sndV v < 0) == decide (sndV u < 0) && sndV v != 0 && sndV u != 0) (MM (MM (iabs (sndV v) * iabs (sndV u) % 18446744073709551616) (iabs (sndV v) * iabs (sndV u) / 18446744073709551616) / 4294967296 % 18446744073709551616) (MM (iabs (sndV v) * iabs (sndV u) % 18446744073709551616) (iabs (sndV v) * iabs (sndV u) / 18446744073709551616) / 4294967296 / 18446744073709551616))))), (SV.v (Value.bool (fitF (MM (MM (iabs (sndV v) * iabs (sndV u) % 18446744073709551616) (iabs (sndV v) * iabs (sndV u) / 18446744073709551616) / 4294967296 % 18446744073709551616) (MM (iabs (sndV v) * iabs (sndV u) % 18446744073709551616) (iabs (sndV v) * iabs (sndV u) / 18446744073709551616) / 4294967296 / 18446744073709551616)) (sndF u g))))])))))) := by kernel_rfl
theorem iabs_neg {a : Int} (h : a < 0) : iabs a = -a := by unfold iabs; rw [if_pos h]
theorem iabs_pos {a : Int} (h : ¬ a < 0) : iabs a = a := by unfold iabs; rw [if_neg h]
/-- The value of a product of two integers. -/
theorem sgn_mul (a b : Int) : sv (!(decide (a < 0) == decide (b < 0))) (iabs a * iabs b) = a * b := by
  unfold sv
  by_cases ha : a < 0 <;> by_cases hb : b < 0
  · rw [iabs_neg ha, iabs_neg hb]; simp [ha, hb, Int.neg_mul_neg]
  · rw [iabs_neg ha, iabs_pos hb]; simp [ha, hb, Int.neg_mul]
  · rw [iabs_pos ha, iabs_neg hb]; simp [ha, hb, Int.mul_neg]
  · rw [iabs_pos ha, iabs_pos hb]; simp [ha, hb]
theorem sgn_mul' (a b : Int) : sv (!(decide (a < 0) == decide (b < 0)) && a != 0 && b != 0) (iabs a * iabs b) = a * b := by
  by_cases ha : a = 0
  · subst ha; simp [sv, iabs]
  · by_cases hb : b = 0
    · subst hb; simp [sv, iabs]
    · rw [bne_iff_ne.2 ha, bne_iff_ne.2 hb, Bool.and_true, Bool.and_true, sgn_mul]
theorem sv_tdiv (n : Bool) {m k : Int} (h : 0 ≤ m) : sv n (m / k) = Int.tdiv (sv n m) k := by
  unfold sv
  cases n with
  | false => simp [Int.tdiv_eq_ediv_of_nonneg h]
  | true => simp [Int.neg_tdiv, Int.tdiv_eq_ediv_of_nonneg h]
theorem iabs_mul_lt {a b : Int} (ha : I64 a) (hb : I64 b) : iabs a * iabs b ≤ 85070591730234615865843651857942052864 := by
  have h1 := iabs_le ha
  have h2 := iabs_le hb
  have := Int.mul_le_mul h1 h2 (iabs_nonneg b) (by decide)
  simpa using this
theorem sndV_neg {v : Int} (h : I64 v) : IntKind.i64.wrap (0 - sndV v) = - sndV v := by
  have := sndV_in h
  rw [wrap_i64 ⟨by omega, by omega⟩]; omega
theorem sv_inj {n n' : Bool} {m m' : Int} (h0 : 0 ≤ m) (h0' : 0 ≤ m') (hz : m = 0 → n = false) (hz' : m' = 0 → n' = false) : sv n m = sv n' m' ↔ n = n' ∧ m = m' := by
  unfold sv
  cases n <;> cases n' <;> simp at * <;> omega
theorem words_eq {m m' : Int} : (m / 18446744073709551616 = m' / 18446744073709551616 ∧ m % 18446744073709551616 = m' % 18446744073709551616) ↔ m = m' := by omega
theorem sgn_zero {a b : Int} (h : iabs a * iabs b = 0) : (!(decide (a < 0) == decide (b < 0)) && a != 0 && b != 0) = false := by
  rcases Int.mul_eq_zero.1 h with h | h
  · have : a = 0 := by unfold iabs at h; split at h <;> omega
    simp [this]
  · have : b = 0 := by unfold iabs at h; split at h <;> omega
    simp [this]
/-- The lowest bit. -/
theorem i64_and1 (n : Int) : bits .and .i64 n 1 = n % 2 := by
  have h1 : (BitVec.ofInt 64 1).toNat = 2 ^ 1 - 1 := by decide
  have key : (BitVec.ofInt 64 n &&& BitVec.ofInt 64 1).toNat = (n % ((2 ^ 64 : Nat) : Int)).toNat % 2 := by
    rw [BitVec.toNat_and, BitVec.toNat_ofInt, h1, Nat.and_two_pow_sub_one_eq_mod]
  show IntKind.i64.wrap ((BitVec.ofInt 64 n &&& BitVec.ofInt 64 1).toNat : Nat) = n % 2
  rw [key, wrap_i64 ⟨by omega, by omega⟩]
  omega
theorem Of2_spec : PureSpec Try.prog 86 sOfN := vc_spec hm ΓC_ok Try.func86 (Λ := fun _ => noΛ) fun args p x h hp => by
  unfold sOfN at h
  split at h <;> try (cases h; done)
  cases h
  refine ⟨rfl, rfl, ?_⟩
  rw [vcOf2]; rfl
theorem ROf_spec : PureSpec Try.prog 83 sOfN := vc_spec hm ΓC_ok Try.func83 (Λ := fun _ => noΛ) fun args p x h hp => by
  unfold sOfN at h
  split at h <;> try (cases h; done)
  cases h
  refine ⟨rfl, rfl, ?_⟩
  rw [vcROf]; rfl
theorem MM_0 (lo : Int) : MM lo 0 = lo := by unfold MM; omega
theorem sv_of (v : Int) : sv (decide (v < 0)) (iabs v) = v := by
  unfold sv
  by_cases h : v < 0
  · rw [iabs_neg h]; simp [h]
  · rw [iabs_pos h]; simp [h]
theorem sv_scale (n : Bool) (m k : Int) : sv n (m * k) = sv n m * k := by unfold sv; cases n <;> simp [Int.neg_mul]
theorem u64_0 : U64 0 := ⟨by decide, by decide⟩
theorem Int_spec : PureSpec Try.prog 85 sInt := vc_spec hm ΓC_ok Try.func85 (Λ := fun _ => noΛ) fun args p x h hp => by
  unfold sInt at h
  split at h <;> try (cases h; done)
  cases h
  have h1 := hp _ rfl
  have h2 := iabs_le h1
  have h3 := iabs_nonneg ‹Int›
  refine ⟨rfl, rfl, ?_⟩
  rw [vcInt]
  simp only [MM_0, MM_split]
  refine ⟨h1, ⟨iabs_u64 h1, u64_0, by omega⟩, ⟨mod_u64 _, div_u64 (by omega) (by omega)⟩, num_mk ?_ ?_⟩
  · rw [fitV_E _ (by omega), sv_scale, sv_of]
  · rw [fitF_G (decide (‹Int› < 0)) _ (by omega), sv_scale, sv_of]
theorem RInt_spec : PureSpec Try.prog 91 sInt := vc_spec hm ΓC_ok Try.func91 (Λ := fun _ => noΛ) fun args p x h hp => by
  unfold sInt at h
  split at h <;> try (cases h; done)
  cases h
  have h1 := hp _ rfl
  have h2 := iabs_le h1
  have h3 := iabs_nonneg ‹Int›
  refine ⟨rfl, rfl, ?_⟩
  rw [vcRInt]
  simp only [MM_0, MM_split]
  refine ⟨h1, ⟨iabs_u64 h1, u64_0, by omega⟩, ⟨mod_u64 _, div_u64 (by omega) (by omega)⟩, num_mk ?_ ?_⟩
  · rw [fitV_E _ (by omega), sv_scale, sv_of]
  · rw [fitF_G (decide (‹Int› < 0)) _ (by omega), sv_scale, sv_of]
theorem Neg_spec : PureSpec Try.prog 100 sNeg := vc_spec hm ΓC_ok Try.func100 (Λ := fun _ => noΛ) fun args p x h hp => by
  unfold sNeg at h
  split at h <;> try (cases h; done)
  cases h
  have h1 := hp _ rfl
  refine ⟨rfl, rfl, ?_⟩
  rw [show ∀ v f, SV.agg [.v (.int .i64 v), .v (.bool f)] = numS v f from fun _ _ => rfl, vcNeg, sndV_neg h1]
  rfl
theorem RNeg_spec : PureSpec Try.prog 102 sNeg := vc_spec hm ΓC_ok Try.func102 (Λ := fun _ => noΛ) fun args p x h hp => by
  unfold sNeg at h
  split at h <;> try (cases h; done)
  cases h
  have h1 := hp _ rfl
  refine ⟨rfl, rfl, ?_⟩
  rw [show ∀ v f, SV.agg [.v (.int .i64 v), .v (.bool f)] = numS v f from fun _ _ => rfl, vcRNeg, sndV_neg h1]
  rfl
theorem RAbs_spec : PureSpec Try.prog 82 sAbs := vc_spec hm ΓC_ok Try.func82 (Λ := fun _ => noΛ) fun args p x h hp => by
  unfold sAbs at h
  split at h <;> try (cases h; done)
  cases h
  have h1 := hp _ rfl
  refine ⟨rfl, rfl, ?_⟩
  rw [show ∀ v f, SV.agg [.v (.int .i64 v), .v (.bool f)] = numS v f from fun _ _ => rfl, vcRAbs, sndV_neg h1]
  refine sel_of (fun g => num_mk ?_ rfl) fun g => num_mk ?_ rfl
  · rw [iabs_neg (of_decide_eq_true g)]
  · rw [iabs_pos (of_decide_eq_false g)]
theorem tmod_in (v : Int) : -26986075409 < Int.tmod v 26986075409 ∧ Int.tmod v 26986075409 < 26986075409 := by
  have h1 := Int.tmod_lt_of_pos v (show (0 : Int) < 26986075409 by decide)
  have h2 := Int.tmod_lt_of_pos (-v) (show (0 : Int) < 26986075409 by decide)
  rw [Int.neg_tmod] at h2
  omega
theorem Wrap_spec : PureSpec Try.prog 156 sWrap := vc_spec hm ΓC_ok Try.func156 (Λ := fun _ => noΛ) fun args p x h hp => by
  unfold sWrap at h
  split at h <;> try (cases h; done)
  rename_i v f
  cases h
  refine ⟨rfl, rfl, ?_⟩
  rw [show ∀ v f, SV.agg [.v (.int .i64 v), .v (.bool f)] = numS v f from fun _ _ => rfl, vcWrap]
  have ht := tmod_in (sndV v)
  unfold wrapT
  generalize Int.tmod (sndV v) 26986075409 = r at ht ⊢
  refine sel_of (fun h => num_mk ?_ rfl) fun h => sel_of (fun h' => num_mk ?_ rfl) fun h' => num_mk ?_ rfl
  · have h := of_decide_eq_true h
    rw [if_pos h, wrap_i64 ⟨by omega, by omega⟩]
  · have h := of_decide_eq_false h
    have h' := of_decide_eq_true h'
    rw [if_neg h, if_pos h', wrap_i64 ⟨by omega, by omega⟩]
  · rw [if_neg (of_decide_eq_false h), if_neg (of_decide_eq_false h')]
theorem RMul_spec : PureSpec Try.prog 112 sMul := vc_spec hm ΓC_ok Try.func112 (Λ := fun _ => noΛ) fun args p x h hp => by
  unfold sMul at h
  split at h <;> try (cases h; done)
  rename_i v f u g
  cases h
  obtain ⟨h1, h2⟩ := hp _ rfl
  have h1 := sndV_i64 h1
  have h2 := sndV_i64 h2
  refine ⟨rfl, rfl, ?_⟩
  rw [show SV.agg [.v (.int .i64 v), .v (.bool f)] = numS v f from rfl, show SV.agg [.v (.int .i64 u), .v (.bool g)] = numS u g from rfl, vcRMul]
  simp only [MM_split]
  have l1 := iabs_mul_lt h1 h2
  have n1 := iabs_mul (a := sndV v) (b := sndV u)
  have s1 := sgn_mul' (sndV v) (sndV u)
  generalize iabs (sndV v) * iabs (sndV u) = m at *
  generalize (!(decide (sndV v < 0) == decide (sndV u < 0)) && sndV v != 0 && sndV u != 0) = n at *
  have e : sv n (m / 4294967296) = mulE (sndV v) (sndV u) := by rw [sv_tdiv n n1, s1]; rfl
  refine ⟨⟨h1, h2⟩, ⟨mod_u64 _, div_u64 n1 (by omega)⟩, sel_of (fun hf => ⟨⟨mod_u64 _, div_u64 (by omega) (by omega)⟩, num_mk ?_ ?_⟩) fun hf => ⟨⟨mod_u64 _, div_u64 (by omega) (by omega)⟩, num_mk ?_ ?_⟩⟩
  · rw [fitV_E _ (by omega), e]
  · rw [fitF_G n _ (by omega), e, hf, Bool.true_or]
  · rw [fitV_E _ (by omega), e]
  · rw [fitF_G n _ (by omega), e, hf, Bool.false_or]
end Go.Proofs.Ytheljpebapokjaa
