/-
  Contracts: small quotients; the law's own wakefulness; FixedWhole.
-/
import Derived.Test.YtnnmfonapfhcaaaFxD
import Derived.Test.YtnnmfonapfhcaaaFxV
set_option maxRecDepth 100000
namespace Go.Proofs.Ytnnmfonapfhcaaa
open Go.SE Go.RowKit

def sDiv0 : List SV → Option (Option Prop × SV)
  | [.v (.int .u64 hi), .v (.int .u64 lo), .v (.int .u64 y)] => some (some (hi = 0 ∧ 0 < y ∧ U64 lo ∧ U64 y), .tup [.v (.int .u64 (lo / y)), .v (.int .u64 (lo % y))])
  | _ => none
def ratE (a b : Int) : Int := Int.tdiv (a * 4294967296) b
def sRatio0 : List SV → Option (Option Prop × SV)
  | [.v (.int .i64 a), .v (.int .i64 b)] => some (some (I64 a ∧ I64 b ∧ b ≠ 0 ∧ iabs a < 4294967296), numS (fitE (ratE a b)) (fitG (ratE a b) false))
  | _ => none
def sAwake : List SV → Option (Option Prop × SV)
  | [] => some (none, .v (.bool true))
  | _ => none
def sWholeLaw : List SV → Option (Option Prop × SV)
  | [.agg [.v (.int .i64 v), .v (.bool _)], .v (.int .i64 a), .v (.int .i64 b), .v (.int .i64 c), .v (.int .i64 d)] => some (some (I64 v ∧ (I64 a ∧ I64 b) ∧ I64 c ∧ I64 d), .v (.bool true))
  | _ => none
def ΓD : Ctrs := addCtr (addCtr (addCtr (addCtr (addCtr (addCtr (addCtr (addCtr ΓU 21 (pureCtr sOrder)) 22 (pureCtr sOrder)) 17 (pureCtr sFloor)) 18 (pureCtr sFloor)) 19 (pureCtr sRound)) 20 (pureCtr sRound)) 38 (pureCtr sInt)) 44 (pureCtr sInt)
def ΓW0 : Ctrs := addCtr ΓC 91 (pureCtr sDiv0)
def ΓW1 : Ctrs := addCtr (addCtr ΓD 45 (pureCtr sRatio0)) 62 (pureCtr sText)
def ΓW2 : Ctrs := addCtr ΓW1 23 (pureCtr sAwake)
theorem vcDiv0 (hi lo y : Int) (R : SV → Prop) : (vcPure Try.prog noCtrs noΛ Try.f91 [.v (.int .u64 hi), .v (.int .u64 lo), .v (.int .u64 y)] R) =

(sel (y == 0) False 
(sel (decide (y ≤ hi)) False 
(sel (hi == 0) (((y : Int) ≠ 0) ∧ (((y : Int) ≠ 0) ∧ (R (SV.tup [(SV.v (Value.int IntKind.u64 (IntKind.wrap IntKind.u64 (Int.tdiv lo y)))), (SV.v (Value.int IntKind.u64 (Int.tmod lo y)))])))) False))) := by kernel_rfl
theorem vcRatio0 (a b : Int) (R : SV → Prop) : (vcPure Try.prog ΓW0 noΛ Try.f45 [.v (.int .i64 a), .v (.int .i64 b)] R) =

(sel (b == 0) (R (SV.agg [(SV.v (Value.int IntKind.i64 (IntKind.wrap IntKind.i64 (cmpI a 0 * 9223372036854775807)))), (SV.v (Value.bool true))])) ((I64 a) ∧ (((U64 (iabs a)) ∧ ((U64 0) ∧ (((MM (iabs a) 0) : Int) < 79228162514264337593543950336))) ∧ ((I64 b) ∧ ((((iabs b) : Int) ≠ 0) ∧ ((((iabs b) : Int) ≠ 0) ∧ (((((Int.tmod (MM (iabs a) 0 * 4294967296 / 18446744073709551616) (iabs b)) : Int) = 0) ∧ (((0 : Int) < (iabs b)) ∧ ((U64 (MM (iabs a) 0 * 4294967296 % 18446744073709551616)) ∧ (U64 (iabs b))))) ∧ (((U64 (MM (iabs a) 0 * 4294967296 % 18446744073709551616 / iabs b)) ∧ (U64 (IntKind.wrap IntKind.u64 (Int.tdiv (MM (iabs a) 0 * 4294967296 / 18446744073709551616) (iabs b))))) ∧ (R (SV.agg [(SV.v (Value.int IntKind.i64 (fitV (!decide (a < 0) == decide (b < 0)) (MM (MM (iabs a) 0 * 4294967296 % 18446744073709551616 / iabs b) (IntKind.wrap IntKind.u64 (Int.tdiv (MM (iabs a) 0 * 4294967296 / 18446744073709551616) (iabs b))))))), (SV.v (Value.bool (fitF (MM (MM (iabs a) 0 * 4294967296 % 18446744073709551616 / iabs b) (IntKind.wrap IntKind.u64 (Int.tdiv (MM (iabs a) 0 * 4294967296 / 18446744073709551616) (iabs b)))) false)))])))))))))) := by kernel_rfl
theorem vcAwake (R : SV → Prop) : (vcPure Try.prog ΓW1 noΛ Try.f23 [] R) =
((I64 3) ∧ (((I64 (-1)) ∧ ((I64 2) ∧ (((2 : Int) ≠ 0) ∧ ((1 : Int) < 4294967296)))) ∧ ((I64 (-2147483648)) ∧ ((((I64 (-2)) ∧ (I64 3)) ∧ ((I64 1) ∧ (I64 1))) ∧ (R (SV.v (Value.bool true))))))) := by kernel_rfl
theorem vcWholeLaw (v : Int) (f : Bool) (a b c d : Int) (R : SV → Prop) : (vcPure Try.prog ΓW2 noΛ Try.f3 [numS v f, .v (.int .i64 a), .v (.int .i64 b), .v (.int .i64 c), .v (.int .i64 d)] R) =

(sel (sndV v / 4294967296 == sndV v / 4294967296) ((I64 v) ∧ ((I64 v) ∧ 
(sel ((sndV v + 2147483648) / 4294967296 == (sndV v + 2147483648) / 4294967296) ((((I64 a) ∧ (I64 b)) ∧ ((I64 c) ∧ (I64 d))) ∧ ((((I64 a) ∧ (I64 b)) ∧ ((I64 c) ∧ (I64 d))) ∧ 
(sel (cmpI (a * b) (c * d) == cmpI (a * b) (c * d)) (R (SV.v (Value.bool true))) (R (SV.v (Value.bool false)))))) (R (SV.v (Value.bool false)))))) (R (SV.v (Value.bool false)))) := by kernel_rfl
theorem ΓD_ok : ∀ f g, ΓD f = some g → g.ok Try.prog f := addCtr_ok (addCtr_ok (addCtr_ok (addCtr_ok (addCtr_ok (addCtr_ok (addCtr_ok (addCtr_ok ΓU_ok
  (pure_ok Try.func21 (by kernel_rfl) (by kernel_rfl) Order_spec)) (pure_ok Try.func22 (by kernel_rfl) (by kernel_rfl) ROrder_spec)) (pure_ok Try.func17 (by kernel_rfl) (by kernel_rfl) Floor_spec))
  (pure_ok Try.func18 (by kernel_rfl) (by kernel_rfl) RFloor_spec)) (pure_ok Try.func19 (by kernel_rfl) (by kernel_rfl) Round_spec)) (pure_ok Try.func20 (by kernel_rfl) (by kernel_rfl) RRound_spec))
  (pure_ok Try.func38 (by kernel_rfl) (by kernel_rfl) Int_spec)) (pure_ok Try.func44 (by kernel_rfl) (by kernel_rfl) RInt_spec)
theorem Div0_spec : PureSpec Try.prog 91 sDiv0 := vc_spec hm noCtrs_ok Try.func91 (Λ := fun _ => noΛ) fun args p x h hp => by
  unfold sDiv0 at h
  split at h <;> try (cases h; done)
  rename_i hi lo y
  cases h
  obtain ⟨h1, h2, h3, h4⟩ := hp _ rfl
  refine ⟨rfl, rfl, ?_⟩
  refine Eq.mpr (vcDiv0 hi lo y _) ?_
  subst h1
  obtain ⟨h4, h4'⟩ := h4
  refine sel_of (fun g => ?_) fun g => ?_
  · exfalso; simp at g; omega
  refine sel_of (fun g' => ?_) fun _ => ?_
  · exfalso; simp at g'; omega
  refine ⟨by omega, by omega, ?_⟩
  have q0 : 0 ≤ lo / y := Int.ediv_nonneg h3.1 h4
  have q1 : lo / y ≤ lo := Int.ediv_le_self _ h3.1
  rw [Int.tdiv_eq_ediv_of_nonneg h3.1, Int.tmod_eq_emod_of_nonneg h3.1, u64_in ⟨q0, by have := h3.2; omega⟩]
theorem ΓW0_ok : ∀ f g, ΓW0 f = some g → g.ok Try.prog f := addCtr_ok ΓC_ok (pure_ok Try.func91 (by kernel_rfl) (by kernel_rfl) Div0_spec)
theorem ratE_sv (a b : Int) : sv (!(decide (a < 0) == decide (b < 0))) (iabs a * 4294967296 / iabs b) = ratE a b := by
  unfold ratE
  have h : 0 ≤ iabs a * 4294967296 := by have := iabs_nonneg a; omega
  rw [← Int.tdiv_eq_ediv_of_nonneg h]
  unfold sv
  by_cases ha : a < 0 <;> by_cases hb : b < 0
  · rw [iabs_neg ha, iabs_neg hb]; simp [ha, hb, Int.neg_tdiv, Int.tdiv_neg, Int.neg_mul]
  · rw [iabs_neg ha, iabs_pos hb]; simp [ha, hb, Int.neg_tdiv, Int.neg_mul]
  · rw [iabs_pos ha, iabs_neg hb]; simp [ha, hb, Int.tdiv_neg]
  · rw [iabs_pos ha, iabs_pos hb]; simp [ha, hb]
theorem Ratio0_spec : PureSpec Try.prog 45 sRatio0 := vc_spec hm ΓW0_ok Try.func45 (Λ := fun _ => noΛ) fun args p x h hp => by
  unfold sRatio0 at h
  split at h <;> try (cases h; done)
  rename_i a b
  cases h
  obtain ⟨h1, h2, h3, h4⟩ := hp _ rfl
  refine ⟨rfl, rfl, ?_⟩
  refine Eq.mpr (vcRatio0 a b _) ?_
  refine sel_of (fun g => ?_) fun g => ?_
  · exfalso; simp at g; omega
  have ua := iabs_u64 h1
  have ub := iabs_u64 h2
  have hb : 0 < iabs b := by unfold iabs; split <;> omega
  have hs := ratE_sv a b
  rw [MM_0]
  obtain ⟨ua0, ua1⟩ := ua
  have e1 : iabs a * 4294967296 / 18446744073709551616 = 0 := by omega
  have e2 : iabs a * 4294967296 % 18446744073709551616 = iabs a * 4294967296 := by omega
  rw [e1, e2]
  have e3 : Int.tdiv 0 (iabs b) = 0 := Int.zero_tdiv _
  have e4 : Int.tmod 0 (iabs b) = 0 := Int.zero_tmod _
  rw [e3, e4]
  have e5 : IntKind.u64.wrap 0 = 0 := rfl
  rw [e5, MM_0]
  have q0 : 0 ≤ iabs a * 4294967296 / iabs b := Int.ediv_nonneg (by omega) ub.1
  have q1 : iabs a * 4294967296 / iabs b ≤ iabs a * 4294967296 := Int.ediv_le_self _ (by omega)
  refine ⟨h1, ⟨⟨ua0, ua1⟩, ⟨by omega, by omega⟩, by omega⟩, h2, by omega, by omega, ⟨rfl, hb, ⟨by omega, by omega⟩, ub⟩, ⟨⟨q0, by omega⟩, ⟨by omega, by omega⟩⟩, ?_⟩
  rw [fitV_E _ q0, fitF_G (!(decide (a < 0) == decide (b < 0))) _ q0]
  have e6 : (!decide (a < 0) == decide (b < 0)) = (!(decide (a < 0) == decide (b < 0))) := by cases decide (a < 0) <;> cases decide (b < 0) <;> rfl
  rw [e6, hs]; rfl
theorem ΓW1_ok : ∀ f g, ΓW1 f = some g → g.ok Try.prog f := addCtr_ok (addCtr_ok ΓD_ok (pure_ok Try.func45 (by kernel_rfl) (by kernel_rfl) Ratio0_spec)) (pure_ok Try.func62 (by kernel_rfl) (by kernel_rfl) Text_spec)
theorem Awake_spec : PureSpec Try.prog 23 sAwake := vc_spec hm ΓW1_ok Try.func23 (Λ := fun _ => noΛ) fun args p x h hp => by
  unfold sAwake at h
  split at h <;> try (cases h; done)
  cases h
  refine ⟨rfl, rfl, ?_⟩
  refine Eq.mpr (vcAwake _) ?_
  refine ⟨⟨by decide, by decide⟩, ⟨⟨by decide, by decide⟩, ⟨by decide, by decide⟩, by decide, by decide⟩, ⟨by decide, by decide⟩, ⟨⟨⟨by decide, by decide⟩, ⟨by decide, by decide⟩⟩, ⟨by decide, by decide⟩, ⟨by decide, by decide⟩⟩, rfl⟩
theorem ΓW2_ok : ∀ f g, ΓW2 f = some g → g.ok Try.prog f := addCtr_ok ΓW1_ok (pure_ok Try.func23 (by kernel_rfl) (by kernel_rfl) Awake_spec)
theorem WholeLaw_spec : PureSpec Try.prog 3 sWholeLaw := vc_spec hm ΓW2_ok Try.func3 (Λ := fun _ => noΛ) fun args p x h hp => by
  unfold sWholeLaw at h
  split at h <;> try (cases h; done)
  rename_i v f a b c d
  cases h
  obtain ⟨h1, h2⟩ := hp _ rfl
  refine ⟨rfl, rfl, ?_⟩
  refine Eq.mpr (vcWholeLaw v f a b c d _) ?_
  rw [beq_self_eq_true, beq_self_eq_true, beq_self_eq_true]
  exact ⟨h1, h1, h2, h2, rfl⟩
end Go.Proofs.Ytnnmfonapfhcaaa
