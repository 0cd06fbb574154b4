/-
  Contracts: sums and differences of two; a clamped number; the context of the laws.
-/
import Derived.Test.YtheljpebapokjaaFxZ
set_option maxRecDepth 100000
namespace Go.Proofs.Ytheljpebapokjaa
open Go.SE Go.RowKit

def sAdd : List SV → Option (Option Prop × SV)
  | [.agg [.v (.int .i64 v), .v (.bool f)], .agg [.v (.int .i64 u), .v (.bool g)]] => some (some (I64 v ∧ I64 u), numS (fitE (sndV v + sndV u)) (fitG (sndV v + sndV u) (sndF v f || sndF u g)))
  | _ => none
def sSub : List SV → Option (Option Prop × SV)
  | [.agg [.v (.int .i64 v), .v (.bool f)], .agg [.v (.int .i64 u), .v (.bool g)]] => some (some (I64 v ∧ I64 u), numS (fitE (sndV v - sndV u)) (fitG (sndV v - sndV u) (sndF v f || sndF u g)))
  | _ => none
def minE (a b : Int) : Int := if b < a then b else a
def maxE (a b : Int) : Int := if a < b then b else a
def sClamp : List SV → Option (Option Prop × SV)
  | [.agg [.v (.int .i64 v), .v (.bool f)], .agg [.v (.int .i64 l), .v (.bool g)], .agg [.v (.int .i64 h), .v (.bool k)]] => some (some (I64 v ∧ I64 l ∧ I64 h), numS (maxE (sndV l) (minE (sndV v) (sndV h))) (sndF l g || (sndF v f || sndF h k)))
  | _ => none
def ΓF0 : Ctrs := addCtr (addCtr (addCtr (addCtr (addCtr (addCtr ΓC 103 (roCtr sSum)) 107 (roCtr sSum)) 167 (roCtr (sMinMax 1))) 166 (roCtr (sMinMax (-1)))) 100 (pureCtr sNeg)) 102 (pureCtr sNeg)
theorem vcAdd (v : Int) (f : Bool) (u : Int) (g : Bool) (R : SV → Prop) : (vcPure Try.prog ΓF0 noΛ Try.f155 [numS v f, numS u g] R) =
((((isNI [SV.v (Value.int IntKind.i64 v), SV.v (Value.bool f)]) ∧ ((isNI [SV.v (Value.int IntKind.i64 u), SV.v (Value.bool g)]) ∧ True)) ∧ (((2 : Nat) = 2) ∧ ((2 : Nat) < 1099511627776))) ∧ (R (SV.agg [(SV.v (Value.int IntKind.i64 (fitE (sumG [[SV.v (Value.int IntKind.i64 v), SV.v (Value.bool f)], [SV.v (Value.int IntKind.i64 u), SV.v (Value.bool g)]])))), (SV.v (Value.bool (fitG (sumG [[SV.v (Value.int IntKind.i64 v), SV.v (Value.bool f)], [SV.v (Value.int IntKind.i64 u), SV.v (Value.bool g)]]) (anyG [[SV.v (Value.int IntKind.i64 v), SV.v (Value.bool f)], [SV.v (Value.int IntKind.i64 u), SV.v (Value.bool g)]]))))]))) := by kernel_rfl
theorem vcSub (v : Int) (f : Bool) (u : Int) (g : Bool) (R : SV → Prop) : (vcPure Try.prog ΓF0 noΛ Try.f104 [numS v f, numS u g] R) =
((I64 u) ∧ ((((isNI [SV.v (Value.int IntKind.i64 v), SV.v (Value.bool f)]) ∧ ((isNI [SV.v (Value.int IntKind.i64 (-sndV u)), SV.v (Value.bool (sndF u g))]) ∧ True)) ∧ (((2 : Nat) = 2) ∧ ((2 : Nat) < 1099511627776))) ∧ (R (SV.agg [(SV.v (Value.int IntKind.i64 (fitE (sumG [[SV.v (Value.int IntKind.i64 v), SV.v (Value.bool f)], [SV.v (Value.int IntKind.i64 (-sndV u)), SV.v (Value.bool (sndF u g))]])))), (SV.v (Value.bool (fitG (sumG [[SV.v (Value.int IntKind.i64 v), SV.v (Value.bool f)], [SV.v (Value.int IntKind.i64 (-sndV u)), SV.v (Value.bool (sndF u g))]]) (anyG [[SV.v (Value.int IntKind.i64 v), SV.v (Value.bool f)], [SV.v (Value.int IntKind.i64 (-sndV u)), SV.v (Value.bool (sndF u g))]]))))])))) := by kernel_rfl
theorem vcRSub (v : Int) (f : Bool) (u : Int) (g : Bool) (R : SV → Prop) : (vcPure Try.prog ΓF0 noΛ Try.f111 [numS v f, numS u g] R) =
((I64 u) ∧ ((((isNI [SV.v (Value.int IntKind.i64 v), SV.v (Value.bool f)]) ∧ ((isNI [SV.v (Value.int IntKind.i64 (-sndV u)), SV.v (Value.bool (sndF u g))]) ∧ True)) ∧ (((2 : Nat) = 2) ∧ ((2 : Nat) < 1099511627776))) ∧ (R (SV.agg [(SV.v (Value.int IntKind.i64 (fitE (sumG [[SV.v (Value.int IntKind.i64 v), SV.v (Value.bool f)], [SV.v (Value.int IntKind.i64 (-sndV u)), SV.v (Value.bool (sndF u g))]])))), (SV.v (Value.bool (fitG (sumG [[SV.v (Value.int IntKind.i64 v), SV.v (Value.bool f)], [SV.v (Value.int IntKind.i64 (-sndV u)), SV.v (Value.bool (sndF u g))]]) (anyG [[SV.v (Value.int IntKind.i64 v), SV.v (Value.bool f)], [SV.v (Value.int IntKind.i64 (-sndV u)), SV.v (Value.bool (sndF u g))]]))))])))) := by kernel_rfl
theorem vcClamp (v : Int) (f : Bool) (u : Int) (g : Bool) (h : Int) (k : Bool) (R : SV → Prop) : (vcPure Try.prog ΓF0 noΛ Try.f157 [numS v f, numS u g, numS h k] R) =
((((isN [SV.v (Value.int IntKind.i64 v), SV.v (Value.bool f)]) ∧ ((isN [SV.v (Value.int IntKind.i64 h), SV.v (Value.bool k)]) ∧ True)) ∧ (((2 : Nat) = 2) ∧ ((2 : Nat) < 1099511627776))) ∧ ((((isN [SV.v (Value.int IntKind.i64 u), SV.v (Value.bool g)]) ∧ ((isN [SV.v (Value.int IntKind.i64 (mostV 1 [[SV.v (Value.int IntKind.i64 v), SV.v (Value.bool f)], [SV.v (Value.int IntKind.i64 h), SV.v (Value.bool k)]])), SV.v (Value.bool (anyG [[SV.v (Value.int IntKind.i64 v), SV.v (Value.bool f)], [SV.v (Value.int IntKind.i64 h), SV.v (Value.bool k)]]))]) ∧ True)) ∧ (((2 : Nat) = 2) ∧ ((2 : Nat) < 1099511627776))) ∧ (R (SV.agg [(SV.v (Value.int IntKind.i64 (mostV (-1) [[SV.v (Value.int IntKind.i64 u), SV.v (Value.bool g)], [SV.v (Value.int IntKind.i64 (mostV 1 [[SV.v (Value.int IntKind.i64 v), SV.v (Value.bool f)], [SV.v (Value.int IntKind.i64 h), SV.v (Value.bool k)]])), SV.v (Value.bool (anyG [[SV.v (Value.int IntKind.i64 v), SV.v (Value.bool f)], [SV.v (Value.int IntKind.i64 h), SV.v (Value.bool k)]]))]]))), (SV.v (Value.bool (anyG [[SV.v (Value.int IntKind.i64 u), SV.v (Value.bool g)], [SV.v (Value.int IntKind.i64 (mostV 1 [[SV.v (Value.int IntKind.i64 v), SV.v (Value.bool f)], [SV.v (Value.int IntKind.i64 h), SV.v (Value.bool k)]])), SV.v (Value.bool (anyG [[SV.v (Value.int IntKind.i64 v), SV.v (Value.bool f)], [SV.v (Value.int IntKind.i64 h), SV.v (Value.bool k)]]))]])))])))) := by kernel_rfl
theorem ΓF0_ok : ∀ f g, ΓF0 f = some g → g.ok Try.prog f := addCtr_ok (addCtr_ok (addCtr_ok (addCtr_ok (addCtr_ok (addCtr_ok ΓC_ok (ro_ok Try.func103 (by kernel_rfl) (by kernel_rfl) Sum_spec)) (ro_ok Try.func107 (by kernel_rfl) (by kernel_rfl) RSum_spec)) (ro_ok Try.func167 (by kernel_rfl) (by kernel_rfl) Min_spec)) (ro_ok Try.func166 (by kernel_rfl) (by kernel_rfl) Max_spec)) (pure_ok Try.func100 (by kernel_rfl) (by kernel_rfl) Neg_spec)) (pure_ok Try.func102 (by kernel_rfl) (by kernel_rfl) RNeg_spec)
theorem sum2 (v u : Int) (f g : Bool) : sumG [[SV.v (Value.int .i64 v), SV.v (Value.bool f)], [SV.v (Value.int .i64 u), SV.v (Value.bool g)]] = sndV v + sndV u := by simp [sumG, rowV]
theorem any2 (v u : Int) (f g : Bool) : anyG [[SV.v (Value.int .i64 v), SV.v (Value.bool f)], [SV.v (Value.int .i64 u), SV.v (Value.bool g)]] = (sndF v f || sndF u g) := by simp [anyG, rowV, rowF]
theorem most2 (o v u : Int) (f g : Bool) : mostV o [[SV.v (Value.int .i64 v), SV.v (Value.bool f)], [SV.v (Value.int .i64 u), SV.v (Value.bool g)]] = if cmpI (sndV u) (sndV v) * o < 0 then sndV u else sndV v := rfl
theorem minE_2 (a b : Int) : (if cmpI b a * 1 < 0 then b else a) = minE a b := by unfold minE; simp only [cmpI_1]
theorem maxE_2 (a b : Int) : (if cmpI b a * -1 < 0 then b else a) = maxE a b := by unfold maxE; simp only [cmpI_m1]
theorem sndV_n {v : Int} (h : I64 v) : sndV (-sndV v) = -sndV v ∧ I64 (-sndV v) := by
  have := sndV_in h
  exact ⟨sndV_self (by omega), by omega, by omega⟩
theorem sndF_n {v : Int} (h : I64 v) (f : Bool) : sndF (-sndV v) f = f := by
  have := sndV_in h
  exact sndF_self (by omega)
theorem snd2 {v : Int} (h : I64 v) : sndV (sndV v) = sndV v := by
  have := sndV_in h
  exact sndV_self (by omega)
theorem sndF2 {v : Int} (h : I64 v) (f : Bool) : sndF (sndV v) f = f := by
  have := sndV_in h
  exact sndF_self (by omega)
theorem minE_r {a b l h : Int} (h1 : l ≤ a ∧ a ≤ h) (h2 : l ≤ b ∧ b ≤ h) : l ≤ minE a b ∧ minE a b ≤ h := by unfold minE; split <;> omega
theorem maxE_r {a b l h : Int} (h1 : l ≤ a ∧ a ≤ h) (h2 : l ≤ b ∧ b ≤ h) : l ≤ maxE a b ∧ maxE a b ≤ h := by unfold maxE; split <;> omega
theorem Add_spec : PureSpec Try.prog 155 sAdd := vc_spec hm ΓF0_ok Try.func155 (Λ := fun _ => noΛ) fun args p x h hp => by
  unfold sAdd at h
  split at h <;> try (cases h; done)
  rename_i v f u g
  cases h
  obtain ⟨h1, h2⟩ := hp _ rfl
  refine ⟨rfl, rfl, ?_⟩
  refine Eq.mpr (vcAdd v f u g _) ?_
  rw [sum2, any2]
  exact ⟨⟨⟨h1, h2, trivial⟩, rfl, by decide⟩, rfl⟩
theorem Sub_spec : PureSpec Try.prog 104 sSub := vc_spec hm ΓF0_ok Try.func104 (Λ := fun _ => noΛ) fun args p x h hp => by
  unfold sSub at h
  split at h <;> try (cases h; done)
  rename_i v f u g
  cases h
  obtain ⟨h1, h2⟩ := hp _ rfl
  refine ⟨rfl, rfl, ?_⟩
  refine Eq.mpr (vcSub v f u g _) ?_
  rw [sum2, any2, (sndV_n h2).1, sndF_n h2]
  exact ⟨h2, ⟨⟨h1, (sndV_n h2).2, trivial⟩, rfl, by decide⟩, rfl⟩
theorem Clamp_spec : PureSpec Try.prog 157 sClamp := vc_spec hm ΓF0_ok Try.func157 (Λ := fun _ => noΛ) fun args p x h hp => by
  unfold sClamp at h
  split at h <;> try (cases h; done)
  rename_i v f l g h k
  cases h
  obtain ⟨h1, h2, h3⟩ := hp _ rfl
  refine ⟨rfl, rfl, ?_⟩
  refine Eq.mpr (vcClamp v f l g h k _) ?_
  rw [most2, most2, any2, any2, minE_2]
  have hm := minE_r (sndV_in h1) (sndV_in h3)
  rw [sndV_self hm.1, sndF_self hm.1, maxE_2]
  exact ⟨⟨⟨trivial, trivial, trivial⟩, rfl, by decide⟩, ⟨⟨trivial, trivial, trivial⟩, rfl, by decide⟩, rfl⟩
theorem RSub_spec : PureSpec Try.prog 111 sSub := vc_spec hm ΓF0_ok Try.func111 (Λ := fun _ => noΛ) fun args p x h hp => by
  unfold sSub at h
  split at h <;> try (cases h; done)
  rename_i v f u g
  cases h
  obtain ⟨h1, h2⟩ := hp _ rfl
  refine ⟨rfl, rfl, ?_⟩
  refine Eq.mpr (vcRSub v f u g _) ?_
  rw [sum2, any2, (sndV_n h2).1, sndF_n h2]
  exact ⟨h2, ⟨⟨h1, (sndV_n h2).2, trivial⟩, rfl, by decide⟩, rfl⟩
end Go.Proofs.Ytheljpebapokjaa
