/-
  Contracts: spots (pairs of small integers). Printed by tools/mkE.py.txt.
-/
import Derived.Test.YtheljpebapokjaaPaD
set_option maxRecDepth 100000
set_option linter.unusedSimpArgs false
set_option linter.unusedVariables false
namespace Go.Proofs.Ytheljpebapokjaa
open Go.SE Go.RowKit

def Sp (x : Int) : Prop := -1073741824 ≤ x ∧ x ≤ 1073741824
def spS (x y : Int) : SV := .agg [.v (.int .i64 x), .v (.int .i64 y)]
def crossI (x y z w : Int) : Int := x * w - y * z
def dotI (x y z w : Int) : Int := x * z + y * w
def spanI (x y : Int) : Int := max x (-x) + max y (-y)
def sizeI (x : Int) : Bool := decide (16 ≤ x) && decide (x ≤ 4096)
def nearI (x : Int) : Bool := decide (-4096 ≤ x) && decide (x ≤ 4096)
def sMinus : List SV → Option (Option Prop × SV)
  | [.agg [.v (.int .i64 x), .v (.int .i64 y)], .agg [.v (.int .i64 z), .v (.int .i64 w)]] => some (some ((Sp x ∧ Sp y) ∧ Sp z ∧ Sp w), spS (x - z) (y - w))
  | _ => none
def sCross : List SV → Option (Option Prop × SV)
  | [.agg [.v (.int .i64 x), .v (.int .i64 y)], .agg [.v (.int .i64 z), .v (.int .i64 w)]] => some (some ((Sp x ∧ Sp y) ∧ Sp z ∧ Sp w), .v (.int .i64 (crossI x y z w)))
  | _ => none
def sDotS : List SV → Option (Option Prop × SV)
  | [.agg [.v (.int .i64 x), .v (.int .i64 y)], .agg [.v (.int .i64 z), .v (.int .i64 w)]] => some (some ((Sp x ∧ Sp y) ∧ Sp z ∧ Sp w), .v (.int .i64 (dotI x y z w)))
  | _ => none
def sSpan : List SV → Option (Option Prop × SV)
  | [.agg [.v (.int .i64 x), .v (.int .i64 y)]] => some (some (Sp x ∧ Sp y), .v (.int .i64 (spanI x y)))
  | _ => none
def sSizeS : List SV → Option (Option Prop × SV)
  | [.v (.int .i64 x)] => some (some (I64 x), .v (.bool (sizeI x)))
  | _ => none
def sNear : List SV → Option (Option Prop × SV)
  | [.v (.int .i64 x)] => some (some (I64 x), .v (.bool (nearI x)))
  | _ => none

theorem vcMinus (x y z w : Int) (R : SV → Prop) : (vcPure Try.prog noCtrs noΛ Try.f151 [spS x y, spS z w] R) =
(R (SV.agg [(SV.v (Value.int IntKind.i64 (IntKind.wrap IntKind.i64 (x - z)))), (SV.v (Value.int IntKind.i64 (IntKind.wrap IntKind.i64 (y - w))))])) := by kernel_rfl
theorem vcRMinus (x y z w : Int) (R : SV → Prop) : (vcPure Try.prog noCtrs noΛ Try.f153 [spS x y, spS z w] R) =
(R (SV.agg [(SV.v (Value.int IntKind.i64 (IntKind.wrap IntKind.i64 (x - z)))), (SV.v (Value.int IntKind.i64 (IntKind.wrap IntKind.i64 (y - w))))])) := by kernel_rfl
theorem vcCrossS (x y z w : Int) (R : SV → Prop) : (vcPure Try.prog noCtrs noΛ Try.f89 [spS x y, spS z w] R) =
(R (SV.v (Value.int IntKind.i64 (IntKind.wrap IntKind.i64 (IntKind.wrap IntKind.i64 (x * w) - IntKind.wrap IntKind.i64 (y * z)))))) := by kernel_rfl
theorem vcRCrossS (x y z w : Int) (R : SV → Prop) : (vcPure Try.prog noCtrs noΛ Try.f93 [spS x y, spS z w] R) =
(R (SV.v (Value.int IntKind.i64 (IntKind.wrap IntKind.i64 (IntKind.wrap IntKind.i64 (x * w) - IntKind.wrap IntKind.i64 (y * z)))))) := by kernel_rfl
theorem vcDotS (x y z w : Int) (R : SV → Prop) : (vcPure Try.prog noCtrs noΛ Try.f90 [spS x y, spS z w] R) =
(R (SV.v (Value.int IntKind.i64 (IntKind.wrap IntKind.i64 (IntKind.wrap IntKind.i64 (x * z) + IntKind.wrap IntKind.i64 (y * w)))))) := by kernel_rfl
theorem vcRDotS (x y z w : Int) (R : SV → Prop) : (vcPure Try.prog noCtrs noΛ Try.f94 [spS x y, spS z w] R) =
(R (SV.v (Value.int IntKind.i64 (IntKind.wrap IntKind.i64 (IntKind.wrap IntKind.i64 (x * z) + IntKind.wrap IntKind.i64 (y * w)))))) := by kernel_rfl
theorem vcSpan (x y : Int) (R : SV → Prop) : (vcPure Try.prog noCtrs noΛ Try.f152 [spS x y] R) =
(R (SV.v (Value.int IntKind.i64 (IntKind.wrap IntKind.i64 (max x (IntKind.wrap IntKind.i64 (0 - x)) + max y (IntKind.wrap IntKind.i64 (0 - y))))))) := by kernel_rfl
theorem vcRSpan (x y : Int) (R : SV → Prop) : (vcPure Try.prog noCtrs noΛ Try.f154 [spS x y] R) =
(R (SV.v (Value.int IntKind.i64 (IntKind.wrap IntKind.i64 (max x (IntKind.wrap IntKind.i64 (0 - x)) + max y (IntKind.wrap IntKind.i64 (0 - y))))))) := by kernel_rfl
theorem vcSizeS (x : Int) (R : SV → Prop) : (vcPure Try.prog noCtrs noΛ Try.f114 [.v (.int .i64 x)] R) =

(sel (decide (x ≥ 16)) (R (SV.v (Value.bool (decide (x ≤ 4096))))) (R (SV.v (Value.bool false)))) := by kernel_rfl
theorem vcRSizeS (x : Int) (R : SV → Prop) : (vcPure Try.prog noCtrs noΛ Try.f116 [.v (.int .i64 x)] R) =

(sel (decide (x ≥ 16)) (R (SV.v (Value.bool (decide (x ≤ 4096))))) (R (SV.v (Value.bool false)))) := by kernel_rfl
theorem vcRNear (x : Int) (R : SV → Prop) : (vcPure Try.prog noCtrs noΛ Try.f117 [.v (.int .i64 x)] R) =

(sel (decide (x ≥ -4096)) (R (SV.v (Value.bool (decide (x ≤ 4096))))) (R (SV.v (Value.bool false)))) := by kernel_rfl
theorem Sp.bd {x : Int} (h : Sp x) : -1073741824 ≤ x ∧ x ≤ 1073741824 := h
theorem prod_bd {x y : Int} (h : Sp x) (k : Sp y) : -1152921504606846976 ≤ x * y ∧ x * y ≤ 1152921504606846976 := by
  obtain ⟨a, b⟩ := h
  obtain ⟨c, d⟩ := k
  have h1 : (x + 1073741824) * (y + 1073741824) ≥ 0 := Int.mul_nonneg (by omega) (by omega)
  have h2 : (1073741824 - x) * (1073741824 - y) ≥ 0 := Int.mul_nonneg (by omega) (by omega)
  have h3 : (x + 1073741824) * (1073741824 - y) ≥ 0 := Int.mul_nonneg (by omega) (by omega)
  have h4 : (1073741824 - x) * (y + 1073741824) ≥ 0 := Int.mul_nonneg (by omega) (by omega)
  simp only [Int.add_mul, Int.mul_add, Int.sub_mul, Int.mul_sub] at h1 h2 h3 h4
  omega

theorem Minus_spec : PureSpec Try.prog 151 sMinus := vc_spec hm noCtrs_ok Try.func151 (Λ := fun _ => noΛ) fun args p x h hp => by
  unfold sMinus at h
  split at h <;> try (cases h; done)
  rename_i x y z w
  cases h
  obtain ⟨⟨⟨a1, a2⟩, b1, b2⟩, ⟨c1, c2⟩, d1, d2⟩ := hp _ rfl
  refine ⟨rfl, rfl, ?_⟩
  refine Eq.mpr (vcMinus x y z w _) ?_
  rw [wrap_i64 ⟨by omega, by omega⟩, wrap_i64 ⟨by omega, by omega⟩]
  rfl
theorem RMinus_spec : PureSpec Try.prog 153 sMinus := vc_spec hm noCtrs_ok Try.func153 (Λ := fun _ => noΛ) fun args p x h hp => by
  unfold sMinus at h
  split at h <;> try (cases h; done)
  rename_i x y z w
  cases h
  obtain ⟨⟨⟨a1, a2⟩, b1, b2⟩, ⟨c1, c2⟩, d1, d2⟩ := hp _ rfl
  refine ⟨rfl, rfl, ?_⟩
  refine Eq.mpr (vcRMinus x y z w _) ?_
  rw [wrap_i64 ⟨by omega, by omega⟩, wrap_i64 ⟨by omega, by omega⟩]
  rfl
theorem CrossS_spec : PureSpec Try.prog 89 sCross := vc_spec hm noCtrs_ok Try.func89 (Λ := fun _ => noΛ) fun args p x h hp => by
  unfold sCross at h
  split at h <;> try (cases h; done)
  rename_i x y z w
  cases h
  obtain ⟨⟨hx, hy⟩, hz, hw⟩ := hp _ rfl
  refine ⟨rfl, rfl, ?_⟩
  refine Eq.mpr (vcCrossS x y z w _) ?_
  have p1 := prod_bd hx hw
  have p2 := prod_bd hy hz
  rw [wrap_i64 (n := x * w) ⟨by omega, by omega⟩, wrap_i64 (n := y * z) ⟨by omega, by omega⟩, wrap_i64 ⟨by omega, by omega⟩]
  rfl
theorem RCrossS_spec : PureSpec Try.prog 93 sCross := vc_spec hm noCtrs_ok Try.func93 (Λ := fun _ => noΛ) fun args p x h hp => by
  unfold sCross at h
  split at h <;> try (cases h; done)
  rename_i x y z w
  cases h
  obtain ⟨⟨hx, hy⟩, hz, hw⟩ := hp _ rfl
  refine ⟨rfl, rfl, ?_⟩
  refine Eq.mpr (vcRCrossS x y z w _) ?_
  have p1 := prod_bd hx hw
  have p2 := prod_bd hy hz
  rw [wrap_i64 (n := x * w) ⟨by omega, by omega⟩, wrap_i64 (n := y * z) ⟨by omega, by omega⟩, wrap_i64 ⟨by omega, by omega⟩]
  rfl
theorem DotS_spec : PureSpec Try.prog 90 sDotS := vc_spec hm noCtrs_ok Try.func90 (Λ := fun _ => noΛ) fun args p x h hp => by
  unfold sDotS at h
  split at h <;> try (cases h; done)
  rename_i x y z w
  cases h
  obtain ⟨⟨hx, hy⟩, hz, hw⟩ := hp _ rfl
  refine ⟨rfl, rfl, ?_⟩
  refine Eq.mpr (vcDotS x y z w _) ?_
  have p1 := prod_bd hx hz
  have p2 := prod_bd hy hw
  rw [wrap_i64 (n := x * z) ⟨by omega, by omega⟩, wrap_i64 (n := y * w) ⟨by omega, by omega⟩, wrap_i64 ⟨by omega, by omega⟩]
  rfl
theorem RDotS_spec : PureSpec Try.prog 94 sDotS := vc_spec hm noCtrs_ok Try.func94 (Λ := fun _ => noΛ) fun args p x h hp => by
  unfold sDotS at h
  split at h <;> try (cases h; done)
  rename_i x y z w
  cases h
  obtain ⟨⟨hx, hy⟩, hz, hw⟩ := hp _ rfl
  refine ⟨rfl, rfl, ?_⟩
  refine Eq.mpr (vcRDotS x y z w _) ?_
  have p1 := prod_bd hx hz
  have p2 := prod_bd hy hw
  rw [wrap_i64 (n := x * z) ⟨by omega, by omega⟩, wrap_i64 (n := y * w) ⟨by omega, by omega⟩, wrap_i64 ⟨by omega, by omega⟩]
  rfl
theorem Span_spec : PureSpec Try.prog 152 sSpan := vc_spec hm noCtrs_ok Try.func152 (Λ := fun _ => noΛ) fun args p x h hp => by
  unfold sSpan at h
  split at h <;> try (cases h; done)
  rename_i x y
  cases h
  obtain ⟨⟨a1, a2⟩, b1, b2⟩ := hp _ rfl
  refine ⟨rfl, rfl, ?_⟩
  refine Eq.mpr (vcSpan x y _) ?_
  rw [wrap_i64 (n := 0 - x) ⟨by omega, by omega⟩, wrap_i64 (n := 0 - y) ⟨by omega, by omega⟩, wrap_i64 ⟨by omega, by omega⟩]
  unfold spanI
  rw [Int.zero_sub, Int.zero_sub]
theorem RSpan_spec : PureSpec Try.prog 154 sSpan := vc_spec hm noCtrs_ok Try.func154 (Λ := fun _ => noΛ) fun args p x h hp => by
  unfold sSpan at h
  split at h <;> try (cases h; done)
  rename_i x y
  cases h
  obtain ⟨⟨a1, a2⟩, b1, b2⟩ := hp _ rfl
  refine ⟨rfl, rfl, ?_⟩
  refine Eq.mpr (vcRSpan x y _) ?_
  rw [wrap_i64 (n := 0 - x) ⟨by omega, by omega⟩, wrap_i64 (n := 0 - y) ⟨by omega, by omega⟩, wrap_i64 ⟨by omega, by omega⟩]
  unfold spanI
  rw [Int.zero_sub, Int.zero_sub]
theorem SizeS_spec : PureSpec Try.prog 114 sSizeS := vc_spec hm noCtrs_ok Try.func114 (Λ := fun _ => noΛ) fun args p x h hp => by
  unfold sSizeS at h
  split at h <;> try (cases h; done)
  rename_i x
  cases h
  refine ⟨rfl, rfl, ?_⟩
  refine Eq.mpr (vcSizeS x _) ?_
  show sel (decide (16 ≤ x)) _ _
  unfold sizeI
  cases decide (16 ≤ x) <;> rfl
theorem RSizeS_spec : PureSpec Try.prog 116 sSizeS := vc_spec hm noCtrs_ok Try.func116 (Λ := fun _ => noΛ) fun args p x h hp => by
  unfold sSizeS at h
  split at h <;> try (cases h; done)
  rename_i x
  cases h
  refine ⟨rfl, rfl, ?_⟩
  refine Eq.mpr (vcRSizeS x _) ?_
  show sel (decide (16 ≤ x)) _ _
  unfold sizeI
  cases decide (16 ≤ x) <;> rfl
theorem RNear_spec : PureSpec Try.prog 117 sNear := vc_spec hm noCtrs_ok Try.func117 (Λ := fun _ => noΛ) fun args p x h hp => by
  unfold sNear at h
  split at h <;> try (cases h; done)
  rename_i x
  cases h
  refine ⟨rfl, rfl, ?_⟩
  refine Eq.mpr (vcRNear x _) ?_
  show sel (decide (-4096 ≤ x)) _ _
  unfold nearI
  cases decide (-4096 ≤ x) <;> rfl
end Go.Proofs.Ytheljpebapokjaa
