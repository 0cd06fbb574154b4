/-
 What the proof uses, part 12.
-/
import Derived.Test.YteekigmbopdfjaaGreatZf11
set_option maxRecDepth 100000
set_option linter.unusedSimpArgs false
set_option linter.unusedVariables false

section
namespace Go.Proofs.YteekigmbopdfjaaGreat
open Go.SE Go.RowKit
def Sp (x : Int) : Prop := -1073741824 ≤ x ∧ x ≤ 1073741824
def spS (x y : Int) : SV := .agg [.v (.int .i64 x), .v (.int .i64 y)]
def Qaq (x y z w : Int) : Int := x * w - y * z
def Qtn (x y z w : Int) : Int := x * z + y * w
def Qiu (x y : Int) : Int := max x (-x) + max y (-y)
def Qeh (x : Int) : Bool := decide (16 ≤ x) && decide (x ≤ 4096)
def Qj4 (x : Int) : Bool := decide (-4096 ≤ x) && decide (x ≤ 4096)
def Qo0 : List SV → Option (Option Prop × SV)
 | [.agg [.v (.int .i64 x), .v (.int .i64 y)], .agg [.v (.int .i64 z), .v (.int .i64 w)]] => some (some ((Sp x ∧ Sp y) ∧ Sp z ∧ Sp w), spS (x - z) (y - w))
 | _ => none
def Qlm : List SV → Option (Option Prop × SV)
 | [.agg [.v (.int .i64 x), .v (.int .i64 y)], .agg [.v (.int .i64 z), .v (.int .i64 w)]] => some (some ((Sp x ∧ Sp y) ∧ Sp z ∧ Sp w), .v (.int .i64 (Qaq x y z w)))
 | _ => none
def Qxy : List SV → Option (Option Prop × SV)
 | [.agg [.v (.int .i64 x), .v (.int .i64 y)], .agg [.v (.int .i64 z), .v (.int .i64 w)]] => some (some ((Sp x ∧ Sp y) ∧ Sp z ∧ Sp w), .v (.int .i64 (Qtn x y z w)))
 | _ => none
def Qxx : List SV → Option (Option Prop × SV)
 | [.agg [.v (.int .i64 x), .v (.int .i64 y)]] => some (some (Sp x ∧ Sp y), .v (.int .i64 (Qiu x y)))
 | _ => none
def Qox : List SV → Option (Option Prop × SV)
 | [.v (.int .i64 x)] => some (some (I64 x), .v (.bool (Qeh x)))
 | _ => none
def Zcj : List SV → Option (Option Prop × SV)
 | [.v (.int .i64 x)] => some (some (I64 x), .v (.bool (Qj4 x)))
 | _ => none
theorem Zbp (x y z w : Int) (R : SV→Prop) : (Qav Tryz.prog Qbr Qax Tryz.f164 [spS x y,spS z w] R) = (R (SV.agg [(SV.v (.int .i64 (IntKind.wrap IntKind.i64 (x - z)))),(SV.v (.int .i64 (IntKind.wrap IntKind.i64 (y - w))))])):=by kernel_rfl
theorem Q5s (x y z w : Int) (R : SV→Prop) : (Qav Tryz.prog Qbr Qax Tryz.f292 [spS x y,spS z w] R) = (R (SV.agg [(SV.v (.int .i64 (IntKind.wrap IntKind.i64 (x - z)))),(SV.v (.int .i64 (IntKind.wrap IntKind.i64 (y - w))))])):=by kernel_rfl
theorem Q50 (x y z w : Int) (R : SV→Prop) : (Qav Tryz.prog Qbr Qax Tryz.f165 [spS x y,spS z w] R) = (R (SV.v (.int .i64 (IntKind.wrap IntKind.i64 (IntKind.wrap IntKind.i64 (x * w) - IntKind.wrap IntKind.i64 (y * z)))))):=by kernel_rfl
theorem Qz7 (x y z w : Int) (R : SV→Prop) : (Qav Tryz.prog Qbr Qax Tryz.f221 [spS x y,spS z w] R) = (R (SV.v (.int .i64 (IntKind.wrap IntKind.i64 (IntKind.wrap IntKind.i64 (x * w) - IntKind.wrap IntKind.i64 (y * z)))))):=by kernel_rfl
theorem Zgr (x y z w : Int) (R : SV→Prop) : (Qav Tryz.prog Qbr Qax Tryz.f94 [spS x y,spS z w] R) = (R (SV.v (.int .i64 (IntKind.wrap IntKind.i64 (IntKind.wrap IntKind.i64 (x * z) + IntKind.wrap IntKind.i64 (y * w)))))):=by kernel_rfl
theorem Zbk (x y z w : Int) (R : SV→Prop) : (Qav Tryz.prog Qbr Qax Tryz.f222 [spS x y,spS z w] R) = (R (SV.v (.int .i64 (IntKind.wrap IntKind.i64 (IntKind.wrap IntKind.i64 (x * z) + IntKind.wrap IntKind.i64 (y * w)))))):=by kernel_rfl
theorem Zfu (x y : Int) (R : SV→Prop) : (Qav Tryz.prog Qbr Qax Tryz.f166 [spS x y] R) = (R (SV.v (.int .i64 (IntKind.wrap IntKind.i64 (max x (IntKind.wrap IntKind.i64 (0 - x)) + max y (IntKind.wrap IntKind.i64 (0 - y))))))):=by kernel_rfl
theorem Zbf (x y : Int) (R : SV→Prop) : (Qav Tryz.prog Qbr Qax Tryz.f293 [spS x y] R) = (R (SV.v (.int .i64 (IntKind.wrap IntKind.i64 (max x (IntKind.wrap IntKind.i64 (0 - x)) + max y (IntKind.wrap IntKind.i64 (0 - y))))))):=by kernel_rfl
theorem Za9 (x : Int) (R : SV→Prop) : (Qav Tryz.prog Qbr Qax Tryz.f90 [.v (.int .i64 x)] R) = (sel (decide (x ≥ 16)) (R (SV.v (.bool (decide (x ≤ 4096))))) (R (SV.v (.bool false)))):=by kernel_rfl
theorem Q5o (x : Int) (R : SV→Prop) : (Qav Tryz.prog Qbr Qax Tryz.f215 [.v (.int .i64 x)] R) = (sel (decide (x ≥ 16)) (R (SV.v (.bool (decide (x ≤ 4096))))) (R (SV.v (.bool false)))):=by kernel_rfl
theorem Zbi (x : Int) (R : SV→Prop) : (Qav Tryz.prog Qbr Qax Tryz.f216 [.v (.int .i64 x)] R) = (sel (decide (x ≥ -4096)) (R (SV.v (.bool (decide (x ≤ 4096))))) (R (SV.v (.bool false)))):=by kernel_rfl
theorem Qhy {x y : Int} (h : Sp x) (k : Sp y) : -1152921504606846976 ≤ x * y ∧ x * y ≤ 1152921504606846976 := by
 obtain ⟨a, b⟩ := h
 obtain ⟨c, d⟩ := k
 have h1 : (x + 1073741824) * (y + 1073741824) ≥ 0 := Int.mul_nonneg (by omega) (by omega)
 have h2 : (1073741824 - x) * (1073741824 - y) ≥ 0 := Int.mul_nonneg (by omega) (by omega)
 have h3 : (x + 1073741824) * (1073741824 - y) ≥ 0 := Int.mul_nonneg (by omega) (by omega)
 have h4 : (1073741824 - x) * (y + 1073741824) ≥ 0 := Int.mul_nonneg (by omega) (by omega)
 simp only [Int.add_mul, Int.mul_add, Int.sub_mul, Int.mul_sub] at h1 h2 h3 h4
 omega
theorem Qy7 : Qai Tryz.prog 164 Qo0 := Qao hm Qa0 Tryz.func164 (Λ := fun _ => Qax) fun args p x h hp => by
 unfold Qo0 at h
 split at h <;> try (cases h; done)
 rename_i x y z w
 cases h
 obtain ⟨⟨⟨a1, a2⟩, b1, b2⟩, ⟨c1, c2⟩, d1, d2⟩ := hp _ rfl
 refine ⟨rfl, rfl, ?_⟩
 refine Eq.mpr (Zbp x y z w _) ?_
 rw [Qaf ⟨by omega, by omega⟩, Qaf ⟨by omega, by omega⟩]
 rfl
theorem Qvg : Qai Tryz.prog 292 Qo0 := Qao hm Qa0 Tryz.func292 (Λ := fun _ => Qax) fun args p x h hp => by
 unfold Qo0 at h
 split at h <;> try (cases h; done)
 rename_i x y z w
 cases h
 obtain ⟨⟨⟨a1, a2⟩, b1, b2⟩, ⟨c1, c2⟩, d1, d2⟩ := hp _ rfl
 refine ⟨rfl, rfl, ?_⟩
 refine Eq.mpr (Q5s x y z w _) ?_
 rw [Qaf ⟨by omega, by omega⟩, Qaf ⟨by omega, by omega⟩]
 rfl
theorem Qoe : Qai Tryz.prog 165 Qlm := Qao hm Qa0 Tryz.func165 (Λ := fun _ => Qax) fun args p x h hp => by
 unfold Qlm at h
 split at h <;> try (cases h; done)
 rename_i x y z w
 cases h
 obtain ⟨⟨hx, hy⟩, hz, hw⟩ := hp _ rfl
 refine ⟨rfl, rfl, ?_⟩
 refine Eq.mpr (Q50 x y z w _) ?_
 have p1 := Qhy hx hw
 have p2 := Qhy hy hz
 rw [Qaf (n := x * w) ⟨by omega, by omega⟩, Qaf (n := y * z) ⟨by omega, by omega⟩, Qaf ⟨by omega, by omega⟩]
 rfl
theorem Qly : Qai Tryz.prog 221 Qlm := Qao hm Qa0 Tryz.func221 (Λ := fun _ => Qax) fun args p x h hp => by
 unfold Qlm at h
 split at h <;> try (cases h; done)
 rename_i x y z w
 cases h
 obtain ⟨⟨hx, hy⟩, hz, hw⟩ := hp _ rfl
 refine ⟨rfl, rfl, ?_⟩
 refine Eq.mpr (Qz7 x y z w _) ?_
 have p1 := Qhy hx hw
 have p2 := Qhy hy hz
 rw [Qaf (n := x * w) ⟨by omega, by omega⟩, Qaf (n := y * z) ⟨by omega, by omega⟩, Qaf ⟨by omega, by omega⟩]
 rfl
theorem Q4u : Qai Tryz.prog 94 Qxy := Qao hm Qa0 Tryz.func94 (Λ := fun _ => Qax) fun args p x h hp => by
 unfold Qxy at h
 split at h <;> try (cases h; done)
 rename_i x y z w
 cases h
 obtain ⟨⟨hx, hy⟩, hz, hw⟩ := hp _ rfl
 refine ⟨rfl, rfl, ?_⟩
 refine Eq.mpr (Zgr x y z w _) ?_
 have p1 := Qhy hx hz
 have p2 := Qhy hy hw
 rw [Qaf (n := x * z) ⟨by omega, by omega⟩, Qaf (n := y * w) ⟨by omega, by omega⟩, Qaf ⟨by omega, by omega⟩]
 rfl
theorem Qy2 : Qai Tryz.prog 222 Qxy := Qao hm Qa0 Tryz.func222 (Λ := fun _ => Qax) fun args p x h hp => by
 unfold Qxy at h
 split at h <;> try (cases h; done)
 rename_i x y z w
 cases h
 obtain ⟨⟨hx, hy⟩, hz, hw⟩ := hp _ rfl
 refine ⟨rfl, rfl, ?_⟩
 refine Eq.mpr (Zbk x y z w _) ?_
 have p1 := Qhy hx hz
 have p2 := Qhy hy hw
 rw [Qaf (n := x * z) ⟨by omega, by omega⟩, Qaf (n := y * w) ⟨by omega, by omega⟩, Qaf ⟨by omega, by omega⟩]
 rfl
theorem Q32 : Qai Tryz.prog 166 Qxx := Qao hm Qa0 Tryz.func166 (Λ := fun _ => Qax) fun args p x h hp => by
 unfold Qxx at h
 split at h <;> try (cases h; done)
 rename_i x y
 cases h
 obtain ⟨⟨a1, a2⟩, b1, b2⟩ := hp _ rfl
 refine ⟨rfl, rfl, ?_⟩
 refine Eq.mpr (Zfu x y _) ?_
 rw [Qaf (n := 0 - x) ⟨by omega, by omega⟩, Qaf (n := 0 - y) ⟨by omega, by omega⟩, Qaf ⟨by omega, by omega⟩]
 unfold Qiu
 rw [Int.zero_sub, Int.zero_sub]
theorem Qyx : Qai Tryz.prog 293 Qxx := Qao hm Qa0 Tryz.func293 (Λ := fun _ => Qax) fun args p x h hp => by
 unfold Qxx at h
 split at h <;> try (cases h; done)
 rename_i x y
 cases h
 obtain ⟨⟨a1, a2⟩, b1, b2⟩ := hp _ rfl
 refine ⟨rfl, rfl, ?_⟩
 refine Eq.mpr (Zbf x y _) ?_
 rw [Qaf (n := 0 - x) ⟨by omega, by omega⟩, Qaf (n := 0 - y) ⟨by omega, by omega⟩, Qaf ⟨by omega, by omega⟩]
 unfold Qiu
 rw [Int.zero_sub, Int.zero_sub]
theorem Qys : Qai Tryz.prog 90 Qox := Qao hm Qa0 Tryz.func90 (Λ := fun _ => Qax) fun args p x h hp => by
 unfold Qox at h
 split at h <;> try (cases h; done)
 rename_i x
 cases h
 refine ⟨rfl, rfl, ?_⟩
 refine Eq.mpr (Za9 x _) ?_
 show sel (decide (16 ≤ x)) _ _
 unfold Qeh
 cases decide (16 ≤ x) <;> rfl
theorem Qvd : Qai Tryz.prog 215 Qox := Qao hm Qa0 Tryz.func215 (Λ := fun _ => Qax) fun args p x h hp => by
 unfold Qox at h
 split at h <;> try (cases h; done)
 rename_i x
 cases h
 refine ⟨rfl, rfl, ?_⟩
 refine Eq.mpr (Q5o x _) ?_
 show sel (decide (16 ≤ x)) _ _
 unfold Qeh
 cases decide (16 ≤ x) <;> rfl
theorem Qy0 : Qai Tryz.prog 216 Zcj := Qao hm Qa0 Tryz.func216 (Λ := fun _ => Qax) fun args p x h hp => by
 unfold Zcj at h
 split at h <;> try (cases h; done)
 rename_i x
 cases h
 refine ⟨rfl, rfl, ?_⟩
 refine Eq.mpr (Zbi x _) ?_
 show sel (decide (-4096 ≤ x)) _ _
 unfold Qj4
 cases decide (-4096 ≤ x) <;> rfl
end Go.Proofs.YteekigmbopdfjaaGreat
end
