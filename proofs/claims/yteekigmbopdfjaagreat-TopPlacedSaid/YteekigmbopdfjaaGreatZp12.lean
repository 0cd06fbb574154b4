/-
 What the proof uses, part 12.
-/
import Derived.Test.YteekigmbopdfjaaGreatZp11
set_option maxRecDepth 100000
set_option linter.unusedSimpArgs false
set_option linter.unusedVariables false

section
namespace Go.Proofs.YteekigmbopdfjaaGreat
open Go.SE Go.RowKit
def Sp (x : Int) : Prop := -1073741824 ≤ x ∧ x ≤ 1073741824
def spS (x y : Int) : SV := .agg [.v (.int .i64 x), .v (.int .i64 y)]
def Qap (x y z w : Int) : Int := x * w - y * z
def Qsp (x y z w : Int) : Int := x * z + y * w
def Qik (x y : Int) : Int := max x (-x) + max y (-y)
def Qeb (x : Int) : Bool := decide (16 ≤ x) && decide (x ≤ 4096)
def Qju (x : Int) : Bool := decide (-4096 ≤ x) && decide (x ≤ 4096)
def Qot : List SV → Option (Option Prop × SV)
 | [.agg [.v (.int .i64 x), .v (.int .i64 y)], .agg [.v (.int .i64 z), .v (.int .i64 w)]] => some (some ((Sp x ∧ Sp y) ∧ Sp z ∧ Sp w), spS (x - z) (y - w))
 | _ => none
def Qle : List SV → Option (Option Prop × SV)
 | [.agg [.v (.int .i64 x), .v (.int .i64 y)], .agg [.v (.int .i64 z), .v (.int .i64 w)]] => some (some ((Sp x ∧ Sp y) ∧ Sp z ∧ Sp w), .v (.int .i64 (Qap x y z w)))
 | _ => none
def Qxo : List SV → Option (Option Prop × SV)
 | [.agg [.v (.int .i64 x), .v (.int .i64 y)], .agg [.v (.int .i64 z), .v (.int .i64 w)]] => some (some ((Sp x ∧ Sp y) ∧ Sp z ∧ Sp w), .v (.int .i64 (Qsp x y z w)))
 | _ => none
def Qxm : List SV → Option (Option Prop × SV)
 | [.agg [.v (.int .i64 x), .v (.int .i64 y)]] => some (some (Sp x ∧ Sp y), .v (.int .i64 (Qik x y)))
 | _ => none
def Qoq : List SV → Option (Option Prop × SV)
 | [.v (.int .i64 x)] => some (some (I64 x), .v (.bool (Qeb x)))
 | _ => none
def Zcq : List SV → Option (Option Prop × SV)
 | [.v (.int .i64 x)] => some (some (I64 x), .v (.bool (Qju x)))
 | _ => none
theorem Zbo (x y z w : Int) (R : SV→Prop) : (Qau Tryz.prog Qbi Qax Tryz.f164 [spS x y,spS z w] R) = (R (SV.agg [(SV.v (.int .i64 (IntKind.wrap IntKind.i64 (x - z)))),(SV.v (.int .i64 (IntKind.wrap IntKind.i64 (y - w))))])):=by kernel_rfl
theorem Q5w (x y z w : Int) (R : SV→Prop) : (Qau Tryz.prog Qbi Qax Tryz.f292 [spS x y,spS z w] R) = (R (SV.agg [(SV.v (.int .i64 (IntKind.wrap IntKind.i64 (x - z)))),(SV.v (.int .i64 (IntKind.wrap IntKind.i64 (y - w))))])):=by kernel_rfl
theorem Q53 (x y z w : Int) (R : SV→Prop) : (Qau Tryz.prog Qbi Qax Tryz.f165 [spS x y,spS z w] R) = (R (SV.v (.int .i64 (IntKind.wrap IntKind.i64 (IntKind.wrap IntKind.i64 (x * w) - IntKind.wrap IntKind.i64 (y * z)))))):=by kernel_rfl
theorem Qz1 (x y z w : Int) (R : SV→Prop) : (Qau Tryz.prog Qbi Qax Tryz.f221 [spS x y,spS z w] R) = (R (SV.v (.int .i64 (IntKind.wrap IntKind.i64 (IntKind.wrap IntKind.i64 (x * w) - IntKind.wrap IntKind.i64 (y * z)))))):=by kernel_rfl
theorem Zgu (x y z w : Int) (R : SV→Prop) : (Qau Tryz.prog Qbi Qax Tryz.f94 [spS x y,spS z w] R) = (R (SV.v (.int .i64 (IntKind.wrap IntKind.i64 (IntKind.wrap IntKind.i64 (x * z) + IntKind.wrap IntKind.i64 (y * w)))))):=by kernel_rfl
theorem Zbj (x y z w : Int) (R : SV→Prop) : (Qau Tryz.prog Qbi Qax Tryz.f222 [spS x y,spS z w] R) = (R (SV.v (.int .i64 (IntKind.wrap IntKind.i64 (IntKind.wrap IntKind.i64 (x * z) + IntKind.wrap IntKind.i64 (y * w)))))):=by kernel_rfl
theorem Zfy (x y : Int) (R : SV→Prop) : (Qau Tryz.prog Qbi Qax Tryz.f166 [spS x y] R) = (R (SV.v (.int .i64 (IntKind.wrap IntKind.i64 (max x (IntKind.wrap IntKind.i64 (0 - x)) + max y (IntKind.wrap IntKind.i64 (0 - y))))))):=by kernel_rfl
theorem Zbe (x y : Int) (R : SV→Prop) : (Qau Tryz.prog Qbi Qax Tryz.f293 [spS x y] R) = (R (SV.v (.int .i64 (IntKind.wrap IntKind.i64 (max x (IntKind.wrap IntKind.i64 (0 - x)) + max y (IntKind.wrap IntKind.i64 (0 - y))))))):=by kernel_rfl
theorem Za8 (x : Int) (R : SV→Prop) : (Qau Tryz.prog Qbi Qax Tryz.f90 [.v (.int .i64 x)] R) = (sel (decide (x ≥ 16)) (R (SV.v (.bool (decide (x ≤ 4096))))) (R (SV.v (.bool false)))):=by kernel_rfl
theorem Q5s (x : Int) (R : SV→Prop) : (Qau Tryz.prog Qbi Qax Tryz.f215 [.v (.int .i64 x)] R) = (sel (decide (x ≥ 16)) (R (SV.v (.bool (decide (x ≤ 4096))))) (R (SV.v (.bool false)))):=by kernel_rfl
theorem Zbh (x : Int) (R : SV→Prop) : (Qau Tryz.prog Qbi Qax Tryz.f216 [.v (.int .i64 x)] R) = (sel (decide (x ≥ -4096)) (R (SV.v (.bool (decide (x ≤ 4096))))) (R (SV.v (.bool false)))):=by kernel_rfl
theorem Qhm {x y : Int} (h : Sp x) (k : Sp y) : -1152921504606846976 ≤ x * y ∧ x * y ≤ 1152921504606846976 := by
 obtain ⟨a, b⟩ := h
 obtain ⟨c, d⟩ := k
 have h1 : (x + 1073741824) * (y + 1073741824) ≥ 0 := Int.mul_nonneg (by omega) (by omega)
 have h2 : (1073741824 - x) * (1073741824 - y) ≥ 0 := Int.mul_nonneg (by omega) (by omega)
 have h3 : (x + 1073741824) * (1073741824 - y) ≥ 0 := Int.mul_nonneg (by omega) (by omega)
 have h4 : (1073741824 - x) * (y + 1073741824) ≥ 0 := Int.mul_nonneg (by omega) (by omega)
 simp only [Int.add_mul, Int.mul_add, Int.sub_mul, Int.mul_sub] at h1 h2 h3 h4
 omega
theorem Qyv : Qai Tryz.prog 164 Qot := Qan hm Qas Tryz.func164 (Λ := fun _ => Qax) fun args p x h hp => by
 unfold Qot at h
 split at h <;> try (cases h; done)
 rename_i x y z w
 cases h
 obtain ⟨⟨⟨a1, a2⟩, b1, b2⟩, ⟨c1, c2⟩, d1, d2⟩ := hp _ rfl
 refine ⟨rfl, rfl, ?_⟩
 refine Eq.mpr (Zbo x y z w _) ?_
 rw [Qag ⟨by omega, by omega⟩, Qag ⟨by omega, by omega⟩]
 rfl
theorem Qu7 : Qai Tryz.prog 292 Qot := Qan hm Qas Tryz.func292 (Λ := fun _ => Qax) fun args p x h hp => by
 unfold Qot at h
 split at h <;> try (cases h; done)
 rename_i x y z w
 cases h
 obtain ⟨⟨⟨a1, a2⟩, b1, b2⟩, ⟨c1, c2⟩, d1, d2⟩ := hp _ rfl
 refine ⟨rfl, rfl, ?_⟩
 refine Eq.mpr (Q5w x y z w _) ?_
 rw [Qag ⟨by omega, by omega⟩, Qag ⟨by omega, by omega⟩]
 rfl
theorem Qn6 : Qai Tryz.prog 165 Qle := Qan hm Qas Tryz.func165 (Λ := fun _ => Qax) fun args p x h hp => by
 unfold Qle at h
 split at h <;> try (cases h; done)
 rename_i x y z w
 cases h
 obtain ⟨⟨hx, hy⟩, hz, hw⟩ := hp _ rfl
 refine ⟨rfl, rfl, ?_⟩
 refine Eq.mpr (Q53 x y z w _) ?_
 have p1 := Qhm hx hw
 have p2 := Qhm hy hz
 rw [Qag (n := x * w) ⟨by omega, by omega⟩, Qag (n := y * z) ⟨by omega, by omega⟩, Qag ⟨by omega, by omega⟩]
 rfl
theorem Qlr : Qai Tryz.prog 221 Qle := Qan hm Qas Tryz.func221 (Λ := fun _ => Qax) fun args p x h hp => by
 unfold Qle at h
 split at h <;> try (cases h; done)
 rename_i x y z w
 cases h
 obtain ⟨⟨hx, hy⟩, hz, hw⟩ := hp _ rfl
 refine ⟨rfl, rfl, ?_⟩
 refine Eq.mpr (Qz1 x y z w _) ?_
 have p1 := Qhm hx hw
 have p2 := Qhm hy hz
 rw [Qag (n := x * w) ⟨by omega, by omega⟩, Qag (n := y * z) ⟨by omega, by omega⟩, Qag ⟨by omega, by omega⟩]
 rfl
theorem Q4q : Qai Tryz.prog 94 Qxo := Qan hm Qas Tryz.func94 (Λ := fun _ => Qax) fun args p x h hp => by
 unfold Qxo at h
 split at h <;> try (cases h; done)
 rename_i x y z w
 cases h
 obtain ⟨⟨hx, hy⟩, hz, hw⟩ := hp _ rfl
 refine ⟨rfl, rfl, ?_⟩
 refine Eq.mpr (Zgu x y z w _) ?_
 have p1 := Qhm hx hz
 have p2 := Qhm hy hw
 rw [Qag (n := x * z) ⟨by omega, by omega⟩, Qag (n := y * w) ⟨by omega, by omega⟩, Qag ⟨by omega, by omega⟩]
 rfl
theorem Qyq : Qai Tryz.prog 222 Qxo := Qan hm Qas Tryz.func222 (Λ := fun _ => Qax) fun args p x h hp => by
 unfold Qxo at h
 split at h <;> try (cases h; done)
 rename_i x y z w
 cases h
 obtain ⟨⟨hx, hy⟩, hz, hw⟩ := hp _ rfl
 refine ⟨rfl, rfl, ?_⟩
 refine Eq.mpr (Zbj x y z w _) ?_
 have p1 := Qhm hx hz
 have p2 := Qhm hy hw
 rw [Qag (n := x * z) ⟨by omega, by omega⟩, Qag (n := y * w) ⟨by omega, by omega⟩, Qag ⟨by omega, by omega⟩]
 rfl
theorem Q31 : Qai Tryz.prog 166 Qxm := Qan hm Qas Tryz.func166 (Λ := fun _ => Qax) fun args p x h hp => by
 unfold Qxm at h
 split at h <;> try (cases h; done)
 rename_i x y
 cases h
 obtain ⟨⟨a1, a2⟩, b1, b2⟩ := hp _ rfl
 refine ⟨rfl, rfl, ?_⟩
 refine Eq.mpr (Zfy x y _) ?_
 rw [Qag (n := 0 - x) ⟨by omega, by omega⟩, Qag (n := 0 - y) ⟨by omega, by omega⟩, Qag ⟨by omega, by omega⟩]
 unfold Qik
 rw [Int.zero_sub, Int.zero_sub]
theorem Qyl : Qai Tryz.prog 293 Qxm := Qan hm Qas Tryz.func293 (Λ := fun _ => Qax) fun args p x h hp => by
 unfold Qxm at h
 split at h <;> try (cases h; done)
 rename_i x y
 cases h
 obtain ⟨⟨a1, a2⟩, b1, b2⟩ := hp _ rfl
 refine ⟨rfl, rfl, ?_⟩
 refine Eq.mpr (Zbe x y _) ?_
 rw [Qag (n := 0 - x) ⟨by omega, by omega⟩, Qag (n := 0 - y) ⟨by omega, by omega⟩, Qag ⟨by omega, by omega⟩]
 unfold Qik
 rw [Int.zero_sub, Int.zero_sub]
theorem Qyg : Qai Tryz.prog 90 Qoq := Qan hm Qas Tryz.func90 (Λ := fun _ => Qax) fun args p x h hp => by
 unfold Qoq at h
 split at h <;> try (cases h; done)
 rename_i x
 cases h
 refine ⟨rfl, rfl, ?_⟩
 refine Eq.mpr (Za8 x _) ?_
 show sel (decide (16 ≤ x)) _ _
 unfold Qeb
 cases decide (16 ≤ x) <;> rfl
theorem Qu4 : Qai Tryz.prog 215 Qoq := Qan hm Qas Tryz.func215 (Λ := fun _ => Qax) fun args p x h hp => by
 unfold Qoq at h
 split at h <;> try (cases h; done)
 rename_i x
 cases h
 refine ⟨rfl, rfl, ?_⟩
 refine Eq.mpr (Q5s x _) ?_
 show sel (decide (16 ≤ x)) _ _
 unfold Qeb
 cases decide (16 ≤ x) <;> rfl
theorem Qyo : Qai Tryz.prog 216 Zcq := Qan hm Qas Tryz.func216 (Λ := fun _ => Qax) fun args p x h hp => by
 unfold Zcq at h
 split at h <;> try (cases h; done)
 rename_i x
 cases h
 refine ⟨rfl, rfl, ?_⟩
 refine Eq.mpr (Zbh x _) ?_
 show sel (decide (-4096 ≤ x)) _ _
 unfold Qju
 cases decide (-4096 ≤ x) <;> rfl
end Go.Proofs.YteekigmbopdfjaaGreat
end
