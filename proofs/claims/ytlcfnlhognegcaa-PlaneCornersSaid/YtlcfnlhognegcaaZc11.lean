/-
  What the proof uses, part 11.
-/
import Derived.Test.YtlcfnlhognegcaaZc10
set_option maxRecDepth 100000
set_option linter.unusedSimpArgs false
set_option linter.unusedVariables false

section
namespace Go.Proofs.Ytlcfnlhognegcaa
open Go.SE Go.RowKit
def ofV (x y : Int) : VB := ⟨intN x, intN y⟩
def locV (p : Int × Int) : VB := ⟨ratN p.1 256, ratN p.2 256⟩
def subV (a b : VB) : VB := ⟨subN a.x b.x, subN a.y b.y⟩
def sum1 (a : NB) : NB := fitN (sndV a.v + 0) (sndF a.v a.f || false)
def perpV (v : VB) : VB := ⟨negN v.y, sum1 v.x⟩
def lenV (v : VB) : NB := hypN v.x v.y
def angV (x : NB) : VB := ⟨cosN x, sinN x⟩
def sOfV : List SV → Option (Option Prop × SV)
  | [.v (.int .i64 a0), .v (.int .i64 a1)] => some (some (I64 a0 ∧ I64 a1), vS (ofV a0 a1))
  | _ => none
def sLocalV : List SV → Option (Option Prop × SV)
  | [.agg [.v (.int .i64 a0), .v (.int .i64 b0)]] => some (some ((I64 a0 ∧ I64 b0)), vS (locV (a0, b0)))
  | _ => none
def sSubV : List SV → Option (Option Prop × SV)
  | [.agg [.v (.int .i64 a0), .v (.bool f0), .v (.int .i64 b0), .v (.bool g0)], .agg [.v (.int .i64 a1), .v (.bool f1), .v (.int .i64 b1), .v (.bool g1)]] => some (some ((I64 a0 ∧ I64 b0) ∧ (I64 a1 ∧ I64 b1)), vS (subV ⟨⟨a0, f0⟩, ⟨b0, g0⟩⟩ ⟨⟨a1, f1⟩, ⟨b1, g1⟩⟩))
  | _ => none
def sPerpV : List SV → Option (Option Prop × SV)
  | [.agg [.v (.int .i64 a0), .v (.bool f0), .v (.int .i64 b0), .v (.bool g0)]] => some (some ((I64 a0 ∧ I64 b0)), vS (perpV ⟨⟨a0, f0⟩, ⟨b0, g0⟩⟩))
  | _ => none
def sLenV : List SV → Option (Option Prop × SV)
  | [.agg [.v (.int .i64 a0), .v (.bool f0), .v (.int .i64 b0), .v (.bool g0)]] => some (some ((I64 a0 ∧ I64 b0)), nS (lenV ⟨⟨a0, f0⟩, ⟨b0, g0⟩⟩))
  | _ => none
def sAngleV : List SV → Option (Option Prop × SV)
  | [.agg [.v (.int .i64 a0), .v (.bool f0)]] => some (some (I64 a0), vS (angV ⟨a0, f0⟩))
  | _ => none
def ΓV00 : Ctrs := addCtr (addCtr (addCtr (addCtr (addCtr (addCtr (noCtrs) 31 (pureCtr (i1B intN))) 34 (pureCtr (i2B ratN))) 28 (pureCtr (n1B negN))) 30 (pureCtr (n2B mulN))) 29 (pureCtr (n2B divN))) 36 (pureCtr (n2B hypN))
def ΓV01 : Ctrs := addCtr (addCtr (addCtr (addCtr (ΓV00) 11 (pureCtr (n1B sinN))) 10 (pureCtr (n1B cosN))) 27 (pureCtr sOfN)) 40 (roCtr sSum)
def ΓV02 : Ctrs := ΓV01
def ΓV0 : Ctrs := ΓV02
theorem vcOfV (a0 : Int) (a1 : Int) (R : SV→Prop) : (vcPure Try.prog ΓV0 noΛ Try.f17 [.v (.int .i64 a0),.v (.int .i64 a1)] R) = ((I64 a0)∧((I64 a1)∧(R (SV.agg [(SV.v (.int .i64 (NB.v (intN a0)))),(SV.v (.bool (NB.f (intN a0)))),(SV.v (.int .i64 (NB.v (intN a1)))),(SV.v (.bool (NB.f (intN a1))))])))):=by kernel_rfl
theorem vcLenV (a0 : VB) (R : SV→Prop) : (vcPure Try.prog ΓV0 noΛ Try.f18 [vS a0] R) = (((I64 (NB.v (VB.x a0)))∧(I64 (NB.v (VB.y a0))))∧(R (SV.agg [(SV.v (.int .i64 (NB.v (hypN (VB.x a0) (VB.y a0))))),(SV.v (.bool (NB.f (hypN (VB.x a0) (VB.y a0)))))]))):=by kernel_rfl
theorem vcAngleV (a0 : NB) (R : SV→Prop) : (vcPure Try.prog ΓV0 noΛ Try.f5 [nS a0] R) = ((I64 (NB.v a0))∧((I64 (NB.v a0))∧(R (SV.agg [(SV.v (.int .i64 (NB.v (cosN a0)))),(SV.v (.bool (NB.f (cosN a0)))),(SV.v (.int .i64 (NB.v (sinN a0)))),(SV.v (.bool (NB.f (sinN a0))))])))):=by kernel_rfl
def ΓV10 : Ctrs := addCtr (addCtr (ΓV0) 17 (pureCtr sOfV)) 18 (pureCtr sLenV)
def ΓV11 : Ctrs := addCtr (ΓV10) 5 (pureCtr sAngleV)
def ΓV1 : Ctrs := ΓV11
def ΓV2 : Ctrs := ΓV1
theorem neg_i {a : NB} (h : I64 a.v) : I64 (negN a).v := (neg_sd (sndV_sd h)).i64
theorem int_i (a : Int) : I64 (intN a).v := (fitE_sd _).i64
theorem rat_i (a b : Int) : I64 (ratN a b).v := (ratV_sd _ _).i64
theorem mul_i (a b : NB) : I64 (mulN a b).v := (fitE_sd _).i64
theorem div_i (a b : NB) : I64 (divN a b).v := (ratV_sd _ _).i64
theorem sub_i (a b : NB) : I64 (subN a b).v := (fitE_sd _).i64
theorem dot_i (a b c d : NB) : I64 (dotN a b c d).v := (fitE_sd _).i64
theorem hyp_i (a b : NB) : I64 (hypN a b).v := (fitE_sd _).i64
theorem sum1_i (a : NB) : I64 (sum1 a).v := (fitE_sd _).i64
theorem sin_i (a : NB) : I64 (sinN a).v := by have := sinN_in a; exact ⟨by omega, by omega⟩
theorem cos_i (a : NB) : I64 (cosN a).v := sin_i _
theorem isNI_i (v : Int) (f : Bool) : isNI [SV.v (Value.int .i64 v), SV.v (Value.bool f)] = I64 v := rfl
theorem i256 : I64 256 := ⟨by decide, by decide⟩
theorem perp_ix {v : VB} (h : I64 v.y.v) : I64 (perpV v).x.v := neg_i h
theorem perp_iy (v : VB) : I64 (perpV v).y.v := sum1_i _
theorem ang_ix (x : NB) : I64 (angV x).x.v := cos_i _
theorem ang_iy (x : NB) : I64 (angV x).y.v := sin_i _
theorem ΓV00_ok : ∀ f g, ΓV00 f = some g → g.ok Try.prog f := addCtr_ok (addCtr_ok (addCtr_ok (addCtr_ok (addCtr_ok (addCtr_ok (noCtrs_ok) (pure_ok Try.func31 (by kernel_rfl) (by kernel_rfl) (spec := i1B intN) Int_spec)) (pure_ok Try.func34 (by kernel_rfl) (by kernel_rfl) (spec := i2B ratN) Ratio_spec)) (pure_ok Try.func28 (by kernel_rfl) (by kernel_rfl) (spec := n1B negN) Neg_spec)) (pure_ok Try.func30 (by kernel_rfl) (by kernel_rfl) (spec := n2B mulN) Mul_spec)) (pure_ok Try.func29 (by kernel_rfl) (by kernel_rfl) (spec := n2B divN) Div_spec)) (pure_ok Try.func36 (by kernel_rfl) (by kernel_rfl) (spec := n2B hypN) Hypot_spec)
theorem ΓV01_ok : ∀ f g, ΓV01 f = some g → g.ok Try.prog f := addCtr_ok (addCtr_ok (addCtr_ok (addCtr_ok (ΓV00_ok) (pure_ok Try.func11 (by kernel_rfl) (by kernel_rfl) (spec := n1B sinN) Sin_spec)) (pure_ok Try.func10 (by kernel_rfl) (by kernel_rfl) (spec := n1B cosN) Cos_spec)) (pure_ok Try.func27 (by kernel_rfl) (by kernel_rfl) Of2_spec)) (ro_ok Try.func40 (by kernel_rfl) (by kernel_rfl) Sum_spec)
theorem ΓV02_ok : ∀ f g, ΓV02 f = some g → g.ok Try.prog f := ΓV01_ok
theorem ΓV0_ok : ∀ f g, ΓV0 f = some g → g.ok Try.prog f := ΓV02_ok
theorem OfV_spec : PureSpec Try.prog 17 sOfV := vc_spec hm ΓV0_ok Try.func17 (Λ := fun _ => noΛ) fun args p x h hp => by
  unfold sOfV at h
  split at h <;> try (cases h; done)
  rename_i a0 a1
  cases h
  obtain ⟨h0, h1⟩ := hp _ rfl
  refine ⟨rfl, rfl, ?_⟩
  refine Eq.mpr (vcOfV a0 a1 _) ?_
  simp only [int_i, rat_i, mul_i, div_i, sub_i, dot_i, hyp_i, sin_i, cos_i, sum1_i, isNI_i, i256, perp_iy, ang_ix, ang_iy, and_true, true_and, and_self, neg_i, perp_ix, h0, h1] <;> first | rfl | exact ⟨by decide, rfl⟩ | exact ⟨⟨rfl, by decide⟩, rfl⟩
theorem LenV_spec : PureSpec Try.prog 18 sLenV := vc_spec hm ΓV0_ok Try.func18 (Λ := fun _ => noΛ) fun args p x h hp => by
  unfold sLenV at h
  split at h <;> try (cases h; done)
  rename_i a0 f0 b0 g0
  cases h
  obtain ⟨h0, k0⟩ := hp _ rfl
  refine ⟨rfl, rfl, ?_⟩
  refine Eq.mpr (vcLenV ⟨⟨a0, f0⟩, ⟨b0, g0⟩⟩ _) ?_
  simp only [int_i, rat_i, mul_i, div_i, sub_i, dot_i, hyp_i, sin_i, cos_i, sum1_i, isNI_i, i256, perp_iy, ang_ix, ang_iy, and_true, true_and, and_self, neg_i, perp_ix, h0, k0] <;> first | rfl | exact ⟨by decide, rfl⟩ | exact ⟨⟨rfl, by decide⟩, rfl⟩
theorem AngleV_spec : PureSpec Try.prog 5 sAngleV := vc_spec hm ΓV0_ok Try.func5 (Λ := fun _ => noΛ) fun args p x h hp => by
  unfold sAngleV at h
  split at h <;> try (cases h; done)
  rename_i a0 f0
  cases h
  obtain h0 := hp _ rfl
  refine ⟨rfl, rfl, ?_⟩
  refine Eq.mpr (vcAngleV ⟨a0, f0⟩ _) ?_
  simp only [int_i, rat_i, mul_i, div_i, sub_i, dot_i, hyp_i, sin_i, cos_i, sum1_i, isNI_i, i256, perp_iy, ang_ix, ang_iy, and_true, true_and, and_self, neg_i, perp_ix, h0] <;> first | rfl | exact ⟨by decide, rfl⟩ | exact ⟨⟨rfl, by decide⟩, rfl⟩
theorem ΓV10_ok : ∀ f g, ΓV10 f = some g → g.ok Try.prog f := addCtr_ok (addCtr_ok (ΓV0_ok) (pure_ok Try.func17 (by kernel_rfl) (by kernel_rfl) OfV_spec)) (pure_ok Try.func18 (by kernel_rfl) (by kernel_rfl) LenV_spec)
theorem ΓV11_ok : ∀ f g, ΓV11 f = some g → g.ok Try.prog f := addCtr_ok (ΓV10_ok) (pure_ok Try.func5 (by kernel_rfl) (by kernel_rfl) AngleV_spec)
theorem ΓV1_ok : ∀ f g, ΓV1 f = some g → g.ok Try.prog f := ΓV11_ok
theorem ΓV2_ok : ∀ f g, ΓV2 f = some g → g.ok Try.prog f := ΓV1_ok
end Go.Proofs.Ytlcfnlhognegcaa
end
section
namespace Go.Proofs.Ytlcfnlhognegcaa
open Go.SE
def pev : List Int → Int → Int
  | [], _ => 0
  | c :: p, x => c + x * pev p x
def padd : List Int → List Int → List Int
  | [], q => q
  | a :: p, [] => a :: p
  | a :: p, b :: q => (a + b) :: padd p q
def psc (c : Int) : List Int → List Int
  | [] => []
  | a :: p => c * a :: psc c p
def pmul : List Int → List Int → List Int
  | [], _ => []
  | a :: p, q => padd (psc a q) (0 :: pmul p q)
def pcomp : List Int → List Int → List Int
  | [], _ => []
  | a :: p, q => padd [a] (pmul q (pcomp p q))
def pab : List Int → Int → Int
  | [], _ => 0
  | c :: p, x => iabs c + x * pab p x
theorem pev_add (x : Int) : ∀ p q, pev (padd p q) x = pev p x + pev q x
  | [], q => by simp [padd, pev]
  | a :: p, [] => by simp [padd, pev]
  | a :: p, b :: q => by simp only [padd, pev, pev_add x p q, Int.mul_add]; omega
theorem pev_sc (c x : Int) : ∀ p, pev (psc c p) x = c * pev p x
  | [] => by simp [psc, pev]
  | a :: p => by simp only [psc, pev, pev_sc c x p, Int.mul_add]; rw [Int.mul_left_comm]
theorem pev_mul (x : Int) : ∀ p q, pev (pmul p q) x = pev p x * pev q x
  | [], q => by simp [pmul, pev]
  | a :: p, q => by simp only [pmul, pev_add, pev_sc, pev, pev_mul x p q, Int.add_mul, Int.mul_assoc]; omega
theorem pev_comp (x : Int) : ∀ p q, pev (pcomp p q) x = pev p (pev q x)
  | [], q => by simp [pcomp, pev]
  | a :: p, q => by simp only [pcomp, pev_add, pev_mul, pev, pev_comp x p q]; omega
theorem pab_nonneg {x : Int} (h : 0 ≤ x) : ∀ p, 0 ≤ pab p x
  | [] => Int.le_refl _
  | c :: p => by have := Int.mul_nonneg h (pab_nonneg h p); have := iabs_nonneg c; show 0 ≤ iabs c + x * pab p x; omega
theorem pev_in {x q : Int} (h0 : 0 ≤ x) (h1 : x ≤ q) : ∀ p, -pab p q ≤ pev p x ∧ pev p x ≤ pab p q
  | [] => ⟨Int.le_refl _, Int.le_refl _⟩
  | c :: p => by
    obtain ⟨a, b⟩ := pev_in h0 h1 p
    have n := pab_nonneg (x := q) (by omega) p
    have m1 : x * pab p q ≤ q * pab p q := Int.mul_le_mul_of_nonneg_right h1 n
    have m2 : x * pev p x ≤ x * pab p q := Int.mul_le_mul_of_nonneg_left b h0
    have m3 : x * -pab p q ≤ x * pev p x := Int.mul_le_mul_of_nonneg_left a h0
    rw [Int.mul_neg] at m3
    have c1 : -iabs c ≤ c ∧ c ≤ iabs c := by unfold iabs; split <;> omega
    show -(iabs c + q * pab p q) ≤ c + x * pev p x ∧ c + x * pev p x ≤ iabs c + q * pab p q
    omega
def mg (a : Int) : Nat → Int
  | 0 => a
  | k + 1 => mg a k * a / 4294967296 * a / 4294967296 / ((2 * ((k : Int) + 1)) * (2 * ((k : Int) + 1) + 1))
def sgk : Nat → Int
  | 0 => 1
  | k + 1 => -sgk k
theorem sgk_or : ∀ k, sgk k = 1 ∨ sgk k = -1
  | 0 => .inl rfl
  | k + 1 => by rcases sgk_or k with h | h <;> simp [sgk, h]
def tT (v : Int) : Nat → Int
  | 0 => v
  | k + 1 => -Int.tdiv (mulE (mulE (tT v k) v) v) ((2 * ((k : Int) + 1)) * (2 * ((k : Int) + 1) + 1))
def uT (v : Int) : Nat → Int
  | 0 => v
  | k + 1 => uT v k + tT v (k + 1)
theorem mulE_neg (a b : Int) : mulE (-a) b = -mulE a b := by unfold mulE; rw [Int.neg_mul, Int.neg_tdiv]
theorem mulE_neg2 (a b : Int) : mulE a (-b) = -mulE a b := by unfold mulE; rw [Int.mul_neg, Int.neg_tdiv]
theorem tT_neg (v : Int) : ∀ k, tT (-v) k = -tT v k
  | 0 => rfl
  | k + 1 => by
    show -Int.tdiv (mulE (mulE (tT (-v) k) (-v)) (-v)) _ = - -Int.tdiv (mulE (mulE (tT v k) v) v) _
    rw [tT_neg v k]
    simp only [mulE_neg, mulE_neg2, Int.neg_tdiv, Int.neg_neg]
theorem uT_neg (v : Int) : ∀ k, uT (-v) k = -uT v k
  | 0 => rfl
  | k + 1 => by show uT (-v) k + tT (-v) (k + 1) = -(uT v k + tT v (k + 1)); rw [uT_neg v k, tT_neg]; omega
theorem den_pos (k : Nat) : (0 : Int) < (2 * ((k : Int) + 1)) * (2 * ((k : Int) + 1) + 1) := Int.mul_pos (by omega) (by omega)
theorem mg_nonneg {a : Int} (h : 0 ≤ a) : ∀ k, 0 ≤ mg a k
  | 0 => h
  | k + 1 => by
    have h1 := Int.mul_nonneg (mg_nonneg h k) h
    have h2 : 0 ≤ mg a k * a / 4294967296 := Int.ediv_nonneg h1 (by decide)
    exact Int.ediv_nonneg (Int.ediv_nonneg (Int.mul_nonneg h2 h) (by decide)) (Int.le_of_lt (den_pos k))
theorem mulE_pos {a b : Int} (ha : 0 ≤ a) (hb : 0 ≤ b) : mulE a b = a * b / 4294967296 := Int.tdiv_eq_ediv_of_nonneg (Int.mul_nonneg ha hb)
theorem tT_mg {a : Int} (h : 0 ≤ a) : ∀ k, tT a k = sgk k * mg a k
  | 0 => by show a = 1 * a; omega
  | k + 1 => by
    have h0 := mg_nonneg h k
    have h1 : 0 ≤ mg a k * a / 4294967296 := Int.ediv_nonneg (Int.mul_nonneg h0 h) (by decide)
    have h2 : 0 ≤ mg a k * a / 4294967296 * a / 4294967296 := Int.ediv_nonneg (Int.mul_nonneg h1 h) (by decide)
    show -Int.tdiv (mulE (mulE (tT a k) a) a) _ = -sgk k * (mg a k * a / 4294967296 * a / 4294967296 / _)
    rw [tT_mg h k]
    have e : Int.tdiv (mulE (mulE (mg a k) a) a) ((2 * ((k : Int) + 1)) * (2 * ((k : Int) + 1) + 1)) = mg a k * a / 4294967296 * a / 4294967296 / ((2 * ((k : Int) + 1)) * (2 * ((k : Int) + 1) + 1)) := by
      rw [mulE_pos h0 h, mulE_pos h1 h, Int.tdiv_eq_ediv_of_nonneg h2]
    rw [← e]
    rcases sgk_or k with hs | hs
    · rw [hs, Int.one_mul]; omega
    · rw [hs, show (-1 : Int) * mg a k = -mg a k by omega]
      simp only [mulE_neg, Int.neg_tdiv, Int.neg_neg]; omega
def CC : Nat → Int
  | 0 => 1
  | k + 1 => CC k * (18446744073709551616 * ((2 * ((k : Int) + 1)) * (2 * ((k : Int) + 1) + 1)))
def aa (a : Int) : Nat → Int
  | 0 => a
  | k + 1 => aa a k * (a * a)
theorem CC_pos : ∀ k, 0 < CC k
  | 0 => by decide
  | k + 1 => Int.mul_pos (CC_pos k) (Int.mul_pos (by decide) (den_pos k))
theorem mg_in {a : Int} (h : 0 ≤ a) (h1 : a ≤ 6746518852) : ∀ k, mg a k * CC k ≤ aa a k ∧ aa a k ≤ (mg a k + 3) * CC k
  | 0 => by show a * 1 ≤ a ∧ a ≤ (a + 3) * 1; omega
  | k + 1 => by
    obtain ⟨l, u⟩ := mg_in h h1 k
    have c0 := CC_pos k
    have m0 := mg_nonneg h k
    have hN := den_pos k
    have hN6 : (6 : Int) ≤ (2 * ((k : Int) + 1)) * (2 * ((k : Int) + 1) + 1) := by
      have : (2 : Int) * 3 ≤ (2 * ((k : Int) + 1)) * (2 * ((k : Int) + 1) + 1) := Int.mul_le_mul (by omega) (by omega) (by decide) (by omega)
      omega
    show mg a k * a / 4294967296 * a / 4294967296 / _ * (CC k * (18446744073709551616 * _)) ≤ aa a k * (a * a) ∧ aa a k * (a * a) ≤ (mg a k * a / 4294967296 * a / 4294967296 / _ + 3) * (CC k * (18446744073709551616 * _))
    generalize (2 * ((k : Int) + 1)) * (2 * ((k : Int) + 1) + 1) = N at *
    generalize hm : mg a k = m at *
    generalize CC k = c at *
    have p0 := Int.ediv_nonneg (Int.mul_nonneg m0 h) (show (0 : Int) ≤ 4294967296 by decide)
    have p1 : m * a / 4294967296 * 4294967296 ≤ m * a := Int.ediv_mul_le _ (by decide)
    have p2 : m * a < (m * a / 4294967296 + 1) * 4294967296 := Int.lt_ediv_add_one_mul_self _ (by decide)
    generalize m * a / 4294967296 = p at *
    have q1 : p * a / 4294967296 * 4294967296 ≤ p * a := Int.ediv_mul_le _ (by decide)
    have q2 : p * a < (p * a / 4294967296 + 1) * 4294967296 := Int.lt_ediv_add_one_mul_self _ (by decide)
    generalize p * a / 4294967296 = q at *
    have r1 : q / N * N ≤ q := Int.ediv_mul_le _ (by omega)
    have r2 : q < (q / N + 1) * N := Int.lt_ediv_add_one_mul_self _ hN
    generalize q / N = r at *
    have haa := sq_nonneg a
    -- m a a between
    have e1 : m * (a * a) = m * a * a := (Int.mul_assoc m a a).symm
    have e2 : p * 4294967296 * a = p * a * 4294967296 := Int.mul_right_comm _ _ _
    have s1 : p * 4294967296 * a ≤ m * a * a := Int.mul_le_mul_of_nonneg_right p1 h
    have s2 : m * a * a ≤ (p + 1) * 4294967296 * a := Int.mul_le_mul_of_nonneg_right (by omega) h
    have e3 : (p + 1) * 4294967296 * a = p * a * 4294967296 + 4294967296 * a := by rw [Int.add_mul, Int.add_mul, Int.mul_right_comm p]; omega
    constructor
    · -- r N F F ≤ m a a
      have t1 : r * N * 18446744073709551616 ≤ m * (a * a) := by omega
      have t2 : r * N * 18446744073709551616 * c ≤ m * (a * a) * c := Int.mul_le_mul_of_nonneg_right t1 (by omega)
      have t3 : m * (a * a) * c = m * c * (a * a) := Int.mul_right_comm _ _ _
      have t4 : m * c * (a * a) ≤ aa a k * (a * a) := Int.mul_le_mul_of_nonneg_right l haa
      have t5 : r * (c * (18446744073709551616 * N)) = r * N * 18446744073709551616 * c := by
        rw [Int.mul_comm 18446744073709551616 N, ← Int.mul_assoc c, ← Int.mul_assoc r, Int.mul_right_comm (r * N), ← Int.mul_assoc r, Int.mul_right_comm r c N]
      omega
    · have a2 : a * a ≤ 6746518852 * a := Int.mul_le_mul_of_nonneg_right h1 h
      have e4 : (r + 1) * N = r * N + N := by rw [Int.add_mul]; omega
      have e5 : (r + 3) * N = r * N + 3 * N := by rw [Int.add_mul]
      have t1 : (m + 3) * (a * a) ≤ (r + 3) * N * 18446744073709551616 := by
        have : (m + 3) * (a * a) = m * (a * a) + 3 * (a * a) := Int.add_mul _ _ _
        omega
      have t2 : (m + 3) * (a * a) * c ≤ (r + 3) * N * 18446744073709551616 * c := Int.mul_le_mul_of_nonneg_right t1 (by omega)
      have t3 : (m + 3) * (a * a) * c = (m + 3) * c * (a * a) := Int.mul_right_comm _ _ _
      have t4 : aa a k * (a * a) ≤ (m + 3) * c * (a * a) := Int.mul_le_mul_of_nonneg_right u haa
      have t5 : (r + 3) * (c * (18446744073709551616 * N)) = (r + 3) * N * 18446744073709551616 * c := by
        rw [Int.mul_comm 18446744073709551616 N, ← Int.mul_assoc c, ← Int.mul_assoc (r + 3), Int.mul_right_comm ((r + 3) * N), ← Int.mul_assoc (r + 3), Int.mul_right_comm (r + 3) c N]
      omega
def DD : Int := CC 8
def PL : List Int := [0, CC 8 / CC 0, 0, -(CC 8 / CC 1), 0, CC 8 / CC 2, 0, -(CC 8 / CC 3), 0, CC 8 / CC 4, 0, -(CC 8 / CC 5), 0, CC 8 / CC 6, 0, -(CC 8 / CC 7), 0, CC 8 / CC 8]
def GL (q : Int) : List Int := padd (padd (pmul PL PL) (pmul (pcomp PL [q, -1]) (pcomp PL [q, -1]))) [-(DD * 4294967296 * (DD * 4294967296))]
theorem GL_1 : pab (GL 6746518852) 6746518852 ≤ 512 * 4294967296 * (DD * DD) := by decide +kernel
theorem GL_2 : pab (GL 6746518851) 6746518851 ≤ 512 * 4294967296 * (DD * DD) := by decide +kernel
theorem quot (k : Nat) (h : k ≤ 8) : CC 8 / CC k * CC k = CC 8 := by
  have : ∀ k : Fin 9, CC 8 / CC k.val * CC k.val = CC 8 := by decide +kernel
  exact this ⟨k, by omega⟩
theorem term_in {a : Int} (h : 0 ≤ a) (h1 : a ≤ 6746518852) (k : Nat) (hk : k ≤ 8) : 0 ≤ CC 8 / CC k * aa a k - DD * mg a k ∧ CC 8 / CC k * aa a k - DD * mg a k ≤ 3 * DD := by
  obtain ⟨l, u⟩ := mg_in h h1 k
  have q := quot k hk
  have r0 : 0 ≤ CC 8 / CC k := Int.ediv_nonneg (Int.le_of_lt (CC_pos 8)) (Int.le_of_lt (CC_pos k))
  unfold DD
  generalize CC 8 / CC k = R at *
  have a1 := Int.mul_le_mul_of_nonneg_left l r0
  have a2 := Int.mul_le_mul_of_nonneg_left u r0
  have e1 : R * (mg a k * CC k) = CC 8 * mg a k := by rw [Int.mul_left_comm, q, Int.mul_comm]
  have e2 : R * ((mg a k + 3) * CC k) = CC 8 * mg a k + 3 * CC 8 := by rw [Int.mul_left_comm, q, Int.add_mul, Int.mul_comm]
  omega
theorem pev_PL (a : Int) : pev PL a = CC 8 / CC 0 * aa a 0 - CC 8 / CC 1 * aa a 1 + CC 8 / CC 2 * aa a 2 - CC 8 / CC 3 * aa a 3 + CC 8 / CC 4 * aa a 4 - CC 8 / CC 5 * aa a 5 + CC 8 / CC 6 * aa a 6 - CC 8 / CC 7 * aa a 7 + CC 8 / CC 8 * aa a 8 := by
  unfold PL
  generalize CC 8 / CC 0 = c0
  generalize CC 8 / CC 1 = c1
  generalize CC 8 / CC 2 = c2
  generalize CC 8 / CC 3 = c3
  generalize CC 8 / CC 4 = c4
  generalize CC 8 / CC 5 = c5
  generalize CC 8 / CC 6 = c6
  generalize CC 8 / CC 7 = c7
  generalize CC 8 / CC 8 = c8
  have odd : ∀ (c : Int) (p : List Int), pev (0 :: c :: p) a = a * (c + a * pev p a) := fun c p => by simp only [pev]; omega
  have sh : ∀ (c : Int) (p : List Int), pev (0 :: c :: p) a = c * a + (a * a) * pev p a := fun c p => by rw [odd, Int.mul_add, Int.mul_comm a c, Int.mul_assoc]
  have e0 : ∀ k, aa a (k + 1) = (a * a) * aa a k := fun k => by show aa a k * (a * a) = _; rw [Int.mul_comm]
  -- p(x) = c0 x + x² p1(x), where p1 begins with 0 again
  have s0 : pev [0, c0, 0, -c1, 0, c2, 0, -c3, 0, c4, 0, -c5, 0, c6, 0, -c7, 0, c8] a = c0 * a + (a * a) * (-c1 * a + (a * a) * (c2 * a + (a * a) * (-c3 * a + (a * a) * (c4 * a + (a * a) * (-c5 * a + (a * a) * (c6 * a + (a * a) * (-c7 * a + (a * a) * (c8 * a)))))))) := by
    rw [sh, sh, sh, sh, sh, sh, sh, sh, sh]; simp [pev]
  rw [s0]
  simp only [e0, show aa a 0 = a from rfl]
  generalize a * a = b
  simp only [Int.mul_add, Int.neg_mul, Int.mul_neg, Int.mul_left_comm b]
  omega
theorem uT_sum (a : Int) (h : 0 ≤ a) : uT a 8 = mg a 0 - mg a 1 + mg a 2 - mg a 3 + mg a 4 - mg a 5 + mg a 6 - mg a 7 + mg a 8 := by
  have e : ∀ k, uT a (k + 1) = uT a k + sgk (k + 1) * mg a (k + 1) := fun k => by rw [← tT_mg h (k + 1)]; rfl
  rw [e 7, e 6, e 5, e 4, e 3, e 2, e 1, e 0]
  show a + -1 * mg a 1 + 1 * mg a 2 + -1 * mg a 3 + 1 * mg a 4 + -1 * mg a 5 + 1 * mg a 6 + -1 * mg a 7 + 1 * mg a 8 = a - _ + _ - _ + _ - _ + _ - _ + _
  omega
theorem uT_in {a : Int} (h : 0 ≤ a) (h1 : a ≤ 6746518852) : -(12 * DD) ≤ DD * uT a 8 - pev PL a ∧ DD * uT a 8 - pev PL a ≤ 12 * DD := by
  rw [uT_sum a h, pev_PL]
  have t0 : CC 8 / CC 0 * aa a 0 = DD * mg a 0 := by show CC 8 / CC 0 * a = CC 8 * a; rw [show CC 8 / CC 0 = CC 8 by decide +kernel]
  have t1 := term_in h h1 1 (by decide)
  have t2 := term_in h h1 2 (by decide)
  have t3 := term_in h h1 3 (by decide)
  have t4 := term_in h h1 4 (by decide)
  have t5 := term_in h h1 5 (by decide)
  have t6 := term_in h h1 6 (by decide)
  have t7 := term_in h h1 7 (by decide)
  have t8 := term_in h h1 8 (by decide)
  simp only [Int.mul_add, Int.mul_sub]
  generalize DD = D at *
  omega
theorem GL_ev (q a : Int) : pev (GL q) a = pev PL a * pev PL a + pev PL (q - a) * pev PL (q - a) - DD * 4294967296 * (DD * 4294967296) := by
  have e : pev [q, -1] a = q - a := by simp [pev]; omega
  unfold GL
  rw [pev_add, pev_add, pev_mul, pev_mul, pev_comp, e]
  simp [pev]; omega
theorem mmmm (a b c d : Int) : a * b * (c * d) = a * c * (b * d) := by rw [Int.mul_assoc, Int.mul_assoc, Int.mul_left_comm b c d]
theorem mul_in {p q P Q : Int} (hP : 0 ≤ P) (a1 : -P ≤ p) (a2 : p ≤ P) (b1 : -Q ≤ q) (b2 : q ≤ Q) : -(P * Q) ≤ p * q ∧ p * q ≤ P * Q := by
  have c1 : iabs p ≤ P := by unfold iabs; split <;> omega
  have c2 : iabs q ≤ Q := by unfold iabs; split <;> omega
  have c3 : iabs p * iabs q ≤ P * Q := Int.mul_le_mul c1 c2 (iabs_nonneg q) hP
  have c4 := sgn_mul p q
  have c5 := iabs_mul (a := p) (b := q)
  generalize iabs p * iabs q = z at *
  generalize (!(decide (p < 0) == decide (q < 0))) = n at *
  rw [← c4]
  unfold sv
  cases n <;> simp <;> omega
theorem sq_sum {D u w A B F : Int} (hD : 0 < D) (hF : 1000 ≤ F) (h1 : -(12 * D) ≤ D * u - A ∧ D * u - A ≤ 12 * D) (h2 : -(12 * D) ≤ D * w - B ∧ D * w - B ≤ 12 * D)
    (h3 : -(512 * F * (D * D)) ≤ A * A + B * B - D * F * (D * F) ∧ A * A + B * B - D * F * (D * F) ≤ 512 * F * (D * D)) : -(640 * F) ≤ u * u + w * w - F * F ∧ u * u + w * w - F * F ≤ 640 * F := by
  have hDD : 0 < D * D := Int.mul_pos hD hD
  have eF : D * F * (D * F) = F * F * (D * D) := by rw [mmmm, Int.mul_comm]
  have k1 : 512 * F * (D * D) = 512 * (F * (D * D)) := Int.mul_assoc _ _ _
  rw [eF, k1] at h3
  have hFF : 1000 * F ≤ F * F := Int.mul_le_mul_of_nonneg_right hF (by omega)
  have hFD : 1000 * (D * D) ≤ F * (D * D) := Int.mul_le_mul_of_nonneg_right hF (by omega)
  have hFFD : 1000 * (F * (D * D)) ≤ F * (F * (D * D)) := Int.mul_le_mul_of_nonneg_right hF (by omega)
  have k2 : F * F * (D * D) = F * (F * (D * D)) := Int.mul_assoc _ _ _
  have k3 : (2 * (D * F)) * (2 * (D * F)) = 4 * (F * (F * (D * D))) := by rw [mmmm, eF, k2]; omega
  have p2 : 0 ≤ D * F := Int.mul_nonneg (Int.le_of_lt hD) (by omega)
  -- A and B are at most 2 D F
  have lim : ∀ {X Y : Int}, X * X + Y * Y - F * F * (D * D) ≤ 512 * (F * (D * D)) → -(2 * (D * F)) ≤ X ∧ X ≤ 2 * (D * F) := by
    intro X Y h
    have y := sq_nonneg Y
    have hX : X * X ≤ (2 * (D * F)) * (2 * (D * F)) := by omega
    have hX' : (-X) * (-X) ≤ (2 * (D * F)) * (2 * (D * F)) := by rw [Int.neg_mul_neg]; exact hX
    have a := sq_le_of (show 0 ≤ 2 * (D * F) by omega) hX
    have b := sq_le_of (show 0 ≤ 2 * (D * F) by omega) hX'
    omega
  have lA := lim h3.2
  have lB := lim (X := B) (Y := A) (by omega)
  -- (D u)² and A²
  have near : ∀ {U X : Int}, -(12 * D) ≤ U - X → U - X ≤ 12 * D → -(2 * (D * F)) ≤ X ∧ X ≤ 2 * (D * F) → -(49 * (F * (D * D))) ≤ U * U - X * X ∧ U * U - X * X ≤ 49 * (F * (D * D)) := by
    intro U X l u ⟨xl, xu⟩
    have e : U * U - X * X = (U - X) * (2 * X + (U - X)) := by rw [Int.sub_mul, Int.mul_add, Int.mul_add, Int.mul_sub, Int.mul_sub, Int.mul_left_comm U 2, Int.mul_left_comm X 2, Int.mul_comm X U]; omega
    rw [e]
    have t := mul_in (p := U - X) (q := 2 * X + (U - X)) (P := 12 * D) (Q := 4 * (D * F) + 12 * D) (by omega) (by omega) u (by omega) (by omega)
    have e2 : 12 * D * (4 * (D * F) + 12 * D) = 48 * (F * (D * D)) + 144 * (D * D) := by
      rw [Int.mul_add, mmmm 12 D 4, mmmm 12 D 12, ← Int.mul_assoc D D F, Int.mul_comm (D * D) F]
      omega
    omega
  have nA := near h1.1 h1.2 lA
  have nB := near h2.1 h2.2 lB
  have eu : D * u * (D * u) = u * u * (D * D) := by rw [mmmm, Int.mul_comm]
  have ew : D * w * (D * w) = w * w * (D * D) := by rw [mmmm, Int.mul_comm]
  rw [eu] at nA
  rw [ew] at nB
  have tot : (u * u + w * w - F * F) * (D * D) = u * u * (D * D) + w * w * (D * D) - F * F * (D * D) := by rw [Int.sub_mul, Int.add_mul]
  have b1 : 640 * F * (D * D) = 640 * (F * (D * D)) := Int.mul_assoc _ _ _
  have b2 : -(640 * F) * (D * D) = -(640 * F * (D * D)) := Int.neg_mul _ _
  constructor
  · refine Int.le_of_mul_le_mul_right ?_ hDD
    rw [tot, b2]; omega
  · refine Int.le_of_mul_le_mul_right ?_ hDD
    rw [tot]; omega
theorem circle {a b : Int} (ha : 0 ≤ a) (hb : 0 ≤ b) (h : a + b = 6746518852 ∨ a + b = 6746518851) : -(640 * 4294967296) ≤ uT a 8 * uT a 8 + uT b 8 * uT b 8 - 4294967296 * 4294967296 ∧ uT a 8 * uT a 8 + uT b 8 * uT b 8 - 4294967296 * 4294967296 ≤ 640 * 4294967296 := by
  refine sq_sum (D := DD) (CC_pos 8) (by decide) (uT_in ha (by omega)) (uT_in hb (by omega)) ?_
  rcases h with h | h
  · have e : b = 6746518852 - a := by omega
    rw [e, ← GL_ev]
    have := pev_in ha (show a ≤ 6746518852 by omega) (GL 6746518852)
    have := GL_1
    omega
  · have e : b = 6746518851 - a := by omega
    rw [e, ← GL_ev]
    have := pev_in ha (show a ≤ 6746518851 by omega) (GL 6746518851)
    have := GL_2
    omega
end Go.Proofs.Ytlcfnlhognegcaa
end
section
namespace Go.Proofs.Ytlcfnlhognegcaa
open Go.SE
theorem fitE_self {e : Int} (h : Sd e) : fitE e = e := by obtain ⟨_, _⟩ := h; unfold fitE; rw [if_neg (by omega), if_neg (by omega)]
theorem fitG_self {e : Int} {f : Bool} (h : Sd e) : fitG e f = f := by obtain ⟨_, _⟩ := h; unfold fitG; rw [if_pos (by unfold iabs; split <;> omega)]
theorem fitN_self {e : Int} {f : Bool} (h : Sd e) : fitN e f = ⟨e, f⟩ := by unfold fitN; rw [fitE_self h, fitG_self h]
theorem mulN_self {a b : NB} (ha : Sd a.v) (hb : Sd b.v) (h : Sd (mulE a.v b.v)) : mulN a b = ⟨mulE a.v b.v, a.f || b.f⟩ := by unfold mulN; rw [ha.self, hb.self, ha.flag, hb.flag, fitN_self h]
theorem addN_self {a b : NB} (ha : Sd a.v) (hb : Sd b.v) (h : Sd (a.v + b.v)) : addN a b = ⟨a.v + b.v, a.f || b.f⟩ := by unfold addN; rw [ha.self, hb.self, ha.flag, hb.flag, fitN_self h]
theorem negN_self {a : NB} (ha : Sd a.v) : negN a = ⟨-a.v, a.f⟩ := by unfold negN; rw [ha.self, ha.flag]
theorem tdiv_in {x B d : Int} (hd : 0 < d) (h : -B ≤ x ∧ x ≤ B) : -(B / d) ≤ Int.tdiv x d ∧ Int.tdiv x d ≤ B / d := by
  have key : ∀ y, 0 ≤ y → y ≤ B → 0 ≤ Int.tdiv y d ∧ Int.tdiv y d ≤ B / d := fun y h0 h1 => by
    rw [Int.tdiv_eq_ediv_of_nonneg h0]
    exact ⟨Int.ediv_nonneg h0 (by omega), Int.ediv_le_ediv hd h1⟩
  rcases Int.le_total 0 x with hx | hx
  · have := key x hx h.2; omega
  · have := key (-x) (by omega) (by omega)
    rw [Int.neg_tdiv] at this
    omega
theorem divN_int {a : NB} {n : Int} (ha : Sd a.v) (hn : 0 < n) (hn1 : n < 2147483648) : divN a (intN n) = ⟨Int.tdiv a.v n, a.f⟩ := by
  have hs : Sd (n * 4294967296) := ⟨by omega, by omega⟩
  have e : intN n = ⟨n * 4294967296, false⟩ := fitN_self hs
  have e2 : ratE a.v (n * 4294967296) = Int.tdiv a.v n := Int.mul_tdiv_mul_of_pos_left _ _ (by decide)
  have hq := tdiv_in (x := a.v) (B := 9223372036854775807) hn ha
  have hB : (9223372036854775807 : Int) / n ≤ 9223372036854775807 := Int.ediv_le_self _ (by decide)
  have ht : Sd (Int.tdiv a.v n) := ⟨by omega, by omega⟩
  unfold divN ratV ratF
  rw [e]
  simp only
  rw [ha.self, hs.self, ha.flag, hs.flag, if_neg (by omega), if_neg (by omega), e2, fitE_self ht, fitG_self ht, Bool.false_or, Bool.or_false]
theorem mulE_in {a b A B : Int} (hA : 0 ≤ A) (ha : -A ≤ a ∧ a ≤ A) (hb : -B ≤ b ∧ b ≤ B) : -(A * B / 4294967296) ≤ mulE a b ∧ mulE a b ≤ A * B / 4294967296 := tdiv_in (by decide) (mul_in hA ha.1 ha.2 hb.1 hb.2)
def InQ (v : Int) : Prop := -6746518852 ≤ v ∧ v ≤ 6746518852
theorem tT_in {v : Int} (h : InQ v) : ∀ k, InQ (tT v k)
  | 0 => h
  | k + 1 => by
    have h1 := mulE_in (by decide) (tT_in h k) h
    have h2 := mulE_in (A := 10597451456) (by decide) ⟨Int.le_trans (by decide) h1.1, Int.le_trans h1.2 (by decide)⟩ h
    have hN := den_pos k
    have hN6 : (6 : Int) ≤ (2 * ((k : Int) + 1)) * (2 * ((k : Int) + 1) + 1) := by
      have : (2 : Int) * 3 ≤ (2 * ((k : Int) + 1)) * (2 * ((k : Int) + 1) + 1) := Int.mul_le_mul (by omega) (by omega) (by decide) (by omega)
      omega
    have h3 := tdiv_in (B := 40479113112) hN ⟨Int.le_trans (by decide) h2.1, Int.le_trans h2.2 (by decide)⟩
    have h4 : (40479113112 : Int) / ((2 * ((k : Int) + 1)) * (2 * ((k : Int) + 1) + 1)) ≤ 6746518852 := by
      refine Int.ediv_le_of_le_mul hN ?_
      have := Int.mul_le_mul_of_nonneg_left hN6 (show (0 : Int) ≤ 6746518852 by decide)
      omega
    show InQ (-Int.tdiv _ _)
    unfold InQ
    omega
theorem InQ.sd {v : Int} (h : InQ v) : Sd v := by obtain ⟨_, _⟩ := h; exact ⟨by omega, by omega⟩
theorem sinT_eq {y : NB} (h : InQ y.v) : ∀ k, k ≤ 8 → sinT y k = ⟨tT y.v k, y.f⟩
  | 0, _ => rfl
  | k + 1, hk => by
    have ih := sinT_eq h k (by omega)
    have hs : Sd y.v := h.sd
    have ht := tT_in h k
    have h1 := mulE_in (by decide) ht h
    have h1' : Sd (mulE (tT y.v k) y.v) := ⟨Int.le_trans (by decide) h1.1, Int.le_trans h1.2 (by decide)⟩
    have h2 := mulE_in (A := 10597451456) (by decide) ⟨Int.le_trans (by decide) h1.1, Int.le_trans h1.2 (by decide)⟩ h
    have h2' : Sd (mulE (mulE (tT y.v k) y.v) y.v) := ⟨Int.le_trans (by decide) h2.1, Int.le_trans h2.2 (by decide)⟩
    have hN := den_pos k
    have hN1 := Int.mul_le_mul (a := 2 * ((k : Int) + 1)) (b := 2 * ((k : Int) + 1) + 1) (c := 18) (d := 19) (by omega) (by omega) (by omega) (by decide)
    have h5 := tT_in h (k + 1)
    show sinStep y (sinT y k) k = _
    unfold sinStep
    rw [ih, mulN_self (a := ⟨tT y.v k, y.f⟩) ht.sd hs h1', mulN_self (a := ⟨mulE (tT y.v k) y.v, y.f || y.f⟩) h1' hs h2', divN_int (a := ⟨mulE (mulE (tT y.v k) y.v) y.v, _⟩) h2' hN (by omega), negN_self]
    · simp only [Bool.or_self]; rfl
    · have e : Int.tdiv (mulE (mulE (tT y.v k) y.v) y.v) ((2 * ((k : Int) + 1)) * (2 * ((k : Int) + 1) + 1)) = -tT y.v (k + 1) := by show _ = - -Int.tdiv _ _; omega
      show Sd (Int.tdiv _ _)
      rw [e]; exact neg_sd h5.sd
theorem uT_lim {v : Int} (h : InQ v) : ∀ k : Nat, -(((k : Int) + 1) * 6746518852) ≤ uT v k ∧ uT v k ≤ ((k : Int) + 1) * 6746518852
  | 0 => by obtain ⟨_, _⟩ := h; show _ ≤ v ∧ v ≤ _; omega
  | k + 1 => by
    have a := uT_lim h k
    obtain ⟨_, _⟩ := tT_in h (k + 1)
    show _ ≤ uT v k + tT v (k + 1) ∧ uT v k + tT v (k + 1) ≤ _
    omega
theorem sinU_eq {y : NB} (h : InQ y.v) : ∀ k, k ≤ 8 → sinU y k = ⟨uT y.v k, y.f⟩
  | 0, _ => rfl
  | k + 1, hk => by
    have a := uT_lim h k
    have b := uT_lim h (k + 1)
    show addN (sinU y k) (sinT y (k + 1)) = _
    rw [sinU_eq h k (by omega), sinT_eq h (k + 1) hk, addN_self ⟨by show -9223372036854775807 ≤ uT y.v k; omega, by show uT y.v k ≤ 9223372036854775807; omega⟩ (tT_in h (k + 1)).sd ⟨by show _ ≤ uT y.v k + tT y.v (k + 1); have : uT y.v k + tT y.v (k + 1) = uT y.v (k + 1) := rfl; omega, by show uT y.v k + tT y.v (k + 1) ≤ _; have : uT y.v k + tT y.v (k + 1) = uT y.v (k + 1) := rfl; omega⟩]
    simp only [Bool.or_self]; rfl
def clE (u : Int) : Int := maxE (-4294967296) (minE u 4294967296)
theorem clE_neg (u : Int) : clE (-u) = -clE u := by unfold clE maxE minE; (repeat' split) <;> omega
theorem sinY_inQ (a : NB) : InQ (sinY a).v := sinY_in a
theorem sinN_eq (a : NB) : sinN a = ⟨clE (uT (sinY a).v 8), sndF a.v a.f⟩ := by
  have h := sinY_inQ a
  have b := uT_lim h 8
  have hs : Sd (uT (sinY a).v 8) := ⟨by omega, by omega⟩
  unfold sinN clampN
  rw [sinU_eq h 8 (Nat.le_refl _)]
  simp only
  rw [hs.self, hs.flag]
  have e1 : sndV (-4294967296) = -4294967296 := by decide
  have e2 : sndV 4294967296 = 4294967296 := by decide
  have e3 : ∀ f, sndF (-4294967296) f = f := fun f => sndF_self (by decide)
  have e4 : ∀ f, sndF 4294967296 f = f := fun f => sndF_self (by decide)
  rw [e1, e2, e3, e4, Bool.or_false, Bool.false_or]
  rfl
theorem wrapT_mod (v : Int) : ∃ k, wrapT v = v - 26986075409 * k := by
  have h := Int.tmod_add_mul_tdiv v 26986075409
  unfold wrapT
  split
  · exact ⟨Int.tdiv v 26986075409 + 1, by omega⟩
  · split
    · exact ⟨Int.tdiv v 26986075409 - 1, by omega⟩
    · exact ⟨Int.tdiv v 26986075409, by omega⟩
theorem wrapT_quarter {w : Int} (h : -13493037704 ≤ w ∧ w ≤ 13493037704) : wrapT (w + 6746518852) = if w + 6746518852 > 13493037704 then w + 6746518852 - 26986075409 else w + 6746518852 := by
  obtain ⟨k, hk⟩ := wrapT_mod (w + 6746518852)
  have a := wrapT_in (v := w + 6746518852)
  split <;> omega
theorem cosN_eq (a : NB) : cosN a = ⟨clE (uT (foldT (wrapT (wrapT (sndV a.v) + 6746518852))) 8), sndF a.v a.f⟩ := by
  have hw := wrapT_in (v := sndV a.v)
  have s1 : Sd (wrapT (sndV a.v)) := ⟨by omega, by omega⟩
  have s2 : Sd (wrapT (sndV a.v) + 6746518852) := ⟨by omega, by omega⟩
  have e : addN (wrapN a) ⟨6746518852, false⟩ = ⟨wrapT (sndV a.v) + 6746518852, sndF a.v a.f⟩ := by
    rw [addN_self (a := wrapN a) (b := ⟨6746518852, false⟩) s1 ⟨by decide, by decide⟩ s2]
    show NB.mk _ (sndF a.v a.f || false) = _
    rw [Bool.or_false]; rfl
  unfold cosN
  rw [e, sinN_eq]
  show NB.mk (clE (uT (foldT (wrapT (sndV (wrapT (sndV a.v) + 6746518852)))) 8)) (sndF (wrapT (sndV a.v) + 6746518852) (sndF a.v a.f)) = _
  rw [s2.self, s2.flag]
theorem uT_abs (v : Int) : uT v 8 * uT v 8 = uT (iabs v) 8 * uT (iabs v) 8 := by
  unfold iabs
  split
  · rw [uT_neg, Int.neg_mul_neg]
  · rfl
theorem fold_sum {w : Int} (h : -13493037704 ≤ w ∧ w ≤ 13493037704) : iabs (foldT w) + iabs (foldT (wrapT (w + 6746518852))) = 6746518852 ∨ iabs (foldT w) + iabs (foldT (wrapT (w + 6746518852))) = 6746518851 := by
  rw [wrapT_quarter h]
  obtain ⟨_, _⟩ := h
  unfold foldT iabs
  (repeat' split) <;> omega
theorem clE_cases (u : Int) : (clE u = u) ∨ (clE u = 4294967296 ∧ 4294967296 < u) ∨ (clE u = -4294967296 ∧ u < -4294967296) := by unfold clE maxE minE; (repeat' split) <;> omega
theorem clE_sq (u : Int) : clE u * clE u ≤ u * u ∧ (clE u * clE u = u * u ∨ clE u * clE u = 4294967296 * 4294967296) := by
  rcases clE_cases u with h | ⟨h, h'⟩ | ⟨h, h'⟩
  · rw [h]; exact ⟨Int.le_refl _, .inl rfl⟩
  · rw [h]; exact ⟨sq_le (by decide) (by omega), .inr rfl⟩
  · rw [h]
    have := sq_le (a := 4294967296) (b := -u) (by decide) (by omega)
    rw [Int.neg_mul_neg] at this
    exact ⟨this, .inr rfl⟩
theorem clE_circle {u w B : Int} (h : -B ≤ u * u + w * w - 4294967296 * 4294967296 ∧ u * u + w * w - 4294967296 * 4294967296 ≤ B) : -B ≤ clE u * clE u + clE w * clE w - 4294967296 * 4294967296 ∧ clE u * clE u + clE w * clE w - 4294967296 * 4294967296 ≤ B := by
  obtain ⟨u1, u2⟩ := clE_sq u
  obtain ⟨w1, w2⟩ := clE_sq w
  have p := sq_nonneg (clE u)
  have q := sq_nonneg (clE w)
  rcases u2 with u2 | u2 <;> rcases w2 with w2 | w2 <;> omega
theorem sin_circle (a : NB) : -2748779069440 ≤ (sinN a).v * (sinN a).v + (cosN a).v * (cosN a).v - 18446744073709551616 ∧ (sinN a).v * (sinN a).v + (cosN a).v * (cosN a).v - 18446744073709551616 ≤ 2748779069440 := by
  rw [sinN_eq, cosN_eq a]
  have hw := wrapT_in (v := sndV a.v)
  have c := circle (iabs_nonneg (foldT (wrapT (sndV a.v)))) (iabs_nonneg (foldT (wrapT (wrapT (sndV a.v) + 6746518852)))) (fold_sum hw)
  rw [← uT_abs, ← uT_abs] at c
  exact clE_circle c
end Go.Proofs.Ytlcfnlhognegcaa
end
section
namespace Go.Proofs.Ytlcfnlhognegcaa
open Go.SE Go.RowKit
def rX (r : List SV) : NB := match r with | [.v (.int _ a), .v (.bool f), _, _] => ⟨a, f⟩ | _ => ⟨0, false⟩
def rY (r : List SV) : NB := match r with | [_, _, .v (.int _ a), .v (.bool f)] => ⟨a, f⟩ | _ => ⟨0, false⟩
def rV (r : List SV) : VB := ⟨rX r, rY r⟩
def isVI : List SV → Prop
  | [.v (.int .i64 a), .v (.bool _), .v (.int .i64 b), .v (.bool _)] => I64 a ∧ I64 b
  | _ => False
def nR (a : NB) : List SV := [.v (.int .i64 a.v), .v (.bool a.f)]
def vR (a : VB) : List SV := [.v (.int .i64 a.x.v), .v (.bool a.x.f), .v (.int .i64 a.y.v), .v (.bool a.y.f)]
def sumL (l : List (List SV)) : NB := ⟨fitE (sumG l), fitG (sumG l) (anyG l)⟩
def addL (n : Nat) (g : Nat → VB) : VB := ⟨sumL (rowsOf n fun i => nR (g i).x), sumL (rowsOf n fun i => nR (g i).y)⟩
def badV (a : VB) : Bool := sndF a.x.v a.x.f || sndF a.y.v a.y.f
def anyV (n : Nat) (g : Nat → VB) : Bool := match n with
  | 0 => false
  | k + 1 => anyV k g || badV (g k)
def sAddL : List SV → List Ro → Option (Option Prop × SV)
  | [.sl 0 4 0 n _], [⟨4, n', row⟩] => some (some (okAll isVI (rowsOf n' row) ∧ n' = n ∧ n < 1099511627776), vS (addL n fun i => rV (row i)))
  | _, _ => none
def sFaultL : List SV → List Ro → Option (Option Prop × SV)
  | [.sl 0 4 0 n _], [⟨4, n', row⟩] => some (some (okAll isVI (rowsOf n' row) ∧ n' = n ∧ n < 1099511627776), .v (.bool (anyV n fun i => rV (row i))))
  | _, _ => none
def sFault1 : List SV → Option (Option Prop × SV)
  | [.agg [.v (.int .i64 a), .v (.bool f), .v (.int .i64 b), .v (.bool g)]] => some (some (I64 a ∧ I64 b), .v (.bool (badV ⟨⟨a, f⟩, ⟨b, g⟩⟩)))
  | _ => none
def idxV (g : Nat → VB) : Nat → Nat → Int
  | 0, _ => -1
  | m + 1, k => bif badV (g k) then (k : Int) else idxV g m (k + 1)
def sIdx : List SV → List Ro → Option (Option Prop × SV)
  | [.sl 0 4 0 n _, .fn f []], [⟨4, n', row⟩] => bif Nat.beq f 51 then some (some (okAll isVI (rowsOf n' row) ∧ n' = n ∧ n < 1099511627776), .v (.int .i64 (idxV (fun i => rV (row i)) n 0))) else none
  | _, _ => none
def sContains : List SV → List Ro → Option (Option Prop × SV)
  | [.sl 0 4 0 n _, .fn f []], [⟨4, n', row⟩] => bif Nat.beq f 51 then some (some (okAll isVI (rowsOf n' row) ∧ n' = n ∧ n < 1099511627776), .v (.bool (anyV n fun i => rV (row i)))) else none
  | _, _ => none
def rowsV (g : Nat → VB) : Nat → List SV := fun i => vR (g i)
noncomputable def ΛIdx (n : Nat) (g : Nat → VB) : Nat → Option LoopSpec := addLoop noΛ Try.f61 0 Nat (fun k => k ≤ n ∧ idxV g (n - k) k = idxV g n 0) (fun k => n - k) [(8, fun k => .v (.int .i64 k))] []
theorem vcFault1 (a : VB) (R : SV→Prop) : (vcPure Try.prog ΓV2 noΛ Try.f51 [vS a] R) = ((I64 (NB.v (VB.x a)))∧(sel (NB.f (negN (VB.x a))) (R (SV.v (.bool true))) ((I64 (NB.v (VB.y a)))∧(R (SV.v (.bool (NB.f (negN (VB.y a))))))))):=by kernel_rfl
def ΓV3 : Ctrs := addCtr ΓV2 51 (pureCtr sFault1)
theorem vcIdx (n n' c : Nat) (g : Nat→VB) (R : SV→Prop) : (vcFn Try.prog ΓV3 (ΛIdx n g) Try.f61 [.sl 0 4 0 n c,.fn 51 []] (roHeap [⟨4,n',rowsV g⟩]) 64 (fun y _ => R y)) = ((∃ x : Nat,((((x : Nat) ≤ n)∧(((idxV g (n - x) x) : Int) = (idxV g n 0)))∧(((SV.v (.int .i64 0)) = (SV.v (.int .i64 ((↑x : Int)))))∧True)))∧(∀ x : Nat,((((x : Nat) ≤ n)∧(((idxV g (n - x) x) : Int) = (idxV g n 0)))→(sel (decide ((↑x : Int) < (↑n : Int))) ((((0 : Int) ≤ ((↑x : Int)))∧((((↑x : Int)) : Int) < ((↑n : Int))))∧(((I64 (NB.v (VB.x (g (0 + Int.toNat (↑x : Int))))))∧(I64 (NB.v (VB.y (g (0 + Int.toNat (↑x : Int)))))))∧(sel (badV (g (0 + Int.toNat (↑x : Int)))) (R (SV.v (.int .i64 ((↑x : Int))))) (∃ x' : Nat,(((((x' : Nat) ≤ n)∧(((idxV g (n - x') x') : Int) = (idxV g n 0)))∧(((SV.v (.int .i64 (IntKind.wrap IntKind.i64 ((↑x : Int) + 1)))) = (SV.v (.int .i64 ((↑x' : Int)))))∧True))∧(((n - x') : Nat) < (n - x))))))) (R (SV.v (.int .i64 (-1)))))))):=by kernel_rfl
def ΓV4 : Ctrs := addCtr ΓV3 61 (roCtr sIdx)
theorem vcContains (n n' c : Nat) (g : Nat→VB) (R : SV→Prop) : (vcFn Try.prog ΓV4 noΛ Try.f50 [.sl 0 4 0 n c,.fn 51 []] (roHeap [⟨4,n',rowsV g⟩]) 64 (fun y _ => R y)) = (((okAll isVI (rowsOf n fun y => [SV.v (.int .i64 (NB.v (VB.x (g (0 + y))))),SV.v (.bool (NB.f (VB.x (g (0 + y))))),SV.v (.int .i64 (NB.v (VB.y (g (0 + y))))),SV.v (.bool (NB.f (VB.y (g (0 + y)))))]))∧(((n : Nat) = n)∧((n : Nat) < 1099511627776)))∧(R (SV.v (.bool (decide (idxV (fun i => rV [SV.v (.int .i64 (NB.v (VB.x (g (0 + i))))),SV.v (.bool (NB.f (VB.x (g (0 + i))))),SV.v (.int .i64 (NB.v (VB.y (g (0 + i))))),SV.v (.bool (NB.f (VB.y (g (0 + i)))))]) n 0 ≥ 0)))))):=by kernel_rfl
def ΓV5 : Ctrs := addCtr ΓV4 50 (roCtr sContains)
theorem vcFault (n n' c : Nat) (g : Nat→VB) (R : SV→Prop) : (vcFn Try.prog ΓV5 noΛ Try.f33 [.sl 0 4 0 n c] (roHeap [⟨4,n',rowsV g⟩]) 64 (fun y _ => R y)) = (((okAll isVI (rowsOf n fun y => [SV.v (.int .i64 (NB.v (VB.x (g (0 + y))))),SV.v (.bool (NB.f (VB.x (g (0 + y))))),SV.v (.int .i64 (NB.v (VB.y (g (0 + y))))),SV.v (.bool (NB.f (VB.y (g (0 + y)))))]))∧(((n : Nat) = n)∧((n : Nat) < 1099511627776)))∧(R (SV.v (.bool (anyV n fun i => rV [SV.v (.int .i64 (NB.v (VB.x (g (0 + i))))),SV.v (.bool (NB.f (VB.x (g (0 + i))))),SV.v (.int .i64 (NB.v (VB.y (g (0 + i))))),SV.v (.bool (NB.f (VB.y (g (0 + i)))))]))))):=by kernel_rfl
theorem isV_row {r : List SV} (h : isVI r) : r = vR (rV r) ∧ I64 (rV r).x.v ∧ I64 (rV r).y.v := by
  unfold isVI at h
  split at h
  · exact ⟨rfl, h.1, h.2⟩
  · exact h.elim
theorem okAll_V {n : Nat} {g : Nat → VB} (h : ∀ i, i < n → I64 (g i).x.v ∧ I64 (g i).y.v) : okAll isVI (rowsOf n fun i => vR (g i)) := okAll_rows.2 fun i hi => h i hi
theorem vRow_eq {n : Nat} {row : Nat → List SV} (h : ∀ i, i < n → isVI (row i)) : ∀ i, i < n → row i = vR (rV (row i)) := fun i hi => (isV_row (h i hi)).1
theorem Fault1_spec : PureSpec Try.prog 51 sFault1 := vc_spec hm ΓV2_ok Try.func51 (Λ := fun _ => noΛ) fun args p x h hp => by
  unfold sFault1 at h
  split at h <;> try (cases h; done)
  rename_i a f b g
  cases h
  obtain ⟨h0, k0⟩ := hp _ rfl
  refine ⟨rfl, rfl, ?_⟩
  refine Eq.mpr (vcFault1 ⟨⟨a, f⟩, ⟨b, g⟩⟩ _) ?_
  refine ⟨h0, sel_of (fun e => bool_mk ?_) fun e => ⟨k0, bool_mk ?_⟩⟩
  · show true = (sndF a f || sndF b g)
    rw [show sndF a f = true from e]; rfl
  · show sndF b g = (sndF a f || sndF b g)
    rw [show sndF a f = false from e]; rfl
theorem ΓV3_ok : ∀ f g, ΓV3 f = some g → g.ok Try.prog f := addCtr_ok ΓV2_ok (pure_ok Try.func51 (by kernel_rfl) (by kernel_rfl) Fault1_spec)
theorem setRow (g : Nat → NB) (x i : Nat) : [SV.v (.int .i64 (bop (Nat.beq i (0 + Int.toNat (x : Int))) (g (0 + Int.toNat (x : Int))).v (if i < x then g i else ⟨0, false⟩ : NB).v)), SV.v (.bool (bop (Nat.beq i (0 + Int.toNat (x : Int))) (g (0 + Int.toNat (x : Int))).f (if i < x then g i else ⟨0, false⟩ : NB).f))] = nR (if i < x + 1 then g i else ⟨0, false⟩) := by
  rw [Int.toNat_natCast, Nat.zero_add]
  by_cases h : i = x
  · subst h
    rw [Nat.beq_refl, if_pos (Nat.lt_succ_self i)]; rfl
  · rw [Go.SE.beq_false h]
    by_cases h' : i < x
    · rw [if_pos h', if_pos (by omega)]; rfl
    · rw [if_neg h', if_neg (by omega)]; rfl
theorem succ_i64 {x n : Nat} (h : x < n) (h1 : n < 1099511627776) : IntKind.i64.wrap ((x : Int) + 1) = ((x + 1 : Nat) : Int) := by rw [wrap_i64 ⟨by omega, by omega⟩]; omega
theorem appRow (g : Nat → NB) (k i : Nat) (h : i < k + 1) : [SV.v (.int .i64 (bop (Nat.blt i k) (g (0 + i)).v (g (0 + Int.toNat (k : Int))).v)), SV.v (.bool (bop (Nat.blt i k) (g (0 + i)).f (g (0 + Int.toNat (k : Int))).f))] = nR (g i) := by
  rw [Int.toNat_natCast, Nat.zero_add, Nat.zero_add]
  by_cases h' : i < k
  · rw [show Nat.blt i k = true from Nat.ble_eq_true_of_le h']; rfl
  · obtain rfl : i = k := by omega
    rw [show Nat.blt i i = false from by cases hb : Nat.blt i i with | false => rfl | true => exact absurd (Nat.le_of_ble_eq_true hb) h']; rfl
theorem Idx_spec : RoSpec Try.prog 61 sIdx := ro_spec hm ΓV3_ok Try.func61 (Λ := fun args bs => match args, bs with | [.sl 0 4 0 n _, _], [⟨4, _, row⟩] => ΛIdx n (fun i => rV (row i)) | _, _ => noΛ) fun args bs p x h hp => by
  unfold sIdx at h
  split at h <;> try (cases h; done)
  rename_i n c f n' row
  cases hf : Nat.beq f 51 with
  | false => rw [hf] at h; cases h
  | true =>
    rw [hf] at h
    obtain rfl := Nat.eq_of_beq_eq_true hf
    cases h
    obtain ⟨h0, rfl, hn⟩ := hp _ rfl
    have h0 := okAll_rows.1 h0
    refine ⟨rfl, [⟨4, n', rowsV fun i => rV (row i)⟩], ⟨⟨rfl, rfl, fun i hi => vRow_eq h0 i hi⟩, trivial⟩, ?_⟩
    have hg : ∀ i, i < n' → I64 ((fun i => rV (row i)) i).x.v ∧ I64 ((fun i => rV (row i)) i).y.v := fun i hi => (isV_row (h0 i hi)).2
    show vcFn _ _ (ΛIdx n' fun i => rV (row i)) _ _ (roHeap [⟨4, n', rowsV fun i => rV (row i)⟩]) _ (fun y _ => y = .v (.int .i64 (idxV (fun i => rV (row i)) n' 0)))
    generalize (fun i => rV (row i)) = g at *
    refine Eq.mpr (vcIdx n' n' c g _) ?_
    refine ⟨⟨0, ⟨Nat.zero_le _, rfl⟩, rfl, trivial⟩, fun x ⟨hx, hi⟩ => sel_of (fun e => ?_) fun e => ?_⟩
    · have e := of_decide_eq_true e
      have hx : x < n' := by omega
      rw [show n' - x = (n' - (x + 1)) + 1 by omega] at hi
      rw [Int.toNat_natCast, Nat.zero_add]
      refine ⟨⟨by omega, by omega⟩, hg x hx, sel_of (fun b => ?_) fun b => ?_⟩
      · have hi : (bif badV (g x) then (x : Int) else idxV g (n' - (x + 1)) (x + 1)) = _ := hi
        rw [b] at hi; exact int_mk hi
      · have hi : (bif badV (g x) then (x : Int) else idxV g (n' - (x + 1)) (x + 1)) = _ := hi
        rw [b] at hi
        exact ⟨x + 1, ⟨⟨hx, hi⟩, int_mk (succ_i64 hx hn), trivial⟩, by omega⟩
    · have e := of_decide_eq_false e
      obtain rfl : x = n' := by omega
      rw [Nat.sub_self] at hi
      exact int_mk hi
theorem anyV_iff (g : Nat → VB) : ∀ n, anyV n g = true ↔ ∃ j, j < n ∧ badV (g j) = true
  | 0 => by simp [anyV]
  | n + 1 => by
    simp only [anyV, Bool.or_eq_true, anyV_iff g n]
    constructor
    · rintro (⟨j, h1, h2⟩ | h)
      · exact ⟨j, by omega, h2⟩
      · exact ⟨n, by omega, h⟩
    · rintro ⟨j, h1, h2⟩
      by_cases h : j < n
      · exact .inl ⟨j, h, h2⟩
      · obtain rfl : j = n := by omega
        exact .inr h2
theorem idxV_iff (g : Nat → VB) : ∀ m k, idxV g m k ≥ 0 ↔ ∃ j, k ≤ j ∧ j < k + m ∧ badV (g j) = true
  | 0, k => by
    show (-1 : Int) ≥ 0 ↔ _
    constructor
    · intro h; omega
    · rintro ⟨j, h1, h2, _⟩; omega
  | m + 1, k => by
    show (bif badV (g k) then (k : Int) else idxV g m (k + 1)) ≥ 0 ↔ _
    cases hb : badV (g k) with
    | true => exact ⟨fun _ => ⟨k, Nat.le_refl _, by omega, hb⟩, fun _ => by show (k : Int) ≥ 0; omega⟩
    | false =>
      rw [cond_false, idxV_iff g m (k + 1)]
      constructor
      · rintro ⟨j, h1, h2, h3⟩; exact ⟨j, by omega, by omega, h3⟩
      · rintro ⟨j, h1, h2, h3⟩
        have : j ≠ k := fun e => by rw [e, hb] at h3; cases h3
        exact ⟨j, by omega, by omega, h3⟩
theorem idx_any (n : Nat) (g : Nat → VB) : decide (idxV g n 0 ≥ 0) = anyV n g := by
  cases h : anyV n g with
  | true =>
    obtain ⟨j, h1, h2⟩ := (anyV_iff g n).1 h
    exact decide_eq_true ((idxV_iff g n 0).2 ⟨j, Nat.zero_le _, by omega, h2⟩)
  | false =>
    refine decide_eq_false fun hx => ?_
    obtain ⟨j, _, h1, h2⟩ := (idxV_iff g n 0).1 hx
    rw [(anyV_iff g n).2 ⟨j, by omega, h2⟩] at h; cases h
theorem ΓV4_ok : ∀ f g, ΓV4 f = some g → g.ok Try.prog f := addCtr_ok ΓV3_ok (ro_ok Try.func61 (by kernel_rfl) (by kernel_rfl) Idx_spec)
theorem vR_0 (n : Nat) (g : Nat → VB) : (rowsOf n fun y => [SV.v (.int .i64 (g (0 + y)).x.v), SV.v (.bool (g (0 + y)).x.f), SV.v (.int .i64 (g (0 + y)).y.v), SV.v (.bool (g (0 + y)).y.f)]) = rowsOf n fun i => vR (g i) := rowsOf_congr fun i _ => by rw [Nat.zero_add]; rfl
theorem rV_0 (g : Nat → VB) : (fun i => rV [SV.v (.int .i64 (g (0 + i)).x.v), SV.v (.bool (g (0 + i)).x.f), SV.v (.int .i64 (g (0 + i)).y.v), SV.v (.bool (g (0 + i)).y.f)]) = g := funext fun i => by rw [Nat.zero_add]; rfl
theorem Contains_spec : RoSpec Try.prog 50 sContains := ro_spec hm ΓV4_ok Try.func50 (Λ := fun _ _ => noΛ) fun args bs p x h hp => by
  unfold sContains at h
  split at h <;> try (cases h; done)
  rename_i n c f n' row
  cases hf : Nat.beq f 51 with
  | false => rw [hf] at h; cases h
  | true =>
    rw [hf] at h
    obtain rfl := Nat.eq_of_beq_eq_true hf
    cases h
    obtain ⟨h0, rfl, hn⟩ := hp _ rfl
    have h0 := okAll_rows.1 h0
    refine ⟨rfl, [⟨4, n', rowsV fun i => rV (row i)⟩], ⟨⟨rfl, rfl, fun i hi => vRow_eq h0 i hi⟩, trivial⟩, ?_⟩
    have hg : ∀ i, i < n' → I64 ((fun i => rV (row i)) i).x.v ∧ I64 ((fun i => rV (row i)) i).y.v := fun i hi => (isV_row (h0 i hi)).2
    show vcFn _ _ noΛ _ _ (roHeap [⟨4, n', rowsV fun i => rV (row i)⟩]) _ (fun y _ => y = .v (.bool (anyV n' fun i => rV (row i))))
    generalize (fun i => rV (row i)) = g at *
    refine Eq.mpr (vcContains n' n' c g _) ?_
    rw [vR_0, rV_0, idx_any]
    exact ⟨⟨okAll_V hg, rfl, hn⟩, rfl⟩
theorem ΓV5_ok : ∀ f g, ΓV5 f = some g → g.ok Try.prog f := addCtr_ok ΓV4_ok (ro_ok Try.func50 (by kernel_rfl) (by kernel_rfl) Contains_spec)
theorem Fault_spec : RoSpec Try.prog 33 sFaultL := ro_spec hm ΓV5_ok Try.func33 (Λ := fun _ _ => noΛ) fun args bs p x h hp => by
  unfold sFaultL at h
  split at h <;> try (cases h; done)
  rename_i n c n' row
  cases h
  obtain ⟨h0, rfl, hn⟩ := hp _ rfl
  have h0 := okAll_rows.1 h0
  refine ⟨rfl, [⟨4, n', rowsV fun i => rV (row i)⟩], ⟨⟨rfl, rfl, fun i hi => vRow_eq h0 i hi⟩, trivial⟩, ?_⟩
  have hg : ∀ i, i < n' → I64 ((fun i => rV (row i)) i).x.v ∧ I64 ((fun i => rV (row i)) i).y.v := fun i hi => (isV_row (h0 i hi)).2
  show vcFn _ _ noΛ _ _ (roHeap [⟨4, n', rowsV fun i => rV (row i)⟩]) _ (fun y _ => y = .v (.bool (anyV n' fun i => rV (row i))))
  generalize (fun i => rV (row i)) = g at *
  refine Eq.mpr (vcFault n' n' c g _) ?_
  rw [vR_0, rV_0]
  exact ⟨⟨okAll_V hg, rfl, hn⟩, rfl⟩
end Go.Proofs.Ytlcfnlhognegcaa
end
section
namespace Go.Proofs.Ytlcfnlhognegcaa
open Go.SE Go.RowKit
def ΓV6 : Ctrs := addCtr (ΓV5) 33 (roCtr sFaultL)
def zeroV : VB := ⟨⟨0, false⟩, ⟨0, false⟩⟩
def greatV (v : VB) : VB := bif decide (iabs v.x.v < 16777216) && decide (iabs v.y.v < 16777216) then ⟨⟨v.x.v * 16777216, v.x.f⟩, ⟨v.y.v * 16777216, v.y.f⟩⟩ else v
def unitV (v : VB) : VB × Bool := bif badV v then (zeroV, false) else bif (lenV (greatV v)).f || (lenV (greatV v)).v == 0 then (zeroV, false) else (⟨divN (greatV v).x (lenV (greatV v)), divN (greatV v).y (lenV (greatV v))⟩, true)
def sUnit : List SV → Option (Option Prop × SV)
  | [.agg [.v (.int .i64 a), .v (.bool f), .v (.int .i64 b), .v (.bool g)]] => some (some (I64 a ∧ I64 b), .tup [vS (unitV ⟨⟨a, f⟩, ⟨b, g⟩⟩).1, .v (.bool (unitV ⟨⟨a, f⟩, ⟨b, g⟩⟩).2)])
  | _ => none
theorem vcUnit (v : VB) (R : SV→Prop) : (vcPure Try.prog ΓV6 noΛ Try.f13 [vS v] R) = ((((isVI [SV.v (.int .i64 (NB.v (VB.x v))),SV.v (.bool (NB.f (VB.x v))),SV.v (.int .i64 (NB.v (VB.y v))),SV.v (.bool (NB.f (VB.y v)))])∧True)∧(((1 : Nat) = 1)∧((1 : Nat) < 1099511627776)))∧(sel (anyV 1 fun i => rV [SV.v (.int .i64 (NB.v (VB.x v))),SV.v (.bool (NB.f (VB.x v))),SV.v (.int .i64 (NB.v (VB.y v))),SV.v (.bool (NB.f (VB.y v)))]) (R (SV.tup [(SV.agg [(SV.v (.int .i64 0)),(SV.v (.bool false)),(SV.v (.int .i64 0)),(SV.v (.bool false))]),(SV.v (.bool false))])) (sel (decide (max (max (max (NB.v (VB.x v)) (IntKind.wrap IntKind.i64 (0 - NB.v (VB.x v)))) (NB.v (VB.y v))) (IntKind.wrap IntKind.i64 (0 - NB.v (VB.y v))) < 16777216)) (((I64 (IntKind.wrap IntKind.i64 (NB.v (VB.x v) * 16777216)))∧(I64 (IntKind.wrap IntKind.i64 (NB.v (VB.y v) * 16777216))))∧(sel (NB.f (lenV {x:={v:=IntKind.wrap IntKind.i64 (NB.v (VB.x v) * 16777216),f:=NB.f (VB.x v)},y:={v:=IntKind.wrap IntKind.i64 (NB.v (VB.y v) * 16777216),f:=NB.f (VB.y v)}})) (R (SV.tup [(SV.agg [(SV.v (.int .i64 0)),(SV.v (.bool false)),(SV.v (.int .i64 0)),(SV.v (.bool false))]),(SV.v (.bool false))])) (sel (NB.v (lenV {x:={v:=IntKind.wrap IntKind.i64 (NB.v (VB.x v) * 16777216),f:=NB.f (VB.x v)},y:={v:=IntKind.wrap IntKind.i64 (NB.v (VB.y v) * 16777216),f:=NB.f (VB.y v)}}) == 0) (R (SV.tup [(SV.agg [(SV.v (.int .i64 0)),(SV.v (.bool false)),(SV.v (.int .i64 0)),(SV.v (.bool false))]),(SV.v (.bool false))])) (((I64 (IntKind.wrap IntKind.i64 (NB.v (VB.x v) * 16777216)))∧(I64 (NB.v (lenV {x:={v:=IntKind.wrap IntKind.i64 (NB.v (VB.x v) * 16777216),f:=NB.f (VB.x v)},y:={v:=IntKind.wrap IntKind.i64 (NB.v (VB.y v) * 16777216),f:=NB.f (VB.y v)}}))))∧(((I64 (IntKind.wrap IntKind.i64 (NB.v (VB.y v) * 16777216)))∧(I64 (NB.v (lenV {x:={v:=IntKind.wrap IntKind.i64 (NB.v (VB.x v) * 16777216),f:=NB.f (VB.x v)},y:={v:=IntKind.wrap IntKind.i64 (NB.v (VB.y v) * 16777216),f:=NB.f (VB.y v)}}))))∧(R (SV.tup [(SV.agg [(SV.v (.int .i64 (NB.v (divN {v:=IntKind.wrap IntKind.i64 (NB.v (VB.x v) * 16777216),f:=NB.f (VB.x v)} (lenV {x:={v:=IntKind.wrap IntKind.i64 (NB.v (VB.x v) * 16777216),f:=NB.f (VB.x v)},y:={v:=IntKind.wrap IntKind.i64 (NB.v (VB.y v) * 16777216),f:=NB.f (VB.y v)}}))))),(SV.v (.bool (NB.f (divN {v:=IntKind.wrap IntKind.i64 (NB.v (VB.x v) * 16777216),f:=NB.f (VB.x v)} (lenV {x:={v:=IntKind.wrap IntKind.i64 (NB.v (VB.x v) * 16777216),f:=NB.f (VB.x v)},y:={v:=IntKind.wrap IntKind.i64 (NB.v (VB.y v) * 16777216),f:=NB.f (VB.y v)}}))))),(SV.v (.int .i64 (NB.v (divN {v:=IntKind.wrap IntKind.i64 (NB.v (VB.y v) * 16777216),f:=NB.f (VB.y v)} (lenV {x:={v:=IntKind.wrap IntKind.i64 (NB.v (VB.x v) * 16777216),f:=NB.f (VB.x v)},y:={v:=IntKind.wrap IntKind.i64 (NB.v (VB.y v) * 16777216),f:=NB.f (VB.y v)}}))))),(SV.v (.bool (NB.f (divN {v:=IntKind.wrap IntKind.i64 (NB.v (VB.y v) * 16777216),f:=NB.f (VB.y v)} (lenV {x:={v:=IntKind.wrap IntKind.i64 (NB.v (VB.x v) * 16777216),f:=NB.f (VB.x v)},y:={v:=IntKind.wrap IntKind.i64 (NB.v (VB.y v) * 16777216),f:=NB.f (VB.y v)}})))))]),(SV.v (.bool true))]))))))) (((I64 (NB.v (VB.x v)))∧(I64 (NB.v (VB.y v))))∧(sel (NB.f (lenV v)) (R (SV.tup [(SV.agg [(SV.v (.int .i64 0)),(SV.v (.bool false)),(SV.v (.int .i64 0)),(SV.v (.bool false))]),(SV.v (.bool false))])) (sel (NB.v (lenV v) == 0) (R (SV.tup [(SV.agg [(SV.v (.int .i64 0)),(SV.v (.bool false)),(SV.v (.int .i64 0)),(SV.v (.bool false))]),(SV.v (.bool false))])) (((I64 (NB.v (VB.x v)))∧(I64 (NB.v (lenV v))))∧(((I64 (NB.v (VB.y v)))∧(I64 (NB.v (lenV v))))∧(R (SV.tup [(SV.agg [(SV.v (.int .i64 (NB.v (divN (VB.x v) (lenV v))))),(SV.v (.bool (NB.f (divN (VB.x v) (lenV v))))),(SV.v (.int .i64 (NB.v (divN (VB.y v) (lenV v))))),(SV.v (.bool (NB.f (divN (VB.y v) (lenV v)))))]),(SV.v (.bool true))])))))))))):=by kernel_rfl
theorem ΓV6_ok : ∀ f g, ΓV6 f = some g → g.ok Try.prog f := addCtr_ok (ΓV5_ok) (ro_ok Try.func33 (by kernel_rfl) (by kernel_rfl) Fault_spec)
theorem bad_no {v : VB} (h : badV v = false) (h1 : I64 v.x.v) (h2 : I64 v.y.v) : Sd v.x.v ∧ Sd v.y.v ∧ v.x.f = false ∧ v.y.f = false := by
  unfold badV at h
  rw [Bool.or_eq_false_iff] at h
  obtain ⟨a, b⟩ := h
  have key : ∀ {x : Int} {f : Bool}, I64 x → sndF x f = false → Sd x ∧ f = false := fun {x f} hx hf => by
    obtain ⟨l, u⟩ := hx
    unfold sndF at hf
    by_cases e : x = -9223372036854775808
    · rw [if_pos e] at hf; cases hf
    · rw [if_neg e] at hf; exact ⟨⟨by omega, by omega⟩, hf⟩
  exact ⟨(key h1 a).1, (key h2 b).1, (key h1 a).2, (key h2 b).2⟩
theorem unit_bad {v : VB} (h : badV v = true) : unitV v = (zeroV, false) := by unfold unitV; rw [h]; rfl
theorem unit_f {v : VB} (h : badV v = false) (h1 : (lenV (greatV v)).f = true) : unitV v = (zeroV, false) := by unfold unitV; rw [h, h1]; rfl
theorem unit_0 {v : VB} (h : badV v = false) (h1 : ((lenV (greatV v)).v == 0) = true) : unitV v = (zeroV, false) := by unfold unitV; rw [h, h1, Bool.or_true]; rfl
theorem unit_d {v : VB} (h : badV v = false) (h1 : (lenV (greatV v)).f = false) (h2 : ((lenV (greatV v)).v == 0) = false) : unitV v = (⟨divN (greatV v).x (lenV (greatV v)), divN (greatV v).y (lenV (greatV v))⟩, true) := by unfold unitV; rw [h, h1, h2]; rfl
theorem len_i (v : VB) : I64 (lenV v).v := hyp_i _ _
theorem unit_tail {v u : VB} (hb : badV v = false) (hu : greatV v = u) (i1 : I64 u.x.v) (i2 : I64 u.y.v) : sel (lenV u).f (SV.tup [SV.agg [SV.v (.int .i64 0), SV.v (.bool false), SV.v (.int .i64 0), SV.v (.bool false)], SV.v (.bool false)] = .tup [vS (unitV v).1, .v (.bool (unitV v).2)])
    (sel ((lenV u).v == 0) (SV.tup [SV.agg [SV.v (.int .i64 0), SV.v (.bool false), SV.v (.int .i64 0), SV.v (.bool false)], SV.v (.bool false)] = .tup [vS (unitV v).1, .v (.bool (unitV v).2)])
      ((I64 u.x.v ∧ I64 (lenV u).v) ∧ (I64 u.y.v ∧ I64 (lenV u).v) ∧ SV.tup [SV.agg [SV.v (.int .i64 (divN u.x (lenV u)).v), SV.v (.bool (divN u.x (lenV u)).f), SV.v (.int .i64 (divN u.y (lenV u)).v), SV.v (.bool (divN u.y (lenV u)).f)], SV.v (.bool true)] = .tup [vS (unitV v).1, .v (.bool (unitV v).2)])) := by
  subst hu
  refine sel_of (fun e => ?_) fun e => sel_of (fun e' => ?_) fun e' => ⟨⟨i1, len_i _⟩, ⟨i2, len_i _⟩, ?_⟩
  · rw [unit_f hb e]; rfl
  · rw [unit_0 hb e']; rfl
  · rw [unit_d hb e e']; rfl
theorem great_yes {v : VB} (h1 : iabs v.x.v < 16777216) (h2 : iabs v.y.v < 16777216) : greatV v = ⟨⟨v.x.v * 16777216, v.x.f⟩, ⟨v.y.v * 16777216, v.y.f⟩⟩ := by unfold greatV; rw [decide_eq_true h1, decide_eq_true h2]; rfl
theorem great_no1 {v : VB} (h1 : ¬ iabs v.x.v < 16777216) : greatV v = v := by unfold greatV; rw [decide_eq_false h1]; rfl
theorem great_no2 {v : VB} (h1 : ¬ iabs v.y.v < 16777216) : greatV v = v := by unfold greatV; rw [decide_eq_false h1, Bool.and_false]; rfl
theorem shl_i {a : Int} (h : iabs a < 16777216) : IntKind.i64.wrap (a * 16777216) = a * 16777216 ∧ Sd (a * 16777216) := by
  have : -16777216 < a ∧ a < 16777216 := by unfold iabs at h; split at h <;> omega
  exact ⟨wrap_i64 ⟨by omega, by omega⟩, by omega, by omega⟩
theorem Unit_spec : PureSpec Try.prog 13 sUnit := vc_spec hm ΓV6_ok Try.func13 (Λ := fun _ => noΛ) fun args p x h hp => by
  unfold sUnit at h
  split at h <;> try (cases h; done)
  rename_i a f b g
  cases h
  obtain ⟨h0, k0⟩ := hp _ rfl
  refine ⟨rfl, rfl, ?_⟩
  generalize hv : (⟨⟨a, f⟩, ⟨b, g⟩⟩ : VB) = v
  have e0 : SV.agg [SV.v (Value.int .i64 a), SV.v (Value.bool f), SV.v (Value.int .i64 b), SV.v (Value.bool g)] = vS v := by rw [← hv]; rfl
  rw [e0]
  have h0 : I64 v.x.v := by rw [← hv]; exact h0
  have k0 : I64 v.y.v := by rw [← hv]; exact k0
  clear hv e0
  refine Eq.mpr (vcUnit v _) ?_
  refine ⟨⟨⟨⟨h0, k0⟩, trivial⟩, by decide⟩, sel_of (fun e => ?_) fun e => ?_⟩
  · rw [unit_bad (v := v) e]; rfl
  · have e : badV v = false := e
    obtain ⟨s1, s2, f1, f2⟩ := bad_no e h0 k0
    have w1 : IntKind.i64.wrap (0 - v.x.v) = -v.x.v := by obtain ⟨_, _⟩ := s1; rw [wrap_i64 ⟨by omega, by omega⟩]; omega
    have w2 : IntKind.i64.wrap (0 - v.y.v) = -v.y.v := by obtain ⟨_, _⟩ := s2; rw [wrap_i64 ⟨by omega, by omega⟩]; omega
    rw [w1, w2]
    refine sel_of (fun m => ?_) fun m => ?_
    · have m := of_decide_eq_true m
      have m1 : iabs v.x.v < 16777216 := by unfold iabs; split <;> omega
      have m2 : iabs v.y.v < 16777216 := by unfold iabs; split <;> omega
      rw [(shl_i m1).1, (shl_i m2).1]
      exact ⟨⟨(shl_i m1).2.i64, (shl_i m2).2.i64⟩, unit_tail e (great_yes m1 m2) (shl_i m1).2.i64 (shl_i m2).2.i64⟩
    · have m := of_decide_eq_false m
      have hg : greatV v = v := by
        by_cases m1 : iabs v.x.v < 16777216
        · refine great_no2 fun m2 => m ?_
          unfold iabs at m1 m2
          split at m1 <;> split at m2 <;> omega
        · exact great_no1 m1
      exact ⟨⟨h0, k0⟩, unit_tail e hg h0 k0⟩
end Go.Proofs.Ytlcfnlhognegcaa
end
section
namespace Go.Proofs.Ytlcfnlhognegcaa
open Go.SE Go.RowKit
def Sp (x : Int) : Prop := -1073741824 ≤ x ∧ x ≤ 1073741824
def spS (x y : Int) : SV := .agg [.v (.int .i64 x), .v (.int .i64 y)]
def crossI (x y z w : Int) : Int := x * w - y * z
def dotI (x y z w : Int) : Int := x * z + y * w
def spanI (x y : Int) : Int := max x (-x) + max y (-y)
def sizeI (x : Int) : Bool := decide (16 ≤ x) && decide (x ≤ 4096)
def nearI (x : Int) : Bool := decide (-4096 ≤ x) && decide (x ≤ 4096)
def sMinus : List SV → Option (Option Prop × SV)
  | [.agg [.v (.int .i64 x), .v (.int .i64 y)], .agg [.v (.int .i64 z), .v (.int .i64 w)]] => some (some ((Sp x ∧ Sp y) ∧ Sp z ∧ Sp w), spS (x - z) (y - w))
  | _ => none
def sCross : List SV → Option (Option Prop × SV)
  | [.agg [.v (.int .i64 x), .v (.int .i64 y)], .agg [.v (.int .i64 z), .v (.int .i64 w)]] => some (some ((Sp x ∧ Sp y) ∧ Sp z ∧ Sp w), .v (.int .i64 (crossI x y z w)))
  | _ => none
def sDotS : List SV → Option (Option Prop × SV)
  | [.agg [.v (.int .i64 x), .v (.int .i64 y)], .agg [.v (.int .i64 z), .v (.int .i64 w)]] => some (some ((Sp x ∧ Sp y) ∧ Sp z ∧ Sp w), .v (.int .i64 (dotI x y z w)))
  | _ => none
def sSpan : List SV → Option (Option Prop × SV)
  | [.agg [.v (.int .i64 x), .v (.int .i64 y)]] => some (some (Sp x ∧ Sp y), .v (.int .i64 (spanI x y)))
  | _ => none
def sSizeS : List SV → Option (Option Prop × SV)
  | [.v (.int .i64 x)] => some (some (I64 x), .v (.bool (sizeI x)))
  | _ => none
theorem vcMinus (x y z w : Int) (R : SV→Prop) : (vcPure Try.prog noCtrs noΛ Try.f56 [spS x y,spS z w] R) = (R (SV.agg [(SV.v (.int .i64 (IntKind.wrap IntKind.i64 (x - z)))),(SV.v (.int .i64 (IntKind.wrap IntKind.i64 (y - w))))])):=by kernel_rfl
theorem vcCrossS (x y z w : Int) (R : SV→Prop) : (vcPure Try.prog noCtrs noΛ Try.f35 [spS x y,spS z w] R) = (R (SV.v (.int .i64 (IntKind.wrap IntKind.i64 (IntKind.wrap IntKind.i64 (x * w) - IntKind.wrap IntKind.i64 (y * z)))))):=by kernel_rfl
theorem vcDotS (x y z w : Int) (R : SV→Prop) : (vcPure Try.prog noCtrs noΛ Try.f24 [spS x y,spS z w] R) = (R (SV.v (.int .i64 (IntKind.wrap IntKind.i64 (IntKind.wrap IntKind.i64 (x * z) + IntKind.wrap IntKind.i64 (y * w)))))):=by kernel_rfl
theorem vcSpan (x y : Int) (R : SV→Prop) : (vcPure Try.prog noCtrs noΛ Try.f57 [spS x y] R) = (R (SV.v (.int .i64 (IntKind.wrap IntKind.i64 (max x (IntKind.wrap IntKind.i64 (0 - x)) + max y (IntKind.wrap IntKind.i64 (0 - y))))))):=by kernel_rfl
theorem vcSizeS (x : Int) (R : SV→Prop) : (vcPure Try.prog noCtrs noΛ Try.f37 [.v (.int .i64 x)] R) = (sel (decide (x ≥ 16)) (R (SV.v (.bool (decide (x ≤ 4096))))) (R (SV.v (.bool false)))):=by kernel_rfl
theorem prod_bd {x y : Int} (h : Sp x) (k : Sp y) : -1152921504606846976 ≤ x * y ∧ x * y ≤ 1152921504606846976 := by
  obtain ⟨a, b⟩ := h
  obtain ⟨c, d⟩ := k
  have h1 : (x + 1073741824) * (y + 1073741824) ≥ 0 := Int.mul_nonneg (by omega) (by omega)
  have h2 : (1073741824 - x) * (1073741824 - y) ≥ 0 := Int.mul_nonneg (by omega) (by omega)
  have h3 : (x + 1073741824) * (1073741824 - y) ≥ 0 := Int.mul_nonneg (by omega) (by omega)
  have h4 : (1073741824 - x) * (y + 1073741824) ≥ 0 := Int.mul_nonneg (by omega) (by omega)
  simp only [Int.add_mul, Int.mul_add, Int.sub_mul, Int.mul_sub] at h1 h2 h3 h4
  omega
theorem Minus_spec : PureSpec Try.prog 56 sMinus := vc_spec hm noCtrs_ok Try.func56 (Λ := fun _ => noΛ) fun args p x h hp => by
  unfold sMinus at h
  split at h <;> try (cases h; done)
  rename_i x y z w
  cases h
  obtain ⟨⟨⟨a1, a2⟩, b1, b2⟩, ⟨c1, c2⟩, d1, d2⟩ := hp _ rfl
  refine ⟨rfl, rfl, ?_⟩
  refine Eq.mpr (vcMinus x y z w _) ?_
  rw [wrap_i64 ⟨by omega, by omega⟩, wrap_i64 ⟨by omega, by omega⟩]
  rfl
theorem CrossS_spec : PureSpec Try.prog 35 sCross := vc_spec hm noCtrs_ok Try.func35 (Λ := fun _ => noΛ) fun args p x h hp => by
  unfold sCross at h
  split at h <;> try (cases h; done)
  rename_i x y z w
  cases h
  obtain ⟨⟨hx, hy⟩, hz, hw⟩ := hp _ rfl
  refine ⟨rfl, rfl, ?_⟩
  refine Eq.mpr (vcCrossS x y z w _) ?_
  have p1 := prod_bd hx hw
  have p2 := prod_bd hy hz
  rw [wrap_i64 (n := x * w) ⟨by omega, by omega⟩, wrap_i64 (n := y * z) ⟨by omega, by omega⟩, wrap_i64 ⟨by omega, by omega⟩]
  rfl
theorem DotS_spec : PureSpec Try.prog 24 sDotS := vc_spec hm noCtrs_ok Try.func24 (Λ := fun _ => noΛ) fun args p x h hp => by
  unfold sDotS at h
  split at h <;> try (cases h; done)
  rename_i x y z w
  cases h
  obtain ⟨⟨hx, hy⟩, hz, hw⟩ := hp _ rfl
  refine ⟨rfl, rfl, ?_⟩
  refine Eq.mpr (vcDotS x y z w _) ?_
  have p1 := prod_bd hx hz
  have p2 := prod_bd hy hw
  rw [wrap_i64 (n := x * z) ⟨by omega, by omega⟩, wrap_i64 (n := y * w) ⟨by omega, by omega⟩, wrap_i64 ⟨by omega, by omega⟩]
  rfl
theorem Span_spec : PureSpec Try.prog 57 sSpan := vc_spec hm noCtrs_ok Try.func57 (Λ := fun _ => noΛ) fun args p x h hp => by
  unfold sSpan at h
  split at h <;> try (cases h; done)
  rename_i x y
  cases h
  obtain ⟨⟨a1, a2⟩, b1, b2⟩ := hp _ rfl
  refine ⟨rfl, rfl, ?_⟩
  refine Eq.mpr (vcSpan x y _) ?_
  rw [wrap_i64 (n := 0 - x) ⟨by omega, by omega⟩, wrap_i64 (n := 0 - y) ⟨by omega, by omega⟩, wrap_i64 ⟨by omega, by omega⟩]
  unfold spanI
  rw [Int.zero_sub, Int.zero_sub]
theorem SizeS_spec : PureSpec Try.prog 37 sSizeS := vc_spec hm noCtrs_ok Try.func37 (Λ := fun _ => noΛ) fun args p x h hp => by
  unfold sSizeS at h
  split at h <;> try (cases h; done)
  rename_i x
  cases h
  refine ⟨rfl, rfl, ?_⟩
  refine Eq.mpr (vcSizeS x _) ?_
  show sel (decide (16 ≤ x)) _ _
  unfold sizeI
  cases decide (16 ≤ x) <;> rfl
end Go.Proofs.Ytlcfnlhognegcaa
end
