/-
  Numbers as pairs, plain: what sums, products, quotients, sines are. No program in sight.
-/
import Derived.Test.YtheljpebapokjaaFyA
import Derived.Test.YtheljpebapokjaaFyK
set_option maxRecDepth 100000
namespace Go.Proofs.Ytheljpebapokjaa
open Go.SE

structure NB where
  v : Int
  f : Bool
def nS (a : NB) : SV := numS a.v a.f
def snd (a : NB) : NB := ⟨sndV a.v, sndF a.v a.f⟩
def fitN (e : Int) (f : Bool) : NB := ⟨fitE e, fitG e f⟩
def intN (n : Int) : NB := fitN (n * 4294967296) false
def negN (a : NB) : NB := ⟨-sndV a.v, sndF a.v a.f⟩
def absN (a : NB) : NB := ⟨iabs (sndV a.v), sndF a.v a.f⟩
def addN (a b : NB) : NB := fitN (sndV a.v + sndV b.v) (sndF a.v a.f || sndF b.v b.f)
def subN (a b : NB) : NB := fitN (sndV a.v - sndV b.v) (sndF a.v a.f || sndF b.v b.f)
def mulN (a b : NB) : NB := fitN (mulE (sndV a.v) (sndV b.v)) (sndF a.v a.f || sndF b.v b.f)
def ratN (a b : Int) : NB := ⟨ratV a b, ratF a b⟩
def divN (a b : NB) : NB := ⟨ratV (sndV a.v) (sndV b.v), ratF (sndV a.v) (sndV b.v) || (sndF a.v a.f || sndF b.v b.f)⟩
def wrapN (a : NB) : NB := ⟨wrapT (sndV a.v), sndF a.v a.f⟩
def clampN (x l h : NB) : NB := ⟨maxE (sndV l.v) (minE (sndV x.v) (sndV h.v)), sndF l.v l.f || (sndF x.v x.f || sndF h.v h.f)⟩
def sqrtN (a : NB) : NB := ⟨sqrtV a.v, sqrtF a.v (sndF a.v a.f)⟩
def hypN (a b : NB) : NB := fitN (hypE (sndV a.v) (sndV b.v)) (sndF a.v a.f || sndF b.v b.f)
def dotN (a b c d : NB) : NB := fitN (dotE (sndV a.v) (sndV b.v) (sndV c.v) (sndV d.v)) ((sndF a.v a.f || sndF b.v b.f) || (sndF c.v c.f || sndF d.v d.f))
/-- The angle from -Quarter to Quarter with the same sine. -/
def foldT (v : Int) : Int := if v > 6746518852 then 13493037704 - v else if v < -6746518852 then -13493037704 - v else v
def foldN (a : NB) : NB := ⟨foldT a.v, a.f⟩
def sinStep (y t : NB) (k : Nat) : NB := negN (divN (mulN (mulN t y) y) (intN ((2 * (k + 1)) * (2 * (k + 1) + 1))))
/-- The term and the sum after k rounds. -/
def sinT (y : NB) : Nat → NB
  | 0 => y
  | k + 1 => sinStep y (sinT y k) k
def sinU (y : NB) : Nat → NB
  | 0 => y
  | k + 1 => addN (sinU y k) (sinT y (k + 1))
def sinY (a : NB) : NB := foldN (wrapN a)
def sinN (a : NB) : NB := clampN (sinU (sinY a) 8) ⟨-4294967296, false⟩ ⟨4294967296, false⟩
def cosN (a : NB) : NB := sinN (addN (wrapN a) ⟨6746518852, false⟩)

/-- A value that needs no care. -/
def Sd (v : Int) : Prop := -9223372036854775807 ≤ v ∧ v ≤ 9223372036854775807
theorem Sd.i64 {v : Int} (h : Sd v) : I64 v := by obtain ⟨_, _⟩ := h; exact ⟨by omega, by omega⟩
theorem Sd.self {v : Int} (h : Sd v) : sndV v = v := sndV_self h.1
theorem Sd.flag {v : Int} {f : Bool} (h : Sd v) : sndF v f = f := sndF_self h.1
theorem sndV_sd {v : Int} (h : I64 v) : Sd (sndV v) := sndV_in h
theorem fitE_sd (e : Int) : Sd (fitE e) := by unfold fitE; constructor <;> (repeat' split) <;> omega
theorem noneV_sd (a : Int) : Sd (noneV a) := by unfold noneV; constructor <;> (repeat' split) <;> omega
theorem ratV_sd (a b : Int) : Sd (ratV a b) := by unfold ratV; split; exact noneV_sd a; exact fitE_sd _
theorem neg_sd {v : Int} (h : Sd v) : Sd (-v) := by obtain ⟨_, _⟩ := h; exact ⟨by omega, by omega⟩
theorem wrapT_in {v : Int} : -13493037704 ≤ wrapT v ∧ wrapT v ≤ 13493037704 := by
  have h1 := Int.tmod_lt_of_pos v (show (0 : Int) < 26986075409 by decide)
  have h2 : -26986075409 < Int.tmod v 26986075409 := by
    have := Int.neg_tmod v 26986075409
    have h3 := Int.tmod_lt_of_pos (-v) (show (0 : Int) < 26986075409 by decide)
    omega
  unfold wrapT
  constructor <;> (repeat' split) <;> omega
theorem foldT_in {v : Int} (h : -13493037704 ≤ v ∧ v ≤ 13493037704) : -6746518852 ≤ foldT v ∧ foldT v ≤ 6746518852 := by obtain ⟨_, _⟩ := h; unfold foldT; constructor <;> (repeat' split) <;> omega
theorem sinY_in (a : NB) : -6746518852 ≤ (sinY a).v ∧ (sinY a).v ≤ 6746518852 := foldT_in wrapT_in
theorem sinY_sd (a : NB) : Sd (sinY a).v := by have := sinY_in a; exact ⟨by omega, by omega⟩
theorem sinT_sd {y : NB} (h : Sd y.v) : ∀ k, Sd (sinT y k).v
  | 0 => h
  | k + 1 => neg_sd (by
      have := ratV_sd (sndV (mulN (mulN (sinT y k) y) y).v) (sndV (intN ((2 * ((k : Int) + 1)) * (2 * ((k : Int) + 1) + 1))).v)
      show Sd (sndV (ratV _ _))
      rw [this.self]; exact this)
theorem sinU_sd {y : NB} (h : Sd y.v) : ∀ k, Sd (sinU y k).v
  | 0 => h
  | _ + 1 => fitE_sd _
theorem clampN_in (x : NB) : -4294967296 ≤ (clampN x ⟨-4294967296, false⟩ ⟨4294967296, false⟩).v ∧ (clampN x ⟨-4294967296, false⟩ ⟨4294967296, false⟩).v ≤ 4294967296 := by
  have e1 : sndV (-4294967296) = -4294967296 := by decide
  have e2 : sndV 4294967296 = 4294967296 := by decide
  show -4294967296 ≤ maxE (sndV (-4294967296)) (minE (sndV x.v) (sndV 4294967296)) ∧ maxE (sndV (-4294967296)) (minE (sndV x.v) (sndV 4294967296)) ≤ 4294967296
  rw [e1, e2]
  unfold maxE minE
  constructor <;> (repeat' split) <;> omega
theorem sinN_in (a : NB) : -4294967296 ≤ (sinN a).v ∧ (sinN a).v ≤ 4294967296 := clampN_in _
end Go.Proofs.Ytheljpebapokjaa
