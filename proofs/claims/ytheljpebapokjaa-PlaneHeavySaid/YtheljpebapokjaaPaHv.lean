/-
  PlaneHeavy: what the law reckons.
-/
import Derived.Test.YtheljpebapokjaaPaW
set_option maxRecDepth 100000
set_option linter.unusedSimpArgs false
set_option linter.unusedVariables false
namespace Go.Proofs.Ytheljpebapokjaa
open Go.SE Go.RowKit

def shRow (s : ShB) : List SV := [.v (.int .i64 s.k), .v (.int .i64 s.r), .v (.int .i64 s.w), .v (.int .i64 s.h), .v (.slice none 0 0)]
def twoS (a b : ShB) (i : Nat) : ShB := bif Nat.beq i 0 then a else b
def shB2 (f : Nat → ShB) : Blk := { elem := 32, size := 5, rw := true, lock := false, lit := false, flat := true, n := 2, row := fun i => shRow (f i), ext := 2 }
def sHeavyL : List SV → Option (Option Prop × SV)
  | [.v (.int .i64 r), .v (.int .i64 w), .v (.int .i64 h), .v (.int .i64 a), .v (.int .i64 b)] => some (some ((I64 r ∧ I64 w) ∧ I64 h ∧ I64 a ∧ I64 b), .v (.bool true))
  | _ => none
noncomputable def ΛHeavy (f : Nat → ShB) : Nat → Option LoopSpec := addLoop noΛ Try.f5 0 Nat (fun k => k ≤ 2) (fun k => 2 - k) [(18, fun k => .v (.int .i64 k))] [(456, fun _ => shB2 f)]
theorem vcHeavyL (r w h a b : Int) (f : Nat → ShB) (R : SV → Prop) : (vcPure Try.prog ΓN (ΛHeavy f) Try.f5 [.v (.int .i64 r), .v (.int .i64 w), .v (.int .i64 h), .v (.int .i64 a), .v (.int .i64 b)] R) =
(((I64 r) ∧ (((0 : Int) < 4081) ∧ (I64 4081))) ∧ ((I64 (IntKind.wrap IntKind.i64 (16 + r % 4081))) ∧ (((I64 w) ∧ (((0 : Int) < 4081) ∧ (I64 4081))) ∧ (((I64 h) ∧ (((0 : Int) < 4081) ∧ (I64 4081))) ∧ (((I64 (IntKind.wrap IntKind.i64 (16 + w % 4081))) ∧ (I64 (IntKind.wrap IntKind.i64 (16 + h % 4081)))) ∧ 
(sel (chkS (discS (IntKind.wrap IntKind.i64 (16 + r % 4081))) 0 zP != 0) (R (SV.v (Value.bool false))) 
(sel (chkS (boxS (IntKind.wrap IntKind.i64 (16 + w % 4081)) (IntKind.wrap IntKind.i64 (16 + h % 4081))) 0 zP != 0) (R (SV.v (Value.bool false))) (((I64 a) ∧ (((0 : Int) < 1000) ∧ (I64 1000))) ∧ (((I64 b) ∧ (((0 : Int) < 1000) ∧ (I64 1000))) ∧ ((∃ x : Nat, ((Nat.le x 2) ∧ (((SV.v (Value.int IntKind.i64 0)) = (SV.v (Value.int IntKind.i64 ((↑x : Int))))) ∧ (((2 : Nat) = 2) ∧ (((2 : Nat) ≤ 2) ∧ (∀ i : Nat, (((i : Nat) < 2) → ([(SV.v (Value.int IntKind.i64 (bop (Nat.beq i 0) (ShB.k (keepS (chkS (discS (IntKind.wrap IntKind.i64 (16 + r % 4081))) 0 zP == 0) (discS (IntKind.wrap IntKind.i64 (16 + r % 4081))))) (ShB.k (keepS (chkS (boxS (IntKind.wrap IntKind.i64 (16 + w % 4081)) (IntKind.wrap IntKind.i64 (16 + h % 4081))) 0 zP == 0) (boxS (IntKind.wrap IntKind.i64 (16 + w % 4081)) (IntKind.wrap IntKind.i64 (16 + h % 4081)))))))), (SV.v (Value.int IntKind.i64 (bop (Nat.beq i 0) (ShB.r (keepS (chkS (discS (IntKind.wrap IntKind.i64 (16 + r % 4081))) 0 zP == 0) (discS (IntKind.wrap IntKind.i64 (16 + r % 4081))))) (ShB.r (keepS (chkS (boxS (IntKind.wrap IntKind.i64 (16 + w % 4081)) (IntKind.wrap IntKind.i64 (16 + h % 4081))) 0 zP == 0) (boxS (IntKind.wrap IntKind.i64 (16 + w % 4081)) (IntKind.wrap IntKind.i64 (16 + h % 4081)))))))), (SV.v (Value.int IntKind.i64 (bop (Nat.beq i 0) (ShB.w (keepS (chkS (discS (IntKind.wrap IntKind.i64 (16 + r % 4081))) 0 zP == 0) (discS (IntKind.wrap IntKind.i64 (16 + r % 4081))))) (ShB.w (keepS (chkS (boxS (IntKind.wrap IntKind.i64 (16 + w % 4081)) (IntKind.wrap IntKind.i64 (16 + h % 4081))) 0 zP == 0) (boxS (IntKind.wrap IntKind.i64 (16 + w % 4081)) (IntKind.wrap IntKind.i64 (16 + h % 4081)))))))), (SV.v (Value.int IntKind.i64 (bop (Nat.beq i 0) (ShB.h (keepS (chkS (discS (IntKind.wrap IntKind.i64 (16 + r % 4081))) 0 zP == 0) (discS (IntKind.wrap IntKind.i64 (16 + r % 4081))))) (ShB.h (keepS (chkS (boxS (IntKind.wrap IntKind.i64 (16 + w % 4081)) (IntKind.wrap IntKind.i64 (16 + h % 4081))) 0 zP == 0) (boxS (IntKind.wrap IntKind.i64 (16 + w % 4081)) (IntKind.wrap IntKind.i64 (16 + h % 4081)))))))), (cond (Nat.beq i 0) (SV.v (Value.slice none 0 0)) (SV.v (Value.slice none 0 0)))] = [(SV.v (Value.int IntKind.i64 (ShB.k (f i)))), (SV.v (Value.int IntKind.i64 (ShB.r (f i)))), (SV.v (Value.int IntKind.i64 (ShB.w (f i)))), (SV.v (Value.int IntKind.i64 (ShB.h (f i)))), (SV.v (Value.slice none 0 0))])))))))) ∧ (∀ x : Nat, ((Nat.le x 2) → 
(sel (decide ((↑x : Int) < 2)) ((((0 : Int) ≤ ((↑x : Int))) ∧ ((((↑x : Int)) : Int) < 2)) ∧ (((shOk (f (0 + Int.toNat (↑x : Int)))) ∧ (I64 (min (IntKind.wrap IntKind.i64 (1 + a % 1000)) (IntKind.wrap IntKind.i64 (1 + b % 1000))))) ∧ ((((0 : Int) ≤ ((↑x : Int))) ∧ ((((↑x : Int)) : Int) < 2)) ∧ (((shOk (f (0 + Int.toNat (↑x : Int)))) ∧ (I64 (max (IntKind.wrap IntKind.i64 (1 + a % 1000)) (IntKind.wrap IntKind.i64 (1 + b % 1000))))) ∧ 
(sel (wghE (chkS (f (0 + Int.toNat (↑x : Int))) 0 zP) (min (IntKind.wrap IntKind.i64 (1 + a % 1000)) (IntKind.wrap IntKind.i64 (1 + b % 1000))) != 0) (R (SV.v (Value.bool false))) 
(sel (wghE (chkS (f (0 + Int.toNat (↑x : Int))) 0 zP) (max (IntKind.wrap IntKind.i64 (1 + a % 1000)) (IntKind.wrap IntKind.i64 (1 + b % 1000))) != 0) (R (SV.v (Value.bool false))) 
(sel (NB.f (VB.x (wghV (chkS (f (0 + Int.toNat (↑x : Int))) 0 zP) (f (0 + Int.toNat (↑x : Int))) 0 zP (min (IntKind.wrap IntKind.i64 (1 + a % 1000)) (IntKind.wrap IntKind.i64 (1 + b % 1000)))))) (R (SV.v (Value.bool false))) 
(sel (NB.f (VB.y (wghV (chkS (f (0 + Int.toNat (↑x : Int))) 0 zP) (f (0 + Int.toNat (↑x : Int))) 0 zP (min (IntKind.wrap IntKind.i64 (1 + a % 1000)) (IntKind.wrap IntKind.i64 (1 + b % 1000)))))) (R (SV.v (Value.bool false))) 
(sel (NB.f (VB.x (wghV (chkS (f (0 + Int.toNat (↑x : Int))) 0 zP) (f (0 + Int.toNat (↑x : Int))) 0 zP (max (IntKind.wrap IntKind.i64 (1 + a % 1000)) (IntKind.wrap IntKind.i64 (1 + b % 1000)))))) (R (SV.v (Value.bool false))) 
(sel (NB.f (VB.y (wghV (chkS (f (0 + Int.toNat (↑x : Int))) 0 zP) (f (0 + Int.toNat (↑x : Int))) 0 zP (max (IntKind.wrap IntKind.i64 (1 + a % 1000)) (IntKind.wrap IntKind.i64 (1 + b % 1000)))))) (R (SV.v (Value.bool false))) 
(sel (decide (NB.v (VB.x (wghV (chkS (f (0 + Int.toNat (↑x : Int))) 0 zP) (f (0 + Int.toNat (↑x : Int))) 0 zP (max (IntKind.wrap IntKind.i64 (1 + a % 1000)) (IntKind.wrap IntKind.i64 (1 + b % 1000))))) ≤ 0)) (R (SV.v (Value.bool false))) 
(sel (decide (NB.v (VB.y (wghV (chkS (f (0 + Int.toNat (↑x : Int))) 0 zP) (f (0 + Int.toNat (↑x : Int))) 0 zP (max (IntKind.wrap IntKind.i64 (1 + a % 1000)) (IntKind.wrap IntKind.i64 (1 + b % 1000))))) ≤ 0)) (R (SV.v (Value.bool false))) 
(sel (decide (NB.v (VB.x (wghV (chkS (f (0 + Int.toNat (↑x : Int))) 0 zP) (f (0 + Int.toNat (↑x : Int))) 0 zP (max (IntKind.wrap IntKind.i64 (1 + a % 1000)) (IntKind.wrap IntKind.i64 (1 + b % 1000))))) > NB.v (VB.x (wghV (chkS (f (0 + Int.toNat (↑x : Int))) 0 zP) (f (0 + Int.toNat (↑x : Int))) 0 zP (min (IntKind.wrap IntKind.i64 (1 + a % 1000)) (IntKind.wrap IntKind.i64 (1 + b % 1000))))))) (R (SV.v (Value.bool false))) 
(sel (decide (NB.v (VB.y (wghV (chkS (f (0 + Int.toNat (↑x : Int))) 0 zP) (f (0 + Int.toNat (↑x : Int))) 0 zP (max (IntKind.wrap IntKind.i64 (1 + a % 1000)) (IntKind.wrap IntKind.i64 (1 + b % 1000))))) > NB.v (VB.y (wghV (chkS (f (0 + Int.toNat (↑x : Int))) 0 zP) (f (0 + Int.toNat (↑x : Int))) 0 zP (min (IntKind.wrap IntKind.i64 (1 + a % 1000)) (IntKind.wrap IntKind.i64 (1 + b % 1000))))))) (R (SV.v (Value.bool false))) (∃ x' : Nat, (((Nat.le x' 2) ∧ (((SV.v (Value.int IntKind.i64 (IntKind.wrap IntKind.i64 ((↑x : Int) + 1)))) = (SV.v (Value.int IntKind.i64 ((↑x' : Int))))) ∧ (((2 : Nat) = 2) ∧ (((2 : Nat) ≤ 2) ∧ (∀ i : Nat, (((i : Nat) < 2) → ([(SV.v (Value.int IntKind.i64 (ShB.k (f i)))), (SV.v (Value.int IntKind.i64 (ShB.r (f i)))), (SV.v (Value.int IntKind.i64 (ShB.w (f i)))), (SV.v (Value.int IntKind.i64 (ShB.h (f i)))), (SV.v (Value.slice none 0 0))] = [(SV.v (Value.int IntKind.i64 (ShB.k (f i)))), (SV.v (Value.int IntKind.i64 (ShB.r (f i)))), (SV.v (Value.int IntKind.i64 (ShB.w (f i)))), (SV.v (Value.int IntKind.i64 (ShB.h (f i)))), (SV.v (Value.slice none 0 0))]))))))) ∧ (((2 - x') : Nat) < (2 - x)))))))))))))))))) (R (SV.v (Value.bool true)))))))))))))))) := by kernel_rfl
theorem selH {b : Bool} {x y : Prop} (h : b = false) (hy : y) : sel b x y := by subst h; exact hy
/-- The weights at two densities. -/
def HV (x y : VB) : Prop := (x.x.f = false ∧ x.y.f = false) ∧ (y.x.f = false ∧ y.y.f = false) ∧ (0 < y.x.v ∧ 0 < y.y.v) ∧ y.x.v ≤ x.x.v ∧ y.y.v ≤ x.y.v
theorem tdiv_mono {m d1 d2 : Int} (hm : 0 ≤ m) (h1 : 0 < d1) (h2 : d1 ≤ d2) : Int.tdiv m d2 ≤ Int.tdiv m d1 := by
  rw [Int.tdiv_eq_ediv_of_nonneg hm, Int.tdiv_eq_ediv_of_nonneg hm]
  refine Int.le_ediv_of_mul_le h1 ?_
  have a := Int.ediv_mul_le m (show d2 ≠ 0 by omega)
  have b := Int.mul_le_mul_of_nonneg_left h2 (Int.ediv_nonneg hm (show (0 : Int) ≤ d2 by omega))
  omega
theorem tdiv_one {m d : Int} (h1 : 0 < d) (h : d ≤ m) : 0 < Int.tdiv m d := by
  rw [Int.tdiv_eq_ediv_of_nonneg (by omega)]
  have := Int.le_ediv_of_mul_le (a := 1) (b := m) h1 (by omega)
  omega
theorem hv_of {m i d1 d2 : Int} (hm : 1000 ≤ m) (hi : 1000 ≤ i) (h1 : 1 ≤ d1) (h2 : d1 ≤ d2) (h3 : d2 ≤ 1000) : HV ⟨⟨Int.tdiv m d1, false⟩, ⟨Int.tdiv i d1, false⟩⟩ ⟨⟨Int.tdiv m d2, false⟩, ⟨Int.tdiv i d2, false⟩⟩ :=
  ⟨⟨rfl, rfl⟩, ⟨rfl, rfl⟩, ⟨tdiv_one (by omega) (by omega), tdiv_one (by omega) (by omega)⟩, tdiv_mono (by omega) (by omega) h2, tdiv_mono (by omega) (by omega) h2⟩
theorem ratN_pos {a b L U : Int} (ha : 0 ≤ a) (hb : 0 < b) (h0 : 0 ≤ L) (hL : L * b ≤ a * 4294967296) (hU : a * 4294967296 ≤ U * b) (h1 : U ≤ 9223372036854775807) : ∃ q, ratN a b = ⟨q, false⟩ ∧ L ≤ q ∧ q ≤ U := by
  refine ⟨a * 4294967296 / b, ?_, Int.le_ediv_of_mul_le hb hL, Int.ediv_le_of_le_mul hb hU⟩
  have l := Int.le_ediv_of_mul_le hb hL
  have u := Int.ediv_le_of_le_mul hb hU
  have e : ratE a b = a * 4294967296 / b := Int.tdiv_eq_ediv_of_nonneg (by omega)
  unfold ratN ratV ratF
  rw [if_neg (by omega), if_neg (by omega), e, fitE_self ⟨by omega, by omega⟩, fitG_self ⟨by omega, by omega⟩]
theorem div_half {q : Int} (h0 : 0 ≤ q) (h1 : q ≤ 4503599627370496) : divN ⟨q, false⟩ halfN = ⟨q * 4294967296 / 13493037704, false⟩ := by
  have e : ratE q 13493037704 = q * 4294967296 / 13493037704 := Int.tdiv_eq_ediv_of_nonneg (by omega)
  have sq : Sd q := ⟨by omega, by omega⟩
  have sh : Sd 13493037704 := ⟨by decide, by decide⟩
  show (⟨ratV (sndV q) (sndV 13493037704), ratF (sndV q) (sndV 13493037704) || (sndF q false || sndF 13493037704 false)⟩ : NB) = _
  rw [sq.self, sh.self, sq.flag, sh.flag]
  unfold ratV ratF
  rw [if_neg (by decide), if_neg (by decide), e, fitE_self ⟨by omega, by omega⟩, fitG_self ⟨by omega, by omega⟩]
  rfl
theorem sq_bd {r : Int} (h : 16 ≤ r ∧ r ≤ 4096) : (256 ≤ r * r ∧ r * r ≤ 16777216) ∧ 65536 ≤ r * r * r * r ∧ r * r * r * r ≤ 281474976710656 := by
  obtain ⟨_, ⟨_, _⟩, p5, p6⟩ := pow_bd (r := r) ⟨by omega, h.2⟩
  have a1 := Int.mul_le_mul (a := 16) (b := 16) (c := r) (d := r) h.1 h.1 (by decide) (by omega)
  have a2 := Int.mul_le_mul (a := 256) (b := 16) (c := r * r) (d := r) (by omega) h.1 (by decide) (by omega)
  have a3 := Int.mul_le_mul (a := 4096) (b := 16) (c := r * r * r) (d := r) (by omega) h.1 (by decide) (by omega)
  have a4 := (pow_bd (r := r) ⟨by omega, h.2⟩).1
  exact ⟨⟨by omega, a4.2⟩, by omega, p6⟩
theorem disc_hv {r d1 d2 : Int} (hr : 16 ≤ r ∧ r ≤ 4096) (h1 : 1 ≤ d1) (h2 : d1 ≤ d2) (h3 : d2 ≤ 1000) : HV (wDisc r d1) (wDisc r d2) := by
  obtain ⟨⟨s1, s2⟩, s3, s4⟩ := sq_bd hr
  obtain ⟨q, e1, l1, u1⟩ := ratN_pos (a := 65536) (b := r * r) (L := 16777216) (U := 1099511627776) (by decide) (by omega) (by decide) (by omega) (by omega) (by decide)
  obtain ⟨p, e2, l2, u2⟩ := ratN_pos (a := 8589934592) (b := r * r * r * r) (L := 131072) (U := 562949953421312) (by decide) (by omega) (by decide) (by omega) (by omega) (by decide)
  unfold wDisc
  rw [e1, e2, div_half (by omega) (by omega), div_half (by omega) (by omega)]
  rw [divN_int ⟨by simp only; omega, by simp only; omega⟩ (by omega) (by omega), divN_int ⟨by simp only; omega, by simp only; omega⟩ (by omega) (by omega), divN_int ⟨by simp only; omega, by simp only; omega⟩ (by omega) (by omega), divN_int ⟨by simp only; omega, by simp only; omega⟩ (by omega) (by omega)]
  exact hv_of (by simp only; omega) (by simp only; omega) h1 h2 h3
theorem box_area (w h : Int) : areaF 4 (boxC w h) 4 = 8 * (w * h) := by
  show 0 + (-w * -h - -h * w) + (w * h - -h * w) + (w * h - h * -w) + (-w * -h - h * -w) = 8 * (w * h)
  simp only [Int.neg_mul, Int.mul_neg, Int.neg_neg, Int.mul_comm h w]
  omega
theorem box_mom (w h : Int) : momF 4 (boxC w h) 4 = 2 * (w * h) * (8 * (w * w + h * h)) := by
  show 0 + (-w * -h - -h * w) * ((-w * -w + -h * -h) + (-w * w + -h * -h) + (w * w + -h * -h)) + (w * h - -h * w) * ((w * w + -h * -h) + (w * w + -h * h) + (w * w + h * h)) + (w * h - h * -w) * ((w * w + h * h) + (w * -w + h * h) + (-w * -w + h * h)) + (-w * -h - h * -w) * ((-w * -w + h * h) + (-w * -w + h * -h) + (-w * -w + -h * -h)) = _
  simp only [Int.neg_mul, Int.mul_neg, Int.neg_neg, Int.mul_comm h w]
  have c : w * h + w * h = 2 * (w * h) := by omega
  have c' : w * h - -(w * h) = 2 * (w * h) := by omega
  simp only [c', Int.zero_add, ← Int.mul_add]
  congr 1
  omega
theorem box_hv {w h d1 d2 : Int} (hw : 16 ≤ w ∧ w ≤ 4096) (hh : 16 ≤ h ∧ h ≤ 4096) (h1 : 1 ≤ d1) (h2 : d1 ≤ d2) (h3 : d2 ≤ 1000) : HV (wPoly (areaF 4 (boxC w h) 4) (momF 4 (boxC w h) 4) d1) (wPoly (areaF 4 (boxC w h) 4) (momF 4 (boxC w h) 4) d2) := by
  rw [box_area, box_mom]
  obtain ⟨⟨s1, s2⟩, _⟩ := sq_bd hw
  obtain ⟨⟨t1, t2⟩, _⟩ := sq_bd hh
  have a1 := Int.mul_le_mul (a := 16) (b := 16) (c := w) (d := h) hw.1 hh.1 (by decide) (by omega)
  have a2 := Int.mul_le_mul (a := w) (b := h) (c := 4096) (d := 4096) hw.2 hh.2 (by omega) (by decide)
  generalize w * h = A at *
  generalize w * w = W at *
  generalize h * h = H at *
  have m1 := Int.mul_le_mul (a := 512) (b := 4096) (c := 2 * A) (d := 8 * (W + H)) (by omega) (by omega) (by decide) (by omega)
  have m2 := Int.mul_le_mul (a := 2 * A) (b := 8 * (W + H)) (c := 33554432) (d := 268435456) (by omega) (by omega) (by omega) (by decide)
  generalize 2 * A * (8 * (W + H)) = M at *
  obtain ⟨q, e1, l1, u1⟩ := ratN_pos (a := 131072) (b := 8 * A) (L := 4194304) (U := 274877906944) (by decide) (by omega) (by decide) (by omega) (by omega) (by decide)
  obtain ⟨p, e2, l2, u2⟩ := ratN_pos (a := 51539607552) (b := M) (L := 24576) (U := 105553116266496) (by decide) (by omega) (by decide) (by omega) (by omega) (by decide)
  unfold wPoly
  rw [e1, e2]
  rw [divN_int ⟨by simp only; omega, by simp only; omega⟩ (by omega) (by omega), divN_int ⟨by simp only; omega, by simp only; omega⟩ (by omega) (by omega), divN_int ⟨by simp only; omega, by simp only; omega⟩ (by omega) (by omega), divN_int ⟨by simp only; omega, by simp only; omega⟩ (by omega) (by omega)]
  exact hv_of (by simp only; omega) (by simp only; omega) h1 h2 h3
theorem size_yes {x : Int} (h : 16 ≤ x ∧ x ≤ 4096) : sizeI x = true := by unfold sizeI; rw [decide_eq_true h.1, decide_eq_true h.2]; rfl
theorem chk_disc {r : Int} (h : 16 ≤ r ∧ r ≤ 4096) : chkS (discS r) 0 zP = 0 := by
  show (bif sizeI r then (0 : Int) else 3) = 0
  rw [size_yes h]; rfl
theorem chk_box0 {w h : Int} (hw : 16 ≤ w ∧ w ≤ 4096) (hh : 16 ≤ h ∧ h ≤ 4096) : chkS (boxS w h) 0 zP = 0 := by
  show (bif sizeI w && sizeI h then (0 : Int) else 3) = 0
  rw [size_yes hw, size_yes hh]; rfl
theorem heavyL_vc {r w h a b : Int} (hr : I64 r) (hw : I64 w) (hh : I64 h) (ha : I64 a) (hb : I64 b) : vcPure Try.prog ΓN (ΛHeavy (twoS (discS (16 + r % 4081)) (boxS (16 + w % 4081) (16 + h % 4081)))) Try.f5 [.v (.int .i64 r), .v (.int .i64 w), .v (.int .i64 h), .v (.int .i64 a), .v (.int .i64 b)] (fun y => y = .v (.bool true)) := by
  refine Eq.mpr (vcHeavyL r w h a b _ _) ?_
  rw [wrap_i64 (n := 16 + r % 4081) ⟨by omega, by omega⟩, wrap_i64 (n := 16 + w % 4081) ⟨by omega, by omega⟩, wrap_i64 (n := 16 + h % 4081) ⟨by omega, by omega⟩, wrap_i64 (n := 1 + a % 1000) ⟨by omega, by omega⟩, wrap_i64 (n := 1 + b % 1000) ⟨by omega, by omega⟩]
  have gR : 16 ≤ 16 + r % 4081 ∧ 16 + r % 4081 ≤ 4096 := by omega
  have gW : 16 ≤ 16 + w % 4081 ∧ 16 + w % 4081 ≤ 4096 := by omega
  have gH : 16 ≤ 16 + h % 4081 ∧ 16 + h % 4081 ≤ 4096 := by omega
  have g1 : 1 ≤ min (1 + a % 1000) (1 + b % 1000) := by omega
  have g2 : min (1 + a % 1000) (1 + b % 1000) ≤ max (1 + a % 1000) (1 + b % 1000) := by omega
  have g3 : max (1 + a % 1000) (1 + b % 1000) ≤ 1000 := by omega
  generalize 16 + r % 4081 = R at *
  generalize 16 + w % 4081 = W at *
  generalize 16 + h % 4081 = H at *
  generalize min (1 + a % 1000) (1 + b % 1000) = d1 at *
  generalize max (1 + a % 1000) (1 + b % 1000) = d2 at *
  have c1 := chk_disc gR
  have c2 := chk_box0 gW gH
  have iR : I64 R := ⟨by omega, by omega⟩
  have iW : I64 W := ⟨by omega, by omega⟩
  have iH : I64 H := ⟨by omega, by omega⟩
  have l : ∀ n : Int, -9223372036854775808 ≤ n → n < 9223372036854775808 → I64 n := fun n h1 h2 => ⟨h1, h2⟩
  rw [c1, c2]
  refine ⟨⟨hr, by decide, by decide, by decide⟩, iR, ⟨hw, by decide, by decide, by decide⟩, ⟨hh, by decide, by decide, by decide⟩, ⟨iW, iH⟩, selH rfl (selH rfl ⟨⟨ha, by decide, by decide, by decide⟩, ⟨hb, by decide, by decide, by decide⟩, ⟨0, Nat.zero_le 2, by trivial, by trivial, by trivial, fun i hi => ?_⟩, fun x hx => sel_of (fun e => ?_) fun e => by trivial⟩)⟩
  · obtain rfl | rfl : i = 0 ∨ i = 1 := by omega
    · rfl
    · rfl
  · have e := of_decide_eq_true e
    have hx2 : x < 2 := by omega
    have key : shOk (twoS (discS R) (boxS W H) x) ∧ chkS (twoS (discS R) (boxS W H) x) 0 zP = 0 ∧ HV (wghV 0 (twoS (discS R) (boxS W H) x) 0 zP d1) (wghV 0 (twoS (discS R) (boxS W H) x) 0 zP d2) := by
      have k1 : ∀ d : Int, 1 ≤ d → d ≤ 1000 → wghE 0 d = 0 := fun d h1 h2 => wgh_ok (decide_eq_false (by omega)) (decide_eq_false (by omega))
      obtain rfl | rfl : x = 0 ∨ x = 1 := by omega
      · refine ⟨shOk_disc iR, c1, ?_⟩
        show HV (wghV 0 (discS R) 0 zP d1) (wghV 0 (discS R) 0 zP d2)
        rw [wghV_disc (k1 d1 g1 (by omega)) rfl, wghV_disc (k1 d2 (by omega) g3) rfl]
        exact disc_hv gR g1 g2 g3
      · refine ⟨shOk_box ⟨iW, iH⟩, c2, ?_⟩
        show HV (wghV 0 (boxS W H) 0 zP d1) (wghV 0 (boxS W H) 0 zP d2)
        rw [wghV_poly (k1 d1 g1 (by omega)) rfl, wghV_poly (k1 d2 (by omega) g3) rfl]
        exact box_hv gW gH g1 g2 g3
    rw [Nat.zero_add, Int.toNat_natCast]
    obtain ⟨k1, k2, ⟨k3, k4⟩, ⟨k5, k6⟩, ⟨k7, k8⟩, k9, k10⟩ := key
    rw [k2]
    have w1 : wghE 0 d1 = 0 := wgh_ok (decide_eq_false (by omega)) (decide_eq_false (by omega))
    have w2 : wghE 0 d2 = 0 := wgh_ok (decide_eq_false (by omega)) (decide_eq_false (by omega))
    refine ⟨⟨by omega, by omega⟩, ⟨k1, l d1 (by omega) (by omega)⟩, ⟨by omega, by omega⟩, ⟨k1, l d2 (by omega) (by omega)⟩, selH (by rw [w1]; rfl) (selH (by rw [w2]; rfl) (selH k3 (selH k4 (selH k5 (selH k6 (selH (decide_eq_false (by omega)) (selH (decide_eq_false (by omega)) (selH (decide_eq_false (by omega)) (selH (decide_eq_false (by omega)) ⟨x + 1, ⟨by show x + 1 ≤ 2; omega, int_mk (by rw [wrap_i64 ⟨by omega, by omega⟩]; rfl), by trivial, by trivial, fun _ _ => rfl⟩, by omega⟩)))))))))⟩
theorem HeavyL_spec : PureSpec Try.prog 5 sHeavyL := vc_spec hm ΓN_ok Try.func5 (Λ := fun args => match args with | [.v (.int .i64 r), .v (.int .i64 w), .v (.int .i64 h), _, _] => ΛHeavy (twoS (discS (16 + r % 4081)) (boxS (16 + w % 4081) (16 + h % 4081))) | _ => noΛ) fun args p x h hp => by
  unfold sHeavyL at h
  split at h <;> try (cases h; done)
  rename_i r w hh a b
  cases h
  obtain ⟨⟨h1, h2⟩, h3, h4, h5⟩ := hp _ rfl
  exact ⟨rfl, rfl, heavyL_vc h1 h2 h3 h4 h5⟩
end Go.Proofs.Ytheljpebapokjaa
