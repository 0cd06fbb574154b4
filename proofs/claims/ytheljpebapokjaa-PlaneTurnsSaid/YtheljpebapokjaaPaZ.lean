/-
  PlaneTurns: what the law reckons.
-/
import Derived.Test.YtheljpebapokjaaPaY
set_option maxRecDepth 100000
set_option linter.unusedSimpArgs false
set_option linter.unusedVariables false
namespace Go.Proofs.Ytheljpebapokjaa
open Go.SE Go.RowKit

structure KT where
  k : Nat
  r : VB
/-- A rotation, as the check has it. -/
def okRot (r : VB) : Prop := r.x.f = false ∧ r.y.f = false ∧ (-8589934592 ≤ r.x.v ∧ r.x.v ≤ 8589934592) ∧ (-8589934592 ≤ r.y.v ∧ r.y.v ≤ 8589934592) ∧ chkV r = 0
def rowsI2 (g : Nat → Int) : Nat → List SV := fun i => [.v (.int .i64 (g i))]
def sTurnsL : List SV → List Ro → Option (Option Prop × SV)
  | [.v (.int .i64 x), .sl 0 1 0 n _, .v (.int .i64 a), .v (.int .i64 b)], [⟨1, n', row⟩] => some (some (okAll isI (rowsOf n' row) ∧ n' = n ∧ I64 x ∧ I64 a ∧ I64 b), .v (.bool true))
  | _, _ => none
noncomputable def ΛTurns (n : Nat) : Nat → Option LoopSpec := addLoop noΛ Try.f17 0 KT (fun x => x.k ≤ n ∧ okRot x.r) (fun x => n - x.k) [(10, fun x => .v (.int .i64 x.k))] [(136, fun x => varBlk 70 [.v (.int .i64 x.r.x.v), .v (.bool x.r.x.f), .v (.int .i64 x.r.y.v), .v (.bool x.r.y.f)])]
theorem vcTurnsL (n n' c : Nat) (g : Nat → Int) (x a b : Int) (R : SV → Prop) : (vcFn Try.prog ΓG (ΛTurns n) Try.f17 [.v (.int .i64 x), .sl 0 1 0 n c, .v (.int .i64 a), .v (.int .i64 b)] (roHeap [⟨1, n', rowsI2 g⟩]) 64 (fun y _ => R y)) =

(sel (decide ((↑n : Int) > 30)) (R (SV.v (Value.bool true))) ((((0 : Int) < 100) ∧ ((100 : Int) < 1073741824)) ∧ ((I64 (NB.v (kitK x 100))) ∧ (((I64 (NB.v (VB.x (angV (kitK x 100))))) ∧ (I64 (NB.v (VB.y (angV (kitK x 100)))))) ∧ 
(sel (chkV (angV (kitK x 100)) != 0) (R (SV.v (Value.bool false))) ((∃ x_1 : KT, (((((KT.k x_1) : Nat) ≤ n) ∧ (okRot (KT.r x_1))) ∧ (((SV.v (Value.int IntKind.i64 0)) = (SV.v (Value.int IntKind.i64 ((↑(KT.k x_1) : Int))))) ∧ (((1 : Nat) = 1) ∧ (((1 : Nat) ≤ 1) ∧ (∀ i : Nat, (((i : Nat) < 1) → ([(SV.v (Value.int IntKind.i64 (NB.v (VB.x (angV (kitK x 100)))))), (SV.v (Value.bool (NB.f (VB.x (angV (kitK x 100)))))), (SV.v (Value.int IntKind.i64 (NB.v (VB.y (angV (kitK x 100)))))), (SV.v (Value.bool (NB.f (VB.y (angV (kitK x 100))))))] = [(SV.v (Value.int IntKind.i64 (NB.v (VB.x (KT.r x_1))))), (SV.v (Value.bool (NB.f (VB.x (KT.r x_1))))), (SV.v (Value.int IntKind.i64 (NB.v (VB.y (KT.r x_1))))), (SV.v (Value.bool (NB.f (VB.y (KT.r x_1)))))])))))))) ∧ (∀ x_1 : KT, (((((KT.k x_1) : Nat) ≤ n) ∧ (okRot (KT.r x_1))) → 
(sel (decide ((↑(KT.k x_1) : Int) < (↑n : Int))) ((((0 : Int) ≤ ((↑(KT.k x_1) : Int))) ∧ ((((↑(KT.k x_1) : Int)) : Int) < ((↑n : Int)))) ∧ ((((0 : Int) < 100) ∧ ((100 : Int) < 1073741824)) ∧ ((((I64 (NB.v (VB.x (KT.r x_1)))) ∧ (I64 (NB.v (VB.y (KT.r x_1))))) ∧ (I64 (NB.v (kitK (g (0 + Int.toNat (↑(KT.k x_1) : Int))) 100)))) ∧ (((I64 (NB.v (VB.x (spiV (KT.r x_1) (kitK (g (0 + Int.toNat (↑(KT.k x_1) : Int))) 100))))) ∧ (I64 (NB.v (VB.y (spiV (KT.r x_1) (kitK (g (0 + Int.toNat (↑(KT.k x_1) : Int))) 100)))))) ∧ 
(sel (chkV (spiV (KT.r x_1) (kitK (g (0 + Int.toNat (↑(KT.k x_1) : Int))) 100)) != 0) (R (SV.v (Value.bool false))) (∃ x' : KT, ((((((KT.k x') : Nat) ≤ n) ∧ (okRot (KT.r x'))) ∧ (((SV.v (Value.int IntKind.i64 (IntKind.wrap IntKind.i64 ((↑(KT.k x_1) : Int) + 1)))) = (SV.v (Value.int IntKind.i64 ((↑(KT.k x') : Int))))) ∧ (((1 : Nat) = 1) ∧ (((1 : Nat) ≤ 1) ∧ (∀ i : Nat, (((i : Nat) < 1) → ([(SV.v (Value.int IntKind.i64 (NB.v (VB.x (spiV (KT.r x_1) (kitK (g (0 + Int.toNat (↑(KT.k x_1) : Int))) 100)))))), (SV.v (Value.bool (NB.f (VB.x (spiV (KT.r x_1) (kitK (g (0 + Int.toNat (↑(KT.k x_1) : Int))) 100)))))), (SV.v (Value.int IntKind.i64 (NB.v (VB.y (spiV (KT.r x_1) (kitK (g (0 + Int.toNat (↑(KT.k x_1) : Int))) 100)))))), (SV.v (Value.bool (NB.f (VB.y (spiV (KT.r x_1) (kitK (g (0 + Int.toNat (↑(KT.k x_1) : Int))) 100))))))] = [(SV.v (Value.int IntKind.i64 (NB.v (VB.x (KT.r x'))))), (SV.v (Value.bool (NB.f (VB.x (KT.r x'))))), (SV.v (Value.int IntKind.i64 (NB.v (VB.y (KT.r x'))))), (SV.v (Value.bool (NB.f (VB.y (KT.r x')))))]))))))) ∧ (((n - KT.k x') : Nat) < (n - KT.k x_1))))))))) ((((0 : Int) < 64) ∧ ((64 : Int) < 1073741824)) ∧ ((((I64 (NB.v (VB.x (KT.r x_1)))) ∧ (I64 (NB.v (VB.y (KT.r x_1))))) ∧ ((I64 (NB.v (VB.x (kitV a b 64)))) ∧ (I64 (NB.v (VB.y (kitV a b 64)))))) ∧ ((((I64 (NB.v (VB.x (KT.r x_1)))) ∧ (I64 (NB.v (VB.y (KT.r x_1))))) ∧ ((I64 (NB.v (VB.x (appV (KT.r x_1) (kitV a b 64))))) ∧ (I64 (NB.v (VB.y (appV (KT.r x_1) (kitV a b 64))))))) ∧ ((((0 : Int) < 64) ∧ ((64 : Int) < 1073741824)) ∧ ((((I64 (NB.v (VB.x (kitV b a 64)))) ∧ (I64 (NB.v (VB.y (kitV b a 64))))) ∧ (((I64 (NB.v (VB.x (KT.r x_1)))) ∧ (I64 (NB.v (VB.y (KT.r x_1))))) ∧ ((I64 (NB.v (VB.x (kitV a b 64)))) ∧ (I64 (NB.v (VB.y (kitV a b 64))))))) ∧ ((((I64 (NB.v (VB.x (kitV b a 64)))) ∧ (I64 (NB.v (VB.y (kitV b a 64))))) ∧ (((I64 (NB.v (VB.x (KT.r x_1)))) ∧ (I64 (NB.v (VB.y (KT.r x_1))))) ∧ ((I64 (NB.v (VB.x (add2V (kitV b a 64) (appV (KT.r x_1) (kitV a b 64)))))) ∧ (I64 (NB.v (VB.y (add2V (kitV b a 64) (appV (KT.r x_1) (kitV a b 64))))))))) ∧ 
(sel (nearK (VB.x (bacV (KT.r x_1) (appV (KT.r x_1) (kitV a b 64)))) (VB.x (kitV a b 64)) 8388608) 
(sel (nearK (VB.y (bacV (KT.r x_1) (appV (KT.r x_1) (kitV a b 64)))) (VB.y (kitV a b 64)) 8388608) 
(sel (nearK (VB.x (bacV (KT.r x_1) (subV (add2V (kitV b a 64) (appV (KT.r x_1) (kitV a b 64))) (kitV b a 64)))) (VB.x (kitV a b 64)) 8388608) 
(sel (nearK (VB.y (bacV (KT.r x_1) (subV (add2V (kitV b a 64) (appV (KT.r x_1) (kitV a b 64))) (kitV b a 64)))) (VB.y (kitV a b 64)) 8388608) (R (SV.v (Value.bool true))) (R (SV.v (Value.bool false)))) (R (SV.v (Value.bool false)))) (R (SV.v (Value.bool false)))) (R (SV.v (Value.bool false))))))))))))))))))) := by kernel_rfl
theorem selA {b : Bool} {x y : Prop} (h : b = true) (hx : x) : sel b x y := by subst h; exact hx
theorem selB {b : Bool} {x y : Prop} (h : b = false) (hy : y) : sel b x y := by subst h; exact hy
def P33 (x : Int) : Prop := -8589934592 ≤ x ∧ x ≤ 8589934592
def P41 (x : Int) : Prop := -2199023255552 ≤ x ∧ x ≤ 2199023255552
theorem P33.sd {x : Int} (h : P33 x) : Sd x := by obtain ⟨_, _⟩ := h; exact ⟨by omega, by omega⟩
theorem P41.sd {x : Int} (h : P41 x) : Sd x := by obtain ⟨_, _⟩ := h; exact ⟨by omega, by omega⟩
theorem P33.p41 {x : Int} (h : P33 x) : P41 x := by obtain ⟨_, _⟩ := h; exact ⟨by omega, by omega⟩
theorem P33.neg {x : Int} (h : P33 x) : P33 (-x) := by obtain ⟨_, _⟩ := h; exact ⟨by omega, by omega⟩
/-- A sum of two products, and how far it is from what it stands for. -/
theorem dot4 {a b c d : Int} (ha : P33 a) (hb : P41 b) (hc : P33 c) (hd : P41 d) : ∃ q : Int, dotN ⟨a, false⟩ ⟨b, false⟩ ⟨c, false⟩ ⟨d, false⟩ = ⟨q, false⟩ ∧ (-4294967295 ≤ a * b + c * d - q * 4294967296 ∧ a * b + c * d - q * 4294967296 ≤ 4294967295) ∧ (-8796093022208 ≤ q ∧ q ≤ 8796093022208) := by
  have m1 := mul_in (p := a) (q := b) (P := 8589934592) (Q := 2199023255552) (by decide) ha.1 ha.2 hb.1 hb.2
  have m2 := mul_in (p := c) (q := d) (P := 8589934592) (Q := 2199023255552) (by decide) hc.1 hc.2 hd.1 hd.2
  have t1 := Int.tmod_add_tdiv_mul (a * b + c * d) 4294967296
  have t2 := Int.natAbs_tmod (a * b + c * d) 4294967296
  have t3 : (a * b + c * d).natAbs % (4294967296 : Int).natAbs < (4294967296 : Int).natAbs := Nat.mod_lt _ (by decide)
  refine ⟨Int.tdiv (a * b + c * d) 4294967296, ?_, by omega, by omega⟩
  unfold dotN dotE
  rw [ha.sd.self, hb.sd.self, hc.sd.self, hd.sd.self, ha.sd.flag, hb.sd.flag, hc.sd.flag, hd.sd.flag]
  exact fitN_self ⟨by omega, by omega⟩
theorem neg33 {s : Int} (h : P33 s) : negN ⟨s, false⟩ = ⟨-s, false⟩ := negN_self h.sd
theorem circ_id (a b c d : Int) : (a * c + -b * d) * (a * c + -b * d) + (b * c + a * d) * (b * c + a * d) = (a * a + b * b) * (c * c + d * d) := by
  have e1 : a * c * (b * d) = b * c * (a * d) := by rw [mul4 a c b d, mul4 b c a d, Int.mul_comm a b]
  have e2 : b * d * (a * c) = a * d * (b * c) := by rw [mul4 b d a c, mul4 a d b c, Int.mul_comm b a]
  have s1 := mul4 a c a c
  have s2 := mul4 b d b d
  have s3 := mul4 b c b c
  have s4 := mul4 a d a d
  simp only [Int.neg_mul, Int.add_mul, Int.mul_add, Int.mul_neg, Int.neg_neg] at *
  omega
theorem turn_id (c s x y : Int) : c * (c * x + -s * y) + s * (s * x + c * y) = (c * c + s * s) * x := by
  have e1 : c * (s * y) = s * (c * y) := Int.mul_left_comm _ _ _
  simp only [Int.neg_mul, Int.add_mul, Int.mul_add, Int.mul_neg, Int.mul_assoc] at *
  omega
theorem turn_id2 (c s x y : Int) : -s * (c * x + -s * y) + c * (s * x + c * y) = (c * c + s * s) * y := by
  have e1 : c * (s * x) = s * (c * x) := Int.mul_left_comm _ _ _
  simp only [Int.neg_mul, Int.add_mul, Int.mul_add, Int.mul_neg, Int.neg_neg, Int.mul_assoc] at *
  omega
theorem dot_sq {p q : Int} (hp : P33 p) (hq : P33 q) : (dotN ⟨p, false⟩ ⟨p, false⟩ ⟨q, false⟩ ⟨q, false⟩).v = (p * p + q * q) / 4294967296 := by
  have m1 := mul_in (p := p) (q := p) (P := 8589934592) (Q := 8589934592) (by decide) hp.1 hp.2 hp.1 hp.2
  have m2 := mul_in (p := q) (q := q) (P := 8589934592) (Q := 8589934592) (by decide) hq.1 hq.2 hq.1 hq.2
  have n1 := sq_nonneg p
  have n2 := sq_nonneg q
  show fitE (dotE (sndV p) (sndV p) (sndV q) (sndV q)) = _
  rw [hp.sd.self, hq.sd.self]
  unfold dotE
  rw [Int.tdiv_eq_ediv_of_nonneg (by omega), fitE_self ⟨by omega, by omega⟩]
theorem not_bad {p q : Int} (hp : P33 p) (hq : P33 q) : badV ⟨⟨p, false⟩, ⟨q, false⟩⟩ = false := by
  show (sndF p false || sndF q false) = false
  rw [hp.sd.flag, hq.sd.flag]; rfl
theorem chk_of {p q : Int} (hp : P33 p) (hq : P33 q) (l : 18446462598732840960 ≤ p * p + q * q) (u : p * p + q * q ≤ 18447025548686262272) : chkV ⟨⟨p, false⟩, ⟨q, false⟩⟩ = 0 := by
  have hd := dot_sq hp hq
  unfold chkV
  rw [not_bad hp hq, cond_false, hd, decide_eq_false (by omega), decide_eq_false (by omega)]; rfl
theorem chk_in {p q : Int} (hp : P33 p) (hq : P33 q) (h : chkV ⟨⟨p, false⟩, ⟨q, false⟩⟩ = 0) : 18446462598732840960 ≤ p * p + q * q ∧ p * p + q * q ≤ 18447025552981229568 := by
  have hd := dot_sq hp hq
  unfold chkV at h
  rw [not_bad hp hq, cond_false, hd] at h
  by_cases h1 : (p * p + q * q) / 4294967296 - 4294967296 > 65536
  · rw [decide_eq_true h1] at h; cases h
  · by_cases h2 : 4294967296 - (p * p + q * q) / 4294967296 > 65536
    · rw [decide_eq_true h2, Bool.or_true] at h; cases h
    · omega
theorem ang_ok {a : NB} (hf : a.f = false) (ha : Sd a.v) : okRot (angV a) := by
  have e1 := sinN_eq a
  have e2 := cosN_eq a
  rw [ha.flag, hf] at e1 e2
  have b1 := sinN_in a
  have b2 : -4294967296 ≤ (cosN a).v ∧ (cosN a).v ≤ 4294967296 := sinN_in _
  have c := sin_circle a
  have f1 : (sinN a).f = false := by rw [e1]
  have f2 : (cosN a).f = false := by rw [e2]
  have g1 : sinN a = ⟨(sinN a).v, false⟩ := by rw [← f1]
  have g2 : cosN a = ⟨(cosN a).v, false⟩ := by rw [← f2]
  refine ⟨f2, f1, ⟨by show _ ≤ (cosN a).v; omega, by show (cosN a).v ≤ _; omega⟩, ⟨by show _ ≤ (sinN a).v; omega, by show (sinN a).v ≤ _; omega⟩, ?_⟩
  show chkV ⟨cosN a, sinN a⟩ = 0
  rw [g1, g2]
  exact chk_of ⟨by omega, by omega⟩ ⟨by omega, by omega⟩ (by omega) (by omega)
theorem okRot_open {r : VB} (h : okRot r) : ∃ c s : Int, r = ⟨⟨c, false⟩, ⟨s, false⟩⟩ ∧ P33 c ∧ P33 s ∧ 18446462598732840960 ≤ c * c + s * s ∧ c * c + s * s ≤ 18447025552981229568 := by
  obtain ⟨⟨c, f⟩, ⟨s, g⟩⟩ := r
  obtain ⟨h1, h2, h3, h4, h5⟩ := h
  simp only at h1 h2 h3 h4
  subst h1 h2
  exact ⟨c, s, rfl, h3, h4, chk_in h3 h4 h5⟩
theorem com_ok {a r : VB} (ha : okRot a) (hr : okRot r) : okRot (comV a r) := by
  obtain ⟨ac, sa, rfl, a1, a2, a3, a4⟩ := okRot_open ha
  obtain ⟨rc, rs, rfl, r1, r2, r3, r4⟩ := okRot_open hr
  obtain ⟨X, eX, kX, bX⟩ := dot4 a1 r1.p41 a2.neg r2.p41
  obtain ⟨Y, eY, kY, bY⟩ := dot4 a2 r1.p41 a1 r2.p41
  have hid := circ_id ac sa rc rs
  have big := Int.mul_le_mul a3 r3 (by decide) (by omega)
  rw [← hid] at big
  generalize ac * rc + -sa * rs = T at *
  generalize sa * rc + ac * rs = U at *
  have hX : P62 X := ⟨by omega, by omega⟩
  have hY : P62 Y := ⟨by omega, by omega⟩
  have h24 : 16777216 ≤ X ∨ X ≤ -16777216 ∨ 16777216 ≤ Y ∨ Y ≤ -16777216 := by
    refine Classical.byContradiction fun hn => ?_
    have m1 := mul_in (p := T) (q := T) (P := 144115188075855872) (Q := 144115188075855872) (by decide) (by omega) (by omega) (by omega) (by omega)
    have m2 := mul_in (p := U) (q := U) (P := 144115188075855872) (Q := 144115188075855872) (by decide) (by omega) (by omega) (by omega) (by omega)
    omega
  have hn := big_24 hX hY h24
  obtain ⟨p, q, e1, e2, b1, b2, l, u, _⟩ := norm_in hX hY rfl hn
  have hyp := hyp_62 hX hY
  have e : comV ⟨⟨ac, false⟩, ⟨sa, false⟩⟩ ⟨⟨rc, false⟩, ⟨rs, false⟩⟩ = ⟨⟨p, false⟩, ⟨q, false⟩⟩ := by
    unfold comV
    simp only
    rw [neg33 a2, eX, eY, hyp]
    simp only
    rw [beq_eq_false_iff_ne.2 (by omega : isq (X * X + Y * Y) ≠ 0), cond_false, e1, e2]
  rw [e]
  exact ⟨rfl, rfl, b1, b2, chk_of b1 b2 (by omega) (by omega)⟩
def P38 (x : Int) : Prop := -274877906944 < x ∧ x < 274877906944
theorem P38.p41 {x : Int} (h : P38 x) : P41 x := by obtain ⟨_, _⟩ := h; exact ⟨by omega, by omega⟩
theorem P38.i {x : Int} (h : P38 x) : I64 x := by obtain ⟨_, _⟩ := h; exact ⟨by omega, by omega⟩
/-- Turned, and turned back. -/
theorem back_in {r : VB} {x y : Int} (hr : okRot r) (hx : P38 x) (hy : P38 y) : ∃ a b p q : Int, appV r ⟨⟨x, false⟩, ⟨y, false⟩⟩ = ⟨⟨a, false⟩, ⟨b, false⟩⟩ ∧ P41 a ∧ P41 b ∧ bacV r ⟨⟨a, false⟩, ⟨b, false⟩⟩ = ⟨⟨p, false⟩, ⟨q, false⟩⟩ ∧ (-8388608 ≤ p - x ∧ p - x ≤ 8388608) ∧ -8388608 ≤ q - y ∧ q - y ≤ 8388608 := by
  obtain ⟨c, s, rfl, h1, h2, h3, h4⟩ := okRot_open hr
  obtain ⟨a, ea, ka, _⟩ := dot4 h1 hx.p41 h2.neg hy.p41
  obtain ⟨b, eb, kb, _⟩ := dot4 h2 hx.p41 h1 hy.p41
  have m1 := mul_in (p := c) (q := x) (P := 8589934592) (Q := 274877906944) (by decide) h1.1 h1.2 (Int.le_of_lt hx.1) (Int.le_of_lt hx.2)
  have m2 := mul_in (p := -s) (q := y) (P := 8589934592) (Q := 274877906944) (by decide) h2.neg.1 h2.neg.2 (Int.le_of_lt hy.1) (Int.le_of_lt hy.2)
  have m3 := mul_in (p := s) (q := x) (P := 8589934592) (Q := 274877906944) (by decide) h2.1 h2.2 (Int.le_of_lt hx.1) (Int.le_of_lt hx.2)
  have m4 := mul_in (p := c) (q := y) (P := 8589934592) (Q := 274877906944) (by decide) h1.1 h1.2 (Int.le_of_lt hy.1) (Int.le_of_lt hy.2)
  have pa : P41 a := ⟨by omega, by omega⟩
  have pb : P41 b := ⟨by omega, by omega⟩
  obtain ⟨p, ep, kp, _⟩ := dot4 h1 pa h2 pb
  obtain ⟨q, eq, kq, _⟩ := dot4 h2.neg pa h1 pb
  have i1 := turn_id c s x y
  have i2 := turn_id2 c s x y
  obtain ⟨e, he⟩ : ∃ e : Int, e = c * x + -s * y - a * 4294967296 := ⟨_, rfl⟩
  obtain ⟨f, hf⟩ : ∃ f : Int, f = s * x + c * y - b * 4294967296 := ⟨_, rfl⟩
  rw [← he] at ka
  rw [← hf] at kb
  have he' : c * x + -s * y = a * 4294967296 + e := by omega
  have hf' : s * x + c * y = b * 4294967296 + f := by omega
  rw [he', hf'] at i1 i2
  have n1 := mul_in (p := c) (q := e) (P := 8589934592) (Q := 4294967295) (by decide) h1.1 h1.2 ka.1 ka.2
  have n2 := mul_in (p := s) (q := f) (P := 8589934592) (Q := 4294967295) (by decide) h2.1 h2.2 kb.1 kb.2
  have n3 := mul_in (p := -s) (q := e) (P := 8589934592) (Q := 4294967295) (by decide) h2.neg.1 h2.neg.2 ka.1 ka.2
  have n4 := mul_in (p := c) (q := f) (P := 8589934592) (Q := 4294967295) (by decide) h1.1 h1.2 kb.1 kb.2
  have o1 := mul_in (p := c * c + s * s - 18446744073709551616) (q := x) (P := 281479271677952) (Q := 274877906944) (by decide) (by omega) (by omega) (Int.le_of_lt hx.1) (Int.le_of_lt hx.2)
  have o2 := mul_in (p := c * c + s * s - 18446744073709551616) (q := y) (P := 281479271677952) (Q := 274877906944) (by decide) (by omega) (by omega) (Int.le_of_lt hy.1) (Int.le_of_lt hy.2)
  rw [Int.sub_mul] at o1 o2
  have j1 : c * (a * 4294967296 + e) = c * a * 4294967296 + c * e := by rw [Int.mul_add, Int.mul_assoc]
  have j2 : s * (b * 4294967296 + f) = s * b * 4294967296 + s * f := by rw [Int.mul_add, Int.mul_assoc]
  have j3 : -s * (a * 4294967296 + e) = -s * a * 4294967296 + -s * e := by rw [Int.mul_add, Int.mul_assoc]
  have j4 : c * (b * 4294967296 + f) = c * b * 4294967296 + c * f := by rw [Int.mul_add, Int.mul_assoc]
  rw [j1, j2] at i1
  rw [j3, j4] at i2
  refine ⟨a, b, p, q, ?_, pa, pb, ?_, by omega, by omega⟩
  · show (⟨dotN ⟨c, false⟩ ⟨x, false⟩ (negN ⟨s, false⟩) ⟨y, false⟩, dotN ⟨s, false⟩ ⟨x, false⟩ ⟨c, false⟩ ⟨y, false⟩⟩ : VB) = _
    rw [neg33 h2, ea, eb]
  · show (⟨dotN ⟨c, false⟩ ⟨a, false⟩ ⟨s, false⟩ ⟨b, false⟩, dotN (negN ⟨s, false⟩) ⟨a, false⟩ ⟨c, false⟩ ⟨b, false⟩⟩ : VB) = _
    rw [neg33 h2, ep, eq]
/-- A place added, and taken away. -/
theorem add_sub {p a : Int} (hp : P38 p) (ha : P41 a) : subN (sumL [nR ⟨p, false⟩, nR ⟨a, false⟩]) ⟨p, false⟩ = ⟨a, false⟩ := by
  have e1 : sumL [nR ⟨p, false⟩, nR ⟨a, false⟩] = ⟨p + a, false⟩ := by
    show (⟨fitE (sndV p + (sndV a + 0)), fitG (sndV p + (sndV a + 0)) (sndF p false || (sndF a false || false))⟩ : NB) = _
    obtain ⟨_, _⟩ := hp
    obtain ⟨_, _⟩ := ha
    rw [sndV_self (by omega), sndV_self (by omega), sndF_self (by omega), sndF_self (by omega), Int.add_zero, fitE_self ⟨by omega, by omega⟩, fitG_self ⟨by omega, by omega⟩]; rfl
  rw [e1]
  obtain ⟨_, _⟩ := hp
  obtain ⟨_, _⟩ := ha
  show (⟨fitE (sndV (p + a) - sndV p), fitG (sndV (p + a) - sndV p) (sndF (p + a) false || sndF p false)⟩ : NB) = _
  rw [sndV_self (by omega), sndV_self (by omega), sndF_self (by omega), sndF_self (by omega), show p + a - p = a by omega, fitE_self ⟨by omega, by omega⟩, fitG_self ⟨by omega, by omega⟩]; rfl
theorem kit_38 (a : Int) : P38 (kitK a 64).v := by
  show P38 (Int.tmod a 274877906944)
  have h := Int.natAbs_tmod a 274877906944
  have h1 : a.natAbs % (274877906944 : Int).natAbs < (274877906944 : Int).natAbs := Nat.mod_lt _ (by decide)
  exact ⟨by omega, by omega⟩
theorem kit_100 (a : Int) : Sd (kitK a 100).v := by
  show Sd (Int.tmod a 429496729600)
  have h := Int.natAbs_tmod a 429496729600
  have h1 : a.natAbs % (429496729600 : Int).natAbs < (429496729600 : Int).natAbs := Nat.mod_lt _ (by decide)
  exact ⟨by omega, by omega⟩
theorem turnsL_vc {n c : Nat} {g : Nat → Int} {x a b : Int} : vcFn Try.prog ΓG (ΛTurns n) Try.f17 [.v (.int .i64 x), .sl 0 1 0 n c, .v (.int .i64 a), .v (.int .i64 b)] (roHeap [⟨1, n, rowsI2 g⟩]) 64 (fun y _ => y = .v (.bool true)) := by
  refine Eq.mpr (vcTurnsL n n c g x a b _) ?_
  refine sel_of (fun _ => rfl) fun hle => ?_
  have hle := of_decide_eq_false hle
  have hA : ∀ y : Int, okRot (angV (kitK y 100)) := fun y => ang_ok rfl (kit_100 y)
  have hI : ∀ {r : VB}, okRot r → I64 r.x.v ∧ I64 r.y.v := fun {r} h => ⟨P33.sd h.2.2.1 |>.i64, P33.sd h.2.2.2.1 |>.i64⟩
  have s100 : (0 : Int) < 100 ∧ (100 : Int) < 1073741824 := by decide
  have s64 : (0 : Int) < 64 ∧ (64 : Int) < 1073741824 := by decide
  refine ⟨s100, (kit_100 x).i64, hI (hA x), selB (by rw [(hA x).2.2.2.2]; rfl) ⟨⟨⟨0, angV (kitK x 100)⟩, ⟨Nat.zero_le _, hA x⟩, rfl, rfl, Nat.le_refl _, fun _ _ => rfl⟩, fun ⟨k, r⟩ ⟨h1, h2⟩ => sel_of (fun e => ?_) fun e => ?_⟩⟩
  · have e := of_decide_eq_true e
    have h1 : k ≤ n := h1
    have e : (k : Int) < n := e
    have h2 : okRot r := h2
    have h3 : okRot (spiV r (kitK (g (0 + Int.toNat (k : Int))) 100)) := com_ok (hA _) h2
    exact ⟨⟨by simp only; omega, e⟩, s100, ⟨hI h2, (kit_100 _).i64⟩, hI h3, selB (by rw [h3.2.2.2.2]; rfl) ⟨⟨k + 1, spiV r (kitK (g (0 + Int.toNat (k : Int))) 100)⟩, ⟨⟨by show k + 1 ≤ n; omega, h3⟩, int_mk (by show IntKind.i64.wrap ((k : Int) + 1) = ((k + 1 : Nat) : Int); rw [wrap_i64 ⟨by omega, by omega⟩]; omega), rfl, Nat.le_refl _, fun _ _ => rfl⟩, by show n - (k + 1) < n - k; omega⟩⟩
  · have h2 : okRot r := h2
    have bx := kit_38 a
    have bY := kit_38 b
    have e1 : kitV a b 64 = ⟨⟨(kitK a 64).v, false⟩, ⟨(kitK b 64).v, false⟩⟩ := rfl
    have e2 : kitV b a 64 = ⟨⟨(kitK b 64).v, false⟩, ⟨(kitK a 64).v, false⟩⟩ := rfl
    rw [e1, e2]
    generalize (kitK a 64).v = X at *
    generalize (kitK b 64).v = Y at *
    obtain ⟨p, q, u, w, f1, f2, f3, f4, ⟨f5, f6⟩, f7, f8⟩ := back_in h2 bx bY
    simp only
    have hr := hI h2
    have a1 : (add2V ⟨⟨Y, false⟩, ⟨X, false⟩⟩ ⟨⟨p, false⟩, ⟨q, false⟩⟩) = ⟨sumL [nR ⟨Y, false⟩, nR ⟨p, false⟩], sumL [nR ⟨X, false⟩, nR ⟨q, false⟩]⟩ := rfl
    have a2 : subV (add2V ⟨⟨Y, false⟩, ⟨X, false⟩⟩ ⟨⟨p, false⟩, ⟨q, false⟩⟩) ⟨⟨Y, false⟩, ⟨X, false⟩⟩ = ⟨⟨p, false⟩, ⟨q, false⟩⟩ := by
      rw [a1]
      show (⟨subN (sumL [nR ⟨Y, false⟩, nR ⟨p, false⟩]) ⟨Y, false⟩, subN (sumL [nR ⟨X, false⟩, nR ⟨q, false⟩]) ⟨X, false⟩⟩ : VB) = _
      rw [add_sub bY f2, add_sub bx f3]
    rw [f1, a2, f4]
    have n1 : nearK ⟨u, false⟩ ⟨X, false⟩ 8388608 = true := by obtain ⟨_, _⟩ := bx; exact near_yes ⟨by omega, by omega⟩ ⟨by omega, by omega⟩ (by omega) (by omega)
    have n2 : nearK ⟨w, false⟩ ⟨Y, false⟩ 8388608 = true := by obtain ⟨_, _⟩ := bY; exact near_yes ⟨by omega, by omega⟩ ⟨by omega, by omega⟩ (by omega) (by omega)
    refine ⟨s64, ⟨hr, bx.i, bY.i⟩, ⟨hr, f2.sd.i64, f3.sd.i64⟩, s64, ⟨⟨bY.i, bx.i⟩, hr, bx.i, bY.i⟩, ⟨⟨bY.i, bx.i⟩, hr, ?_, ?_⟩, selA n1 (selA n2 (selA n1 (selA n2 (by trivial))))⟩
    · exact (fitE_sd _).i64
    · exact (fitE_sd _).i64
theorem TurnsL_spec : RoSpec Try.prog 17 sTurnsL := ro_spec hm ΓG_ok Try.func17 (Λ := fun args bs => match args, bs with | [_, .sl 0 1 0 n _, _, _], [⟨1, _, row⟩] => ΛTurns n | _, _ => noΛ) fun args bs p x h hp => by
  unfold sTurnsL at h
  split at h <;> try (cases h; done)
  rename_i x n c a b n' row
  cases h
  obtain ⟨h0, rfl, _⟩ := hp _ rfl
  have h0 := okAll_rows.1 h0
  exact ⟨rfl, [⟨1, n', rowsI2 fun i => rowI (row i)⟩], ⟨⟨rfl, rfl, fun i hi => isI_row (h0 i hi)⟩, trivial⟩, turnsL_vc⟩
end Go.Proofs.Ytheljpebapokjaa
