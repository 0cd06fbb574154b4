/-
 What the proof uses, part 15.
-/
import Derived.Test.YteekigmbopdfjaaGreatZp14
set_option maxRecDepth 100000
set_option linter.unusedSimpArgs false
set_option linter.unusedVariables false

section
namespace Go.Proofs.YteekigmbopdfjaaGreat
open Go.SE Go.RowKit
def Qy9 (r : VB) : Prop := (r.x.f = false ∧ r.y.f = false) ∧ (-4294967296 ≤ r.x.v ∧ r.x.v ≤ 4294967296) ∧ (-4294967296 ≤ r.y.v ∧ r.y.v ≤ 4294967296) ∧ -2748779069440 ≤ r.x.v * r.x.v + r.y.v * r.y.v - 18446744073709551616 ∧ r.x.v * r.x.v + r.y.v * r.y.v - 18446744073709551616 ≤ 2748779069440
theorem Zcb (a : NB) : -4294967296 ≤ (Qgn a).v ∧ (Qgn a).v ≤ 4294967296 := by
 rw [Qmx]
 show -4294967296 ≤ clE _ ∧ clE _ ≤ 4294967296
 unfold clE Qoe Qme
 (repeat' split) <;> omega
theorem Zd7 (a : NB) : -4294967296 ≤ (Qiw a).v ∧ (Qiw a).v ≤ 4294967296 := by
 rw [Qq0]
 show -4294967296 ≤ clE _ ∧ clE _ ≤ 4294967296
 unfold clE Qoe Qme
 (repeat' split) <;> omega
theorem Zhk (m : MD) : Qy9 (Qd3 m) := by
 have h := Qhq m.w (s := 8) (m := 34359738368) (by rfl) (by decide)
 have c := Qop (Qha m.w 8)
 refine ⟨⟨?_, ?_⟩, Zd7 _, Zcb _, ?_⟩
 · show (Qiw (Qha m.w 8)).f = false
   rw [Qq0]; exact Qb8 (by omega)
 · show (Qgn (Qha m.w 8)).f = false
   rw [Qmx]; exact Qb8 (by omega)
 · show -2748779069440 ≤ (Qiw (Qha m.w 8)).v * (Qiw (Qha m.w 8)).v + (Qgn (Qha m.w 8)).v * (Qgn (Qha m.w 8)).v - 18446744073709551616 ∧ (Qiw (Qha m.w 8)).v * (Qiw (Qha m.w 8)).v + (Qgn (Qha m.w 8)).v * (Qgn (Qha m.w 8)).v - 18446744073709551616 ≤ 2748779069440
   omega
def Q44 (p : VB) : Prop := (p.x.f = false ∧ p.y.f = false) ∧ (-17179869184000 ≤ p.x.v ∧ p.x.v ≤ 17179869184000) ∧ (-17179869184000 ≤ p.y.v ∧ p.y.v ≤ 17179869184000)
theorem Zhw (m : MD) : Q44 (Qc6 m 4000) := by
 have h := Qhq m.x (s := 4000) (m := 17179869184000) (by rfl) (by decide)
 have k := Qhq m.y (s := 4000) (m := 17179869184000) (by rfl) (by decide)
 exact ⟨⟨rfl, rfl⟩, ⟨by show _ ≤ (Qha m.x 4000).v; omega, by show (Qha m.x 4000).v ≤ _; omega⟩, ⟨by show _ ≤ (Qha m.y 4000).v; omega, by show (Qha m.y 4000).v ≤ _; omega⟩⟩
def Q13 (x : Int) : Prop := -8192 ≤ x ∧ x ≤ 8192
def aV (r : VB) (l : Int × Int) : Int × Int := (r.x.v * l.1 - r.y.v * l.2, r.y.v * l.1 + r.x.v * l.2)
theorem Qtw (y : Int) : ∃ e, y = 256 * Int.tdiv y 256 + e ∧ -256 < e ∧ e < 256 := by
 have h := Int.tmod_add_mul_tdiv y 256
 have n := Int.natAbs_tmod y 256
 have n1 : y.natAbs % (256 : Int).natAbs < (256 : Int).natAbs := Nat.mod_lt _ (by decide)
 exact ⟨Int.tmod y 256, by omega, by omega, by omega⟩
theorem lin2 {a b x y A Q : Int} (hA : 0 ≤ A) (ha : -A ≤ a ∧ a ≤ A) (hb : -A ≤ b ∧ b ≤ A) (hx : -Q ≤ x ∧ x ≤ Q) (hy : -Q ≤ y ∧ y ≤ Q) : (-(2 * (A * Q)) ≤ a * x - b * y ∧ a * x - b * y ≤ 2 * (A * Q)) ∧ -(2 * (A * Q)) ≤ b * x + a * y ∧ b * x + a * y ≤ 2 * (A * Q) := by
 have h1 := Qdk hA ha.1 ha.2 hx.1 hx.2
 have h2 := Qdk hA hb.1 hb.2 hy.1 hy.2
 have h3 := Qdk hA hb.1 hb.2 hx.1 hx.2
 have h4 := Qdk hA ha.1 ha.2 hy.1 hy.2
 generalize A * Q = Z at *
 omega
theorem Qx7 {r : VB} {l : Int × Int} (hr : Qy9 r) (h1 : Q13 l.1) (h2 : Q13 l.2) : (-70368744177664 ≤ (aV r l).1 ∧ (aV r l).1 ≤ 70368744177664) ∧ -70368744177664 ≤ (aV r l).2 ∧ (aV r l).2 ≤ 70368744177664 := by
 obtain ⟨-, cx, cy, -⟩ := hr
 have := lin2 (Q := 8192) (by decide) cx cy h1 h2
 exact this
theorem Q1z {x : Int} (h : -134217728 ≤ x ∧ x ≤ 134217728) : Qd2 x 256 = ⟨x * 16777216, false⟩ := by
 have e : Q6w x 256 = x * 16777216 := by
   unfold Q6w
   rw [show x * 4294967296 = (x * 16777216) * 256 by omega]
   exact Int.mul_tdiv_cancel _ (by decide)
 unfold Qd2 Qc4 Qjg
 rw [if_neg (by decide), if_neg (by decide), e, Qeu ⟨by omega, by omega⟩, Qet ⟨by omega, by omega⟩]
theorem Qwg {p : Int × Int} (h1 : P21 p.1) (h2 : P21 p.2) : Qes p = ⟨⟨p.1 * 16777216, false⟩, ⟨p.2 * 16777216, false⟩⟩ := by
 obtain ⟨_, _⟩ := h1
 obtain ⟨_, _⟩ := h2
 unfold Qes
 rw [Q1z ⟨by omega, by omega⟩, Q1z ⟨by omega, by omega⟩]
theorem Q9u {a b x y z : Int} (ha : -4294967296 ≤ a ∧ a ≤ 4294967296) (hb : -4294967296 ≤ b ∧ b ≤ 4294967296) (hx : Q13 x) (hy : Q13 y) (hz : a * x + b * y = z) (h0 : -70368744177664 ≤ z ∧ z ≤ 70368744177664) : Qch ⟨a, false⟩ ⟨x * 16777216, false⟩ ⟨b, false⟩ ⟨y * 16777216, false⟩ = ⟨Int.tdiv z 256, false⟩ := by
 obtain ⟨_, _⟩ := hx
 obtain ⟨_, _⟩ := hy
 show Qte (Quq (Qaa a) (Qaa (x * 16777216)) (Qaa b) (Qaa (y * 16777216))) ((Qav a false || Qav (x * 16777216) false) || (Qav b false || Qav (y * 16777216) false)) = _
 rw [Qby (v := a) (by omega), Qby (v := x * 16777216) (by omega), Qby (v := b) (by omega), Qby (v := y * 16777216) (by omega), Qb8 (v := a) (by omega), Qb8 (v := x * 16777216) (by omega), Qb8 (v := b) (by omega), Qb8 (v := y * 16777216) (by omega)]
 have e : Quq a (x * 16777216) b (y * 16777216) = Int.tdiv z 256 := by
   unfold Quq
   rw [show a * (x * 16777216) + b * (y * 16777216) = 16777216 * z by rw [← hz]; grind, show (4294967296 : Int) = 16777216 * 256 by decide]
   exact Int.mul_tdiv_mul_of_pos _ _ (by decide)
 obtain ⟨t, e1, e2, e3⟩ := Qtw z
 rw [e]
 exact Qfv ⟨by omega, by omega⟩
theorem Q13.p21 {x : Int} (h : Q13 x) : P21 x := ⟨by have := h.1; omega, by have := h.2; omega⟩
theorem Zi5 {r : VB} {l : Int × Int} (hr : Qy9 r) (h1 : Q13 l.1) (h2 : Q13 l.2) : Qdp r (Qes l) = ⟨⟨Int.tdiv (aV r l).1 256, false⟩, ⟨Int.tdiv (aV r l).2 256, false⟩⟩ := by
 obtain ⟨a1, a2⟩ := Qx7 hr h1 h2
 obtain ⟨⟨fx, fy⟩, cx, cy, -⟩ := hr
 obtain ⟨⟨c, f⟩, ⟨s, g⟩⟩ := r
 obtain rfl : f = false := fx
 obtain rfl : g = false := fy
 have cx : -4294967296 ≤ c ∧ c ≤ 4294967296 := cx
 have cy : -4294967296 ≤ s ∧ s ≤ 4294967296 := cy
 rw [Qwg h1.p21 h2.p21]
 unfold Qdp
 simp only
 rw [Qr7 (a := ⟨s, false⟩) ⟨by show _ ≤ s; omega, by show s ≤ _; omega⟩]
 rw [Q9u (a := c) (b := -s) (z := (aV ⟨⟨c, false⟩, ⟨s, false⟩⟩ l).1) cx ⟨by omega, by omega⟩ h1 h2 (by show c * l.1 + -s * l.2 = c * l.1 - s * l.2; grind) a1]
 rw [Q9u (a := s) (b := c) (z := (aV ⟨⟨c, false⟩, ⟨s, false⟩⟩ l).2) cy cx h1 h2 rfl a2]
theorem Q0j {a b : Int} (ha : -18000000000000 ≤ a ∧ a ≤ 18000000000000) (hb : -18000000000000 ≤ b ∧ b ≤ 18000000000000) : Zb6 [nR ⟨a, false⟩, nR ⟨b, false⟩] = ⟨a + b, false⟩ := by
 show (⟨Qar (Qaa a + (Qaa b + 0)), Qcy (Qaa a + (Qaa b + 0)) (Qav a false || (Qav b false || false))⟩ : NB) = _
 rw [Qby (by omega), Qby (by omega), Qb8 (by omega), Qb8 (by omega), Int.add_zero, Qeu ⟨by omega, by omega⟩, Qet ⟨by omega, by omega⟩]; rfl
theorem Zhc {p r : VB} {l : Int × Int} (hp : Q44 p) (hr : Qy9 r) (h1 : Q13 l.1) (h2 : Q13 l.2) : Qfk p (Qdp r (Qes l)) = ⟨⟨p.x.v + Int.tdiv (aV r l).1 256, false⟩, ⟨p.y.v + Int.tdiv (aV r l).2 256, false⟩⟩ := by
 rw [Zi5 hr h1 h2]
 obtain ⟨a1, a2⟩ := Qx7 hr h1 h2
 obtain ⟨_, t1, _, _⟩ := Qtw (aV r l).1
 obtain ⟨_, t2, _, _⟩ := Qtw (aV r l).2
 obtain ⟨⟨fx, fy⟩, px, py⟩ := hp
 obtain ⟨⟨x, f⟩, ⟨y, g⟩⟩ := p
 obtain rfl : f = false := fx
 obtain rfl : g = false := fy
 have px : -17179869184000 ≤ x ∧ x ≤ 17179869184000 := px
 have py : -17179869184000 ≤ y ∧ y ≤ 17179869184000 := py
 unfold Qfk
 simp only
 rw [Q0j ⟨by omega, by omega⟩ ⟨by omega, by omega⟩, Q0j ⟨by omega, by omega⟩ ⟨by omega, by omega⟩]
theorem Qit {v : Int} (h : -18000000000000 ≤ v ∧ v ≤ 18000000000000) : Zl1 (Qho ⟨v, false⟩ (Qf8 256)) = (v * 256 + 2147483648) / 4294967296 := by
 have e : Qa2 v 1099511627776 = v * 256 := by
   unfold Qa2
   rw [show v * 1099511627776 = (v * 256) * 4294967296 by omega]
   exact Int.mul_tdiv_cancel _ (by decide)
 have i : Qf8 256 = ⟨1099511627776, false⟩ := Qfv ⟨by decide, by decide⟩
 rw [i, Qnb (a := ⟨v, false⟩) (b := ⟨1099511627776, false⟩) ⟨by show _ ≤ v; omega, by show v ≤ _; omega⟩ ⟨by decide, by decide⟩ (by show Sd (Qa2 v 1099511627776); rw [e]; exact ⟨by omega, by omega⟩)]
 show (Qaa (Qa2 v 1099511627776) + 2147483648) / 4294967296 = _
 rw [e, Qby (by omega)]
def Qs6 (p r : VB) (l P : Int × Int) : Prop := ∃ E F : Int, (4294967296 * P.1 = 256 * p.x.v + (aV r l).1 + E ∧ -2147483904 ≤ E ∧ E ≤ 2147483904) ∧ 4294967296 * P.2 = 256 * p.y.v + (aV r l).2 + F ∧ -2147483904 ≤ F ∧ F ≤ 2147483904
theorem Ql9 {p r : VB} {l : Int × Int} (hp : Q44 p) (hr : Qy9 r) (h1 : Q13 l.1) (h2 : Q13 l.2) : Qs6 p r l (Qel (Qfk p (Qdp r (Qes l)))) := by
 rw [Zhc hp hr h1 h2]
 obtain ⟨a1, a2⟩ := Qx7 hr h1 h2
 obtain ⟨e1, t1, _, _⟩ := Qtw (aV r l).1
 obtain ⟨e2, t2, _, _⟩ := Qtw (aV r l).2
 obtain ⟨-, px, py⟩ := hp
 unfold Qel
 rw [Qit ⟨by omega, by omega⟩, Qit ⟨by omega, by omega⟩]
 generalize Int.tdiv (aV r l).1 256 = d1 at *
 generalize Int.tdiv (aV r l).2 256 = d2 at *
 exact ⟨4294967296 * (((p.x.v + d1) * 256 + 2147483648) / 4294967296) - 256 * p.x.v - (aV r l).1, 4294967296 * (((p.y.v + d2) * 256 + 2147483648) / 4294967296) - 256 * p.y.v - (aV r l).2, ⟨by show 4294967296 * (((p.x.v + d1) * 256 + 2147483648) / 4294967296) = _; omega, by omega, by omega⟩, by show 4294967296 * (((p.y.v + d2) * 256 + 2147483648) / 4294967296) = _; omega, by omega, by omega⟩
theorem Qqz {p r : VB} (hp : Q44 p) : Qs6 p r (0, 0) (Qel p) := by
 obtain ⟨⟨fx, fy⟩, px, py⟩ := hp
 obtain ⟨⟨x, f⟩, ⟨y, g⟩⟩ := p
 obtain rfl : f = false := fx
 obtain rfl : g = false := fy
 have px : -17179869184000 ≤ x ∧ x ≤ 17179869184000 := px
 have py : -17179869184000 ≤ y ∧ y ≤ 17179869184000 := py
 unfold Qel
 rw [Qit ⟨by omega, by omega⟩, Qit ⟨by omega, by omega⟩]
 have e1 : (aV r (0, 0)).1 = 0 := by show r.x.v * 0 - r.y.v * 0 = 0; rw [Int.mul_zero, Int.mul_zero]; rfl
 have e2 : (aV r (0, 0)).2 = 0 := by show r.y.v * 0 + r.x.v * 0 = 0; rw [Int.mul_zero, Int.mul_zero]; rfl
 unfold Qs6
 rw [e1, e2]
 exact ⟨4294967296 * ((x * 256 + 2147483648) / 4294967296) - 256 * x, 4294967296 * ((y * 256 + 2147483648) / 4294967296) - 256 * y, ⟨by show 4294967296 * ((x * 256 + 2147483648) / 4294967296) = 256 * x + 0 + _; omega, by omega, by omega⟩, by show 4294967296 * ((y * 256 + 2147483648) / 4294967296) = 256 * y + 0 + _; omega, by omega, by omega⟩
theorem Qfs {p r : VB} {l P : Int × Int} (hp : Q44 p) (hr : Qy9 r) (h1 : Q13 l.1) (h2 : Q13 l.2) (h : Qs6 p r l P) : P21 P.1 ∧ P21 P.2 := by
 obtain ⟨a1, a2⟩ := Qx7 hr h1 h2
 obtain ⟨-, px, py⟩ := hp
 obtain ⟨E, F, ⟨e1, _, _⟩, e2, _, _⟩ := h
 exact ⟨⟨by omega, by omega⟩, ⟨by omega, by omega⟩⟩
def Q0k (u v : Int × Int) : Prop := 3 * (Qac u.1 + Qac u.2 + Qac v.1 + Qac v.2) + 8 ≤ Qad u v
theorem Q7x (r : VB) (u v : Int × Int) : (aV r u).1 * (aV r v).2 - (aV r u).2 * (aV r v).1 = (r.x.v * r.x.v + r.y.v * r.y.v) * Qad u v := by
 unfold aV Qad Qap
 simp only
 grind
theorem Q98 (r : VB) (p q : Int × Int) : (aV r (Qay p q)).1 = (aV r p).1 - (aV r q).1 ∧ (aV r (Qay p q)).2 = (aV r p).2 - (aV r q).2 := by
 unfold aV Qay
 simp only
 constructor <;> grind
theorem Q97 (x : Int) : -Qac x ≤ x ∧ x ≤ Qac x := by unfold Qac; split <;> omega
theorem Q99 {r : VB} (hr : Qy9 r) (u : Int × Int) : Qac (aV r u).1 ≤ 4294967296 * (Qac u.1 + Qac u.2) ∧ Qac (aV r u).2 ≤ 4294967296 * (Qac u.1 + Qac u.2) := by
 obtain ⟨-, cx, cy, -⟩ := hr
 have i1 := Q97 u.1
 have i2 := Q97 u.2
 have h1 := Qdk (P := 4294967296) (by decide) cx.1 cx.2 i1.1 i1.2
 have h2 := Qdk (P := 4294967296) (by decide) cy.1 cy.2 i2.1 i2.2
 have h3 := Qdk (P := 4294967296) (by decide) cy.1 cy.2 i1.1 i1.2
 have h4 := Qdk (P := 4294967296) (by decide) cx.1 cx.2 i2.1 i2.2
 have e : ∀ {x B : Int}, -B ≤ x → x ≤ B → Qac x ≤ B := fun h k => by unfold Qac; split <;> omega
 exact ⟨e (by show _ ≤ r.x.v * u.1 - r.y.v * u.2; omega) (by show r.x.v * u.1 - r.y.v * u.2 ≤ _; omega), e (by show _ ≤ r.y.v * u.1 + r.x.v * u.2; omega) (by show r.y.v * u.1 + r.x.v * u.2 ≤ _; omega)⟩
theorem Q0e {p r : VB} {a b c A B C : Int × Int} (hr : Qy9 r) (ha : Qs6 p r a A) (hb : Qs6 p r b B) (hc : Qs6 p r c C) (hs : Q0k (Qay b a) (Qay c a)) : 0 < Qrh A B C := by
 obtain ⟨E1, F1, ⟨a1, a2, a3⟩, a4, a5, a6⟩ := ha
 obtain ⟨E2, F2, ⟨b1, b2, b3⟩, b4, b5, b6⟩ := hb
 obtain ⟨E3, F3, ⟨c1, c2, c3⟩, c4, c5, c6⟩ := hc
 obtain ⟨u1, u2⟩ := Q98 r b a
 obtain ⟨v1, v2⟩ := Q98 r c a
 have h := Ziz (s := 1) (T := 4294967808) (a := 4294967296 * (B.1 - A.1)) (b := 4294967296 * (B.2 - A.2)) (c := 4294967296 * (C.1 - A.1)) (d := 4294967296 * (C.2 - A.2)) (A := (aV r (Qay b a)).1) (B := (aV r (Qay b a)).2) (C := (aV r (Qay c a)).1) (D := (aV r (Qay c a)).2) (by decide) (by decide) (by omega) (by omega) (by omega) (by omega)
 have hx := Q7x r (Qay b a) (Qay c a)
 have n1 := Q99 hr (Qay b a)
 have n2 := Q99 hr (Qay c a)
 have hs' : 3 * (Qac (Qay b a).1 + Qac (Qay b a).2 + Qac (Qay c a).1 + Qac (Qay c a).2) + 8 ≤ Qad (Qay b a) (Qay c a) := hs
 have q1 := Qbk (Qay b a).1
 have q2 := Qbk (Qay b a).2
 have q3 := Qbk (Qay c a).1
 have q4 := Qbk (Qay c a).2
 obtain ⟨-, -, -, k1, -⟩ := hr
 have hK := Int.mul_le_mul_of_nonneg_right (show 18446744073709551616 - 2748779069440 ≤ r.x.v * r.x.v + r.y.v * r.y.v by omega) (show 0 ≤ Qad (Qay b a) (Qay c a) by omega)
 rw [hx] at h
 have e : 4294967296 * (B.1 - A.1) * (4294967296 * (C.2 - A.2)) - 4294967296 * (B.2 - A.2) * (4294967296 * (C.1 - A.1)) = 18446744073709551616 * Qrh A B C := by
   unfold Qrh Zjy Qlc
   grind
 rw [e] at h
 generalize Qrh A B C = t at *
 generalize (r.x.v * r.x.v + r.y.v * r.y.v) * Qad (Qay b a) (Qay c a) = K at *
 generalize Qad (Qay b a) (Qay c a) = X at *
 generalize Qac (Qay b a).1 = s1 at *
 generalize Qac (Qay b a).2 = s2 at *
 generalize Qac (Qay c a).1 = s3 at *
 generalize Qac (Qay c a).2 = s4 at *
 generalize Qac (aV r (Qay b a)).1 = w1 at *
 generalize Qac (aV r (Qay b a)).2 = w2 at *
 generalize Qac (aV r (Qay c a)).1 = w3 at *
 generalize Qac (aV r (Qay c a)).2 = w4 at *
 omega
def SG (n : Nat) (g : Nat → Int × Int) : Prop := ∀ k, k < n → Q0k (Qay (g ((k + 1) % n)) (g k)) (Qay (0, 0) (g k)) ∧ ∀ i, i < n → i ≠ k → i ≠ (k + 1) % n → Q0k (Qay (g ((k + 1) % n)) (g k)) (Qay (g i) (g k))
theorem Zmh {k h : Int} (hk : 64 ≤ k ∧ k ≤ 4096) (hh : 64 ≤ h ∧ h ≤ 4096) : SG 3 (G3 k h) := by
 have p1 : 64 * k ≤ h * k := Int.mul_le_mul_of_nonneg_right hh.1 (by omega)
 have p2 : 64 * h ≤ h * k := by have := Int.mul_le_mul_of_nonneg_right hk.1 (show (0 : Int) ≤ h by omega); grind
 intro j hj
 obtain rfl | rfl | rfl : j = 0 ∨ j = 1 ∨ j = 2 := by omega
 · refine ⟨?_, fun i hi h1 h2 => ?_⟩
   · show 3 * (Qac (k - (-k)) + Qac (-h - (-h)) + Qac ((0 : Int) - (-k)) + Qac ((0 : Int) - (-h))) + 8 ≤ (k - (-k)) * ((0 : Int) - (-h)) - (-h - (-h)) * ((0 : Int) - (-k))
     rw [show (k - (-k)) * ((0 : Int) - (-h)) - (-h - (-h)) * ((0 : Int) - (-k)) = (2) * (h * k) from by grind]
     unfold Qac; omega
   · obtain rfl : i = 2 := by
       have h2 : i ≠ 1 := h2
       omega
     · show 3 * (Qac (k - (-k)) + Qac (-h - (-h)) + Qac ((0 : Int) - (-k)) + Qac (h - (-h))) + 8 ≤ (k - (-k)) * (h - (-h)) - (-h - (-h)) * ((0 : Int) - (-k))
       rw [show (k - (-k)) * (h - (-h)) - (-h - (-h)) * ((0 : Int) - (-k)) = (4) * (h * k) from by grind]
       unfold Qac; omega
 · refine ⟨?_, fun i hi h1 h2 => ?_⟩
   · show 3 * (Qac ((0 : Int) - k) + Qac (h - (-h)) + Qac ((0 : Int) - k) + Qac ((0 : Int) - (-h))) + 8 ≤ ((0 : Int) - k) * ((0 : Int) - (-h)) - (h - (-h)) * ((0 : Int) - k)
     rw [show ((0 : Int) - k) * ((0 : Int) - (-h)) - (h - (-h)) * ((0 : Int) - k) = (1) * (h * k) from by grind]
     unfold Qac; omega
   · obtain rfl : i = 0 := by
       have h2 : i ≠ 2 := h2
       omega
     · show 3 * (Qac ((0 : Int) - k) + Qac (h - (-h)) + Qac (-k - k) + Qac (-h - (-h))) + 8 ≤ ((0 : Int) - k) * (-h - (-h)) - (h - (-h)) * (-k - k)
       rw [show ((0 : Int) - k) * (-h - (-h)) - (h - (-h)) * (-k - k) = (4) * (h * k) from by grind]
       unfold Qac; omega
 · refine ⟨?_, fun i hi h1 h2 => ?_⟩
   · show 3 * (Qac (-k - (0 : Int)) + Qac (-h - h) + Qac ((0 : Int) - (0 : Int)) + Qac ((0 : Int) - h)) + 8 ≤ (-k - (0 : Int)) * ((0 : Int) - h) - (-h - h) * ((0 : Int) - (0 : Int))
     rw [show (-k - (0 : Int)) * ((0 : Int) - h) - (-h - h) * ((0 : Int) - (0 : Int)) = (1) * (h * k) from by grind]
     unfold Qac; omega
   · obtain rfl : i = 1 := by
       have h2 : i ≠ 0 := h2
       omega
     · show 3 * (Qac (-k - (0 : Int)) + Qac (-h - h) + Qac (k - (0 : Int)) + Qac (-h - h)) + 8 ≤ (-k - (0 : Int)) * (-h - h) - (-h - h) * (k - (0 : Int))
       rw [show (-k - (0 : Int)) * (-h - h) - (-h - h) * (k - (0 : Int)) = (4) * (h * k) from by grind]
       unfold Qac; omega
theorem Zmg {k h a : Int} (hk : 64 ≤ k ∧ k ≤ 4096) (hh : 64 ≤ h ∧ h ≤ 4096) (ha : 2 * a ≤ k ∧ k ≤ 2 * a + 1) : SG 5 (G5 k h a) := by
 have p1 : 64 * k ≤ h * k := Int.mul_le_mul_of_nonneg_right hh.1 (by omega)
 have p2 : 64 * h ≤ h * k := by have := Int.mul_le_mul_of_nonneg_right hk.1 (show (0 : Int) ≤ h by omega); grind
 have p3 : 64 * a ≤ a * h := by have := Int.mul_le_mul_of_nonneg_right hh.1 (show (0 : Int) ≤ a by omega); grind
 have p4 : 32 * h ≤ a * h := Int.mul_le_mul_of_nonneg_right (by omega) (by omega)
 have p5 : 2 * (a * h) ≤ h * k := by have := Int.mul_le_mul_of_nonneg_right ha.1 (show (0 : Int) ≤ h by omega); grind
 have p6 : h * k ≤ 2 * (a * h) + h := by have := Int.mul_le_mul_of_nonneg_right ha.2 (show (0 : Int) ≤ h by omega); grind
 intro j hj
 obtain rfl | rfl | rfl | rfl | rfl : j = 0 ∨ j = 1 ∨ j = 2 ∨ j = 3 ∨ j = 4 := by omega
 · refine ⟨?_, fun i hi h1 h2 => ?_⟩
   · show 3 * (Qac (a - (-a)) + Qac (-h - (-h)) + Qac ((0 : Int) - (-a)) + Qac ((0 : Int) - (-h))) + 8 ≤ (a - (-a)) * ((0 : Int) - (-h)) - (-h - (-h)) * ((0 : Int) - (-a))
     rw [show (a - (-a)) * ((0 : Int) - (-h)) - (-h - (-h)) * ((0 : Int) - (-a)) = (2) * (a * h) from by grind]
     unfold Qac; omega
   · obtain rfl | rfl | rfl : i = 2 ∨ i = 3 ∨ i = 4 := by
       have h2 : i ≠ 1 := h2
       omega
     · show 3 * (Qac (a - (-a)) + Qac (-h - (-h)) + Qac (k - (-a)) + Qac ((0 : Int) - (-h))) + 8 ≤ (a - (-a)) * ((0 : Int) - (-h)) - (-h - (-h)) * (k - (-a))
       rw [show (a - (-a)) * ((0 : Int) - (-h)) - (-h - (-h)) * (k - (-a)) = (2) * (a * h) from by grind]
       unfold Qac; omega
     · show 3 * (Qac (a - (-a)) + Qac (-h - (-h)) + Qac ((0 : Int) - (-a)) + Qac (h - (-h))) + 8 ≤ (a - (-a)) * (h - (-h)) - (-h - (-h)) * ((0 : Int) - (-a))
       rw [show (a - (-a)) * (h - (-h)) - (-h - (-h)) * ((0 : Int) - (-a)) = (4) * (a * h) from by grind]
       unfold Qac; omega
     · show 3 * (Qac (a - (-a)) + Qac (-h - (-h)) + Qac (-k - (-a)) + Qac ((0 : Int) - (-h))) + 8 ≤ (a - (-a)) * ((0 : Int) - (-h)) - (-h - (-h)) * (-k - (-a))
       rw [show (a - (-a)) * ((0 : Int) - (-h)) - (-h - (-h)) * (-k - (-a)) = (2) * (a * h) from by grind]
       unfold Qac; omega
 · refine ⟨?_, fun i hi h1 h2 => ?_⟩
   · show 3 * (Qac (k - a) + Qac ((0 : Int) - (-h)) + Qac ((0 : Int) - a) + Qac ((0 : Int) - (-h))) + 8 ≤ (k - a) * ((0 : Int) - (-h)) - ((0 : Int) - (-h)) * ((0 : Int) - a)
     rw [show (k - a) * ((0 : Int) - (-h)) - ((0 : Int) - (-h)) * ((0 : Int) - a) = (1) * (h * k) from by grind]
     unfold Qac; omega
   · obtain rfl | rfl | rfl : i = 0 ∨ i = 3 ∨ i = 4 := by
       have h2 : i ≠ 2 := h2
       omega
     · show 3 * (Qac (k - a) + Qac ((0 : Int) - (-h)) + Qac (-a - a) + Qac (-h - (-h))) + 8 ≤ (k - a) * (-h - (-h)) - ((0 : Int) - (-h)) * (-a - a)
       rw [show (k - a) * (-h - (-h)) - ((0 : Int) - (-h)) * (-a - a) = (2) * (a * h) from by grind]
       unfold Qac; omega
     · show 3 * (Qac (k - a) + Qac ((0 : Int) - (-h)) + Qac ((0 : Int) - a) + Qac (h - (-h))) + 8 ≤ (k - a) * (h - (-h)) - ((0 : Int) - (-h)) * ((0 : Int) - a)
       rw [show (k - a) * (h - (-h)) - ((0 : Int) - (-h)) * ((0 : Int) - a) = (-1) * (a * h) + (2) * (h * k) from by grind]
       unfold Qac; omega
     · show 3 * (Qac (k - a) + Qac ((0 : Int) - (-h)) + Qac (-k - a) + Qac ((0 : Int) - (-h))) + 8 ≤ (k - a) * ((0 : Int) - (-h)) - ((0 : Int) - (-h)) * (-k - a)
       rw [show (k - a) * ((0 : Int) - (-h)) - ((0 : Int) - (-h)) * (-k - a) = (2) * (h * k) from by grind]
       unfold Qac; omega
 · refine ⟨?_, fun i hi h1 h2 => ?_⟩
   · show 3 * (Qac ((0 : Int) - k) + Qac (h - (0 : Int)) + Qac ((0 : Int) - k) + Qac ((0 : Int) - (0 : Int))) + 8 ≤ ((0 : Int) - k) * ((0 : Int) - (0 : Int)) - (h - (0 : Int)) * ((0 : Int) - k)
     rw [show ((0 : Int) - k) * ((0 : Int) - (0 : Int)) - (h - (0 : Int)) * ((0 : Int) - k) = (1) * (h * k) from by grind]
     unfold Qac; omega
   · obtain rfl | rfl | rfl : i = 0 ∨ i = 1 ∨ i = 4 := by
       have h2 : i ≠ 3 := h2
       omega
     · show 3 * (Qac ((0 : Int) - k) + Qac (h - (0 : Int)) + Qac (-a - k) + Qac (-h - (0 : Int))) + 8 ≤ ((0 : Int) - k) * (-h - (0 : Int)) - (h - (0 : Int)) * (-a - k)
       rw [show ((0 : Int) - k) * (-h - (0 : Int)) - (h - (0 : Int)) * (-a - k) = (1) * (a * h) + (2) * (h * k) from by grind]
       unfold Qac; omega
     · show 3 * (Qac ((0 : Int) - k) + Qac (h - (0 : Int)) + Qac (a - k) + Qac (-h - (0 : Int))) + 8 ≤ ((0 : Int) - k) * (-h - (0 : Int)) - (h - (0 : Int)) * (a - k)
       rw [show ((0 : Int) - k) * (-h - (0 : Int)) - (h - (0 : Int)) * (a - k) = (-1) * (a * h) + (2) * (h * k) from by grind]
       unfold Qac; omega
     · show 3 * (Qac ((0 : Int) - k) + Qac (h - (0 : Int)) + Qac (-k - k) + Qac ((0 : Int) - (0 : Int))) + 8 ≤ ((0 : Int) - k) * ((0 : Int) - (0 : Int)) - (h - (0 : Int)) * (-k - k)
       rw [show ((0 : Int) - k) * ((0 : Int) - (0 : Int)) - (h - (0 : Int)) * (-k - k) = (2) * (h * k) from by grind]
       unfold Qac; omega
 · refine ⟨?_, fun i hi h1 h2 => ?_⟩
   · show 3 * (Qac (-k - (0 : Int)) + Qac ((0 : Int) - h) + Qac ((0 : Int) - (0 : Int)) + Qac ((0 : Int) - h)) + 8 ≤ (-k - (0 : Int)) * ((0 : Int) - h) - ((0 : Int) - h) * ((0 : Int) - (0 : Int))
     rw [show (-k - (0 : Int)) * ((0 : Int) - h) - ((0 : Int) - h) * ((0 : Int) - (0 : Int)) = (1) * (h * k) from by grind]
     unfold Qac; omega
   · obtain rfl | rfl | rfl : i = 0 ∨ i = 1 ∨ i = 2 := by
       have h2 : i ≠ 4 := h2
       omega
     · show 3 * (Qac (-k - (0 : Int)) + Qac ((0 : Int) - h) + Qac (-a - (0 : Int)) + Qac (-h - h)) + 8 ≤ (-k - (0 : Int)) * (-h - h) - ((0 : Int) - h) * (-a - (0 : Int))
       rw [show (-k - (0 : Int)) * (-h - h) - ((0 : Int) - h) * (-a - (0 : Int)) = (-1) * (a * h) + (2) * (h * k) from by grind]
       unfold Qac; omega
     · show 3 * (Qac (-k - (0 : Int)) + Qac ((0 : Int) - h) + Qac (a - (0 : Int)) + Qac (-h - h)) + 8 ≤ (-k - (0 : Int)) * (-h - h) - ((0 : Int) - h) * (a - (0 : Int))
       rw [show (-k - (0 : Int)) * (-h - h) - ((0 : Int) - h) * (a - (0 : Int)) = (1) * (a * h) + (2) * (h * k) from by grind]
       unfold Qac; omega
     · show 3 * (Qac (-k - (0 : Int)) + Qac ((0 : Int) - h) + Qac (k - (0 : Int)) + Qac ((0 : Int) - h)) + 8 ≤ (-k - (0 : Int)) * ((0 : Int) - h) - ((0 : Int) - h) * (k - (0 : Int))
       rw [show (-k - (0 : Int)) * ((0 : Int) - h) - ((0 : Int) - h) * (k - (0 : Int)) = (2) * (h * k) from by grind]
       unfold Qac; omega
 · refine ⟨?_, fun i hi h1 h2 => ?_⟩
   · show 3 * (Qac (-a - (-k)) + Qac (-h - (0 : Int)) + Qac ((0 : Int) - (-k)) + Qac ((0 : Int) - (0 : Int))) + 8 ≤ (-a - (-k)) * ((0 : Int) - (0 : Int)) - (-h - (0 : Int)) * ((0 : Int) - (-k))
     rw [show (-a - (-k)) * ((0 : Int) - (0 : Int)) - (-h - (0 : Int)) * ((0 : Int) - (-k)) = (1) * (h * k) from by grind]
     unfold Qac; omega
   · obtain rfl | rfl | rfl : i = 1 ∨ i = 2 ∨ i = 3 := by
       have h2 : i ≠ 0 := h2
       omega
     · show 3 * (Qac (-a - (-k)) + Qac (-h - (0 : Int)) + Qac (a - (-k)) + Qac (-h - (0 : Int))) + 8 ≤ (-a - (-k)) * (-h - (0 : Int)) - (-h - (0 : Int)) * (a - (-k))
       rw [show (-a - (-k)) * (-h - (0 : Int)) - (-h - (0 : Int)) * (a - (-k)) = (2) * (a * h) from by grind]
       unfold Qac; omega
     · show 3 * (Qac (-a - (-k)) + Qac (-h - (0 : Int)) + Qac (k - (-k)) + Qac ((0 : Int) - (0 : Int))) + 8 ≤ (-a - (-k)) * ((0 : Int) - (0 : Int)) - (-h - (0 : Int)) * (k - (-k))
       rw [show (-a - (-k)) * ((0 : Int) - (0 : Int)) - (-h - (0 : Int)) * (k - (-k)) = (2) * (h * k) from by grind]
       unfold Qac; omega
     · show 3 * (Qac (-a - (-k)) + Qac (-h - (0 : Int)) + Qac ((0 : Int) - (-k)) + Qac (h - (0 : Int))) + 8 ≤ (-a - (-k)) * (h - (0 : Int)) - (-h - (0 : Int)) * ((0 : Int) - (-k))
       rw [show (-a - (-k)) * (h - (0 : Int)) - (-h - (0 : Int)) * ((0 : Int) - (-k)) = (-1) * (a * h) + (2) * (h * k) from by grind]
       unfold Qac; omega
theorem Zmf {k a : Int} (hk : 64 ≤ k ∧ k ≤ 4096) (ha : 2 * a ≤ k ∧ k ≤ 2 * a + 1) : SG 8 (G8 k a) := by
 have p1 : 64 * k ≤ k * k := Int.mul_le_mul_of_nonneg_right hk.1 (by omega)
 have p2 : 64 * a ≤ a * k := by have := Int.mul_le_mul_of_nonneg_right hk.1 (show (0 : Int) ≤ a by omega); grind
 have p3 : 2 * (a * k) ≤ k * k := by have := Int.mul_le_mul_of_nonneg_right ha.1 (show (0 : Int) ≤ k by omega); grind
 have p4 : k * k ≤ 2 * (a * k) + k := by have := Int.mul_le_mul_of_nonneg_right ha.2 (show (0 : Int) ≤ k by omega); grind
 have p5 : 2 * (a * a) ≤ a * k := by have := Int.mul_le_mul_of_nonneg_right ha.1 (show (0 : Int) ≤ a by omega); grind
 have p6 : a * k ≤ 2 * (a * a) + a := by have := Int.mul_le_mul_of_nonneg_right ha.2 (show (0 : Int) ≤ a by omega); grind
 intro j hj
 obtain rfl | rfl | rfl | rfl | rfl | rfl | rfl | rfl : j = 0 ∨ j = 1 ∨ j = 2 ∨ j = 3 ∨ j = 4 ∨ j = 5 ∨ j = 6 ∨ j = 7 := by omega
 · refine ⟨?_, fun i hi h1 h2 => ?_⟩
   · show 3 * (Qac (k - k) + Qac (a - (-a)) + Qac ((0 : Int) - k) + Qac ((0 : Int) - (-a))) + 8 ≤ (k - k) * ((0 : Int) - (-a)) - (a - (-a)) * ((0 : Int) - k)
     rw [show (k - k) * ((0 : Int) - (-a)) - (a - (-a)) * ((0 : Int) - k) = (2) * (a * k) from by grind]
     unfold Qac; omega
   · obtain rfl | rfl | rfl | rfl | rfl | rfl : i = 2 ∨ i = 3 ∨ i = 4 ∨ i = 5 ∨ i = 6 ∨ i = 7 := by
       have h2 : i ≠ 1 := h2
       omega
     · show 3 * (Qac (k - k) + Qac (a - (-a)) + Qac (a - k) + Qac (k - (-a))) + 8 ≤ (k - k) * (k - (-a)) - (a - (-a)) * (a - k)
       rw [show (k - k) * (k - (-a)) - (a - (-a)) * (a - k) = (-2) * (a * a) + (2) * (a * k) from by grind]
       unfold Qac; omega
     · show 3 * (Qac (k - k) + Qac (a - (-a)) + Qac (-a - k) + Qac (k - (-a))) + 8 ≤ (k - k) * (k - (-a)) - (a - (-a)) * (-a - k)
       rw [show (k - k) * (k - (-a)) - (a - (-a)) * (-a - k) = (2) * (a * a) + (2) * (a * k) from by grind]
       unfold Qac; omega
     · show 3 * (Qac (k - k) + Qac (a - (-a)) + Qac (-k - k) + Qac (a - (-a))) + 8 ≤ (k - k) * (a - (-a)) - (a - (-a)) * (-k - k)
       rw [show (k - k) * (a - (-a)) - (a - (-a)) * (-k - k) = (4) * (a * k) from by grind]
       unfold Qac; omega
     · show 3 * (Qac (k - k) + Qac (a - (-a)) + Qac (-k - k) + Qac (-a - (-a))) + 8 ≤ (k - k) * (-a - (-a)) - (a - (-a)) * (-k - k)
       rw [show (k - k) * (-a - (-a)) - (a - (-a)) * (-k - k) = (4) * (a * k) from by grind]
       unfold Qac; omega
     · show 3 * (Qac (k - k) + Qac (a - (-a)) + Qac (-a - k) + Qac (-k - (-a))) + 8 ≤ (k - k) * (-k - (-a)) - (a - (-a)) * (-a - k)
       rw [show (k - k) * (-k - (-a)) - (a - (-a)) * (-a - k) = (2) * (a * a) + (2) * (a * k) from by grind]
       unfold Qac; omega
     · show 3 * (Qac (k - k) + Qac (a - (-a)) + Qac (a - k) + Qac (-k - (-a))) + 8 ≤ (k - k) * (-k - (-a)) - (a - (-a)) * (a - k)
       rw [show (k - k) * (-k - (-a)) - (a - (-a)) * (a - k) = (-2) * (a * a) + (2) * (a * k) from by grind]
       unfold Qac; omega
 · refine ⟨?_, fun i hi h1 h2 => ?_⟩
   · show 3 * (Qac (a - k) + Qac (k - a) + Qac ((0 : Int) - k) + Qac ((0 : Int) - a)) + 8 ≤ (a - k) * ((0 : Int) - a) - (k - a) * ((0 : Int) - k)
     rw [show (a - k) * ((0 : Int) - a) - (k - a) * ((0 : Int) - k) = (-1) * (a * a) + (1) * (k * k) from by grind]
     unfold Qac; omega
   · obtain rfl | rfl | rfl | rfl | rfl | rfl : i = 0 ∨ i = 3 ∨ i = 4 ∨ i = 5 ∨ i = 6 ∨ i = 7 := by
       have h2 : i ≠ 2 := h2
       omega
     · show 3 * (Qac (a - k) + Qac (k - a) + Qac (k - k) + Qac (-a - a)) + 8 ≤ (a - k) * (-a - a) - (k - a) * (k - k)
       rw [show (a - k) * (-a - a) - (k - a) * (k - k) = (-2) * (a * a) + (2) * (a * k) from by grind]
       unfold Qac; omega
     · show 3 * (Qac (a - k) + Qac (k - a) + Qac (-a - k) + Qac (k - a)) + 8 ≤ (a - k) * (k - a) - (k - a) * (-a - k)
       rw [show (a - k) * (k - a) - (k - a) * (-a - k) = (-2) * (a * a) + (2) * (a * k) from by grind]
       unfold Qac; omega
     · show 3 * (Qac (a - k) + Qac (k - a) + Qac (-k - k) + Qac (a - a)) + 8 ≤ (a - k) * (a - a) - (k - a) * (-k - k)
       rw [show (a - k) * (a - a) - (k - a) * (-k - k) = (-2) * (a * k) + (2) * (k * k) from by grind]
       unfold Qac; omega
     · show 3 * (Qac (a - k) + Qac (k - a) + Qac (-k - k) + Qac (-a - a)) + 8 ≤ (a - k) * (-a - a) - (k - a) * (-k - k)
       rw [show (a - k) * (-a - a) - (k - a) * (-k - k) = (-2) * (a * a) + (2) * (k * k) from by grind]
       unfold Qac; omega
     · show 3 * (Qac (a - k) + Qac (k - a) + Qac (-a - k) + Qac (-k - a)) + 8 ≤ (a - k) * (-k - a) - (k - a) * (-a - k)
       rw [show (a - k) * (-k - a) - (k - a) * (-a - k) = (-2) * (a * a) + (2) * (k * k) from by grind]
       unfold Qac; omega
     · show 3 * (Qac (a - k) + Qac (k - a) + Qac (a - k) + Qac (-k - a)) + 8 ≤ (a - k) * (-k - a) - (k - a) * (a - k)
       rw [show (a - k) * (-k - a) - (k - a) * (a - k) = (-2) * (a * k) + (2) * (k * k) from by grind]
       unfold Qac; omega
 · refine ⟨?_, fun i hi h1 h2 => ?_⟩
   · show 3 * (Qac (-a - a) + Qac (k - k) + Qac ((0 : Int) - a) + Qac ((0 : Int) - k)) + 8 ≤ (-a - a) * ((0 : Int) - k) - (k - k) * ((0 : Int) - a)
     rw [show (-a - a) * ((0 : Int) - k) - (k - k) * ((0 : Int) - a) = (2) * (a * k) from by grind]
     unfold Qac; omega
   · obtain rfl | rfl | rfl | rfl | rfl | rfl : i = 0 ∨ i = 1 ∨ i = 4 ∨ i = 5 ∨ i = 6 ∨ i = 7 := by
       have h2 : i ≠ 3 := h2
       omega
     · show 3 * (Qac (-a - a) + Qac (k - k) + Qac (k - a) + Qac (-a - k)) + 8 ≤ (-a - a) * (-a - k) - (k - k) * (k - a)
       rw [show (-a - a) * (-a - k) - (k - k) * (k - a) = (2) * (a * a) + (2) * (a * k) from by grind]
       unfold Qac; omega
     · show 3 * (Qac (-a - a) + Qac (k - k) + Qac (k - a) + Qac (a - k)) + 8 ≤ (-a - a) * (a - k) - (k - k) * (k - a)
       rw [show (-a - a) * (a - k) - (k - k) * (k - a) = (-2) * (a * a) + (2) * (a * k) from by grind]
       unfold Qac; omega
     · show 3 * (Qac (-a - a) + Qac (k - k) + Qac (-k - a) + Qac (a - k)) + 8 ≤ (-a - a) * (a - k) - (k - k) * (-k - a)
       rw [show (-a - a) * (a - k) - (k - k) * (-k - a) = (-2) * (a * a) + (2) * (a * k) from by grind]
       unfold Qac; omega
     · show 3 * (Qac (-a - a) + Qac (k - k) + Qac (-k - a) + Qac (-a - k)) + 8 ≤ (-a - a) * (-a - k) - (k - k) * (-k - a)
       rw [show (-a - a) * (-a - k) - (k - k) * (-k - a) = (2) * (a * a) + (2) * (a * k) from by grind]
       unfold Qac; omega
     · show 3 * (Qac (-a - a) + Qac (k - k) + Qac (-a - a) + Qac (-k - k)) + 8 ≤ (-a - a) * (-k - k) - (k - k) * (-a - a)
       rw [show (-a - a) * (-k - k) - (k - k) * (-a - a) = (4) * (a * k) from by grind]
       unfold Qac; omega
     · show 3 * (Qac (-a - a) + Qac (k - k) + Qac (a - a) + Qac (-k - k)) + 8 ≤ (-a - a) * (-k - k) - (k - k) * (a - a)
       rw [show (-a - a) * (-k - k) - (k - k) * (a - a) = (4) * (a * k) from by grind]
       unfold Qac; omega
 · refine ⟨?_, fun i hi h1 h2 => ?_⟩
   · show 3 * (Qac (-k - (-a)) + Qac (a - k) + Qac ((0 : Int) - (-a)) + Qac ((0 : Int) - k)) + 8 ≤ (-k - (-a)) * ((0 : Int) - k) - (a - k) * ((0 : Int) - (-a))
     rw [show (-k - (-a)) * ((0 : Int) - k) - (a - k) * ((0 : Int) - (-a)) = (-1) * (a * a) + (1) * (k * k) from by grind]
     unfold Qac; omega
   · obtain rfl | rfl | rfl | rfl | rfl | rfl : i = 0 ∨ i = 1 ∨ i = 2 ∨ i = 5 ∨ i = 6 ∨ i = 7 := by
       have h2 : i ≠ 4 := h2
       omega
     · show 3 * (Qac (-k - (-a)) + Qac (a - k) + Qac (k - (-a)) + Qac (-a - k)) + 8 ≤ (-k - (-a)) * (-a - k) - (a - k) * (k - (-a))
       rw [show (-k - (-a)) * (-a - k) - (a - k) * (k - (-a)) = (-2) * (a * a) + (2) * (k * k) from by grind]
       unfold Qac; omega
     · show 3 * (Qac (-k - (-a)) + Qac (a - k) + Qac (k - (-a)) + Qac (a - k)) + 8 ≤ (-k - (-a)) * (a - k) - (a - k) * (k - (-a))
       rw [show (-k - (-a)) * (a - k) - (a - k) * (k - (-a)) = (-2) * (a * k) + (2) * (k * k) from by grind]
       unfold Qac; omega
     · show 3 * (Qac (-k - (-a)) + Qac (a - k) + Qac (a - (-a)) + Qac (k - k)) + 8 ≤ (-k - (-a)) * (k - k) - (a - k) * (a - (-a))
       rw [show (-k - (-a)) * (k - k) - (a - k) * (a - (-a)) = (-2) * (a * a) + (2) * (a * k) from by grind]
       unfold Qac; omega
     · show 3 * (Qac (-k - (-a)) + Qac (a - k) + Qac (-k - (-a)) + Qac (-a - k)) + 8 ≤ (-k - (-a)) * (-a - k) - (a - k) * (-k - (-a))
       rw [show (-k - (-a)) * (-a - k) - (a - k) * (-k - (-a)) = (-2) * (a * a) + (2) * (a * k) from by grind]
       unfold Qac; omega
     · show 3 * (Qac (-k - (-a)) + Qac (a - k) + Qac (-a - (-a)) + Qac (-k - k)) + 8 ≤ (-k - (-a)) * (-k - k) - (a - k) * (-a - (-a))
       rw [show (-k - (-a)) * (-k - k) - (a - k) * (-a - (-a)) = (-2) * (a * k) + (2) * (k * k) from by grind]
       unfold Qac; omega
     · show 3 * (Qac (-k - (-a)) + Qac (a - k) + Qac (a - (-a)) + Qac (-k - k)) + 8 ≤ (-k - (-a)) * (-k - k) - (a - k) * (a - (-a))
       rw [show (-k - (-a)) * (-k - k) - (a - k) * (a - (-a)) = (-2) * (a * a) + (2) * (k * k) from by grind]
       unfold Qac; omega
 · refine ⟨?_, fun i hi h1 h2 => ?_⟩
   · show 3 * (Qac (-k - (-k)) + Qac (-a - a) + Qac ((0 : Int) - (-k)) + Qac ((0 : Int) - a)) + 8 ≤ (-k - (-k)) * ((0 : Int) - a) - (-a - a) * ((0 : Int) - (-k))
     rw [show (-k - (-k)) * ((0 : Int) - a) - (-a - a) * ((0 : Int) - (-k)) = (2) * (a * k) from by grind]
     unfold Qac; omega
   · obtain rfl | rfl | rfl | rfl | rfl | rfl : i = 0 ∨ i = 1 ∨ i = 2 ∨ i = 3 ∨ i = 6 ∨ i = 7 := by
       have h2 : i ≠ 5 := h2
       omega
     · show 3 * (Qac (-k - (-k)) + Qac (-a - a) + Qac (k - (-k)) + Qac (-a - a)) + 8 ≤ (-k - (-k)) * (-a - a) - (-a - a) * (k - (-k))
       rw [show (-k - (-k)) * (-a - a) - (-a - a) * (k - (-k)) = (4) * (a * k) from by grind]
       unfold Qac; omega
     · show 3 * (Qac (-k - (-k)) + Qac (-a - a) + Qac (k - (-k)) + Qac (a - a)) + 8 ≤ (-k - (-k)) * (a - a) - (-a - a) * (k - (-k))
       rw [show (-k - (-k)) * (a - a) - (-a - a) * (k - (-k)) = (4) * (a * k) from by grind]
       unfold Qac; omega
     · show 3 * (Qac (-k - (-k)) + Qac (-a - a) + Qac (a - (-k)) + Qac (k - a)) + 8 ≤ (-k - (-k)) * (k - a) - (-a - a) * (a - (-k))
       rw [show (-k - (-k)) * (k - a) - (-a - a) * (a - (-k)) = (2) * (a * a) + (2) * (a * k) from by grind]
       unfold Qac; omega
     · show 3 * (Qac (-k - (-k)) + Qac (-a - a) + Qac (-a - (-k)) + Qac (k - a)) + 8 ≤ (-k - (-k)) * (k - a) - (-a - a) * (-a - (-k))
       rw [show (-k - (-k)) * (k - a) - (-a - a) * (-a - (-k)) = (-2) * (a * a) + (2) * (a * k) from by grind]
       unfold Qac; omega
     · show 3 * (Qac (-k - (-k)) + Qac (-a - a) + Qac (-a - (-k)) + Qac (-k - a)) + 8 ≤ (-k - (-k)) * (-k - a) - (-a - a) * (-a - (-k))
       rw [show (-k - (-k)) * (-k - a) - (-a - a) * (-a - (-k)) = (-2) * (a * a) + (2) * (a * k) from by grind]
       unfold Qac; omega
     · show 3 * (Qac (-k - (-k)) + Qac (-a - a) + Qac (a - (-k)) + Qac (-k - a)) + 8 ≤ (-k - (-k)) * (-k - a) - (-a - a) * (a - (-k))
       rw [show (-k - (-k)) * (-k - a) - (-a - a) * (a - (-k)) = (2) * (a * a) + (2) * (a * k) from by grind]
       unfold Qac; omega
 · refine ⟨?_, fun i hi h1 h2 => ?_⟩
   · show 3 * (Qac (-a - (-k)) + Qac (-k - (-a)) + Qac ((0 : Int) - (-k)) + Qac ((0 : Int) - (-a))) + 8 ≤ (-a - (-k)) * ((0 : Int) - (-a)) - (-k - (-a)) * ((0 : Int) - (-k))
     rw [show (-a - (-k)) * ((0 : Int) - (-a)) - (-k - (-a)) * ((0 : Int) - (-k)) = (-1) * (a * a) + (1) * (k * k) from by grind]
     unfold Qac; omega
   · obtain rfl | rfl | rfl | rfl | rfl | rfl : i = 0 ∨ i = 1 ∨ i = 2 ∨ i = 3 ∨ i = 4 ∨ i = 7 := by
       have h2 : i ≠ 6 := h2
       omega
     · show 3 * (Qac (-a - (-k)) + Qac (-k - (-a)) + Qac (k - (-k)) + Qac (-a - (-a))) + 8 ≤ (-a - (-k)) * (-a - (-a)) - (-k - (-a)) * (k - (-k))
       rw [show (-a - (-k)) * (-a - (-a)) - (-k - (-a)) * (k - (-k)) = (-2) * (a * k) + (2) * (k * k) from by grind]
       unfold Qac; omega
     · show 3 * (Qac (-a - (-k)) + Qac (-k - (-a)) + Qac (k - (-k)) + Qac (a - (-a))) + 8 ≤ (-a - (-k)) * (a - (-a)) - (-k - (-a)) * (k - (-k))
       rw [show (-a - (-k)) * (a - (-a)) - (-k - (-a)) * (k - (-k)) = (-2) * (a * a) + (2) * (k * k) from by grind]
       unfold Qac; omega
     · show 3 * (Qac (-a - (-k)) + Qac (-k - (-a)) + Qac (a - (-k)) + Qac (k - (-a))) + 8 ≤ (-a - (-k)) * (k - (-a)) - (-k - (-a)) * (a - (-k))
       rw [show (-a - (-k)) * (k - (-a)) - (-k - (-a)) * (a - (-k)) = (-2) * (a * a) + (2) * (k * k) from by grind]
       unfold Qac; omega
     · show 3 * (Qac (-a - (-k)) + Qac (-k - (-a)) + Qac (-a - (-k)) + Qac (k - (-a))) + 8 ≤ (-a - (-k)) * (k - (-a)) - (-k - (-a)) * (-a - (-k))
       rw [show (-a - (-k)) * (k - (-a)) - (-k - (-a)) * (-a - (-k)) = (-2) * (a * k) + (2) * (k * k) from by grind]
       unfold Qac; omega
     · show 3 * (Qac (-a - (-k)) + Qac (-k - (-a)) + Qac (-k - (-k)) + Qac (a - (-a))) + 8 ≤ (-a - (-k)) * (a - (-a)) - (-k - (-a)) * (-k - (-k))
       rw [show (-a - (-k)) * (a - (-a)) - (-k - (-a)) * (-k - (-k)) = (-2) * (a * a) + (2) * (a * k) from by grind]
       unfold Qac; omega
     · show 3 * (Qac (-a - (-k)) + Qac (-k - (-a)) + Qac (a - (-k)) + Qac (-k - (-a))) + 8 ≤ (-a - (-k)) * (-k - (-a)) - (-k - (-a)) * (a - (-k))
       rw [show (-a - (-k)) * (-k - (-a)) - (-k - (-a)) * (a - (-k)) = (-2) * (a * a) + (2) * (a * k) from by grind]
       unfold Qac; omega
 · refine ⟨?_, fun i hi h1 h2 => ?_⟩
   · show 3 * (Qac (a - (-a)) + Qac (-k - (-k)) + Qac ((0 : Int) - (-a)) + Qac ((0 : Int) - (-k))) + 8 ≤ (a - (-a)) * ((0 : Int) - (-k)) - (-k - (-k)) * ((0 : Int) - (-a))
     rw [show (a - (-a)) * ((0 : Int) - (-k)) - (-k - (-k)) * ((0 : Int) - (-a)) = (2) * (a * k) from by grind]
     unfold Qac; omega
   · obtain rfl | rfl | rfl | rfl | rfl | rfl : i = 0 ∨ i = 1 ∨ i = 2 ∨ i = 3 ∨ i = 4 ∨ i = 5 := by
       have h2 : i ≠ 7 := h2
       omega
     · show 3 * (Qac (a - (-a)) + Qac (-k - (-k)) + Qac (k - (-a)) + Qac (-a - (-k))) + 8 ≤ (a - (-a)) * (-a - (-k)) - (-k - (-k)) * (k - (-a))
       rw [show (a - (-a)) * (-a - (-k)) - (-k - (-k)) * (k - (-a)) = (-2) * (a * a) + (2) * (a * k) from by grind]
       unfold Qac; omega
     · show 3 * (Qac (a - (-a)) + Qac (-k - (-k)) + Qac (k - (-a)) + Qac (a - (-k))) + 8 ≤ (a - (-a)) * (a - (-k)) - (-k - (-k)) * (k - (-a))
       rw [show (a - (-a)) * (a - (-k)) - (-k - (-k)) * (k - (-a)) = (2) * (a * a) + (2) * (a * k) from by grind]
       unfold Qac; omega
     · show 3 * (Qac (a - (-a)) + Qac (-k - (-k)) + Qac (a - (-a)) + Qac (k - (-k))) + 8 ≤ (a - (-a)) * (k - (-k)) - (-k - (-k)) * (a - (-a))
       rw [show (a - (-a)) * (k - (-k)) - (-k - (-k)) * (a - (-a)) = (4) * (a * k) from by grind]
       unfold Qac; omega
     · show 3 * (Qac (a - (-a)) + Qac (-k - (-k)) + Qac (-a - (-a)) + Qac (k - (-k))) + 8 ≤ (a - (-a)) * (k - (-k)) - (-k - (-k)) * (-a - (-a))
       rw [show (a - (-a)) * (k - (-k)) - (-k - (-k)) * (-a - (-a)) = (4) * (a * k) from by grind]
       unfold Qac; omega
     · show 3 * (Qac (a - (-a)) + Qac (-k - (-k)) + Qac (-k - (-a)) + Qac (a - (-k))) + 8 ≤ (a - (-a)) * (a - (-k)) - (-k - (-k)) * (-k - (-a))
       rw [show (a - (-a)) * (a - (-k)) - (-k - (-k)) * (-k - (-a)) = (2) * (a * a) + (2) * (a * k) from by grind]
       unfold Qac; omega
     · show 3 * (Qac (a - (-a)) + Qac (-k - (-k)) + Qac (-k - (-a)) + Qac (-a - (-k))) + 8 ≤ (a - (-a)) * (-a - (-k)) - (-k - (-k)) * (-k - (-a))
       rw [show (a - (-a)) * (-a - (-k)) - (-k - (-k)) * (-k - (-a)) = (-2) * (a * a) + (2) * (a * k) from by grind]
       unfold Qac; omega
 · refine ⟨?_, fun i hi h1 h2 => ?_⟩
   · show 3 * (Qac (k - a) + Qac (-a - (-k)) + Qac ((0 : Int) - a) + Qac ((0 : Int) - (-k))) + 8 ≤ (k - a) * ((0 : Int) - (-k)) - (-a - (-k)) * ((0 : Int) - a)
     rw [show (k - a) * ((0 : Int) - (-k)) - (-a - (-k)) * ((0 : Int) - a) = (-1) * (a * a) + (1) * (k * k) from by grind]
     unfold Qac; omega
   · obtain rfl | rfl | rfl | rfl | rfl | rfl : i = 1 ∨ i = 2 ∨ i = 3 ∨ i = 4 ∨ i = 5 ∨ i = 6 := by
       have h2 : i ≠ 0 := h2
       omega
     · show 3 * (Qac (k - a) + Qac (-a - (-k)) + Qac (k - a) + Qac (a - (-k))) + 8 ≤ (k - a) * (a - (-k)) - (-a - (-k)) * (k - a)
       rw [show (k - a) * (a - (-k)) - (-a - (-k)) * (k - a) = (-2) * (a * a) + (2) * (a * k) from by grind]
       unfold Qac; omega
     · show 3 * (Qac (k - a) + Qac (-a - (-k)) + Qac (a - a) + Qac (k - (-k))) + 8 ≤ (k - a) * (k - (-k)) - (-a - (-k)) * (a - a)
       rw [show (k - a) * (k - (-k)) - (-a - (-k)) * (a - a) = (-2) * (a * k) + (2) * (k * k) from by grind]
       unfold Qac; omega
     · show 3 * (Qac (k - a) + Qac (-a - (-k)) + Qac (-a - a) + Qac (k - (-k))) + 8 ≤ (k - a) * (k - (-k)) - (-a - (-k)) * (-a - a)
       rw [show (k - a) * (k - (-k)) - (-a - (-k)) * (-a - a) = (-2) * (a * a) + (2) * (k * k) from by grind]
       unfold Qac; omega
     · show 3 * (Qac (k - a) + Qac (-a - (-k)) + Qac (-k - a) + Qac (a - (-k))) + 8 ≤ (k - a) * (a - (-k)) - (-a - (-k)) * (-k - a)
       rw [show (k - a) * (a - (-k)) - (-a - (-k)) * (-k - a) = (-2) * (a * a) + (2) * (k * k) from by grind]
       unfold Qac; omega
     · show 3 * (Qac (k - a) + Qac (-a - (-k)) + Qac (-k - a) + Qac (-a - (-k))) + 8 ≤ (k - a) * (-a - (-k)) - (-a - (-k)) * (-k - a)
       rw [show (k - a) * (-a - (-k)) - (-a - (-k)) * (-k - a) = (-2) * (a * k) + (2) * (k * k) from by grind]
       unfold Qac; omega
     · show 3 * (Qac (k - a) + Qac (-a - (-k)) + Qac (-a - a) + Qac (-k - (-k))) + 8 ≤ (k - a) * (-k - (-k)) - (-a - (-k)) * (-a - a)
       rw [show (k - a) * (-k - (-k)) - (-a - (-k)) * (-a - a) = (-2) * (a * a) + (2) * (a * k) from by grind]
       unfold Qac; omega
theorem Zem {w h : Int} (hw : 16 ≤ w ∧ w ≤ 4096) (hh : 16 ≤ h ∧ h ≤ 4096) : SG 4 (Q7t w h) := by
 have p1 : 16 * w ≤ h * w := Int.mul_le_mul_of_nonneg_right hh.1 (by omega)
 have p2 : 16 * h ≤ h * w := by have := Int.mul_le_mul_of_nonneg_right hw.1 (show (0 : Int) ≤ h by omega); grind
 intro j hj
 obtain rfl | rfl | rfl | rfl : j = 0 ∨ j = 1 ∨ j = 2 ∨ j = 3 := by omega
 · refine ⟨?_, fun i hi h1 h2 => ?_⟩
   · show 3 * (Qac (w - (-w)) + Qac (-h - (-h)) + Qac ((0 : Int) - (-w)) + Qac ((0 : Int) - (-h))) + 8 ≤ (w - (-w)) * ((0 : Int) - (-h)) - (-h - (-h)) * ((0 : Int) - (-w))
     rw [show (w - (-w)) * ((0 : Int) - (-h)) - (-h - (-h)) * ((0 : Int) - (-w)) = (2) * (h * w) from by grind]
     unfold Qac; omega
   · obtain rfl | rfl : i = 2 ∨ i = 3 := by
       have h2 : i ≠ 1 := h2
       omega
     · show 3 * (Qac (w - (-w)) + Qac (-h - (-h)) + Qac (w - (-w)) + Qac (h - (-h))) + 8 ≤ (w - (-w)) * (h - (-h)) - (-h - (-h)) * (w - (-w))
       rw [show (w - (-w)) * (h - (-h)) - (-h - (-h)) * (w - (-w)) = (4) * (h * w) from by grind]
       unfold Qac; omega
     · show 3 * (Qac (w - (-w)) + Qac (-h - (-h)) + Qac (-w - (-w)) + Qac (h - (-h))) + 8 ≤ (w - (-w)) * (h - (-h)) - (-h - (-h)) * (-w - (-w))
       rw [show (w - (-w)) * (h - (-h)) - (-h - (-h)) * (-w - (-w)) = (4) * (h * w) from by grind]
       unfold Qac; omega
 · refine ⟨?_, fun i hi h1 h2 => ?_⟩
   · show 3 * (Qac (w - w) + Qac (h - (-h)) + Qac ((0 : Int) - w) + Qac ((0 : Int) - (-h))) + 8 ≤ (w - w) * ((0 : Int) - (-h)) - (h - (-h)) * ((0 : Int) - w)
     rw [show (w - w) * ((0 : Int) - (-h)) - (h - (-h)) * ((0 : Int) - w) = (2) * (h * w) from by grind]
     unfold Qac; omega
   · obtain rfl | rfl : i = 0 ∨ i = 3 := by
       have h2 : i ≠ 2 := h2
       omega
     · show 3 * (Qac (w - w) + Qac (h - (-h)) + Qac (-w - w) + Qac (-h - (-h))) + 8 ≤ (w - w) * (-h - (-h)) - (h - (-h)) * (-w - w)
       rw [show (w - w) * (-h - (-h)) - (h - (-h)) * (-w - w) = (4) * (h * w) from by grind]
       unfold Qac; omega
     · show 3 * (Qac (w - w) + Qac (h - (-h)) + Qac (-w - w) + Qac (h - (-h))) + 8 ≤ (w - w) * (h - (-h)) - (h - (-h)) * (-w - w)
       rw [show (w - w) * (h - (-h)) - (h - (-h)) * (-w - w) = (4) * (h * w) from by grind]
       unfold Qac; omega
 · refine ⟨?_, fun i hi h1 h2 => ?_⟩
   · show 3 * (Qac (-w - w) + Qac (h - h) + Qac ((0 : Int) - w) + Qac ((0 : Int) - h)) + 8 ≤ (-w - w) * ((0 : Int) - h) - (h - h) * ((0 : Int) - w)
     rw [show (-w - w) * ((0 : Int) - h) - (h - h) * ((0 : Int) - w) = (2) * (h * w) from by grind]
     unfold Qac; omega
   · obtain rfl | rfl : i = 0 ∨ i = 1 := by
       have h2 : i ≠ 3 := h2
       omega
     · show 3 * (Qac (-w - w) + Qac (h - h) + Qac (-w - w) + Qac (-h - h)) + 8 ≤ (-w - w) * (-h - h) - (h - h) * (-w - w)
       rw [show (-w - w) * (-h - h) - (h - h) * (-w - w) = (4) * (h * w) from by grind]
       unfold Qac; omega
     · show 3 * (Qac (-w - w) + Qac (h - h) + Qac (w - w) + Qac (-h - h)) + 8 ≤ (-w - w) * (-h - h) - (h - h) * (w - w)
       rw [show (-w - w) * (-h - h) - (h - h) * (w - w) = (4) * (h * w) from by grind]
       unfold Qac; omega
 · refine ⟨?_, fun i hi h1 h2 => ?_⟩
   · show 3 * (Qac (-w - (-w)) + Qac (-h - h) + Qac ((0 : Int) - (-w)) + Qac ((0 : Int) - h)) + 8 ≤ (-w - (-w)) * ((0 : Int) - h) - (-h - h) * ((0 : Int) - (-w))
     rw [show (-w - (-w)) * ((0 : Int) - h) - (-h - h) * ((0 : Int) - (-w)) = (2) * (h * w) from by grind]
     unfold Qac; omega
   · obtain rfl | rfl : i = 1 ∨ i = 2 := by
       have h2 : i ≠ 0 := h2
       omega
     · show 3 * (Qac (-w - (-w)) + Qac (-h - h) + Qac (w - (-w)) + Qac (-h - h)) + 8 ≤ (-w - (-w)) * (-h - h) - (-h - h) * (w - (-w))
       rw [show (-w - (-w)) * (-h - h) - (-h - h) * (w - (-w)) = (4) * (h * w) from by grind]
       unfold Qac; omega
     · show 3 * (Qac (-w - (-w)) + Qac (-h - h) + Qac (w - (-w)) + Qac (h - h)) + 8 ≤ (-w - (-w)) * (h - h) - (-h - h) * (w - (-w))
       rw [show (-w - (-w)) * (h - h) - (-h - h) * (w - (-w)) = (4) * (h * w) from by grind]
       unfold Qac; omega
theorem Zl7 (m : MD) (h : ksS m ≠ Q27 (ksX m.a m.a)) : 3 ≤ Qbb 0 (ksS m) (ksN m) ∧ SG (Qbb 0 (ksS m) (ksN m)) (Qbh (ksS m) (ksG m)) := by
 have hA := Qsa m.a m.a
 have hB := Qsa m.a m.b
 have hK := Qwk m.a m.a
 have hH := Qwk m.a m.b
 have hh : 2 * (ksM m.a m.a / 2) ≤ ksM m.a m.a ∧ ksM m.a m.a ≤ 2 * (ksM m.a m.a / 2) + 1 := by omega
 rcases Qjw m with ⟨e1, e2⟩ | ⟨e1, e2⟩ | ⟨e1, e2, e3⟩ | ⟨e1, e2, e3⟩ | ⟨e1, e2, e3⟩
 · exact absurd e1 h
 · rw [e1, e2]
   exact ⟨by show 3 ≤ 4; omega, Zem hA hB⟩
 · rw [e1, e2, e3]
   exact ⟨by show 3 ≤ 3; omega, Zmh hK hH⟩
 · rw [e1, e2, e3]
   exact ⟨by show 3 ≤ 5; omega, Zmg hK hH hh⟩
 · rw [e1, e2, e3]
   exact ⟨by show 3 ≤ 8; omega, Zmf hK hh⟩
theorem Q0r {x M : Int} (hM : 0 ≤ M) (h : x * x ≤ M * M) : -M ≤ x ∧ x ≤ M := by
 have e2 : (M + 1) * (M + 1) = M * M + 2 * M + 1 := by grind
 constructor
 · refine Int.not_lt.1 fun k => ?_
   have := Qtz (show 0 ≤ M + 1 by omega) (show M + 1 ≤ -x by omega)
   have e : -x * -x = x * x := by grind
   omega
 · refine Int.not_lt.1 fun k => ?_
   have := Qtz (show 0 ≤ M + 1 by omega) (show M + 1 ≤ x by omega)
   omega
theorem Zme {r : VB} (hr : Qy9 r) {l : Int × Int} {R : Int} (h0 : 0 ≤ R ∧ R ≤ 8192) (h : Qea l l ≤ R * R) : (aV r l).1 * (aV r l).1 + (aV r l).2 * (aV r l).2 ≤ (4294967296 * R + 4194304) * (4294967296 * R + 4194304) := by
 have e : (aV r l).1 * (aV r l).1 + (aV r l).2 * (aV r l).2 = (r.x.v * r.x.v + r.y.v * r.y.v) * Qea l l := by
   unfold aV Qea Qsp
   simp only
   grind
 obtain ⟨-, -, -, -, k⟩ := hr
 have hn := Q9v l
 have h1 := Int.mul_le_mul_of_nonneg_right (show r.x.v * r.x.v + r.y.v * r.y.v ≤ 18446744073709551616 + 2748779069440 by omega) hn
 have h2 := Int.mul_le_mul_of_nonneg_left h (show (0 : Int) ≤ 18446744073709551616 + 2748779069440 by decide)
 have h3 := Int.mul_le_mul_of_nonneg_right h0.2 h0.1
 have e2 : (4294967296 * R + 4194304) * (4294967296 * R + 4194304) = 18446744073709551616 * (R * R) + 36028797018963968 * R + 17592186044416 := by grind
 rw [e, e2]
 generalize R * R = Z at *
 omega
theorem Q7a {a b A B E F R : Int} (hR : 0 ≤ R ∧ R ≤ 8192) (ha : 256 * a = A + E) (hb : 256 * b = B + F) (hE : -2147483904 ≤ E ∧ E ≤ 2147483904) (hF : -2147483904 ≤ F ∧ F ≤ 2147483904) (h : A * A + B * B ≤ (4294967296 * R + 4194304) * (4294967296 * R + 4194304)) : a * a + b * b ≤ (16777216 * (R + 2)) * (16777216 * (R + 2)) := by
 have M0 : 0 ≤ 4294967296 * R + 4194304 := by omega
 have nA := Qbs A
 have nB := Qbs B
 have iA := Q0r (x := A) M0 (by omega)
 have iB := Q0r (x := B) M0 (by omega)
 have m1 := Qdk (P := 4294967296 * R + 4194304) (Q := 2147483904) M0 iA.1 iA.2 hE.1 hE.2
 have m2 := Qdk (P := 4294967296 * R + 4194304) (Q := 2147483904) M0 iB.1 iB.2 hF.1 hF.2
 have m3 := Qdk (P := 2147483904) (Q := 2147483904) (by decide) hE.1 hE.2 hE.1 hE.2
 have m4 := Qdk (P := 2147483904) (Q := 2147483904) (by decide) hF.1 hF.2 hF.1 hF.2
 have e : 65536 * (a * a + b * b) = A * A + B * B + 2 * (A * E) + 2 * (B * F) + E * E + F * F := by
   have : 65536 * (a * a + b * b) = (256 * a) * (256 * a) + (256 * b) * (256 * b) := by grind
   rw [this, ha, hb]; grind
 have e2 : 65536 * ((16777216 * (R + 2)) * (16777216 * (R + 2))) = 18446744073709551616 * (R * R) + 73786976294838206464 * R + 73786976294838206464 := by grind
 have e3 : (4294967296 * R + 4194304) * (4294967296 * R + 4194304) = 18446744073709551616 * (R * R) + 36028797018963968 * R + 17592186044416 := by grind
 rw [e3] at h
 generalize R * R = Z at *
 generalize A * A + B * B = S at *
 generalize A * E = X1 at *
 generalize B * F = X2 at *
 generalize E * E = X3 at *
 generalize F * F = X4 at *
 omega
theorem Zig {x B : Int} (h0 : 0 ≤ x) (h1 : x < 340282366920938463463374607431768211456) (hB : 0 ≤ B) (h : x ≤ B * B) : isq x ≤ B := by
 obtain ⟨i1, _, i3, _⟩ := Qlk h0 h1
 exact (Q0r hB (by omega)).2
noncomputable def Q6q : List SV → Option (Option Prop × SV)
 | [.v (.int .i64 a), .v (.int .i64 b)] => some (some (I64 a ∧ I64 b), nS (hid (Qd2 a b)))
 | _ => none
noncomputable def Zj9 : Qb7 := Qah (Qah (Qah (Qah (Qah (Qah (Qah (Qah ΓT 22 (Qgv false Zln)) 23 (Qaj Zcm)) 24 (Qgv false Zlq)) 32 (Qcv Zc4)) 33 (Qcv Zcw)) 30 (Qaj Zlj)) 21 (Qaj Zcg)) 9 (Qaj Q6q)
noncomputable def Zj1 (N : Nat) : Nat → Option LoopSpec := Qb9 Qax Tryz.f4 0 Nat (fun i => i ≤ N) (fun i => N - i) [(10, fun i => .v (.int .i64 i))] []
@[reducible] noncomputable def Qpu (m : MD) := (IntKind.wrap IntKind.i64 ((Ze7 (Qck (ksS m) (ksN m) fun i => gi [SV.v (.int .i64 (Prod.fst (ksG m (0 + i)))),SV.v (.int .i64 (Prod.snd (ksG m (0 + i))))]) (ksS m) (ksN m) fun i => gi [SV.v (.int .i64 (Prod.fst (ksG m (0 + i)))),SV.v (.int .i64 (Prod.snd (ksG m (0 + i))))]) + 2))
@[reducible] noncomputable def Qed (m : MD) := (Prod.fst (Qel (Qc6 m 4000)),Prod.snd (Qel (Qc6 m 4000)))
theorem Zkk (m : MD) (N : Nat) (R : SV→Prop) : (Qau Tryz.prog Zj9 (Zj1 N) Tryz.f4 [mdS m] R) =
((mdI m)∧(∀ c : Nat,((((0 : Int) < 4000)∧((4000 : Int) < 1073741824))∧(((Zhy (ksS m) (Qc6 m 4000) (Qd3 m) (ksN m) (Qbz (Qaw (SE.Qbr (Can.es {es:=[],bs:=[],ro:=true}) 88 (spB (ksN m) (ksN m + c) (ksG m))) 2 0 (ksN m))))∧(Qfd (ksN m) (Qaw (SE.Qbr (Can.es {es:=[],bs:=[],ro:=true}) 88 (spB (ksN m) (ksN m + c) (ksG m))) 2 0 (ksN m))))∧(∀ c_1 : Nat,(((Qiq (ksS m))∧(Qfd (ksN m) (Qaw (SE.Qbr (Can.es {es:=[],bs:=[],ro:=true}) 88 (spB (ksN m) (ksN m + c) (ksG m))) 2 0 (ksN m))))∧(∀ c_2 : Nat,(((Qiq (ksS m))∧((Qcc Qsc (Qal (ksN m) fun y => [yI (Prod.fst (ksG m (0 + y))),yI (Prod.snd (ksG m (0 + y)))]))∧((((ksN m) : Nat) = (ksN m))∧(((ksN m) : Nat) < 1099511627776))))∧(sel ((Qck (ksS m) (ksN m) fun i => gi [yI (Prod.fst (ksG m (0 + i))),yI (Prod.snd (ksG m (0 + i)))]) != 0) (R (yF false)) (sel ((↑(Qbb (Qck (ksS m) (ksN m) (Qbz (Qaw (SE.Qbr (Can.es {es:=[],bs:=[],ro:=true}) 88 (spB (ksN m) (ksN m + c) (ksG m))) 2 0 (ksN m)))) (ksS m) (ksN m)) : Int) != (↑(Qbb 0 (ksS m) (ksN m)) : Int)) (R (yF false)) (((I64 1)∧(I64 512))∧(((Qiq (ksS m))∧((Qcc Qsc (Qal (ksN m) fun y => [yI (Prod.fst (ksG m (0 + y))),yI (Prod.snd (ksG m (0 + y)))]))∧((((ksN m) : Nat) = (ksN m))∧(((ksN m) : Nat) < 1099511627776))))∧(((I64 (Qpu m))∧(I64 256))∧((∃ x : Nat,((Nat.le x N)∧(((yI 0) = (yI ((↑x : Int))))∧True)))∧(∀ x : Nat,((Nat.le x N)→(sel (decide ((↑x : Int) < (↑(Qbb (Qck (ksS m) (ksN m) (Qbz (Qaw (SE.Qbr (Can.es {es:=[],bs:=[],ro:=true}) 88 (spB (ksN m) (ksN m + c) (ksG m))) 2 0 (ksN m)))) (ksS m) (ksN m)) : Int))) ((((0 : Int) ≤ ((↑x : Int)))∧((((↑x : Int)) : Int) < ((↑(Qbb 0 (ksS m) (ksN m)) : Int))))∧(((I64 (Prod.fst (Qeh (ksS m) (Qc6 m 4000) (Qd3 m) (Qbz (Qaw (SE.Qbr (Can.es {es:=[],bs:=[],ro:=true}) 88 (spB (ksN m) (ksN m + c) (ksG m))) 2 0 (ksN m))) (0 + Int.toNat (↑x : Int)))))∧(I64 (Prod.snd (Qeh (ksS m) (Qc6 m 4000) (Qd3 m) (Qbz (Qaw (SE.Qbr (Can.es {es:=[],bs:=[],ro:=true}) 88 (spB (ksN m) (ksN m + c) (ksG m))) 2 0 (ksN m))) (0 + Int.toNat (↑x : Int))))))∧((((0 : Int) ≤ ((↑x : Int)))∧((((↑x : Int)) : Int) < ((↑(Qbb (Qck (ksS m) (ksN m) (Qbz (Qaw (SE.Qbr (Can.es {es:=[],bs:=[],ro:=true}) 88 (spB (ksN m) (ksN m + c) (ksG m))) 2 0 (ksN m)))) (ksS m) (ksN m)) : Int))))∧(((I64 (Prod.fst (Qbh (ksS m) (Qbz (Qaw (SE.Qbr (Can.es {es:=[],bs:=[],ro:=true}) 88 (spB (ksN m) (ksN m + c) (ksG m))) 2 0 (ksN m))) (0 + Int.toNat (↑x : Int)))))∧(I64 (Prod.snd (Qbh (ksS m) (Qbz (Qaw (SE.Qbr (Can.es {es:=[],bs:=[],ro:=true}) 88 (spB (ksN m) (ksN m + c) (ksG m))) 2 0 (ksN m))) (0 + Int.toNat (↑x : Int))))))∧((((I64 (NB.v (VB.x (Qc6 m 4000))))∧(I64 (NB.v (VB.y (Qc6 m 4000)))))∧(((I64 (NB.v (VB.x (Qd3 m))))∧(I64 (NB.v (VB.y (Qd3 m)))))∧((I64 (NB.v (VB.x (Qes (Prod.fst (Qbh (ksS m) (Qbz (Qaw (SE.Qbr (Can.es {es:=[],bs:=[],ro:=true}) 88 (spB (ksN m) (ksN m + c) (ksG m))) 2 0 (ksN m))) (0 + Int.toNat (↑x : Int))),Prod.snd (Qbh (ksS m) (Qbz (Qaw (SE.Qbr (Can.es {es:=[],bs:=[],ro:=true}) 88 (spB (ksN m) (ksN m + c) (ksG m))) 2 0 (ksN m))) (0 + Int.toNat (↑x : Int))))))))∧(I64 (NB.v (VB.y (Qes (Prod.fst (Qbh (ksS m) (Qbz (Qaw (SE.Qbr (Can.es {es:=[],bs:=[],ro:=true}) 88 (spB (ksN m) (ksN m + c) (ksG m))) 2 0 (ksN m))) (0 + Int.toNat (↑x : Int))),Prod.snd (Qbh (ksS m) (Qbz (Qaw (SE.Qbr (Can.es {es:=[],bs:=[],ro:=true}) 88 (spB (ksN m) (ksN m + c) (ksG m))) 2 0 (ksN m))) (0 + Int.toNat (↑x : Int)))))))))))∧((((I64 (NB.v (VB.x (Qes (Prod.fst (Qeh (ksS m) (Qc6 m 4000) (Qd3 m) (Qbz (Qaw (SE.Qbr (Can.es {es:=[],bs:=[],ro:=true}) 88 (spB (ksN m) (ksN m + c) (ksG m))) 2 0 (ksN m))) (0 + Int.toNat (↑x : Int))),Prod.snd (Qeh (ksS m) (Qc6 m 4000) (Qd3 m) (Qbz (Qaw (SE.Qbr (Can.es {es:=[],bs:=[],ro:=true}) 88 (spB (ksN m) (ksN m + c) (ksG m))) 2 0 (ksN m))) (0 + Int.toNat (↑x : Int))))))))∧(I64 (NB.v (VB.y (Qes (Prod.fst (Qeh (ksS m) (Qc6 m 4000) (Qd3 m) (Qbz (Qaw (SE.Qbr (Can.es {es:=[],bs:=[],ro:=true}) 88 (spB (ksN m) (ksN m + c) (ksG m))) 2 0 (ksN m))) (0 + Int.toNat (↑x : Int))),Prod.snd (Qeh (ksS m) (Qc6 m 4000) (Qd3 m) (Qbz (Qaw (SE.Qbr (Can.es {es:=[],bs:=[],ro:=true}) 88 (spB (ksN m) (ksN m + c) (ksG m))) 2 0 (ksN m))) (0 + Int.toNat (↑x : Int)))))))))∧((I64 (NB.v (VB.x (Qfk (Qc6 m 4000) (Qdp (Qd3 m) (Qes (Prod.fst (Qbh (ksS m) (Qbz (Qaw (SE.Qbr (Can.es {es:=[],bs:=[],ro:=true}) 88 (spB (ksN m) (ksN m + c) (ksG m))) 2 0 (ksN m))) (0 + Int.toNat (↑x : Int))),Prod.snd (Qbh (ksS m) (Qbz (Qaw (SE.Qbr (Can.es {es:=[],bs:=[],ro:=true}) 88 (spB (ksN m) (ksN m + c) (ksG m))) 2 0 (ksN m))) (0 + Int.toNat (↑x : Int))))))))))∧(I64 (NB.v (VB.y (Qfk (Qc6 m 4000) (Qdp (Qd3 m) (Qes (Prod.fst (Qbh (ksS m) (Qbz (Qaw (SE.Qbr (Can.es {es:=[],bs:=[],ro:=true}) 88 (spB (ksN m) (ksN m + c) (ksG m))) 2 0 (ksN m))) (0 + Int.toNat (↑x : Int))),Prod.snd (Qbh (ksS m) (Qbz (Qaw (SE.Qbr (Can.es {es:=[],bs:=[],ro:=true}) 88 (spB (ksN m) (ksN m + c) (ksG m))) 2 0 (ksN m))) (0 + Int.toNat (↑x : Int))))))))))))∧(((I64 (NB.v (VB.x (Qmr (Qes (Prod.fst (Qeh (ksS m) (Qc6 m 4000) (Qd3 m) (Qbz (Qaw (SE.Qbr (Can.es {es:=[],bs:=[],ro:=true}) 88 (spB (ksN m) (ksN m + c) (ksG m))) 2 0 (ksN m))) (0 + Int.toNat (↑x : Int))),Prod.snd (Qeh (ksS m) (Qc6 m 4000) (Qd3 m) (Qbz (Qaw (SE.Qbr (Can.es {es:=[],bs:=[],ro:=true}) 88 (spB (ksN m) (ksN m + c) (ksG m))) 2 0 (ksN m))) (0 + Int.toNat (↑x : Int))))) (Qfk (Qc6 m 4000) (Qdp (Qd3 m) (Qes (Prod.fst (Qbh (ksS m) (Qbz (Qaw (SE.Qbr (Can.es {es:=[],bs:=[],ro:=true}) 88 (spB (ksN m) (ksN m + c) (ksG m))) 2 0 (ksN m))) (0 + Int.toNat (↑x : Int))),Prod.snd (Qbh (ksS m) (Qbz (Qaw (SE.Qbr (Can.es {es:=[],bs:=[],ro:=true}) 88 (spB (ksN m) (ksN m + c) (ksG m))) 2 0 (ksN m))) (0 + Int.toNat (↑x : Int)))))))))))∧(I64 (NB.v (hid (Qd2 1 512)))))∧(sel (!Qy5 (VB.x (Qmr (Qes (Prod.fst (Qeh (ksS m) (Qc6 m 4000) (Qd3 m) (Qbz (Qaw (SE.Qbr (Can.es {es:=[],bs:=[],ro:=true}) 88 (spB (ksN m) (ksN m + c) (ksG m))) 2 0 (ksN m))) (0 + Int.toNat (↑x : Int))),Prod.snd (Qeh (ksS m) (Qc6 m 4000) (Qd3 m) (Qbz (Qaw (SE.Qbr (Can.es {es:=[],bs:=[],ro:=true}) 88 (spB (ksN m) (ksN m + c) (ksG m))) 2 0 (ksN m))) (0 + Int.toNat (↑x : Int))))) (Qfk (Qc6 m 4000) (Qdp (Qd3 m) (Qes (Prod.fst (Qbh (ksS m) (Qbz (Qaw (SE.Qbr (Can.es {es:=[],bs:=[],ro:=true}) 88 (spB (ksN m) (ksN m + c) (ksG m))) 2 0 (ksN m))) (0 + Int.toNat (↑x : Int))),Prod.snd (Qbh (ksS m) (Qbz (Qaw (SE.Qbr (Can.es {es:=[],bs:=[],ro:=true}) 88 (spB (ksN m) (ksN m + c) (ksG m))) 2 0 (ksN m))) (0 + Int.toNat (↑x : Int))))))))) (hid (Qd2 1 512))) (R (yF false)) (((I64 (NB.v (VB.y (Qmr (Qes (Prod.fst (Qeh (ksS m) (Qc6 m 4000) (Qd3 m) (Qbz (Qaw (SE.Qbr (Can.es {es:=[],bs:=[],ro:=true}) 88 (spB (ksN m) (ksN m + c) (ksG m))) 2 0 (ksN m))) (0 + Int.toNat (↑x : Int))),Prod.snd (Qeh (ksS m) (Qc6 m 4000) (Qd3 m) (Qbz (Qaw (SE.Qbr (Can.es {es:=[],bs:=[],ro:=true}) 88 (spB (ksN m) (ksN m + c) (ksG m))) 2 0 (ksN m))) (0 + Int.toNat (↑x : Int))))) (Qfk (Qc6 m 4000) (Qdp (Qd3 m) (Qes (Prod.fst (Qbh (ksS m) (Qbz (Qaw (SE.Qbr (Can.es {es:=[],bs:=[],ro:=true}) 88 (spB (ksN m) (ksN m + c) (ksG m))) 2 0 (ksN m))) (0 + Int.toNat (↑x : Int))),Prod.snd (Qbh (ksS m) (Qbz (Qaw (SE.Qbr (Can.es {es:=[],bs:=[],ro:=true}) 88 (spB (ksN m) (ksN m + c) (ksG m))) 2 0 (ksN m))) (0 + Int.toNat (↑x : Int)))))))))))∧(I64 (NB.v (hid (Qd2 1 512)))))∧(sel (!Qy5 (VB.y (Qmr (Qes (Prod.fst (Qeh (ksS m) (Qc6 m 4000) (Qd3 m) (Qbz (Qaw (SE.Qbr (Can.es {es:=[],bs:=[],ro:=true}) 88 (spB (ksN m) (ksN m + c) (ksG m))) 2 0 (ksN m))) (0 + Int.toNat (↑x : Int))),Prod.snd (Qeh (ksS m) (Qc6 m 4000) (Qd3 m) (Qbz (Qaw (SE.Qbr (Can.es {es:=[],bs:=[],ro:=true}) 88 (spB (ksN m) (ksN m + c) (ksG m))) 2 0 (ksN m))) (0 + Int.toNat (↑x : Int))))) (Qfk (Qc6 m 4000) (Qdp (Qd3 m) (Qes (Prod.fst (Qbh (ksS m) (Qbz (Qaw (SE.Qbr (Can.es {es:=[],bs:=[],ro:=true}) 88 (spB (ksN m) (ksN m + c) (ksG m))) 2 0 (ksN m))) (0 + Int.toNat (↑x : Int))),Prod.snd (Qbh (ksS m) (Qbz (Qaw (SE.Qbr (Can.es {es:=[],bs:=[],ro:=true}) 88 (spB (ksN m) (ksN m + c) (ksG m))) 2 0 (ksN m))) (0 + Int.toNat (↑x : Int))))))))) (hid (Qd2 1 512))) (R (yF false)) ((((I64 (NB.v (VB.x (Qes (Prod.fst (Qeh (ksS m) (Qc6 m 4000) (Qd3 m) (Qbz (Qaw (SE.Qbr (Can.es {es:=[],bs:=[],ro:=true}) 88 (spB (ksN m) (ksN m + c) (ksG m))) 2 0 (ksN m))) (0 + Int.toNat (↑x : Int))),Prod.snd (Qeh (ksS m) (Qc6 m 4000) (Qd3 m) (Qbz (Qaw (SE.Qbr (Can.es {es:=[],bs:=[],ro:=true}) 88 (spB (ksN m) (ksN m + c) (ksG m))) 2 0 (ksN m))) (0 + Int.toNat (↑x : Int))))))))∧(I64 (NB.v (VB.y (Qes (Prod.fst (Qeh (ksS m) (Qc6 m 4000) (Qd3 m) (Qbz (Qaw (SE.Qbr (Can.es {es:=[],bs:=[],ro:=true}) 88 (spB (ksN m) (ksN m + c) (ksG m))) 2 0 (ksN m))) (0 + Int.toNat (↑x : Int))),Prod.snd (Qeh (ksS m) (Qc6 m 4000) (Qd3 m) (Qbz (Qaw (SE.Qbr (Can.es {es:=[],bs:=[],ro:=true}) 88 (spB (ksN m) (ksN m + c) (ksG m))) 2 0 (ksN m))) (0 + Int.toNat (↑x : Int)))))))))∧((I64 (NB.v (VB.x (Qc6 m 4000))))∧(I64 (NB.v (VB.y (Qc6 m 4000))))))∧(((I64 (NB.v (VB.x (Qmr (Qes (Prod.fst (Qeh (ksS m) (Qc6 m 4000) (Qd3 m) (Qbz (Qaw (SE.Qbr (Can.es {es:=[],bs:=[],ro:=true}) 88 (spB (ksN m) (ksN m + c) (ksG m))) 2 0 (ksN m))) (0 + Int.toNat (↑x : Int))),Prod.snd (Qeh (ksS m) (Qc6 m 4000) (Qd3 m) (Qbz (Qaw (SE.Qbr (Can.es {es:=[],bs:=[],ro:=true}) 88 (spB (ksN m) (ksN m + c) (ksG m))) 2 0 (ksN m))) (0 + Int.toNat (↑x : Int))))) (Qc6 m 4000)))))∧(I64 (NB.v (VB.y (Qmr (Qes (Prod.fst (Qeh (ksS m) (Qc6 m 4000) (Qd3 m) (Qbz (Qaw (SE.Qbr (Can.es {es:=[],bs:=[],ro:=true}) 88 (spB (ksN m) (ksN m + c) (ksG m))) 2 0 (ksN m))) (0 + Int.toNat (↑x : Int))),Prod.snd (Qeh (ksS m) (Qc6 m 4000) (Qd3 m) (Qbz (Qaw (SE.Qbr (Can.es {es:=[],bs:=[],ro:=true}) 88 (spB (ksN m) (ksN m + c) (ksG m))) 2 0 (ksN m))) (0 + Int.toNat (↑x : Int))))) (Qc6 m 4000))))))∧(((I64 (NB.v (Qgd (Qmr (Qes (Prod.fst (Qeh (ksS m) (Qc6 m 4000) (Qd3 m) (Qbz (Qaw (SE.Qbr (Can.es {es:=[],bs:=[],ro:=true}) 88 (spB (ksN m) (ksN m + c) (ksG m))) 2 0 (ksN m))) (0 + Int.toNat (↑x : Int))),Prod.snd (Qeh (ksS m) (Qc6 m 4000) (Qd3 m) (Qbz (Qaw (SE.Qbr (Can.es {es:=[],bs:=[],ro:=true}) 88 (spB (ksN m) (ksN m + c) (ksG m))) 2 0 (ksN m))) (0 + Int.toNat (↑x : Int))))) (Qc6 m 4000)))))∧(I64 (NB.v (hid (Qd2 (Qpu m) 256)))))∧(sel (!Qy5 (Qgd (Qmr (Qes (Prod.fst (Qeh (ksS m) (Qc6 m 4000) (Qd3 m) (Qbz (Qaw (SE.Qbr (Can.es {es:=[],bs:=[],ro:=true}) 88 (spB (ksN m) (ksN m + c) (ksG m))) 2 0 (ksN m))) (0 + Int.toNat (↑x : Int))),Prod.snd (Qeh (ksS m) (Qc6 m 4000) (Qd3 m) (Qbz (Qaw (SE.Qbr (Can.es {es:=[],bs:=[],ro:=true}) 88 (spB (ksN m) (ksN m + c) (ksG m))) 2 0 (ksN m))) (0 + Int.toNat (↑x : Int))))) (Qc6 m 4000))) (hid (Qd2 (Qpu m) 256))) (R (yF false)) ((((0 : Int) ≤ ((↑x : Int)))∧((((↑x : Int)) : Int) < ((↑(Qbb 0 (ksS m) (ksN m)) : Int))))∧(((((Qbb 0 (ksS m) (ksN m)) : Nat) = (Qbb 0 (ksS m) (ksN m)))∧((Qi2 (Qbb 0 (ksS m) (ksN m)) fun y => [yI (Prod.fst (Qeh (ksS m) (Qc6 m 4000) (Qd3 m) (Qbz (Qaw (SE.Qbr (Can.es {es:=[],bs:=[],ro:=true}) 88 (spB (ksN m) (ksN m + c) (ksG m))) 2 0 (ksN m))) (0 + y))),yI (Prod.snd (Qeh (ksS m) (Qc6 m 4000) (Qd3 m) (Qbz (Qaw (SE.Qbr (Can.es {es:=[],bs:=[],ro:=true}) 88 (spB (ksN m) (ksN m + c) (ksG m))) 2 0 (ksN m))) (0 + y)))])∧((Qwn (Qri (ksS m)) (Qed m) (ShB.r (ksS m)) (Qbb 0 (ksS m) (ksN m)) fun i => gi [yI (Prod.fst (Qeh (ksS m) (Qc6 m 4000) (Qd3 m) (Qbz (Qaw (SE.Qbr (Can.es {es:=[],bs:=[],ro:=true}) 88 (spB (ksN m) (ksN m + c) (ksG m))) 2 0 (ksN m))) (0 + i))),yI (Prod.snd (Qeh (ksS m) (Qc6 m 4000) (Qd3 m) (Qbz (Qaw (SE.Qbr (Can.es {es:=[],bs:=[],ro:=true}) 88 (spB (ksN m) (ksN m + c) (ksG m))) 2 0 (ksN m))) (0 + i)))])∧((Zim (Qri (ksS m)) (Qed m) (Qbb 0 (ksS m) (ksN m)) (fun i => gi [yI (Prod.fst (Qeh (ksS m) (Qc6 m 4000) (Qd3 m) (Qbz (Qaw (SE.Qbr (Can.es {es:=[],bs:=[],ro:=true}) 88 (spB (ksN m) (ksN m + c) (ksG m))) 2 0 (ksN m))) (0 + i))),yI (Prod.snd (Qeh (ksS m) (Qc6 m 4000) (Qd3 m) (Qbz (Qaw (SE.Qbr (Can.es {es:=[],bs:=[],ro:=true}) 88 (spB (ksN m) (ksN m + c) (ksG m))) 2 0 (ksN m))) (0 + i)))]) (Qed m))∧((P21 (Prod.fst (Qeh (ksS m) (Qc6 m 4000) (Qd3 m) (Qbz (Qaw (SE.Qbr (Can.es {es:=[],bs:=[],ro:=true}) 88 (spB (ksN m) (ksN m + c) (ksG m))) 2 0 (ksN m))) (0 + Int.toNat (↑x : Int)))))∧(P21 (Prod.snd (Qeh (ksS m) (Qc6 m 4000) (Qd3 m) (Qbz (Qaw (SE.Qbr (Can.es {es:=[],bs:=[],ro:=true}) 88 (spB (ksN m) (ksN m + c) (ksG m))) 2 0 (ksN m))) (0 + Int.toNat (↑x : Int))))))))))∧(∃ x' : Nat,(((Nat.le x' N)∧(((yI (IntKind.wrap IntKind.i64 ((↑x : Int) + 1))) = (yI ((↑x' : Int))))∧True))∧(((N - x') : Nat) < (N - x)))))))))))))))))))) (((I64 (Prod.fst (Qel (Qc6 m 4000))))∧(I64 (Prod.snd (Qel (Qc6 m 4000)))))∧((((I64 (NB.v (VB.x (Qes (Qed m)))))∧(I64 (NB.v (VB.y (Qes (Qed m))))))∧((I64 (NB.v (VB.x (Qc6 m 4000))))∧(I64 (NB.v (VB.y (Qc6 m 4000))))))∧(((I64 (NB.v (VB.x (Qmr (Qes (Qed m)) (Qc6 m 4000)))))∧(I64 (NB.v (hid (Qd2 1 512)))))∧(sel (Qy5 (VB.x (Qmr (Qes (Qed m)) (Qc6 m 4000))) (hid (Qd2 1 512))) (((I64 (NB.v (VB.y (Qmr (Qes (Qed m)) (Qc6 m 4000)))))∧(I64 (NB.v (hid (Qd2 1 512)))))∧(sel (Qy5 (VB.y (Qmr (Qes (Qed m)) (Qc6 m 4000))) (hid (Qd2 1 512))) (((((Qbb 0 (ksS m) (ksN m)) : Nat) = (Qbb 0 (ksS m) (ksN m)))∧((Qi2 (Qbb 0 (ksS m) (ksN m)) fun y => [yI (Prod.fst (Qeh (ksS m) (Qc6 m 4000) (Qd3 m) (Qbz (Qaw (SE.Qbr (Can.es {es:=[],bs:=[],ro:=true}) 88 (spB (ksN m) (ksN m + c) (ksG m))) 2 0 (ksN m))) (0 + y))),yI (Prod.snd (Qeh (ksS m) (Qc6 m 4000) (Qd3 m) (Qbz (Qaw (SE.Qbr (Can.es {es:=[],bs:=[],ro:=true}) 88 (spB (ksN m) (ksN m + c) (ksG m))) 2 0 (ksN m))) (0 + y)))])∧((Qwn (Qri (ksS m)) (Qed m) (ShB.r (ksS m)) (Qbb 0 (ksS m) (ksN m)) fun i => gi [yI (Prod.fst (Qeh (ksS m) (Qc6 m 4000) (Qd3 m) (Qbz (Qaw (SE.Qbr (Can.es {es:=[],bs:=[],ro:=true}) 88 (spB (ksN m) (ksN m + c) (ksG m))) 2 0 (ksN m))) (0 + i))),yI (Prod.snd (Qeh (ksS m) (Qc6 m 4000) (Qd3 m) (Qbz (Qaw (SE.Qbr (Can.es {es:=[],bs:=[],ro:=true}) 88 (spB (ksN m) (ksN m + c) (ksG m))) 2 0 (ksN m))) (0 + i)))])∧(Zim (Qri (ksS m)) (Qed m) (Qbb 0 (ksS m) (ksN m)) (fun i => gi [yI (Prod.fst (Qeh (ksS m) (Qc6 m 4000) (Qd3 m) (Qbz (Qaw (SE.Qbr (Can.es {es:=[],bs:=[],ro:=true}) 88 (spB (ksN m) (ksN m + c) (ksG m))) 2 0 (ksN m))) (0 + i))),yI (Prod.snd (Qeh (ksS m) (Qc6 m 4000) (Qd3 m) (Qbz (Qaw (SE.Qbr (Can.es {es:=[],bs:=[],ro:=true}) 88 (spB (ksN m) (ksN m + c) (ksG m))) 2 0 (ksN m))) (0 + i)))]) (Qed m)))))∧((I64 (NB.v (hid (Qd2 1 512))))∧(R (yF (strOfNums (Q0g (Qaa (NB.v (hid (Qd2 1 512)))) (Qav (NB.v (hid (Qd2 1 512))) (NB.f (hid (Qd2 1 512))))) == {data:=#[48,46,48,48,49,57,53,51,49,50,53]}))))) (R (yF false)))) (R (yF false))))))))))))))))))))))) := by kernel_rfl
theorem Quo : hid (Qd2 1 512) = ⟨8388608, false⟩ := by
 rw [Qsf]
 exact Qfv (e := 8388608) ⟨by omega, by omega⟩
theorem Qrr {a n : Int} (ha : -n ≤ a ∧ a ≤ n) (hn : n ≤ 9223372036854775807) : Qy5 ⟨a, false⟩ ⟨n, false⟩ = true := by
 show (!false && decide (Qac (Qaa a) ≤ Qaa n)) = true
 rw [Qby (by omega), Qby (by omega), decide_eq_true (by unfold Qac; split <;> omega)]; rfl
theorem Qkh {a b : Int} (ha : -100000000000000 ≤ a ∧ a ≤ 100000000000000) (hb : -100000000000000 ≤ b ∧ b ≤ 100000000000000) : Q41 ⟨a, false⟩ ⟨b, false⟩ = ⟨a - b, false⟩ := by
 show (⟨Qar (Qaa a - Qaa b), Qcy (Qaa a - Qaa b) (Qav a false || Qav b false)⟩ : NB) = _
 rw [Qby (by omega), Qby (by omega), Qb8 (by omega), Qb8 (by omega), Qeu ⟨by omega, by omega⟩, Qet ⟨by omega, by omega⟩]; rfl
theorem Quc {p : VB} (hp : Q44 p) : p = ⟨⟨p.x.v, false⟩, ⟨p.y.v, false⟩⟩ := by
 obtain ⟨⟨fx, fy⟩, -⟩ := hp
 obtain ⟨⟨x, f⟩, ⟨y, g⟩⟩ := p
 obtain rfl : f = false := fx
 obtain rfl : g = false := fy
 rfl
theorem Zh5 {p r : VB} {l : Int × Int} (hp : Q44 p) (hr : Qy9 r) (h1 : Q13 l.1) (h2 : Q13 l.2) : Qy5 (Qmr (Qes (Qel (Qfk p (Qdp r (Qes l))))) (Qfk p (Qdp r (Qes l)))).x (hid (Qd2 1 512)) = true ∧ Qy5 (Qmr (Qes (Qel (Qfk p (Qdp r (Qes l))))) (Qfk p (Qdp r (Qes l)))).y (hid (Qd2 1 512)) = true := by
 obtain ⟨f1, f2⟩ := Qfs hp hr h1 h2 (Ql9 hp hr h1 h2)
 rw [Qwg f1 f2, Zhc hp hr h1 h2, Quo]
 obtain ⟨a1, a2⟩ := Qx7 hr h1 h2
 obtain ⟨e1, t1, _, _⟩ := Qtw (aV r l).1
 obtain ⟨e2, t2, _, _⟩ := Qtw (aV r l).2
 obtain ⟨-, px, py⟩ := hp
 unfold Qel Qmr
 simp only
 rw [Qit ⟨by omega, by omega⟩, Qit ⟨by omega, by omega⟩]
 generalize Int.tdiv (aV r l).1 256 = d1 at *
 generalize Int.tdiv (aV r l).2 256 = d2 at *
 rw [Qkh ⟨by omega, by omega⟩ ⟨by omega, by omega⟩, Qkh ⟨by omega, by omega⟩ ⟨by omega, by omega⟩]
 exact ⟨Qrr ⟨by omega, by omega⟩ (by decide), Qrr ⟨by omega, by omega⟩ (by decide)⟩
theorem Ziu {p r : VB} (hp : Q44 p) (hr : Qy9 r) : Qy5 (Qmr (Qes (Qel p)) p).x (hid (Qd2 1 512)) = true ∧ Qy5 (Qmr (Qes (Qel p)) p).y (hid (Qd2 1 512)) = true := by
 have hz : Q13 0 := ⟨by decide, by decide⟩
 obtain ⟨f1, f2⟩ := Qfs (l := (0, 0)) hp hr hz hz (Qqz hp)
 rw [Qwg f1 f2, Quo]
 have e := Quc hp
 obtain ⟨-, px, py⟩ := hp
 rw [e]
 generalize p.x.v = x at *
 generalize p.y.v = y at *
 unfold Qel Qmr
 simp only
 rw [Qit ⟨by omega, by omega⟩, Qit ⟨by omega, by omega⟩]
 rw [Qkh ⟨by omega, by omega⟩ ⟨by omega, by omega⟩, Qkh ⟨by omega, by omega⟩ ⟨by omega, by omega⟩]
 exact ⟨Qrr ⟨by omega, by omega⟩ (by decide), Qrr ⟨by omega, by omega⟩ (by decide)⟩
theorem Q2v {p r : VB} {l : Int × Int} {R : Int} (hp : Q44 p) (hr : Qy9 r) (h1 : Q13 l.1) (h2 : Q13 l.2) (hR : 0 ≤ R ∧ R ≤ 8192) (hd : Qea l l ≤ R * R) : Qy5 (Qgd (Qmr (Qes (Qel (Qfk p (Qdp r (Qes l))))) p)) (hid (Qd2 (IntKind.i64.wrap (R + 2)) 256)) = true := by
 have hn := Ql9 hp hr h1 h2
 obtain ⟨f1, f2⟩ := Qfs hp hr h1 h2 hn
 rw [Qwg f1 f2, Qsf, Qag ⟨by omega, by omega⟩, Q1z ⟨by omega, by omega⟩]
 obtain ⟨E, F, ⟨n1, n2, n3⟩, n4, n5, n6⟩ := hn
 obtain ⟨a1, a2⟩ := Qx7 hr h1 h2
 have hs := Zme hr hR hd
 generalize Qel (Qfk p (Qdp r (Qes l))) = P at *
 have e := Quc hp
 obtain ⟨-, px, py⟩ := hp
 rw [e]
 obtain ⟨_, _⟩ := f1
 obtain ⟨_, _⟩ := f2
 generalize p.x.v = x at *
 generalize p.y.v = y at *
 unfold Qgd Qmr
 simp only
 rw [Qkh ⟨by omega, by omega⟩ ⟨by omega, by omega⟩, Qkh ⟨by omega, by omega⟩ ⟨by omega, by omega⟩]
 have hc := Q7a (a := P.1 * 16777216 - x) (b := P.2 * 16777216 - y) (A := (aV r l).1) (B := (aV r l).2) (E := E) (F := F) hR (by omega) (by omega) ⟨n2, n3⟩ ⟨n5, n6⟩ hs
 have pa : P62 (P.1 * 16777216 - x) := ⟨by omega, by omega⟩
 have pb : P62 (P.2 * 16777216 - y) := ⟨by omega, by omega⟩
 rw [Zik pa pb]
 obtain ⟨q1, q2⟩ := Zjl pa
 obtain ⟨q3, q4⟩ := Zjl pb
 have hi := Zig (B := 16777216 * (R + 2)) (by omega) (by omega) (by omega) hc
 obtain ⟨i1, _⟩ := Q9n pa pb
 refine Qrr ⟨?_, ?_⟩ ?_ <;> omega
theorem Q1w {r : Int} {g : Nat → Int × Int} (hr : 0 ≤ r) : ∀ k : Nat, (∀ i, i < k → Qea (g i) (g i) ≤ 1099511627776) → 0 ≤ Qm3 r g k ∧ ∀ i, i < k → Qea (g i) (g i) ≤ Qm3 r g k * Qm3 r g k
 | 0, _ => ⟨hr, fun i hi => absurd hi (Nat.not_lt_zero _)⟩
 | k + 1, h2 => by
   obtain ⟨b, c⟩ := Q1w hr k (fun i hi => h2 i (by omega))
   have e := (Qmv (h2 k (by omega))).1
   have hm : ∀ x : Int, 0 ≤ x → x ≤ Qm3 r g (k + 1) → x * x ≤ Qm3 r g (k + 1) * Qm3 r g (k + 1) := fun x h0 h1 => Int.mul_le_mul h1 h1 h0 (by omega)
   have hx : Qm3 r g (k + 1) = max (Qm3 r g k) (Qvq (Qea (g k) (g k))) := rfl
   refine ⟨by omega, fun i hi => ?_⟩
   by_cases hik : i = k
   · subst hik
     exact Int.le_trans e (hm _ (by omega) (by omega))
   · exact Int.le_trans (c i (by omega)) (hm _ b (by omega))
theorem Qox {x : Int} (h : Q12 x) : Q13 x := ⟨by have := h.1; omega, by have := h.2; omega⟩
theorem Ziv {p : VB} (hp : Q44 p) : (-1024001 ≤ (Qel p).1 ∧ (Qel p).1 ≤ 1024001) ∧ -1024001 ≤ (Qel p).2 ∧ (Qel p).2 ≤ 1024001 := by
 have e := Quc hp
 obtain ⟨-, px, py⟩ := hp
 rw [e]
 unfold Qel
 simp only
 rw [Qit ⟨by omega, by omega⟩, Qit ⟨by omega, by omega⟩]
 omega
theorem Q6g (m : MD) : Qwn (Qri (ksS m)) (Qel (Qc6 m 4000)) (ksS m).r (Qbb 0 (ksS m) (ksN m)) (Qeh (ksS m) (Qc6 m 4000) (Qd3 m) (ksG m)) ∧ Zim (Qri (ksS m)) (Qel (Qc6 m 4000)) (Qbb 0 (ksS m) (ksN m)) (Qeh (ksS m) (Qc6 m 4000) (Qd3 m) (ksG m)) (Qel (Qc6 m 4000)) := by
 have hp := Zhw m
 have hr := Zhk m
 have hz : Q13 0 := ⟨by decide, by decide⟩
 have hcn := Qqz (r := Qd3 m) hp
 have f0 := Qfs (l := (0, 0)) hp hr hz hz hcn
 have hci := Ziv hp
 by_cases hk : ksS m = Q27 (ksX m.a m.a)
 · have hN : Qbb 0 (ksS m) (ksN m) = 0 := by
     rw [hk]
     rcases Qjw m with ⟨_, e2⟩ | ⟨e1, _⟩ | ⟨e1, _, _⟩ | ⟨e1, _, _⟩ | ⟨e1, _, _⟩
     · rw [e2]; rfl
     all_goals rw [hk] at e1; exact absurd (congrArg ShB.k e1) (by first | exact (by decide : ¬ (1 : Int) = 2) | exact (by decide : ¬ (1 : Int) = 3))
   have hx := Qsa m.a m.a
   rw [hN, hk]
   refine ⟨Or.inl ⟨rfl, rfl, f0, ⟨?_, ?_⟩, ⟨⟨?_, ?_⟩, ⟨?_, ?_⟩⟩, ⟨?_, ?_⟩, ⟨?_, ?_⟩⟩, f0, Or.inl ⟨rfl, rfl⟩⟩
   all_goals
     show (_ : Int) ≤ _
     simp only [Q27]
     omega
 · obtain ⟨h3, hg⟩ := Zl7 m hk
   obtain ⟨_, hch, _, _, h8, _⟩ := Quh m
   have hq := Qwt hch
   have hk2 : Qri (ksS m) = 2 := by
     rcases Qjw m with ⟨e1, _⟩ | ⟨e1, _⟩ | ⟨e1, _, _⟩ | ⟨e1, _, _⟩ | ⟨e1, _, _⟩
     · exact absurd e1 hk
     all_goals rw [e1]; rfl
   have hr0 : (ksS m).r = 0 := by
     rcases Qjw m with ⟨e1, _⟩ | ⟨e1, _⟩ | ⟨e1, _, _⟩ | ⟨e1, _, _⟩ | ⟨e1, _, _⟩
     · exact absurd e1 hk
     all_goals rw [e1]; rfl
   have hnr : ∀ i, i < Qbb 0 (ksS m) (ksN m) → Qs6 (Qc6 m 4000) (Qd3 m) (Qbh (ksS m) (ksG m) i) (Qeh (ksS m) (Qc6 m 4000) (Qd3 m) (ksG m) i) := fun i hi => Ql9 hp hr (Qox (hq i hi).1) (Qox (hq i hi).2)
   have hfr : ∀ i, i < Qbb 0 (ksS m) (ksN m) → P21 (Qeh (ksS m) (Qc6 m 4000) (Qd3 m) (ksG m) i).1 ∧ P21 (Qeh (ksS m) (Qc6 m 4000) (Qd3 m) (ksG m) i).2 := fun i hi => Qfs hp hr (Qox (hq i hi).1) (Qox (hq i hi).2) (hnr i hi)
   have hmod : ∀ k, (k + 1) % Qbb 0 (ksS m) (ksN m) < Qbb 0 (ksS m) (ksN m) := fun k => Nat.mod_lt _ (by omega)
   rw [hk2, hr0]
   refine ⟨Or.inr ⟨rfl, rfl, f0, ⟨h3, h8⟩, hfr, fun k i hkn hi n1 n2 => ?_⟩, f0, Or.inr ⟨rfl, fun j hj => ?_⟩⟩
   · exact Q0e hr (hnr k hkn) (hnr _ (hmod k)) (hnr i hi) ((hg k hkn).2 i hi n1 n2)
   · exact Int.le_of_lt (Q0e hr (hnr j hj) (hnr _ (hmod j)) hcn (hg j hj).1)
theorem Zhx (m : MD) : Zhy (ksS m) (Qc6 m 4000) (Qd3 m) (ksN m) (ksG m) := by
 obtain ⟨h1, h2, h3, h4, h5, h6⟩ := Quh m
 have ins : ∀ x : Int, Q9o (Qha x 4000) = true := fun x => by
   have h := Qhq x (s := 4000) (m := 17179869184000) (by rfl) (by decide)
   have e : (Qy8 (Qha x 4000)) = ⟨Qac (Qha x 4000).v, false⟩ := by
     unfold Qy8
     rw [Qby (by omega), Qb8 (by omega)]; rfl
   unfold Q9o
   rw [e]
   show (!(false || decide (Qac (Qha x 4000).v > 17592186044416))) = true
   rw [decide_eq_false (by unfold Qac; split <;> omega)]; rfl
 have hx := Qhq m.x (s := 4000) (m := 17179869184000) (by rfl) (by decide)
 have hy := Qhq m.y (s := 4000) (m := 17179869184000) (by rfl) (by decide)
 exact ⟨h1, ⟨⟨by show _ ≤ (Qha m.x 4000).v; omega, by show (Qha m.x 4000).v < _; omega⟩, ⟨by show _ ≤ (Qha m.y 4000).v; omega, by show (Qha m.y 4000).v < _; omega⟩⟩, Zl0 (Q9d m), h2, (Q9d m).2.2.2.2, ins m.x, ins m.y, by omega⟩
theorem Zb4 : (strOfNums (Q0g (Qaa 8388608) (Qav 8388608 false)) == { data := #[48, 46, 48, 48, 49, 57, 53, 51, 49, 50, 53] }) = true := by decide +kernel
theorem Qxz (a b : Int) : I64 (hid (Qd2 a b)).v := by rw [Qsf]; exact Qgq a b
theorem Qrw (u v : VB) : I64 (Qmr u v).x.v ∧ I64 (Qmr u v).y.v := ⟨Qg8 _ _, Qg8 _ _⟩
theorem Zie (u : VB) : I64 (Qgd u).v := (Qbp _).i64
theorem nF {b : Bool} (h : b = true) : (!b) = false := by rw [h]; rfl
theorem Zi7 {m : MD} (h0 : mdI m) : Qau Tryz.prog Zj9 (Zj1 (Qbb 0 (ksS m) (ksN m))) Tryz.f4 [mdS m] (fun y => y = bV true) := by
 obtain ⟨h1, h2, h3, h4, h5, h6⟩ := Quh m
 have hn : ksN m < 1099511627776 := by omega
 have hP := Zhx m
 have hok : Qcc Qsc (Qal (ksN m) fun y => [SV.v (.int .i64 (ksG m (0 + y)).1), SV.v (.int .i64 (ksG m (0 + y)).2)]) := okAll_rows.2 fun i hi => (by rw [Nat.zero_add]; exact h6 i hi)
 have hq := Qwt h2
 have hrc := Q1x (Q7k h2) _ hq
 have hrg := (Q1w (g := Qbh (ksS m) (ksG m)) (Q7k h2).1 (Qbb 0 (ksS m) (ksN m)) (fun i hi => by have := Qgf (hq i hi) (hq i hi); omega)).2
 have hp := Zhw m
 have hr := Zhk m
 obtain ⟨hf, hh⟩ := Q6g m
 refine Eq.mpr (Zkk m _ _) ?_
 repeat (first | unfold Qed | unfold Qpu)
 refine ⟨h0, fun c => ?_⟩
 rw [Q5i, gz, h2]
 refine ⟨⟨by decide, by decide⟩, ⟨hP, Qv5 hn h6⟩, fun c1 => ⟨⟨h1, Qv5 hn h6⟩, fun c2 => ⟨⟨h1, hok, rfl, hn⟩, sF rfl (sF (by simp) ⟨⟨⟨by decide, by decide⟩, ⟨by decide, by decide⟩⟩, ⟨h1, hok, rfl, hn⟩, ⟨?_, Q2m⟩, ⟨0, Nat.zero_le _, rfl, trivial⟩, fun x hx => ?_⟩)⟩⟩⟩
 · show I64 (IntKind.i64.wrap (Qm3 (ksS m).r (Qbh (ksS m) (ksG m)) (Qbb 0 (ksS m) (ksN m)) + 2))
   rw [Qag ⟨by omega, by omega⟩]
   exact ⟨by omega, by omega⟩
 · rw [Int.toNat_natCast, Nat.zero_add, gz]
   refine Qaf (fun hlt => ?_) fun hge => ?_
   · have hlt := of_decide_eq_true hlt
     have hxN : x < Qbb 0 (ksS m) (ksN m) := by omega
     have l1 := Qox (hq x hxN).1
     have l2 := Qox (hq x hxN).2
     have hpf := Qfs hp hr l1 l2 (Ql9 hp hr l1 l2)
     have ho := Zh5 hp hr l1 l2
     have hl := Q2v hp hr l1 l2 hrc (hrg x hxN)
     refine ⟨⟨by omega, hlt⟩, ⟨hpf.1.i64, hpf.2.i64⟩, ⟨by omega, hlt⟩, ⟨l1.p21.i64, l2.p21.i64⟩, ⟨⟨hP.2.1.1, hP.2.1.2⟩, ⟨hP.2.2.1.1, hP.2.2.1.2⟩, Q2s _⟩, ⟨Q2s _, Q96 _ _⟩, ⟨(Qrw _ _).1, Qxz _ _⟩, sF (nF ho.1) ⟨⟨(Qrw _ _).2, Qxz _ _⟩, sF (nF ho.2) ⟨⟨Q2s _, hP.2.1.1, hP.2.1.2⟩, Qrw _ _, ⟨Zie _, Qxz _ _⟩, sF (nF hl) ⟨⟨by omega, hlt⟩, ⟨rfl, fun i hi => rfl, hf, hh, hpf.1, hpf.2⟩, ⟨x + 1, ⟨hxN, ?_, trivial⟩, by omega⟩⟩⟩⟩⟩
     rw [Qag ⟨by omega, by omega⟩]; rfl
   · have hc := Ziu hp hr
     have hz : Q13 0 := ⟨by decide, by decide⟩
     have f0 := Qfs (l := (0, 0)) hp hr hz hz (Qqz hp)
     refine ⟨⟨f0.1.i64, f0.2.i64⟩, ⟨Q2s _, hP.2.1.1, hP.2.1.2⟩, ⟨(Qrw _ _).1, Qxz _ _⟩, sT hc.1 ⟨⟨(Qrw _ _).2, Qxz _ _⟩, sT hc.2 ⟨⟨rfl, fun i hi => rfl, hf, hh⟩, Qxz _ _, ?_⟩⟩⟩
     rw [Quo]
     exact congrArg bV Zb4
def sTpl : List SV → Option (Option Prop × SV)
 | [.agg [.v (.int .i64 k), .v (.int .i64 a), .v (.int .i64 b), .v (.int .i64 x), .v (.int .i64 y), .v (.int .i64 w)]] => some (some (mdI ⟨k, a, b, x, y, w⟩), .v (.bool true))
 | _ => none
theorem Q6p : Q6q = i2B Qd2 := funext fun args => by
 unfold Q6q i2B
 split
 · rw [Qsf]
 · rename_i h
   split <;> first | rfl | exact absurd rfl (h _ _)
theorem Q34 : Qai Tryz.prog 9 Q6q := by rw [Q6p]; exact Qlb
theorem Zap : ∀ f g, Zj9 f = some g → g.ok Tryz.prog f := Qab (Qab (Qab (Qab (Qab (Qab (Qab (Qab Q8y (Qhu Tryz.func22 (by kernel_rfl) (by kernel_rfl) Q75)) (Qak Tryz.func23 (by kernel_rfl) (by kernel_rfl) Q4c)) (Qhu Tryz.func24 (by kernel_rfl) (by kernel_rfl) Q8a)) (Qc0 Tryz.func32 (by kernel_rfl) (by kernel_rfl) Q4z)) (Qc0 Tryz.func33 (by kernel_rfl) (by kernel_rfl) Q4n)) (Qak Tryz.func30 (by kernel_rfl) (by kernel_rfl) Q7y)) (Qak Tryz.func21 (by kernel_rfl) (by kernel_rfl) Q3x)) (Qak Tryz.func9 (by kernel_rfl) (by kernel_rfl) Q34)
theorem Q71 : Qai Tryz.prog 4 sTpl := Qan hm Zap Tryz.func4 (Λ := fun args => match args with
 | [.agg [.v (.int .i64 k), .v (.int .i64 a), .v (.int .i64 b), .v (.int .i64 x), .v (.int .i64 y), .v (.int .i64 w)]] => Zj1 (Qbb 0 (ksS ⟨k, a, b, x, y, w⟩) (ksN ⟨k, a, b, x, y, w⟩))
 | _ => Qax) fun args p x h hp => by
 unfold sTpl at h
 split at h <;> try (cases h; done)
 rename_i k a b x y w
 cases h
 exact ⟨rfl, rfl, Zi7 (m := ⟨k, a, b, x, y, w⟩) (hp _ rfl)⟩
end Go.Proofs.YteekigmbopdfjaaGreat
end
