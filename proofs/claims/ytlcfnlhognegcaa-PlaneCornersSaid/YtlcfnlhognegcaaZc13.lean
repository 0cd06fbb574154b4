/-
  What the proof uses, part 13.
-/
import Derived.Deep.Slices
import Derived.Deep.Fields
import Derived.Test.YtlcfnlhognegcaaZc12
set_option maxRecDepth 100000
set_option linter.unusedSimpArgs false
set_option linter.unusedVariables false

section
namespace Go.Proofs.Ytlcfnlhognegcaa
open Go.ChangeShapes Go.WideShapes Go.ChangeAt Go.RowKit Go.SE Go.Deep
section
variable {H : Type} {enc : TypeId × Value → H}
def listD (ls : List SE.Loc) : Dict := fun k => ls[k]?
theorem list_rep {W : World} {ls : List SE.Loc} {bs : List Ro} (h : ∀ (k : Nat) (b : Ro), bs[k]? = some b → ∃ l, ls[k]? = some l ∧ Live (listD ls) b.blk W l) : HRep (listD ls) (heapOf (bs.map Ro.blk)) W := by
  refine ⟨fun k b' hk => ?_, fun k k' r b' h1 h2 hk hrw => ?_⟩
  · simp only [heapOf, List.getElem?_map] at hk
    cases hb : bs[k]? with
    | none => rw [hb] at hk; cases hk
    | some b =>
      rw [hb] at hk
      cases hk
      obtain ⟨l, h1, h2⟩ := h k b hb
      exact ⟨l, h1, fun _ => h2⟩
  · simp only [heapOf, List.getElem?_map] at hk
    cases hb : bs[k]? with
    | none => rw [hb] at hk; cases hk
    | some b => rw [hb] at hk; cases hk; cases hrw
theorem roOf_map : ∀ bs : List Ro, roOf (bs.map Ro.blk) = some bs
  | [] => rfl
  | b :: bs => by
    simp only [List.map_cons, roOf, roOf_map bs]
    rfl
theorem ro_calls {f : FuncId} {spec : List SV → List Ro → Option (Option Prop × SV)} (h : RoSpec Try.prog f spec) {args : List SV} {vs : List Value} {ls : List SE.Loc} {bs : List Ro} {W : World} (ha : absL (listD ls) args vs)
    (hl : ∀ (k : Nat) (b : Ro), bs[k]? = some b → ∃ l, ls[k]? = some l ∧ Live (listD ls) b.blk W l) (hn : ls.length = bs.length) (hb : bs.length ≤ 1000) {p : Prop} (hs : spec args bs = some (some p, .v (.bool true))) (hp : p) :
    Calls Try.prog f vs.toArray W fun e W' => e = .returned (.bool true) ∧ Below W.heap.size W W' := by
  have hs' : roSpec spec args (bs.map Ro.blk) = some (.det (some p) (.v (.bool true)) []) := by
    unfold roSpec
    rw [roOf_map]
    show (match spec args bs with | some (p, x) => some (Eff.det p x []) | none => none) = _
    rw [hs]
  refine (h _ _ _ hs' (fun q hq => by cases hq; exact hp) (listD ls) W vs ha (list_rep hl) (fun k hk => ?_) (by simpa using hb)).mono fun e W' ⟨r, x, u, δ', h1, h2, _, h4, h5⟩ => ?_
  · simp only [heapOf, List.getElem?_map, Option.map_eq_none_iff, List.getElem?_eq_none_iff] at hk
    simp only [listD, List.getElem?_eq_none_iff]
    omega
  · obtain ⟨rfl, rfl⟩ := h2
    simp only [absV] at h4
    subst h4
    refine ⟨h1, h5.wrel.os, h5.wrel.tape, h5.wrel.output, h5.wrel.size, fun k hk => h5.wrel.block k hk ?_⟩
    rintro ⟨k', b, hb, hrw, _⟩
    simp only [heapOf, List.getElem?_map] at hb
    cases hb' : bs[k']? with
    | none => rw [hb'] at hb; cases hb
    | some b => rw [hb'] at hb; cases hb; cases hrw
end
end Go.Proofs.Ytlcfnlhognegcaa
end
section
namespace Go.Proofs.Ytlcfnlhognegcaa
open Go.SE
theorem wrapT_km (v : Int) : ∃ k : Int, wrapT v = v - 26986075409 * k := by
  have e := Int.tmod_add_mul_tdiv v 26986075409
  unfold wrapT
  generalize Int.tmod v 26986075409 = r at *
  generalize Int.tdiv v 26986075409 = q at *
  split
  · exact ⟨q + 1, by omega⟩
  · split
    · exact ⟨q - 1, by omega⟩
    · exact ⟨q, by omega⟩
theorem wrapT_per {v w k : Int} (h : w = v - 26986075409 * k) : wrapT w = wrapT v := by
  obtain ⟨a, ha⟩ := wrapT_km v
  obtain ⟨b, hb⟩ := wrapT_km w
  have h1 := @wrapT_in v
  have h2 := @wrapT_in w
  omega
def tri (v : Int) : Int := foldT (wrapT v)
theorem tri_in (v : Int) : -6746518852 ≤ tri v ∧ tri v ≤ 6746518852 := foldT_in wrapT_in
theorem tri_lip {v w d : Int} (h : -d ≤ v - w ∧ v - w ≤ d) : -d ≤ tri v - tri w ∧ tri v - tri w ≤ d := by
  obtain ⟨a, ha⟩ := wrapT_km v
  obtain ⟨b, hb⟩ := wrapT_km w
  have h1 := @wrapT_in v
  have h2 := @wrapT_in w
  unfold tri foldT
  generalize wrapT v = x at *
  generalize wrapT w = y at *
  rcases Int.lt_trichotomy a b with hab | hab | hab
  · have : a - b ≤ -1 := by omega
    (repeat' split) <;> omega
  · subst hab
    (repeat' split) <;> omega
  · have : 1 ≤ a - b := by omega
    (repeat' split) <;> omega
def plip : List Int → Int → Int
  | [], _ => 0
  | _ :: p, q => q * plip p q + pab p q
theorem pev_lip {x y q : Int} (hx : 0 ≤ x ∧ x ≤ q) (hy : 0 ≤ y ∧ y ≤ q) : ∀ p, ∃ z, pev p x - pev p y = (x - y) * z ∧ -plip p q ≤ z ∧ z ≤ plip p q
  | [] => ⟨0, by simp [pev], by simp [plip], by simp [plip]⟩
  | c :: p => by
    obtain ⟨z, e, l, u⟩ := pev_lip hx hy p
    have b := pev_in hy.1 hy.2 p
    have t := mul_in (p := x) (q := z) (P := q) (Q := plip p q) (by omega) (by omega) hx.2 l u
    refine ⟨x * z + pev p y, ?_, ?_, ?_⟩
    · show c + x * pev p x - (c + y * pev p y) = (x - y) * (x * z + pev p y)
      have : pev p x = pev p y + (x - y) * z := by omega
      rw [this]
      grind
    · show -(q * plip p q + pab p q) ≤ _
      omega
    · show _ ≤ q * plip p q + pab p q
      omega
theorem PL_lip : plip PL 6746518852 ≤ 3 * DD := by decide +kernel
theorem uT_lip0 {a b d : Int} (ha : 0 ≤ a ∧ a ≤ 6746518852) (hb : 0 ≤ b ∧ b ≤ 6746518852) (h : -d ≤ a - b ∧ a - b ≤ d) : -(3 * d + 24) ≤ uT a 8 - uT b 8 ∧ uT a 8 - uT b 8 ≤ 3 * d + 24 := by
  have u1 := uT_in ha.1 ha.2
  have u2 := uT_in hb.1 hb.2
  obtain ⟨z, e, l, u⟩ := pev_lip ha hb PL
  have hp := PL_lip
  have hD : 0 < DD := CC_pos 8
  have hd : 0 ≤ d := by omega
  generalize DD = D at *
  have t := mul_in (p := a - b) (q := z) (P := d) (Q := 3 * D) hd h.1 h.2 (by omega) (by omega)
  have e2 : d * (3 * D) = 3 * (D * d) := by grind
  have e3 : D * (uT a 8 - uT b 8) = D * uT a 8 - D * uT b 8 := Int.mul_sub _ _ _
  have e4 : D * (3 * d + 24) = 3 * (D * d) + 24 * D := by grind
  constructor
  · refine Int.le_of_mul_le_mul_left ?_ hD
    rw [Int.mul_neg, e4, e3]
    omega
  · refine Int.le_of_mul_le_mul_left ?_ hD
    rw [e4, e3]
    omega
theorem uT_zero : uT 0 8 = 0 := by decide +kernel
theorem uT_lip {a b d : Int} (ha : InQ a) (hb : InQ b) (h : -d ≤ a - b ∧ a - b ≤ d) : -(3 * d + 48) ≤ uT a 8 - uT b 8 ∧ uT a 8 - uT b 8 ≤ 3 * d + 48 := by
  obtain ⟨a0, a1⟩ := ha
  obtain ⟨b0, b1⟩ := hb
  have na := uT_neg a 8
  have nb := uT_neg b 8
  have z := uT_zero
  rcases Int.le_total 0 a with sa | sa <;> rcases Int.le_total 0 b with sb | sb
  · have := uT_lip0 (a := a) (b := b) (d := d) (by omega) (by omega) h
    omega
  · have x := uT_lip0 (a := a) (b := 0) (d := a) (by omega) (by omega) (by omega)
    have y := uT_lip0 (a := -b) (b := 0) (d := -b) (by omega) (by omega) (by omega)
    omega
  · have x := uT_lip0 (a := -a) (b := 0) (d := -a) (by omega) (by omega) (by omega)
    have y := uT_lip0 (a := b) (b := 0) (d := b) (by omega) (by omega) (by omega)
    omega
  · have := uT_lip0 (a := -a) (b := -b) (d := d) (by omega) (by omega) (by omega)
    omega
theorem clE_lip {u w d : Int} (h : -d ≤ u - w ∧ u - w ≤ d) : -d ≤ clE u - clE w ∧ clE u - clE w ≤ d := by
  unfold clE maxE minE
  (repeat' split) <;> omega
def Sn (v : Int) : Int := clE (uT (tri v) 8)
theorem Sn_lip {v w d : Int} (h : -d ≤ v - w ∧ v - w ≤ d) : -(3 * d + 48) ≤ Sn v - Sn w ∧ Sn v - Sn w ≤ 3 * d + 48 := clE_lip (uT_lip (tri_in v) (tri_in w) (tri_lip h))
theorem Sn_per {v w k : Int} (h : w = v - 26986075409 * k) : Sn w = Sn v := by unfold Sn tri; rw [wrapT_per h]
theorem sinN_Sn {v : Int} (h : Sd v) : sinN ⟨v, false⟩ = ⟨Sn v, false⟩ := by
  rw [sinN_eq]
  show (⟨clE (uT (foldT (wrapT (sndV v))) 8), sndF v false⟩ : NB) = _
  rw [h.self, h.flag]; rfl
theorem cosN_Sn {v : Int} (h : Sd v) : cosN ⟨v, false⟩ = ⟨Sn (v + 6746518852), false⟩ := by
  rw [cosN_eq]
  show (⟨clE (uT (foldT (wrapT (wrapT (sndV v) + 6746518852))) 8), sndF v false⟩ : NB) = _
  rw [h.self, h.flag]
  obtain ⟨k, hk⟩ := wrapT_km v
  rw [wrapT_per (v := v + 6746518852) (w := wrapT v + 6746518852) (k := k) (by omega)]; rfl
theorem prod_ap {s a d A D T : Int} (hs : 0 ≤ s) (hT : 0 ≤ T) (ha : -(s * T) ≤ a - s * A ∧ a - s * A ≤ s * T) (hd : -(s * T) ≤ d - s * D ∧ d - s * D ≤ s * T) : -(s * s * (T * (iabs A + iabs D) + T * T)) ≤ a * d - s * s * (A * D) ∧ a * d - s * s * (A * D) ≤ s * s * (T * (iabs A + iabs D) + T * T) := by
  have iA : -iabs A ≤ A ∧ A ≤ iabs A := by unfold iabs; split <;> omega
  have iD : -iabs D ≤ D ∧ D ≤ iabs D := by unfold iabs; split <;> omega
  have nA := iabs_nonneg A
  have nD := iabs_nonneg D
  generalize iabs A = a' at *
  generalize iabs D = d' at *
  have sA := mul_in (p := s) (q := A) (P := s) (Q := a') hs (by omega) (Int.le_refl _) iA.1 iA.2
  have sD := mul_in (p := s) (q := D) (P := s) (Q := d') hs (by omega) (Int.le_refl _) iD.1 iD.2
  have nsA := Int.mul_nonneg hs nA
  have nsD := Int.mul_nonneg hs nD
  have nsT := Int.mul_nonneg hs hT
  have t1 := mul_in (p := s * A) (q := d - s * D) (P := s * a') (Q := s * T) nsA sA.1 sA.2 hd.1 hd.2
  have t2 := mul_in (p := a - s * A) (q := s * D) (P := s * T) (Q := s * d') nsT ha.1 ha.2 sD.1 sD.2
  have t3 := mul_in (p := a - s * A) (q := d - s * D) (P := s * T) (Q := s * T) nsT ha.1 ha.2 hd.1 hd.2
  have e : a * d - s * s * (A * D) = s * A * (d - s * D) + (a - s * A) * (s * D) + (a - s * A) * (d - s * D) := by grind
  have e2 : s * s * (T * (a' + d') + T * T) = s * a' * (s * T) + s * T * (s * d') + s * T * (s * T) := by grind
  rw [e, e2]
  omega
theorem cr_low {s a b c d A B C D T : Int} (hs : 0 ≤ s) (hT : 0 ≤ T) (ha : -(s * T) ≤ a - s * A ∧ a - s * A ≤ s * T) (hb : -(s * T) ≤ b - s * B ∧ b - s * B ≤ s * T) (hc : -(s * T) ≤ c - s * C ∧ c - s * C ≤ s * T) (hd : -(s * T) ≤ d - s * D ∧ d - s * D ≤ s * T) :
    s * s * (A * D - B * C - T * (iabs A + iabs B + iabs C + iabs D) - 2 * (T * T)) ≤ a * d - b * c := by
  have x := prod_ap hs hT ha hd
  have y := prod_ap hs hT hb hc
  have e : s * s * (A * D - B * C - T * (iabs A + iabs B + iabs C + iabs D) - 2 * (T * T)) = s * s * (A * D) - s * s * (B * C) - s * s * (T * (iabs A + iabs D) + T * T) - s * s * (T * (iabs B + iabs C) + T * T) := by grind
  rw [e]
  omega
theorem abs_up {s a A T : Int} (hs : 0 ≤ s) (ha : -(s * T) ≤ a - s * A ∧ a - s * A ≤ s * T) : iabs a ≤ s * (iabs A + T) := by
  have iA : -iabs A ≤ A ∧ A ≤ iabs A := by unfold iabs; split <;> omega
  generalize iabs A = a' at *
  have sA := mul_in (p := s) (q := A) (P := s) (Q := a') hs (by omega) (Int.le_refl _) iA.1 iA.2
  have e : s * (a' + T) = s * a' + s * T := Int.mul_add _ _ _
  unfold iabs
  split <;> omega
def uC (x : Int) : Int × Int := (Sn (x + 6746518852), Sn x)
def dP (p q : Int × Int) : Int × Int := (p.1 - q.1, p.2 - q.2)
def crP (p q : Int × Int) : Int := p.1 * q.2 - p.2 * q.1
def abP (p q : Int × Int) : Int := iabs p.1 + iabs p.2 + iabs q.1 + iabs q.2
def loP (T : Int) (p q : Int × Int) : Int := crP p q - T * abP p q - 2 * (T * T)
def cell3 (e u : Int × Int) : List (Int × Int) → Bool
  | [] => true
  | w :: l => decide (0 < loP 445603002 e (dP w u)) && cell3 e u l
def cellL : List (Int × Int) → Bool
  | u :: v :: w :: l => decide (0 < loP 222801501 u v) && (decide (4294967296 * (abP (dP v u) (dP w v) + 4 * 445603002) ≤ 50 * loP 445603002 (dP v u) (dP w v)) && cell3 (dP v u) u (w :: l))
  | _ => true
def cellPts (x h : Int) : Nat → List (Int × Int)
  | 0 => []
  | n + 1 => uC x :: cellPts (x + h) h n
def cellOk (n c : Nat) : Bool := cellL (cellPts ((c : Int) * 134217728 + 67108864) (26986075409 / (n : Int)) n)
theorem cells3 : (List.range 202).all (cellOk 3) = true := by decide +kernel
theorem cells4 : (List.range 202).all (cellOk 4) = true := by decide +kernel
theorem cells5 : (List.range 202).all (cellOk 5) = true := by decide +kernel
theorem cells6 : (List.range 202).all (cellOk 6) = true := by decide +kernel
theorem cells7 : (List.range 202).all (cellOk 7) = true := by decide +kernel
theorem cells8 : (List.range 202).all (cellOk 8) = true := by decide +kernel
end Go.Proofs.Ytlcfnlhognegcaa
end
section
namespace Go.Proofs.Ytlcfnlhognegcaa
open Go.SE Go.RowKit
def NearT (s T : Int) (p P : Int × Int) : Prop := (-(s * T) ≤ 4294967296 * p.1 - s * P.1 ∧ 4294967296 * p.1 - s * P.1 ≤ s * T) ∧ -(s * T) ≤ 4294967296 * p.2 - s * P.2 ∧ 4294967296 * p.2 - s * P.2 ≤ s * T
theorem NearT.sub {s T : Int} {p P q Q : Int × Int} (h : NearT s T p P) (k : NearT s T q Q) : NearT s (2 * T) (subP p q) (dP P Q) := by
  obtain ⟨⟨h1, h2⟩, h3, h4⟩ := h
  obtain ⟨⟨k1, k2⟩, k3, k4⟩ := k
  have e : s * (2 * T) = 2 * (s * T) := Int.mul_left_comm _ _ _
  unfold NearT subP dP
  simp only [Int.mul_sub]
  rw [e]
  omega
theorem near_cross {s T : Int} {p P q Q : Int × Int} (hs : 0 ≤ s) (hT : 0 ≤ T) (h : NearT s T p P) (k : NearT s T q Q) : s * s * loP T P Q ≤ 18446744073709551616 * crossP p q := by
  have x := cr_low hs hT h.1 h.2 k.1 k.2
  have e : 18446744073709551616 * crossP p q = 4294967296 * p.1 * (4294967296 * q.2) - 4294967296 * p.2 * (4294967296 * q.1) := by unfold crossP crossI; grind
  rw [e]
  exact x
theorem near_pos {s T : Int} {p P q Q : Int × Int} (hs : 0 < s) (hT : 0 ≤ T) (h : NearT s T p P) (k : NearT s T q Q) (hl : 0 < loP T P Q) : 0 < crossP p q := by
  have x := near_cross (Int.le_of_lt hs) hT h k
  have y : 0 < s * s * loP T P Q := Int.mul_pos (Int.mul_pos hs hs) hl
  omega
theorem iabs_F (x : Int) : 4294967296 * max x (-x) = iabs (4294967296 * x) := by unfold iabs; split <;> omega
theorem near_span {s T : Int} {p P q Q : Int × Int} (hs : 0 ≤ s) (h : NearT s T p P) (k : NearT s T q Q) : 4294967296 * (spanP p + spanP q) ≤ s * (abP P Q + 4 * T) := by
  have a1 := abs_up hs h.1
  have a2 := abs_up hs h.2
  have a3 := abs_up hs k.1
  have a4 := abs_up hs k.2
  rw [← iabs_F] at a1 a2 a3 a4
  have e : s * (abP P Q + 4 * T) = s * (iabs P.1 + T) + s * (iabs P.2 + T) + s * (iabs Q.1 + T) + s * (iabs Q.2 + T) := by unfold abP; grind
  rw [e]
  unfold spanP spanI
  omega
theorem near_margin {s T : Int} {p P q Q : Int × Int} (hs : 200 ≤ s) (hT : 0 ≤ T) (h : NearT s T p P) (k : NearT s T q Q) (hl : 4294967296 * (abP P Q + 4 * T) ≤ 50 * loP T P Q) : 4 * (spanP p + spanP q) ≤ crossP p q := by
  have x := near_cross (by omega) hT h k
  have y := near_span (by omega) h k
  have na : 0 ≤ abP P Q + 4 * T := by
    have h1 := iabs_nonneg P.1
    have h2 := iabs_nonneg P.2
    have h3 := iabs_nonneg Q.1
    have h4 := iabs_nonneg Q.2
    unfold abP
    omega
  generalize spanP p + spanP q = S at *
  generalize abP P Q + 4 * T = A at *
  generalize loP T P Q = X at *
  generalize crossP p q = C at *
  have hX : 0 ≤ X := by omega
  -- s s X ≥ 200 s X ≥ 4 F s A
  have z1 : 200 * (s * X) ≤ s * (s * X) := Int.mul_le_mul_of_nonneg_right hs (Int.mul_nonneg (by omega) hX)
  have z2 : s * (4294967296 * A) ≤ s * (50 * X) := Int.mul_le_mul_of_nonneg_left hl (by omega)
  have e1 : s * (4294967296 * A) = 4294967296 * (s * A) := Int.mul_left_comm _ _ _
  have e2 : s * (50 * X) = 50 * (s * X) := Int.mul_left_comm _ _ _
  have e3 : s * s * X = s * (s * X) := Int.mul_assoc _ _ _
  omega
def ptC (v s : Int) : Int × Int := ((uC v).1 * s / 4294967296, (uC v).2 * s / 4294967296)
theorem fl_near {a u s : Int} (hs : 200 ≤ s) (h : -201326664 ≤ a - u ∧ a - u ≤ 201326664) : -(s * 222801501) ≤ 4294967296 * (a * s / 4294967296) - s * u ∧ 4294967296 * (a * s / 4294967296) - s * u ≤ s * 222801501 := by
  have l := Int.ediv_mul_le (a * s) (b := 4294967296) (by decide)
  have r := Int.lt_ediv_add_one_mul_self (a * s) (b := 4294967296) (by decide)
  generalize a * s / 4294967296 = g at *
  have m1 := Int.mul_le_mul_of_nonneg_left h.1 (show 0 ≤ s by omega)
  have m2 := Int.mul_le_mul_of_nonneg_left h.2 (show 0 ≤ s by omega)
  rw [Int.mul_sub] at m1 m2
  have e : a * s = s * a := Int.mul_comm _ _
  omega
theorem pt_near {v y s q : Int} (hs : 200 ≤ s) (h : -67108872 ≤ v - 26986075409 * q - y ∧ v - 26986075409 * q - y ≤ 67108872) : NearT s 222801501 (ptC v s) (uC y) := by
  have a1 : Sn (v + 6746518852 - 26986075409 * q) = Sn (v + 6746518852) := Sn_per (k := q) rfl
  have a2 : Sn (v - 26986075409 * q) = Sn v := Sn_per (k := q) rfl
  have b1 := Sn_lip (v := v + 6746518852 - 26986075409 * q) (w := y + 6746518852) (d := 67108872) (by omega)
  have b2 := Sn_lip (v := v - 26986075409 * q) (w := y) (d := 67108872) h
  rw [a1] at b1
  rw [a2] at b2
  exact ⟨fl_near hs (by show _ ≤ Sn (v + 6746518852) - Sn (y + 6746518852) ∧ Sn (v + 6746518852) - Sn (y + 6746518852) ≤ _; omega), fl_near hs (by show _ ≤ Sn v - Sn y ∧ Sn v - Sn y ≤ _; omega)⟩
theorem cell3_all {e u : Int × Int} {h : Int} : ∀ (n : Nat) (y : Int), cell3 e u (cellPts y h n) = true → ∀ m : Nat, m < n → 0 < loP 445603002 e (dP (uC (y + m * h)) u)
  | 0, _, _, m, hm => absurd hm (Nat.not_lt_zero _)
  | n + 1, y, hc, m, hm => by
    have hc : (decide (0 < loP 445603002 e (dP (uC y) u)) && cell3 e u (cellPts (y + h) h n)) = true := hc
    rw [Bool.and_eq_true] at hc
    cases m with
    | zero =>
      rw [show y + ((0 : Nat) : Int) * h = y by simp]
      exact of_decide_eq_true hc.1
    | succ m =>
      have := cell3_all n (y + h) hc.2 m (by omega)
      rw [show y + ((m + 1 : Nat) : Int) * h = y + h + (m : Int) * h by grind]
      exact this
theorem cells {n c : Nat} (hn : 3 ≤ n ∧ n ≤ 8) (hc : c < 202) : cellOk n c = true := by
  have key : ∀ m, (List.range 202).all (cellOk m) = true → cellOk m c = true := fun m h => List.all_eq_true.1 h c (List.mem_range.2 hc)
  have : n = 3 ∨ n = 4 ∨ n = 5 ∨ n = 6 ∨ n = 7 ∨ n = 8 := by omega
  rcases this with rfl | rfl | rfl | rfl | rfl | rfl
  · exact key _ cells3
  · exact key _ cells4
  · exact key _ cells5
  · exact key _ cells6
  · exact key _ cells7
  · exact key _ cells8
theorem cell_of {n c : Nat} {x h : Int} (hn : 3 ≤ n ∧ n ≤ 8) (hc : c < 202) (hx : x = (c : Int) * 134217728 + 67108864) (hh : h = 26986075409 / (n : Int)) : 0 < loP 222801501 (uC x) (uC (x + h)) ∧ 4294967296 * (abP (dP (uC (x + h)) (uC x)) (dP (uC (x + h + h)) (uC (x + h))) + 4 * 445603002) ≤ 50 * loP 445603002 (dP (uC (x + h)) (uC x)) (dP (uC (x + h + h)) (uC (x + h))) ∧ ∀ m : Nat, 2 ≤ m → m < n → 0 < loP 445603002 (dP (uC (x + h)) (uC x)) (dP (uC (x + m * h)) (uC x)) := by
  have k := cells hn hc
  unfold cellOk at k
  rw [← hx, ← hh] at k
  obtain ⟨j, rfl⟩ : ∃ j, n = j + 3 := ⟨n - 3, by omega⟩
  have k : (decide (0 < loP 222801501 (uC x) (uC (x + h))) && (decide (4294967296 * (abP (dP (uC (x + h)) (uC x)) (dP (uC (x + h + h)) (uC (x + h))) + 4 * 445603002) ≤ 50 * loP 445603002 (dP (uC (x + h)) (uC x)) (dP (uC (x + h + h)) (uC (x + h)))) && cell3 (dP (uC (x + h)) (uC x)) (uC x) (cellPts (x + h + h) h (j + 1)))) = true := k
  rw [Bool.and_eq_true, Bool.and_eq_true] at k
  refine ⟨of_decide_eq_true k.1, of_decide_eq_true k.2.1, fun m h2 hm => ?_⟩
  have := cell3_all (j + 1) (x + h + h) k.2.2 (m - 2) (by omega)
  obtain ⟨i, rfl⟩ : ∃ i, m = i + 2 := ⟨m - 2, by omega⟩
  rw [show x + ((i + 2 : Nat) : Int) * h = x + h + h + ((i + 2 - 2 : Nat) : Int) * h by rw [Nat.add_sub_cancel]; grind]
  exact this
def regG (v h s : Int) (i : Nat) : Int × Int := ptC (v + i * h) s
theorem conv_reg {n : Nat} {v s h : Int} (hn : 3 ≤ n ∧ n ≤ 8) (hs : 200 ≤ s) (hh : h = 26986075409 / (n : Int)) : convI n (regG v h s) = true := by
  refine all_lt fun k hk => ?_
  -- the cell of corner k
  have d0 := Int.emod_add_mul_ediv (v + k * h) 26986075409
  have d1 := Int.emod_nonneg (v + k * h) (show (26986075409 : Int) ≠ 0 by decide)
  have d2 := Int.emod_lt_of_pos (v + k * h) (show (0 : Int) < 26986075409 by decide)
  generalize hq : (v + k * h) / 26986075409 = q at *
  generalize hr : (v + k * h) % 26986075409 = r at *
  obtain ⟨c, hc⟩ : ∃ c : Nat, (c : Int) = r / 134217728 := ⟨(r / 134217728).toNat, by omega⟩
  have hc2 : c < 202 := by omega
  obtain ⟨x, hx⟩ : ∃ x : Int, x = (c : Int) * 134217728 + 67108864 := ⟨_, rfl⟩
  have hxr : -67108864 ≤ r - x ∧ r - x ≤ 67108864 := by omega
  obtain ⟨c1, c2, c3⟩ := cell_of hn hc2 hx hh
  -- n h is nearly a turn
  have t0 := Int.emod_add_mul_ediv 26986075409 (n : Int)
  have t1 := Int.emod_nonneg 26986075409 (show (n : Int) ≠ 0 by omega)
  have t2 := Int.emod_lt_of_pos 26986075409 (show (0 : Int) < n by omega)
  rw [← hh] at t0
  generalize (26986075409 : Int) % (n : Int) = t at *
  have nr : ∀ m : Nat, m < n → NearT s 222801501 (regG v h s ((k + m) % n)) (uC (x + m * h)) := fun m hm => by
    rw [mod2 (by omega)]
    unfold regG
    split
    · refine pt_near hs (q := q) ?_
      have : ((k + m : Nat) : Int) * h = (k : Int) * h + (m : Int) * h := by rw [Int.natCast_add, Int.add_mul]
      omega
    · rename_i hge
      refine pt_near hs (q := q - 1) ?_
      have : ((k + m - n : Nat) : Int) * h = (k : Int) * h + (m : Int) * h - (n : Int) * h := by rw [Int.natCast_sub (by omega), Int.natCast_add, Int.sub_mul, Int.add_mul]
      omega
  have n0 : NearT s 222801501 (regG v h s k) (uC x) := by
    have := nr 0 (by omega)
    rw [Nat.add_zero, Nat.mod_eq_of_lt hk, show x + ((0 : Nat) : Int) * h = x by simp] at this
    exact this
  have n1 : NearT s 222801501 (regG v h s ((k + 1) % n)) (uC (x + h)) := by
    have := nr 1 (by omega)
    rw [show x + ((1 : Nat) : Int) * h = x + h by simp] at this
    exact this
  have n2 : NearT s 222801501 (regG v h s ((k + 2) % n)) (uC (x + h + h)) := by
    have := nr 2 (by omega)
    rw [show x + ((2 : Nat) : Int) * h = x + h + h by grind] at this
    exact this
  have e1 := n1.sub n0
  have f1 := n2.sub n1
  have hE : okE n (regG v h s) k = true := by
    unfold okE
    have p := near_pos (by omega) (by decide) n0 n1 c1
    have m := near_margin (T := 2 * 222801501) hs (by decide) e1 f1 c2
    rw [Bool.and_eq_true, Bool.not_eq_true', Bool.not_eq_true', decide_eq_false_iff_not, decide_eq_false_iff_not]
    omega
  have hR : (List.range n).all (okR n (regG v h s) k) = true := okR_of hk fun m h2 hm => by
    unfold okS
    have w := (nr m hm).sub n0
    have p := near_pos (T := 2 * 222801501) (by omega) (by decide) e1 w (c3 m h2 hm)
    rw [Bool.not_eq_true', decide_eq_false_iff_not]
    omega
  unfold okC
  rw [hE, hR]
  rfl
theorem crossP_neg (p q : Int × Int) : crossP p q = -crossP q p := by unfold crossP crossI; grind
theorem inc_inj {n i k : Nat} (hi : i < n) (hk : k < n) (h : (i + 1) % n = (k + 1) % n) : i = k := by
  rw [mod2 (by omega), mod2 (by omega)] at h
  split at h <;> split at h <;> omega
theorem conv_rot {n : Nat} {g : Nat → Int × Int} (hn : 3 ≤ n) (h : convI n g = true) : convI n (fun i => g ((i + 1) % n)) = true := by
  refine all_lt fun k hk => ?_
  have l1 : (k + 1) % n < n := Nat.mod_lt _ (by omega)
  have hk1 : okC n g ((k + 1) % n) = true := List.all_eq_true.1 h _ (List.mem_range.2 l1)
  unfold okC at hk1 ⊢
  rw [Bool.and_eq_true] at hk1 ⊢
  obtain ⟨hE, hR⟩ := hk1
  have e2 : ((k + 2) % n + 1) % n = ((k + 1) % n + 2) % n := by rw [Nat.mod_add_mod, Nat.mod_add_mod]
  refine ⟨?_, all_lt fun i hi => ?_⟩
  · unfold okE at hE ⊢
    simp only [e2]
    exact hE
  · have l2 : (i + 1) % n < n := Nat.mod_lt _ (by omega)
    have r := List.all_eq_true.1 hR _ (List.mem_range.2 l2)
    unfold okR at r ⊢
    by_cases a : i = k
    · subst a
      rw [Nat.beq_refl]; rfl
    · by_cases b : i = (k + 1) % n
      · subst b
        rw [Nat.beq_refl]; simp
      · have na : Nat.beq ((i + 1) % n) ((k + 1) % n) = false := Go.SE.beq_false fun e => a (inc_inj hi hk e)
        have nb : Nat.beq ((i + 1) % n) (((k + 1) % n + 1) % n) = false := Go.SE.beq_false fun e => b (inc_inj hi l1 e)
        rw [na, nb, Bool.false_or, Bool.false_or] at r
        rw [r, Bool.or_true]
theorem conv_back {n : Nat} {g : Nat → Int × Int} (hn : 3 ≤ n) (h : convI n g = true) : convI n (fun i => g (n - 1 - i)) = false := by
  have hk : okC n g (n - 2) = true := List.all_eq_true.1 h _ (List.mem_range.2 (by omega))
  unfold okC okE at hk
  rw [Bool.and_eq_true, Bool.and_eq_true, Bool.not_eq_true', decide_eq_false_iff_not] at hk
  have hc := hk.1.1
  rw [show (n - 2 + 1) % n = n - 1 by rw [Nat.mod_eq_of_lt (by omega)]; omega] at hc
  refine conv_not (k := 0) (by omega) (okC_not ?_)
  unfold okE
  have : crossP (g (n - 1 - 0)) (g (n - 1 - (0 + 1) % n)) ≤ 0 := by
    rw [Nat.mod_eq_of_lt (by omega), show n - 1 - (0 + 1) = n - 2 by omega, show n - 1 - 0 = n - 1 by omega, crossP_neg]
    omega
  rw [decide_eq_true this]
  rfl
theorem Sn_in (v : Int) : -4294967296 ≤ Sn v ∧ Sn v ≤ 4294967296 := by unfold Sn clE maxE minE; (repeat' split) <;> omega
theorem fl_in {a s : Int} (hs : 0 ≤ s) (ha : -4294967296 ≤ a ∧ a ≤ 4294967296) : -s ≤ a * s / 4294967296 ∧ a * s / 4294967296 ≤ s := by
  have m1 := Int.mul_le_mul_of_nonneg_right ha.1 hs
  have m2 := Int.mul_le_mul_of_nonneg_right ha.2 hs
  omega
theorem reg_in {v h s : Int} (hs : 0 ≤ s) (i : Nat) : (-s ≤ (regG v h s i).1 ∧ (regG v h s i).1 ≤ s) ∧ -s ≤ (regG v h s i).2 ∧ (regG v h s i).2 ≤ s := ⟨fl_in hs (Sn_in _), fl_in hs (Sn_in _)⟩
theorem reg_ok {v h s : Int} (hs : 0 ≤ s ∧ s ≤ 4000) (i : Nat) : ptOk (regG v h s i) = true := by
  obtain ⟨⟨_, _⟩, _, _⟩ := reg_in (v := v) (h := h) hs.1 i
  unfold ptOk nearI
  simp only [Bool.and_eq_true, decide_eq_true_eq]
  omega
theorem uC_circle (v : Int) : (uC v).1 * (uC v).1 + (uC v).2 * (uC v).2 ≤ 18446744073709551616 + 2748779069440 := by
  have h := (sin_circle ⟨wrapT v, false⟩).2
  have hw := @wrapT_in v
  have hs : Sd (wrapT v) := ⟨by omega, by omega⟩
  rw [sinN_Sn hs, cosN_Sn hs] at h
  obtain ⟨k, hk⟩ := wrapT_km v
  have e1 : Sn (wrapT v) = Sn v := Sn_per (k := k) hk
  have e2 : Sn (wrapT v + 6746518852) = Sn (v + 6746518852) := Sn_per (k := k) (by omega)
  have h : Sn (wrapT v) * Sn (wrapT v) + Sn (wrapT v + 6746518852) * Sn (wrapT v + 6746518852) - 18446744073709551616 ≤ 2748779069440 := h
  rw [e1, e2] at h
  show Sn (v + 6746518852) * Sn (v + 6746518852) + Sn v * Sn v ≤ _
  omega
theorem fl_sq {a s : Int} (hs : 0 ≤ s) : 4294967296 * (a * s / 4294967296) * (4294967296 * (a * s / 4294967296)) ≤ s * s * (a * a) + 2 * (4294967296 * (s * iabs a)) + 18446744073709551616 := by
  have l := Int.ediv_mul_le (a * s) (b := 4294967296) (by decide)
  have r := Int.lt_ediv_add_one_mul_self (a * s) (b := 4294967296) (by decide)
  generalize a * s / 4294967296 = g at *
  have na := iabs_nonneg a
  have iA : -iabs a ≤ a ∧ a ≤ iabs a := by unfold iabs; split <;> omega
  have ee : iabs a * iabs a = a * a := by unfold iabs; split <;> grind
  generalize iabs a = b at *
  have p1 := Int.mul_le_mul_of_nonneg_right iA.1 hs
  have p2 := Int.mul_le_mul_of_nonneg_right iA.2 hs
  have nb := Int.mul_nonneg na hs
  have e0 : -b * s = -(b * s) := Int.neg_mul _ _
  have t := (mul_in (p := 4294967296 * g) (q := 4294967296 * g) (P := b * s + 4294967296) (Q := b * s + 4294967296) (by omega) (by omega) (by omega) (by omega) (by omega)).2
  have e : (b * s + 4294967296) * (b * s + 4294967296) = s * s * (a * a) + 2 * (4294967296 * (s * b)) + 18446744073709551616 := by rw [← ee]; grind
  omega
theorem reg_far {v h s : Int} (hs : 40 ≤ s ∧ s ≤ 4000) (i : Nat) : dotP (regG v h s i) (regG v h s i) ≤ (s + 2) * (s + 2) := by
  have c := uC_circle (v + i * h)
  have x := fl_sq (a := (uC (v + i * h)).1) (s := s) (by omega)
  have y := fl_sq (a := (uC (v + i * h)).2) (s := s) (by omega)
  show (uC (v + i * h)).1 * s / 4294967296 * ((uC (v + i * h)).1 * s / 4294967296) + (uC (v + i * h)).2 * s / 4294967296 * ((uC (v + i * h)).2 * s / 4294967296) ≤ _
  generalize (uC (v + i * h)).1 = a at *
  generalize (uC (v + i * h)).2 = b at *
  generalize a * s / 4294967296 = X at *
  generalize b * s / 4294967296 = Y at *
  have na := iabs_nonneg a
  have nb := iabs_nonneg b
  have ea : iabs a * iabs a = a * a := by unfold iabs; split <;> grind
  have eb : iabs b * iabs b = b * b := by unfold iabs; split <;> grind
  rw [← ea] at x
  rw [← eb] at y
  rw [← ea, ← eb] at c
  generalize iabs a = p at *
  generalize iabs b = q at *
  -- 2 (p + q) ≤ 3 F
  have pq : 2 * (p + q) ≤ 12884901888 := by
    have e : (p + q) * (p + q) + (p - q) * (p - q) = 2 * (p * p + q * q) := by grind
    have z := sq_nonneg (p - q)
    have w := sq_le_of (a := p + q) (b := 6442450944) (by decide) (by omega)
    omega
  have ss : s * s ≤ 16000000 := by
    have := (mul_in (p := s) (q := s) (P := 4000) (Q := 4000) (by decide) (by omega) hs.2 (by omega) hs.2).2
    omega
  have s1 : s * s * (p * p + q * q) ≤ s * s * (18446744073709551616 + 2748779069440) := Int.mul_le_mul_of_nonneg_left c (sq_nonneg s)
  have s2 : s * (2 * (p + q)) ≤ s * 12884901888 := Int.mul_le_mul_of_nonneg_left pq (by omega)
  have g1 : s * s * (p * p + q * q) = s * s * (p * p) + s * s * (q * q) := Int.mul_add _ _ _
  have g2 : s * (2 * (p + q)) = 2 * (s * p) + 2 * (s * q) := by grind
  have g3 : 4294967296 * X * (4294967296 * X) = 18446744073709551616 * (X * X) := by grind
  have g4 : 4294967296 * Y * (4294967296 * Y) = 18446744073709551616 * (Y * Y) := by grind
  have g5 : (s + 2) * (s + 2) = s * s + 4 * s + 4 := by grind
  rw [g3] at x
  rw [g4] at y
  rw [g5]
  generalize s * s * (p * p) = A at *
  generalize s * s * (q * q) = B at *
  generalize s * p = C at *
  generalize s * q = D at *
  generalize X * X = XX at *
  generalize Y * Y = YY at *
  generalize s * s = SS at *
  omega
theorem rchF_le {g : Nat → Int × Int} {m : Nat} : ∀ k : Nat, (∀ i, i < k → dotP (g i) (g i) ≤ (m : Int) * m) → (∀ i, i < k → dotP (g i) (g i) ≤ 1099511627776) → rchF 0 g k ≤ m ∧ 0 ≤ rchF 0 g k ∧ ∀ i, i < k → dotP (g i) (g i) ≤ rchF 0 g k * rchF 0 g k
  | 0, _, _ => ⟨by show (0 : Int) ≤ m; omega, Int.le_refl _, fun i hi => absurd hi (Nat.not_lt_zero _)⟩
  | k + 1, h, h2 => by
    obtain ⟨a, b, c⟩ := rchF_le k (fun i hi => h i (by omega)) (fun i hi => h2 i (by omega))
    have d := sqUp_le (h2 k (by omega)) (h k (by omega))
    have e := (sqUp_spec (h2 k (by omega))).1
    have hm : ∀ x : Int, 0 ≤ x → x ≤ rchF 0 g (k + 1) → x * x ≤ rchF 0 g (k + 1) * rchF 0 g (k + 1) := fun x h0 h1 => Int.mul_le_mul h1 h1 h0 (by omega)
    have hx : rchF 0 g (k + 1) = max (rchF 0 g k) (sqUp (dotP (g k) (g k))) := rfl
    refine ⟨by omega, by omega, fun i hi => ?_⟩
    by_cases hik : i = k
    · subst hik
      exact Int.le_trans e (hm _ (by omega) (by omega))
    · exact Int.le_trans (c i (by omega)) (hm _ b (by omega))
end Go.Proofs.Ytlcfnlhognegcaa
end
section
namespace Go.Proofs.Ytlcfnlhognegcaa
open Go.SE Go.RowKit
structure CX where
  k : Nat
  c : Nat
structure CX2 where
  k : Nat
  c : Nat
  d : Nat
noncomputable def ΛCor (n : Nat) (g t b : Nat → Int × Int) : Nat → Option LoopSpec :=
  addPrs (addLoopN (addLoopN (addLoop noΛ Try.f3 4 Nat (fun k => k ≤ n) (fun k => n - k) [(22, fun k => .v (.int .i64 k))] [])
    Try.f3 2 CX2 (fun x => x.k ≤ n ∧ x.k ≤ x.c ∧ x.k ≤ x.d) (fun x => n - x.k) [(16, fun x => .v (.int .i64 x.k)), (14, fun x => .sl 41 2 0 x.k x.c), (15, fun x => .sl 42 2 0 x.k x.d)] [] [(41, fun x => spB x.k x.c t, inSlot 14), (42, fun x => spB x.k x.d b, inSlot 15)])
    Try.f3 0 CX (fun x => x.k ≤ n ∧ x.k ≤ x.c) (fun x => n - x.k) [(10, fun x => .v (.int .i64 x.k)), (9, fun x => .sl 40 2 0 x.k x.c)] [] [(40, fun x => spB x.k x.c g, inSlot 9)])
    16 [(9, fun nx => [41, nx + 64]), (19, fun nx => [42, nx + 144])]
theorem vcCor (n : Nat) (g t b : Nat→Int × Int) (many radius v : Int) (R : SV→Prop) : (vcFn Try.prog ΓG (ΛCor n g t b) Try.f3 [.v (.int .i64 many),.v (.int .i64 radius),.v (.int .i64 v)] (roHeap []) 64 (fun y _ => R y)) = (((I64 many)∧(((0 : Int) < 6)∧(I64 6)))∧(((I64 radius)∧(((0 : Int) < 3961)∧(I64 3961)))∧((∃ x : CX,(((((CX.k x) : Nat) ≤ n)∧(((CX.k x) : Nat) ≤ (CX.c x)))∧((((SV.v (.int .i64 0)) = (SV.v (.int .i64 ((↑(CX.k x) : Int)))))∧(((SV.v (Value.slice none 0 0)) = (SV.v (Value.slice none 0 0)))∧(((0 : Nat) = 0)∧((((CX.k x) : Nat) = 0)∧(((CX.c x) : Nat) = 0)))))∧(((((CX.k x) : Nat) = 0)∧((((CX.c x) : Nat) = 0)∧True))∧True))))∧(∀ x : CX,(((((CX.k x) : Nat) ≤ n)∧(((CX.k x) : Nat) ≤ (CX.c x)))→(sel (decide ((↑(CX.k x) : Int) < IntKind.wrap IntKind.i64 (3 + many % 6))) ((((0 : Int) < 6)∧((6 : Int) < 1073741824))∧((((IntKind.wrap IntKind.i64 (3 + many % 6)) : Int) ≠ 0)∧((I64 (IntKind.wrap IntKind.i64 (NB.v (kitK v 6) + IntKind.wrap IntKind.i64 ((↑(CX.k x) : Int) * IntKind.wrap IntKind.i64 (Int.tdiv 26986075409 (IntKind.wrap IntKind.i64 (3 + many % 6)))))))∧((((((CX.k x + 1) * 16) : Nat) ≤ 140737488355328)∧((((0 + CX.c x) : Nat) ≤ (CX.c x))∧(∀ y : Nat,(((y : Nat) < 1)→True))))∧(∀ c : Nat,(∃ x' : CX,((((((CX.k x') : Nat) ≤ n)∧(((CX.k x') : Nat) ≤ (CX.c x')))∧((((SV.v (.int .i64 (IntKind.wrap IntKind.i64 ((↑(CX.k x) : Int) + 1)))) = (SV.v (.int .i64 ((↑(CX.k x') : Int)))))∧((SV.sl 392 2 0 (CX.k x + 1) (CX.k x + 1 + c)) = (SV.sl 392 2 0 (CX.k x') (CX.c x'))))∧((((CX.k x + 1) : Nat) = (CX.k x'))∧((((CX.c x') : Nat) ≤ (CX.k x + 1 + c))∧(∀ i : Nat,(((i : Nat) < (CX.k x'))→([(SV.v (.int .i64 (bop (Nat.blt i (CX.k x)) (Prod.fst (g (0 + i))) (IntKind.wrap IntKind.i64 (NB.v (VB.x (angV {v:=IntKind.wrap IntKind.i64 (NB.v (kitK v 6) + IntKind.wrap IntKind.i64 ((↑(CX.k x) : Int) * IntKind.wrap IntKind.i64 (Int.tdiv 26986075409 (IntKind.wrap IntKind.i64 (3 + many % 6))))),f:=false})) * IntKind.wrap IntKind.i64 (40 + radius % 3961)) / 4294967296)))),(SV.v (.int .i64 (bop (Nat.blt i (CX.k x)) (Prod.snd (g (0 + i))) (IntKind.wrap IntKind.i64 (NB.v (VB.y (angV {v:=IntKind.wrap IntKind.i64 (NB.v (kitK v 6) + IntKind.wrap IntKind.i64 ((↑(CX.k x) : Int) * IntKind.wrap IntKind.i64 (Int.tdiv 26986075409 (IntKind.wrap IntKind.i64 (3 + many % 6))))),f:=false})) * IntKind.wrap IntKind.i64 (40 + radius % 3961)) / 4294967296))))] = [(SV.v (.int .i64 (Prod.fst (g i)))),(SV.v (.int .i64 (Prod.snd (g i))))])))))))∧(((n - CX.k x') : Nat) < (n - CX.k x))))))))) ((spPre (CX.k x) (winBlk (spB (CX.k x) (CX.c x) g) 2 0 (CX.k x)))∧(∀ c : Nat,(sel (chkS polyS (CX.k x) (rowG (winBlk (spB (CX.k x) (CX.c x) g) 2 0 (CX.k x))) != 0) (sel (chkS polyS (CX.k x) (rowG (winBlk (spB (CX.k x) (CX.c x) g) 2 0 (CX.k x))) == 5) (sel (decide (IntKind.wrap IntKind.i64 (40 + radius % 3961) < 200)) (R (SV.v (.bool true))) (R (SV.v (.bool false)))) (R (SV.v (.bool false)))) ((∃ x_1 : CX2,(((((CX2.k x_1) : Nat) ≤ n)∧((((CX2.k x_1) : Nat) ≤ (CX2.c x_1))∧(((CX2.k x_1) : Nat) ≤ (CX2.d x_1))))∧((((SV.v (.int .i64 0)) = (SV.v (.int .i64 ((↑(CX2.k x_1) : Int)))))∧((((SV.v (Value.slice none 0 0)) = (SV.v (Value.slice none 0 0)))∧(((0 : Nat) = 0)∧((((CX2.k x_1) : Nat) = 0)∧(((CX2.c x_1) : Nat) = 0))))∧(((SV.v (Value.slice none 0 0)) = (SV.v (Value.slice none 0 0)))∧(((0 : Nat) = 0)∧((((CX2.k x_1) : Nat) = 0)∧(((CX2.d x_1) : Nat) = 0))))))∧(((((CX2.k x_1) : Nat) = 0)∧((((CX2.c x_1) : Nat) = 0)∧True))∧(((((CX2.k x_1) : Nat) = 0)∧((((CX2.d x_1) : Nat) = 0)∧True))∧True)))))∧(∀ x_1 : CX2,(((((CX2.k x_1) : Nat) ≤ n)∧((((CX2.k x_1) : Nat) ≤ (CX2.c x_1))∧(((CX2.k x_1) : Nat) ≤ (CX2.d x_1))))→(sel (decide ((↑(CX2.k x_1) : Int) < IntKind.wrap IntKind.i64 (3 + many % 6))) ((((IntKind.wrap IntKind.i64 (3 + many % 6)) : Int) ≠ 0)∧((((0 : Int) ≤ (Int.tmod (IntKind.wrap IntKind.i64 ((↑(CX2.k x_1) : Int) + 1)) (IntKind.wrap IntKind.i64 (3 + many % 6))))∧(((Int.tmod (IntKind.wrap IntKind.i64 ((↑(CX2.k x_1) : Int) + 1)) (IntKind.wrap IntKind.i64 (3 + many % 6))) : Int) < ((↑(CX.k x) : Int))))∧((((((CX2.k x_1 + 1) * 16) : Nat) ≤ 140737488355328)∧((((0 + CX2.c x_1) : Nat) ≤ (CX2.c x_1))∧(∀ y : Nat,(((y : Nat) < 1)→True))))∧(∀ c_1 : Nat,((((0 : Int) ≤ (IntKind.wrap IntKind.i64 (IntKind.wrap IntKind.i64 (IntKind.wrap IntKind.i64 (3 + many % 6) - 1) - (↑(CX2.k x_1) : Int))))∧(((IntKind.wrap IntKind.i64 (IntKind.wrap IntKind.i64 (IntKind.wrap IntKind.i64 (3 + many % 6) - 1) - (↑(CX2.k x_1) : Int))) : Int) < ((↑(CX.k x) : Int))))∧((((((CX2.k x_1 + 1) * 16) : Nat) ≤ 140737488355328)∧((((0 + CX2.d x_1) : Nat) ≤ (CX2.d x_1))∧(∀ y : Nat,(((y : Nat) < 1)→True))))∧(∀ c_2 : Nat,(∃ x' : CX2,((((((CX2.k x') : Nat) ≤ n)∧((((CX2.k x') : Nat) ≤ (CX2.c x'))∧(((CX2.k x') : Nat) ≤ (CX2.d x'))))∧((((SV.v (.int .i64 (IntKind.wrap IntKind.i64 ((↑(CX2.k x_1) : Int) + 1)))) = (SV.v (.int .i64 ((↑(CX2.k x') : Int)))))∧(((SV.sl 712 2 0 (CX2.k x_1 + 1) (CX2.k x_1 + 1 + c_1)) = (SV.sl 712 2 0 (CX2.k x') (CX2.c x')))∧((SV.sl 792 2 0 (CX2.k x_1 + 1) (CX2.k x_1 + 1 + c_2)) = (SV.sl 792 2 0 (CX2.k x') (CX2.d x')))))∧(((((CX2.k x_1 + 1) : Nat) = (CX2.k x'))∧((((CX2.c x') : Nat) ≤ (CX2.k x_1 + 1 + c_1))∧(∀ i : Nat,(((i : Nat) < (CX2.k x'))→([(SV.v (.int .i64 (bop (Nat.blt i (CX2.k x_1)) (Prod.fst (t (0 + i))) (Prod.fst (g (0 + Int.toNat (Int.tmod (IntKind.wrap IntKind.i64 ((↑(CX2.k x_1) : Int) + 1)) (IntKind.wrap IntKind.i64 (3 + many % 6))))))))),(SV.v (.int .i64 (bop (Nat.blt i (CX2.k x_1)) (Prod.snd (t (0 + i))) (Prod.snd (g (0 + Int.toNat (Int.tmod (IntKind.wrap IntKind.i64 ((↑(CX2.k x_1) : Int) + 1)) (IntKind.wrap IntKind.i64 (3 + many % 6)))))))))] = [(SV.v (.int .i64 (Prod.fst (t i)))),(SV.v (.int .i64 (Prod.snd (t i))))])))))∧((((CX2.k x_1 + 1) : Nat) = (CX2.k x'))∧((((CX2.d x') : Nat) ≤ (CX2.k x_1 + 1 + c_2))∧(∀ i : Nat,(((i : Nat) < (CX2.k x'))→([(SV.v (.int .i64 (bop (Nat.blt i (CX2.k x_1)) (Prod.fst (b (0 + i))) (Prod.fst (g (0 + Int.toNat (IntKind.wrap IntKind.i64 (IntKind.wrap IntKind.i64 (IntKind.wrap IntKind.i64 (3 + many % 6) - 1) - (↑(CX2.k x_1) : Int))))))))),(SV.v (.int .i64 (bop (Nat.blt i (CX2.k x_1)) (Prod.snd (b (0 + i))) (Prod.snd (g (0 + Int.toNat (IntKind.wrap IntKind.i64 (IntKind.wrap IntKind.i64 (IntKind.wrap IntKind.i64 (3 + many % 6) - 1) - (↑(CX2.k x_1) : Int)))))))))] = [(SV.v (.int .i64 (Prod.fst (b i)))),(SV.v (.int .i64 (Prod.snd (b i))))]))))))))∧(((n - CX2.k x') : Nat) < (n - CX2.k x_1))))))))))) ((spPre (CX2.k x_1) (winBlk (spB (CX2.k x_1) (CX2.c x_1) t) 2 0 (CX2.k x_1)))∧(∀ c_1 : Nat,((spPre (CX2.k x_1) (winBlk (spB (CX2.k x_1) (CX2.d x_1) b) 2 0 (CX2.k x_1)))∧(∀ c_2 : Nat,(((shOk (keepS (chkS polyS (CX.k x) (rowG (winBlk (spB (CX.k x) (CX.c x) g) 2 0 (CX.k x))) == 0) polyS))∧((okAll isPI (rowsOf (polyN (chkS polyS (CX.k x) (rowG (winBlk (spB (CX.k x) (CX.c x) g) 2 0 (CX.k x))) == 0) (CX.k x)) fun y => [SV.v (.int .i64 (Prod.fst (rowG (winBlk (spB (CX.k x) (CX.c x) g) 2 0 (CX.k x)) (0 + y)))),SV.v (.int .i64 (Prod.snd (rowG (winBlk (spB (CX.k x) (CX.c x) g) 2 0 (CX.k x)) (0 + y))))]))∧((((polyN (chkS polyS (CX.k x) (rowG (winBlk (spB (CX.k x) (CX.c x) g) 2 0 (CX.k x))) == 0) (CX.k x)) : Nat) = (polyN (chkS polyS (CX.k x) (rowG (winBlk (spB (CX.k x) (CX.c x) g) 2 0 (CX.k x))) == 0) (CX.k x)))∧(((polyN (chkS polyS (CX.k x) (rowG (winBlk (spB (CX.k x) (CX.c x) g) 2 0 (CX.k x))) == 0) (CX.k x)) : Nat) < 1099511627776))))∧((∃ x_2 : Nat,((Nat.le x_2 n)∧(((SV.v (.int .i64 0)) = (SV.v (.int .i64 ((↑x_2 : Int)))))∧True)))∧(∀ x_2 : Nat,((Nat.le x_2 n)→(sel (decide ((↑x_2 : Int) < IntKind.wrap IntKind.i64 (3 + many % 6))) ((((0 : Int) ≤ ((↑x_2 : Int)))∧((((↑x_2 : Int)) : Int) < ((↑(CX.k x) : Int))))∧((((0 : Int) ≤ ((↑x_2 : Int)))∧((((↑x_2 : Int)) : Int) < ((↑(CX.k x) : Int))))∧((((0 : Int) ≤ ((↑x_2 : Int)))∧((((↑x_2 : Int)) : Int) < ((↑(CX.k x) : Int))))∧((((0 : Int) ≤ ((↑x_2 : Int)))∧((((↑x_2 : Int)) : Int) < ((↑(CX.k x) : Int))))∧(sel (decide (IntKind.wrap IntKind.i64 (IntKind.wrap IntKind.i64 (Prod.fst (g (0 + Int.toNat (↑x_2 : Int))) * Prod.fst (g (0 + Int.toNat (↑x_2 : Int)))) + IntKind.wrap IntKind.i64 (Prod.snd (g (0 + Int.toNat (↑x_2 : Int))) * Prod.snd (g (0 + Int.toNat (↑x_2 : Int))))) > IntKind.wrap IntKind.i64 ((rchS (chkS (keepS (chkS polyS (CX.k x) (rowG (winBlk (spB (CX.k x) (CX.c x) g) 2 0 (CX.k x))) == 0) polyS) (polyN (chkS polyS (CX.k x) (rowG (winBlk (spB (CX.k x) (CX.c x) g) 2 0 (CX.k x))) == 0) (CX.k x)) fun i => gi [SV.v (.int .i64 (Prod.fst (rowG (winBlk (spB (CX.k x) (CX.c x) g) 2 0 (CX.k x)) (0 + i)))),SV.v (.int .i64 (Prod.snd (rowG (winBlk (spB (CX.k x) (CX.c x) g) 2 0 (CX.k x)) (0 + i))))]) (keepS (chkS polyS (CX.k x) (rowG (winBlk (spB (CX.k x) (CX.c x) g) 2 0 (CX.k x))) == 0) polyS) (polyN (chkS polyS (CX.k x) (rowG (winBlk (spB (CX.k x) (CX.c x) g) 2 0 (CX.k x))) == 0) (CX.k x)) fun i => gi [SV.v (.int .i64 (Prod.fst (rowG (winBlk (spB (CX.k x) (CX.c x) g) 2 0 (CX.k x)) (0 + i)))),SV.v (.int .i64 (Prod.snd (rowG (winBlk (spB (CX.k x) (CX.c x) g) 2 0 (CX.k x)) (0 + i))))]) * rchS (chkS (keepS (chkS polyS (CX.k x) (rowG (winBlk (spB (CX.k x) (CX.c x) g) 2 0 (CX.k x))) == 0) polyS) (polyN (chkS polyS (CX.k x) (rowG (winBlk (spB (CX.k x) (CX.c x) g) 2 0 (CX.k x))) == 0) (CX.k x)) fun i => gi [SV.v (.int .i64 (Prod.fst (rowG (winBlk (spB (CX.k x) (CX.c x) g) 2 0 (CX.k x)) (0 + i)))),SV.v (.int .i64 (Prod.snd (rowG (winBlk (spB (CX.k x) (CX.c x) g) 2 0 (CX.k x)) (0 + i))))]) (keepS (chkS polyS (CX.k x) (rowG (winBlk (spB (CX.k x) (CX.c x) g) 2 0 (CX.k x))) == 0) polyS) (polyN (chkS polyS (CX.k x) (rowG (winBlk (spB (CX.k x) (CX.c x) g) 2 0 (CX.k x))) == 0) (CX.k x)) fun i => gi [SV.v (.int .i64 (Prod.fst (rowG (winBlk (spB (CX.k x) (CX.c x) g) 2 0 (CX.k x)) (0 + i)))),SV.v (.int .i64 (Prod.snd (rowG (winBlk (spB (CX.k x) (CX.c x) g) 2 0 (CX.k x)) (0 + i))))]))) (R (SV.v (.bool false))) (∃ x' : Nat,(((Nat.le x' n)∧(((SV.v (.int .i64 (IntKind.wrap IntKind.i64 ((↑x_2 : Int) + 1)))) = (SV.v (.int .i64 ((↑x' : Int)))))∧True))∧(((n - x') : Nat) < (n - x_2))))))))) (sel (chkS polyS (CX2.k x_1) (rowG (winBlk (spB (CX2.k x_1) (CX2.c x_1) t) 2 0 (CX2.k x_1))) == 0) (sel (chkS polyS (CX2.k x_1) (rowG (winBlk (spB (CX2.k x_1) (CX2.d x_1) b) 2 0 (CX2.k x_1))) == 5) (sel (decide ((rchS (chkS (keepS (chkS polyS (CX.k x) (rowG (winBlk (spB (CX.k x) (CX.c x) g) 2 0 (CX.k x))) == 0) polyS) (polyN (chkS polyS (CX.k x) (rowG (winBlk (spB (CX.k x) (CX.c x) g) 2 0 (CX.k x))) == 0) (CX.k x)) fun i => gi [SV.v (.int .i64 (Prod.fst (rowG (winBlk (spB (CX.k x) (CX.c x) g) 2 0 (CX.k x)) (0 + i)))),SV.v (.int .i64 (Prod.snd (rowG (winBlk (spB (CX.k x) (CX.c x) g) 2 0 (CX.k x)) (0 + i))))]) (keepS (chkS polyS (CX.k x) (rowG (winBlk (spB (CX.k x) (CX.c x) g) 2 0 (CX.k x))) == 0) polyS) (polyN (chkS polyS (CX.k x) (rowG (winBlk (spB (CX.k x) (CX.c x) g) 2 0 (CX.k x))) == 0) (CX.k x)) fun i => gi [SV.v (.int .i64 (Prod.fst (rowG (winBlk (spB (CX.k x) (CX.c x) g) 2 0 (CX.k x)) (0 + i)))),SV.v (.int .i64 (Prod.snd (rowG (winBlk (spB (CX.k x) (CX.c x) g) 2 0 (CX.k x)) (0 + i))))]) ≤ IntKind.wrap IntKind.i64 (IntKind.wrap IntKind.i64 (40 + radius % 3961) + 2))) (R (SV.v (.bool true))) (R (SV.v (.bool false)))) (R (SV.v (.bool false)))) (R (SV.v (.bool false)))))))))))))))))))))))))):=by kernel_rfl
end Go.Proofs.Ytlcfnlhognegcaa
end
section
namespace Go.Proofs.Ytlcfnlhognegcaa
open Go.SE Go.RowKit
theorem selT' {b : Bool} {x y : Prop} (h : b = true) (hx : x) : sel b x y := by subst h; exact hx
theorem selF' {b : Bool} {x y : Prop} (h : b = false) (hy : y) : sel b x y := by subst h; exact hy
theorem rowG_win (n c k : Nat) (g : Nat → Int × Int) : rowG (winBlk (spB n c g) 2 0 k) = g := funext fun i => by
  show gi [SV.v (.int .i64 (g (0 + i)).1), SV.v (.int .i64 (g (0 + i)).2)] = g i
  rw [Nat.zero_add]; rfl
theorem chk_poly {n : Nat} {g : Nat → Int × Int} (h3 : 3 ≤ n) (h8 : n ≤ 8) (hp : ∀ i, i < n → ptOk (g i) = true) : chkS polyS n g = bif convI n g then 0 else 5 := by
  have h1 : (decide ((n : Int) < 3) || decide ((n : Int) > 8)) = false := by
    rw [decide_eq_false (by omega), decide_eq_false (by omega)]; rfl
  have hall : (List.range n).all (fun i => ptOk (g i)) = true := all_lt hp
  show (bif ((3 : Int) == 1) then _ else bif (3 : Int) == 2 then _ else bif (3 : Int) == 3 then (bif ((0 : Int) != 0 || ((0 : Int) != 0 || ((0 : Int) != 0 || (decide ((n : Int) < 3) || decide ((n : Int) > 8))))) then 4 else bif (List.range n).all (fun i => ptOk (g i)) then (bif convI n g then 0 else 5) else 3) else 8) = _
  rw [h1, hall]
  rfl
theorem ang_pt {w s : Int} (hs : 0 ≤ s ∧ s ≤ 4000) (hw : Sd w) : IntKind.i64.wrap (NB.v (VB.x (angV ⟨w, false⟩)) * s) / 4294967296 = (ptC w s).1 ∧ IntKind.i64.wrap (NB.v (VB.y (angV ⟨w, false⟩)) * s) / 4294967296 = (ptC w s).2 := by
  have key : ∀ x : Int, -4294967296 ≤ x ∧ x ≤ 4294967296 → IntKind.i64.wrap (x * s) = x * s := fun x hx => by
    have t := mul_in (p := x) (q := s) (P := 4294967296) (Q := 4000) (by decide) hx.1 hx.2 (by omega) hs.2
    exact wrap_i64 ⟨by omega, by omega⟩
  have e1 : (angV ⟨w, false⟩).x = ⟨Sn (w + 6746518852), false⟩ := cosN_Sn hw
  have e2 : (angV ⟨w, false⟩).y = ⟨Sn w, false⟩ := sinN_Sn hw
  rw [e1, e2]
  exact ⟨by rw [key _ (Sn_in _)]; rfl, by rw [key _ (Sn_in _)]; rfl⟩
theorem kit6_in (v : Int) : -25769803776 < (kitK v 6).v ∧ (kitK v 6).v < 25769803776 := by
  show -25769803776 < Int.tmod v 25769803776 ∧ Int.tmod v 25769803776 < 25769803776
  have h := Int.natAbs_tmod v 25769803776
  have h1 : v.natAbs % (25769803776 : Int).natAbs < (25769803776 : Int).natAbs := Nat.mod_lt _ (by decide)
  omega
theorem rch_poly {n : Nat} {g : Nat → Int × Int} : rchS 0 polyS n g = rchF 0 g n := by
  have e1 : corG polyS g = g := funext fun i => rfl
  have e2 : corN 0 polyS n = n := rfl
  show rchF 0 (corG polyS g) (corN 0 polyS n) = _
  rw [e1, e2]
theorem row_k {k i : Nat} {g : Nat → Int × Int} {x y : Int} (hi : i < k + 1) (h : x = (g k).1 ∧ y = (g k).2) : [SV.v (.int .i64 (bop (Nat.blt i k) (g (0 + i)).1 x)), SV.v (.int .i64 (bop (Nat.blt i k) (g (0 + i)).2 y))] = [SV.v (.int .i64 (g i).1), SV.v (.int .i64 (g i).2)] := by
  rw [Nat.zero_add]
  by_cases hk : i < k
  · have : Nat.blt i k = true := by simpa [Nat.blt_eq] using hk
    rw [this]; rfl
  · have e : i = k := by omega
    subst e
    have : Nat.blt i i = false := by
      cases hb : Nat.blt i i with
      | false => rfl
      | true => rw [Nat.blt_eq] at hb; omega
    rw [this, h.1, h.2]; rfl
theorem cor_vc {many radius v s h : Int} {n : Nat} (hm : I64 many) (hr : I64 radius) (hn : (n : Int) = 3 + many % 6) (hs : s = 40 + radius % 3961) (hh : h = 26986075409 / (n : Int)) : vcFn Try.prog ΓG (ΛCor n (regG (kitK v 6).v h s) (fun i => regG (kitK v 6).v h s ((i + 1) % n)) (fun i => regG (kitK v 6).v h s (n - 1 - i))) Try.f3 [.v (.int .i64 many), .v (.int .i64 radius), .v (.int .i64 v)] (roHeap []) 64 (fun y _ => y = .v (.bool true)) := by
  have n3 : 3 ≤ n := by omega
  have n8 : n ≤ 8 := by omega
  have s40 : 40 ≤ s ∧ s ≤ 4000 := by omega
  have kv := kit6_in v
  have h0 : 0 ≤ h := by rw [hh]; exact Int.ediv_nonneg (by decide) (by omega)
  have h1 : h * (n : Int) ≤ 26986075409 := by rw [hh]; exact Int.ediv_mul_le _ (by omega)
  have hkh : ∀ k : Nat, k ≤ n → 0 ≤ (k : Int) * h ∧ (k : Int) * h ≤ 26986075409 := fun k hk => by
    have a := Int.mul_nonneg (show (0 : Int) ≤ k by omega) h0
    have b : (k : Int) * h ≤ (n : Int) * h := Int.mul_le_mul_of_nonneg_right (by omega) h0
    have c : (n : Int) * h = h * (n : Int) := Int.mul_comm _ _
    omega
  have hle : h ≤ 26986075409 := by have := hkh 1 (by omega); omega
  have wn : IntKind.i64.wrap (3 + many % 6) = (n : Int) := by rw [← hn]; exact wrap_i64 ⟨by omega, by omega⟩
  have ws : IntKind.i64.wrap (40 + radius % 3961) = s := by rw [← hs]; exact wrap_i64 ⟨by omega, by omega⟩
  have wh : IntKind.i64.wrap (Int.tdiv 26986075409 (n : Int)) = h := by
    rw [Int.tdiv_eq_ediv_of_nonneg (by decide), ← hh]
    exact wrap_i64 ⟨by omega, by omega⟩
  have gok : ∀ i, ptOk (regG (kitK v 6).v h s i) = true := fun i => reg_ok (by omega) i
  have gin : ∀ i, I64 (regG (kitK v 6).v h s i).1 ∧ I64 (regG (kitK v 6).v h s i).2 := fun i => by
    obtain ⟨⟨_, _⟩, _, _⟩ := reg_in (v := (kitK v 6).v) (h := h) (s := s) (by omega) i
    exact ⟨⟨by omega, by omega⟩, by omega, by omega⟩
  have far := fun i => reg_far (v := (kitK v 6).v) (h := h) s40 i
  have conv200 : 200 ≤ s → convI n (regG (kitK v 6).v h s) = true := fun hs2 => conv_reg ⟨n3, n8⟩ hs2 hh
  refine Eq.mpr (vcCor n _ _ _ many radius v _) ?_
  simp only [rowG_win, wn, ws, wh]
  refine ⟨⟨hm, by decide, ⟨by decide, by decide⟩⟩, ⟨hr, by decide, ⟨by decide, by decide⟩⟩, ⟨⟨0, 0⟩, ⟨Nat.zero_le _, Nat.le_refl _⟩, ⟨rfl, by trivial, by trivial, by trivial, by trivial⟩, ⟨by trivial, by trivial, trivial⟩, trivial⟩, ?_⟩
  rintro ⟨k, c⟩ ⟨hk, hc⟩
  simp only at hk hc ⊢
  refine sel_of (fun hlt => ?_) fun hge => ?_
  · have hlt : k < n := by have := of_decide_eq_true hlt; omega
    have hb := hkh k hk
    have w1 : IntKind.i64.wrap ((k : Int) * h) = (k : Int) * h := wrap_i64 ⟨by omega, by omega⟩
    have w2 : IntKind.i64.wrap ((kitK v 6).v + (k : Int) * h) = (kitK v 6).v + (k : Int) * h := wrap_i64 ⟨by omega, by omega⟩
    rw [w1, w2]
    refine ⟨⟨by decide, by decide⟩, by omega, ⟨by omega, by omega⟩, ⟨by omega, by omega, fun _ _ => trivial⟩, fun c' => ⟨⟨k + 1, k + 1 + c'⟩, ⟨⟨by show k + 1 ≤ n; omega, by show k + 1 ≤ k + 1 + c'; omega⟩, ⟨int_mk (by rw [wrap_i64 ⟨by omega, by omega⟩]; rfl), rfl⟩, rfl, Nat.le_refl _, fun i hi => ?_⟩, by show n - (k + 1) < n - k; omega⟩⟩
    exact row_k hi (ang_pt (by omega) ⟨by omega, by omega⟩)
  · have hge : k = n := by have := of_decide_eq_false hge; omega
    subst hge
    have hck := chk_poly n3 n8 fun i _ => gok i
    refine ⟨win_pre (by omega) (fun i _ => gin i) fun _ => rfl, fun c1 => ?_⟩
    rw [hck]
    cases hcv : convI k (regG (kitK v 6).v h s) with
    | false =>
      have : ¬ 200 ≤ s := fun h2 => by rw [conv200 h2] at hcv; cases hcv
      exact selT' rfl (selT' rfl (selT' (decide_eq_true (by omega)) (by trivial)))
    | true =>
      simp only [cond_true]
      refine selF' rfl ⟨⟨⟨0, 0, 0⟩, ⟨Nat.zero_le _, Nat.le_refl _, Nat.le_refl _⟩, ⟨rfl, ⟨by trivial, by trivial, by trivial, by trivial⟩, by trivial, by trivial, by trivial, by trivial⟩, ⟨by trivial, by trivial, trivial⟩, ⟨by trivial, by trivial, trivial⟩, trivial⟩, ?_⟩
      rintro ⟨i, c2, d2⟩ ⟨hi, hc2, hd2⟩
      simp only at hi hc2 hd2 ⊢
      refine sel_of (fun hlt => ?_) fun hge => ?_
      · have hlt : i < k := by have := of_decide_eq_true hlt; omega
        have e1 : Int.tmod (IntKind.i64.wrap ((i : Int) + 1)) (k : Int) = (((i + 1) % k : Nat) : Int) := by
          rw [wrap_i64 ⟨by omega, by omega⟩, Int.tmod_eq_emod_of_nonneg (by omega), Int.natCast_emod]; rfl
        have e2 : IntKind.i64.wrap (IntKind.i64.wrap ((k : Int) - 1) - (i : Int)) = ((k - 1 - i : Nat) : Int) := by
          rw [wrap_i64 (n := (k : Int) - 1) ⟨by omega, by omega⟩, wrap_i64 ⟨by omega, by omega⟩]; omega
        have l1 : (i + 1) % k < k := Nat.mod_lt _ (by omega)
        rw [e1, e2]
        refine ⟨by omega, ⟨by omega, by omega⟩, ⟨by omega, by omega, fun _ _ => trivial⟩, fun a1 => ⟨⟨by omega, by omega⟩, ⟨by omega, by omega, fun _ _ => trivial⟩, fun a2 => ⟨⟨i + 1, i + 1 + a1, i + 1 + a2⟩, ⟨⟨by show i + 1 ≤ k; omega, by show i + 1 ≤ i + 1 + a1; omega, by show i + 1 ≤ i + 1 + a2; omega⟩, ⟨int_mk (by rw [wrap_i64 ⟨by omega, by omega⟩]; rfl), rfl, rfl⟩, ⟨rfl, Nat.le_refl _, fun j hj => row_k (g := fun i => regG (kitK v 6).v h s ((i + 1) % k)) hj ?_⟩, rfl, Nat.le_refl _, fun j hj => row_k (g := fun i => regG (kitK v 6).v h s (k - 1 - i)) hj ?_⟩, by show k - (i + 1) < k - i; omega⟩⟩⟩
        · rw [Int.toNat_natCast, Nat.zero_add]; exact ⟨rfl, rfl⟩
        · rw [Int.toNat_natCast, Nat.zero_add]; exact ⟨rfl, rfl⟩
      · have hge : i = k := by have := of_decide_eq_false hge; omega
        subst hge
        have ht := chk_poly (g := fun j => regG (kitK v 6).v h s ((j + 1) % i)) n3 n8 fun j _ => gok _
        have hbk := chk_poly (g := fun j => regG (kitK v 6).v h s (i - 1 - j)) n3 n8 fun j _ => gok _
        rw [conv_rot n3 hcv] at ht
        rw [conv_back n3 hcv] at hbk
        refine ⟨win_pre (by omega) (fun j _ => gin _) fun _ => rfl, fun a1 => ⟨win_pre (by omega) (fun j _ => gin _) fun _ => rfl, fun a2 => ?_⟩⟩
        have eK : keepS ((0 : Int) == 0) polyS = polyS := rfl
        have eN : polyN ((0 : Int) == 0) i = i := rfl
        have eG : (fun j => gi [SV.v (Value.int IntKind.i64 (Prod.fst (regG (kitK v 6).v h s (0 + j)))), SV.v (Value.int IntKind.i64 (Prod.snd (regG (kitK v 6).v h s (0 + j))))]) = regG (kitK v 6).v h s := funext fun j => by rw [Nat.zero_add]; rfl
        simp only [eK, eN, eG, Nat.zero_add, gi_pt, hck, hcv, cond_true, rch_poly, ht, hbk, cond_false]
        have rf := rchF_le (g := regG (kitK v 6).v h s) (m := (s + 2).toNat) i (fun j _ => by rw [show ((s + 2).toNat : Int) = s + 2 by omega]; exact far j) (fun j _ => by
          have := far j
          have t := (mul_in (p := s + 2) (q := s + 2) (P := 4002) (Q := 4002) (by decide) (by omega) (by omega) (by omega) (by omega)).2
          omega)
        obtain ⟨r1, r2, r3⟩ := rf
        have r1 : rchF 0 (regG (kitK v 6).v h s) i ≤ s + 2 := by omega
        generalize rchF 0 (regG (kitK v 6).v h s) i = r at r1 r2 r3 ⊢
        have rr := (mul_in (p := r) (q := r) (P := 4002) (Q := 4002) (by decide) (by omega) (by omega) (by omega) (by omega)).2
        have wr : IntKind.i64.wrap (r * r) = r * r := wrap_i64 ⟨by have := Int.mul_nonneg r2 r2; omega, by omega⟩
        refine ⟨⟨shOk_poly, okAll_rows.2 fun j _ => gin j, trivial, by omega⟩, ⟨0, Nat.zero_le _, rfl, trivial⟩, fun j hj => sel_of (fun hlt => ?_) fun hge => ?_⟩
        · have hj2 : j < i := by have := of_decide_eq_true hlt; omega
          have dj := r3 j hj2
          have ij := reg_in (v := (kitK v 6).v) (h := h) (s := s) (by omega) j
          have hx := sq_nonneg (regG (kitK v 6).v h s j).1
          have hy := sq_nonneg (regG (kitK v 6).v h s j).2
          have dj : (regG (kitK v 6).v h s j).1 * (regG (kitK v 6).v h s j).1 + (regG (kitK v 6).v h s j).2 * (regG (kitK v 6).v h s j).2 ≤ r * r := dj
          refine ⟨⟨by omega, by omega⟩, ⟨by omega, by omega⟩, ⟨by omega, by omega⟩, ⟨by omega, by omega⟩, ?_⟩
          rw [Int.toNat_natCast, wr]
          rw [wrap_i64 (n := (regG (kitK v 6).v h s j).1 * _) ⟨by omega, by omega⟩, wrap_i64 (n := (regG (kitK v 6).v h s j).2 * _) ⟨by omega, by omega⟩, wrap_i64 ⟨by omega, by omega⟩]
          refine selF' (decide_eq_false (by omega)) ⟨j + 1, ⟨by show j + 1 ≤ i; omega, int_mk (by rw [wrap_i64 ⟨by omega, by omega⟩]; rfl), trivial⟩, by omega⟩
        · refine selT' rfl (selT' rfl (selT' (decide_eq_true ?_) (by trivial)))
          rw [wrap_i64 ⟨by omega, by omega⟩]
          exact r1
def sCorL : List SV → List Ro → Option (Option Prop × SV)
  | [.v (.int .i64 many), .v (.int .i64 radius), .v (.int .i64 v)], [] => some (some (I64 many ∧ I64 radius ∧ I64 v), .v (.bool true))
  | _, _ => none
theorem CorL_spec : RoSpec Try.prog 3 sCorL := ro_spec hm ΓG_ok Try.func3 (Λ := fun args bs => match args with | [.v (.int .i64 many), .v (.int .i64 radius), .v (.int .i64 v)] => ΛCor (3 + many % 6).toNat (regG (kitK v 6).v (26986075409 / ((3 + many % 6).toNat : Int)) (40 + radius % 3961)) (fun i => regG (kitK v 6).v (26986075409 / ((3 + many % 6).toNat : Int)) (40 + radius % 3961) ((i + 1) % (3 + many % 6).toNat)) (fun i => regG (kitK v 6).v (26986075409 / ((3 + many % 6).toNat : Int)) (40 + radius % 3961) ((3 + many % 6).toNat - 1 - i)) | _ => noΛ) fun args bs p x h hp => by
  unfold sCorL at h
  split at h <;> try (cases h; done)
  rename_i many radius v
  cases h
  obtain ⟨h1, h2, h3⟩ := hp _ rfl
  exact ⟨rfl, [], trivial, cor_vc h1 h2 (by omega) rfl rfl⟩
end Go.Proofs.Ytlcfnlhognegcaa
end
