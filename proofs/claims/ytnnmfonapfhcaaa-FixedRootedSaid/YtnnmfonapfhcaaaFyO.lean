/-
  FixedRoots, FixedTurns, FixedCircle, FixedFlags, FixedRooted: the plain part.
-/
import Derived.Test.YtnnmfonapfhcaaaFyN
import Derived.Test.YtnnmfonapfhcaaaFyQ
import Derived.Test.YtnnmfonapfhcaaaFyD
set_option maxRecDepth 100000
namespace Go.Proofs.Ytnnmfonapfhcaaa
open Go.SE Go.RowKit

theorem RootsLaw_spec : PureSpec Try.prog 8 sFourLaw := vc_spec hm ΓT_ok Try.func8 (Λ := fun _ => noΛ) fun args p x h hp => by
  unfold sFourLaw at h
  split at h <;> try (cases h; done)
  rename_i a fa b fb c fc d fd
  cases h
  obtain ⟨⟨ha, hb⟩, hc, hd⟩ := hp _ rfl
  refine ⟨rfl, rfl, ?_⟩
  refine Eq.mpr (vcRootsLaw a fa b fb c fc d fd _) ?_
  exact ⟨ha, ha, sel_T (yq rfl rfl) ⟨⟨ha, hb⟩, ⟨ha, hb⟩, sel_T (yq rfl rfl) ⟨⟨⟨ha, hb⟩, hc, hd⟩, ⟨⟨ha, hb⟩, hc, hd⟩, sel_T (yq rfl rfl) rfl⟩⟩⟩
theorem TurnsLaw_spec : PureSpec Try.prog 13 sOneLaw := vc_spec hm ΓT_ok Try.func13 (Λ := fun _ => noΛ) fun args p x h hp => by
  unfold sOneLaw at h
  split at h <;> try (cases h; done)
  rename_i a fa
  cases h
  have ha : I64 a := hp _ rfl
  refine ⟨rfl, rfl, ?_⟩
  refine Eq.mpr (vcTurnsLaw a fa _) ?_
  exact ⟨ha, ha, sel_T (yq rfl rfl) ⟨ha, ha, sel_T (yq rfl rfl) ⟨ha, ha, sel_T (yq rfl rfl) rfl⟩⟩⟩
theorem cmpI_le {x y : Int} (h : x ≤ y) : cmpI x y ≤ 0 := by unfold cmpI; split <;> (try split) <;> omega
theorem cmpI_ge {x y : Int} (h : y ≤ x) : 0 ≤ cmpI x y := by unfold cmpI; split <;> (try split) <;> omega
theorem fitG_lim {e : Int} {f : Bool} (h : fitG e f = false) (h0 : 0 ≤ e) : e ≤ 9223372036854775807 := by
  unfold fitG at h
  rw [iabs_pos (by omega)] at h
  split at h
  · assumption
  · cases h
theorem cmpI_above {x y : Int} (h : y < x) : 0 < cmpI x y := by unfold cmpI; split <;> (try split) <;> omega
theorem abs_sd {x B : Int} (h : -B ≤ x ∧ x ≤ B) : iabs x ≤ B := by unfold iabs; split <;> omega
theorem sinF (a : NB) : (sinN a).f = sndF a.v a.f := by rw [sinN_eq]
theorem cosF (a : NB) : (cosN a).f = sndF a.v a.f := by rw [cosN_eq]
theorem sinN_same {a b : NB} (h : wrapT (sndV a.v) = wrapT (sndV b.v)) (hf : sndF a.v a.f = sndF b.v b.f) : sinN a = sinN b := by
  rw [sinN_eq, sinN_eq, hf]
  show NB.mk (clE (uT (foldT (wrapT (sndV a.v))) 8)) _ = NB.mk (clE (uT (foldT (wrapT (sndV b.v))) 8)) _
  rw [h]
theorem cosN_same {a b : NB} (h : wrapT (sndV a.v) = wrapT (sndV b.v)) (hf : sndF a.v a.f = sndF b.v b.f) : cosN a = cosN b := by rw [cosN_eq, cosN_eq, hf, h]
theorem CircleLaw_spec : PureSpec Try.prog 14 sOneLaw := vc_spec hm ΓT_ok Try.func14 (Λ := fun _ => noΛ) fun args p x h hp => by
  unfold sOneLaw at h
  split at h <;> try (cases h; done)
  rename_i a fa
  cases h
  have ha : I64 a := hp _ rfl
  refine ⟨rfl, rfl, ?_⟩
  refine Eq.mpr (vcCircleLaw a fa _) ?_
  have hs := sinN_in ⟨a, fa⟩
  have hc : -4294967296 ≤ (cosN ⟨a, fa⟩).v ∧ (cosN ⟨a, fa⟩).v ≤ 4294967296 := sinN_in _
  have hneg := sinN_neg (a := ⟨a, fa⟩) ha
  have hcir := sin_circle ⟨a, fa⟩
  have sds : Sd (sinN ⟨a, fa⟩).v := ⟨by omega, by omega⟩
  have sdc : Sd (cosN ⟨a, fa⟩).v := ⟨by omega, by omega⟩
  have i1 : I64 1 := ⟨by decide, by decide⟩
  have one : I64 4294967296 := ⟨by decide, by decide⟩
  have na : negN ⟨a, fa⟩ = ⟨-sndV a, sndF a fa⟩ := rfl
  rw [na] at hneg
  have hnv : (sinN ⟨-sndV a, sndF a fa⟩).v = -sndV (sinN ⟨a, fa⟩).v := by rw [hneg]; rfl
  have hnf : (sinN ⟨-sndV a, sndF a fa⟩).f = sndF (sinN ⟨a, fa⟩).v (sinN ⟨a, fa⟩).f := by rw [hneg]; rfl
  have hfs := sinF ⟨a, fa⟩
  have hfc := cosF ⟨a, fa⟩
  have more1 : a ≤ 9223372009868700398 → a ≠ -9223372036854775808 → sinN ⟨fitE (sndV a + 26986075409), fitG (sndV a + 26986075409) (sndF a fa || false)⟩ = sinN ⟨a, fa⟩ ∧ cosN ⟨fitE (sndV a + 26986075409), fitG (sndV a + 26986075409) (sndF a fa || false)⟩ = cosN ⟨a, fa⟩ := by
    intro h1 h2
    obtain ⟨l, u⟩ := ha
    have e1 : sndV a = a := sndV_self (by omega)
    have sd : Sd (a + 26986075409) := ⟨by omega, by omega⟩
    have w : wrapT (sndV (a + 26986075409)) = wrapT (sndV a) := by rw [sd.self, e1, wrapT_turn]
    have f : sndF (a + 26986075409) (sndF a fa) = sndF a fa := sd.flag
    rw [Bool.or_false, e1, fitE_self sd, fitG_self sd]
    exact ⟨sinN_same w f, cosN_same w f⟩
  generalize sinN ⟨a, fa⟩ = s at *
  generalize cosN ⟨a, fa⟩ = c at *
  have aS : iabs s.v ≤ 4294967296 := abs_sd hs
  have aC : iabs c.v ≤ 4294967296 := abs_sd hc
  have sas : sndV (iabs s.v) = iabs s.v := sndV_self (by have := iabs_nonneg s.v; omega)
  have sac : sndV (iabs c.v) = iabs c.v := sndV_self (by have := iabs_nonneg c.v; omega)
  have sq0 : 0 ≤ s.v * s.v + c.v * c.v := by have := sq_nonneg s.v; have := sq_nonneg c.v; omega
  have ed : dotE s.v s.v c.v c.v = (s.v * s.v + c.v * c.v) / 4294967296 := Int.tdiv_eq_ediv_of_nonneg sq0
  rw [sds.self, sdc.self, sas, sac, ed]
  have sdd : Sd ((s.v * s.v + c.v * c.v) / 4294967296) := ⟨by omega, by omega⟩
  have sde : Sd ((s.v * s.v + c.v * c.v) / 4294967296 - 4294967296) := ⟨by omega, by omega⟩
  rw [fitE_self sdd, sdd.self, fitE_self sde, sde.self]
  have ae : iabs ((s.v * s.v + c.v * c.v) / 4294967296 - 4294967296) ≤ 4096 := abs_sd ⟨by omega, by omega⟩
  have sae : sndV (iabs ((s.v * s.v + c.v * c.v) / 4294967296 - 4294967296)) = iabs ((s.v * s.v + c.v * c.v) / 4294967296 - 4294967296) := sndV_self (by have := iabs_nonneg ((s.v * s.v + c.v * c.v) / 4294967296 - 4294967296); omega)
  rw [sae]
  refine ⟨ha, ha, i1, sds.i64, sel_F (decide_eq_false (by have := cmpI_le aS; omega)) ⟨sdc.i64, sel_F (decide_eq_false (by have := cmpI_le aC; omega)) ⟨ha, (neg_sd (sndV_sd ha)).i64, sds.i64, sel_F (nq (by rw [hnv, sds.self]) hnf) ⟨⟨⟨sds.i64, sds.i64⟩, sdc.i64, sdc.i64⟩, ⟨sdd.i64, one⟩, sde.i64, sel_F (decide_eq_false (by have := cmpI_le ae; omega)) (sel_of (fun _ => rfl) fun g1 => sel_of (fun _ => rfl) fun g2 => ?_)⟩⟩⟩⟩
  have g1 := of_decide_eq_false g1
  have g2 : a ≠ -9223372036854775808 := by simpa using g2
  obtain ⟨m1, m2⟩ := more1 (by omega) g2
  rw [m1, m2]
  exact ⟨⟨ha, ⟨by decide, by decide⟩⟩, (fitE_sd _).i64, sel_T (yq rfl rfl) ⟨(fitE_sd _).i64, sel_T (yq rfl rfl) rfl⟩⟩
theorem hyp_ge {x y : Int} (hx : 0 ≤ x) (hy : 0 ≤ y) (h : x * x + y * y < 340282366920938463463374607431768211456) : x ≤ hypE x y ∧ y ≤ hypE x y ∧ hypE x y ≤ x + y := by
  have a := sq_nonneg x
  have b := sq_nonneg y
  obtain ⟨i0, _, i2, i3⟩ := isq_in (m := x * x + y * y) (by omega) h
  show x ≤ isq _ ∧ y ≤ isq _ ∧ isq _ ≤ x + y
  have e : (x + y) * (x + y) = x * x + y * y + 2 * (x * y) := by rw [Int.add_mul, Int.mul_add, Int.mul_add, Int.mul_comm y x]; omega
  have p := Int.mul_nonneg hx hy
  have := sq_lt_of (a := x) (b := isq (x * x + y * y) + 1) (by omega) (by omega)
  have := sq_lt_of (a := y) (b := isq (x * x + y * y) + 1) (by omega) (by omega)
  have := sq_le_of (a := isq (x * x + y * y)) (b := x + y) (by omega) (by omega)
  omega
theorem hypE_abs (x y : Int) : hypE x y = hypE (iabs x) (iabs y) := by unfold hypE; rw [iabs_sq, iabs_sq]
theorem RootedLaw_spec : PureSpec Try.prog 12 sTwoLaw := vc_spec hm ΓT_ok Try.func12 (Λ := fun _ => noΛ) fun args p x h hp => by
  unfold sTwoLaw at h
  split at h <;> try (cases h; done)
  rename_i a fa b fb
  cases h
  obtain ⟨ha, hb⟩ := hp _ rfl
  refine ⟨rfl, rfl, ?_⟩
  refine Eq.mpr (vcRootedLaw a fa b fb _) ?_
  refine sel_of (fun g => ?_) fun g => ?_
  · have g := of_decide_eq_true g
    have e : sndV a < 0 := by unfold sndV; split <;> omega
    refine ⟨ha, sel_T ?_ rfl⟩
    unfold sqrtV sqrtF
    rw [if_pos e, if_pos e]; rfl
  · have g := of_decide_eq_false g
    have e : sndV a = a := sndV_self (by omega)
    have ev : sqrtV a = isq (a * 4294967296) := by unfold sqrtV; rw [e, if_neg g]
    have ef : sqrtF a fa = fa := by unfold sqrtF; rw [e, if_neg g]
    have hroot := isq_in (m := a * 4294967296) (by omega) (by have := ha.2; omega)
    have hin := sqrt_in (x := a) (by omega) (by have := ha.2; omega)
    rw [ev, ef]
    generalize isq (a * 4294967296) = r at *
    obtain ⟨_, _, r1, r2⟩ := hroot
    have hi : I64 r := ⟨by omega, by omega⟩
    have hw : IntKind.i64.wrap (r + 1) = r + 1 := wrap_i64 ⟨by omega, by omega⟩
    rw [hw]
    have hi1 : I64 (r + 1) := ⟨by omega, by omega⟩
    have one : I64 4294967296 := ⟨by decide, by decide⟩
    refine ⟨ha, sel_F (by simp) (sel_F (decide_eq_false (by omega)) (sel_F (decide_eq_false (by omega)) ⟨⟨⟨hi, hi⟩, ha, one⟩, sel_F (decide_eq_false (by have := cmpI_le r1; omega)) ⟨⟨⟨hi1, hi1⟩, ha, one⟩, sel_F (decide_eq_false (by have := cmpI_above r2; omega)) ⟨⟨ha, hb⟩, sel_of (fun _ => rfl) fun hf => ?_⟩⟩⟩))⟩
    have h1 := sndV_sd ha
    have h2 := sndV_sd hb
    have hxy := hyp_in h1.i64 h2.i64
    have n1 := iabs_nonneg (sndV a)
    have n2 := iabs_nonneg (sndV b)
    have b1 : iabs (sndV a) ≤ 9223372036854775807 := abs_sd h1
    have b2 : iabs (sndV b) ≤ 9223372036854775807 := abs_sd h2
    have hge := hyp_ge n1 n2 (by rw [iabs_sq, iabs_sq]; omega)
    rw [hypE_abs] at hf
    have hh := fitG_lim hf (by omega)
    rw [hypE_abs]
    generalize hypE (iabs (sndV a)) (iabs (sndV b)) = q at *
    have s1 : Sd (iabs (sndV a)) := ⟨by omega, b1⟩
    have s2 : Sd (iabs (sndV b)) := ⟨by omega, b2⟩
    have sq : Sd q := ⟨by omega, hh⟩
    have em : mostV (-1) [[SV.v (Value.int IntKind.i64 (iabs (sndV a))), SV.v (Value.bool (sndF a fa))], [SV.v (Value.int IntKind.i64 (iabs (sndV b))), SV.v (Value.bool (sndF b fb))]] = if cmpI (sndV (iabs (sndV b))) (sndV (iabs (sndV a))) * -1 < 0 then sndV (iabs (sndV b)) else sndV (iabs (sndV a)) := rfl
    rw [em, fitE_self sq, sq.self, s1.self, s2.self]
    have hm : sndV (if cmpI (iabs (sndV b)) (iabs (sndV a)) * -1 < 0 then iabs (sndV b) else iabs (sndV a)) ≤ q := by
      split
      · rw [s2.self]; omega
      · rw [s1.self]; omega
    have hsum : q ≤ sndV (fitE (iabs (sndV a) + iabs (sndV b))) := by
      rw [(fitE_sd _).self]; unfold fitE; (repeat' split) <;> omega
    exact ⟨ha, hb, ⟨⟨trivial, trivial, trivial⟩, rfl, by decide⟩, sel_T (decide_eq_true (cmpI_ge hm)) ⟨ha, hb, ⟨s1.i64, s2.i64⟩, sel_T (decide_eq_true (cmpI_le hsum)) rfl⟩⟩
theorem sndF_true (a : Int) : sndF a true = true := by unfold sndF; split <;> rfl
theorem fitG_true (e : Int) : fitG e true = true := by unfold fitG; split <;> rfl
theorem sqrtF_true (a : Int) : sqrtF a true = true := by unfold sqrtF; split <;> rfl
theorem FlagsLaw_spec : PureSpec Try.prog 15 sThreeLaw := vc_spec hm ΓT_ok Try.func15 (Λ := fun _ => noΛ) fun args p x h hp => by
  unfold sThreeLaw at h
  split at h <;> try (cases h; done)
  rename_i a fa b fb c fc
  cases h
  obtain ⟨ha, hb, hc⟩ := hp _ rfl
  refine ⟨rfl, rfl, ?_⟩
  refine Eq.mpr (vcFlagsLaw a fa b fb c fc _) ?_
  have e1 : (sinN ⟨a, true⟩).f = true := by rw [sinF]; exact sndF_true a
  have e2 : (cosN ⟨a, true⟩).f = true := by rw [cosF]; exact sndF_true a
  have e3 : (sinN ⟨a, true⟩).v = (sinN ⟨a, fa⟩).v := by rw [sinN_eq, sinN_eq]; rfl
  have e4 : ∀ x y z, anyG [[SV.v (Value.int IntKind.i64 x), SV.v (Value.bool fb)], [SV.v (Value.int IntKind.i64 y), SV.v (Value.bool fc)], [SV.v (Value.int IntKind.i64 z), SV.v (Value.bool true)]] = true := fun x y z => by simp [anyG, rowV, rowF, sndF_true]
  have e5 : ∀ x z, anyG [[SV.v (Value.int IntKind.i64 x), SV.v (Value.bool fb)], [SV.v (Value.int IntKind.i64 z), SV.v (Value.bool true)]] = true := fun x z => by simp [anyG, rowV, rowF, sndF_true]
  have e6 : ∀ x z, anyG [[SV.v (Value.int IntKind.i64 x), SV.v (Value.bool true)], [SV.v (Value.int IntKind.i64 z), SV.v (Value.bool fc)]] = true := fun x z => by simp [anyG, rowV, rowF, sndF_true]
  simp only [sndF_true, fitG_true, sqrtF_true, Bool.or_true, Bool.true_or, e1, e2, e3, e4, e5, e6]
  have t3 : ∀ {x y z : Int} {f g k : Bool}, okAll isN [[SV.v (Value.int .i64 x), SV.v (Value.bool f)], [SV.v (Value.int .i64 y), SV.v (Value.bool g)], [SV.v (Value.int .i64 z), SV.v (Value.bool k)]] := ⟨trivial, trivial, trivial, trivial⟩
  have t2 : ∀ {x y : Int} {f g : Bool}, okAll isN [[SV.v (Value.int .i64 x), SV.v (Value.bool f)], [SV.v (Value.int .i64 y), SV.v (Value.bool g)]] := ⟨trivial, trivial, trivial⟩
  exact ⟨⟨ha, hb⟩, sel_F rfl ⟨⟨hb, ha⟩, sel_F rfl ⟨⟨ha, hb⟩, sel_F rfl ⟨⟨hb, ha⟩, sel_F rfl ⟨⟨ha, hb⟩, sel_F rfl ⟨ha, sel_F rfl ⟨ha, sel_F rfl ⟨ha, sel_F rfl ⟨⟨⟨hb, ha⟩, hc, hc⟩, sel_F rfl ⟨⟨hb, ha⟩, sel_F rfl ⟨⟨⟨hb, hc, ha, trivial⟩, by decide⟩, sel_F rfl ⟨⟨t2, by decide⟩, sel_F rfl ⟨⟨t2, by decide⟩, sel_F rfl ⟨⟨hb, hc, ha⟩, sel_F rfl ⟨ha, sel_F rfl ⟨ha, sel_F rfl ⟨ha, sel_F rfl ⟨⟨ha, hb⟩, ⟨ha, hb⟩,
    sel_T (beq_self_eq_true _) ⟨⟨hb, ha⟩, ⟨hb, ha⟩, sel_T (beq_self_eq_true _) ⟨⟨⟨hb, ha⟩, hc, hc⟩, ⟨⟨hb, ha⟩, hc, hc⟩, sel_T (beq_self_eq_true _) ⟨ha, ha, sel_T (beq_self_eq_true _) ⟨⟨t3, by decide⟩, ⟨t3, by decide⟩, sel_T (beq_iff_eq.2 rfl) trivial⟩⟩⟩⟩⟩⟩⟩⟩⟩⟩⟩⟩⟩⟩⟩⟩⟩⟩⟩⟩⟩⟩
end Go.Proofs.Ytnnmfonapfhcaaa
