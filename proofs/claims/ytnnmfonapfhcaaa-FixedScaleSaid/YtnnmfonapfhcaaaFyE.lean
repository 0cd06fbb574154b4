/-
  FixedMonotone, FixedScale: the plain part.
-/
import Derived.Test.YtnnmfonapfhcaaaFyD
set_option maxRecDepth 100000
namespace Go.Proofs.Ytnnmfonapfhcaaa
open Go.SE Go.RowKit

theorem fitE_r (e : Int) : -9223372036854775807 ≤ fitE e ∧ fitE e ≤ 9223372036854775807 := by unfold fitE; split <;> (try split) <;> omega
theorem fitE_i64 (e : Int) : I64 (fitE e) := by have := fitE_r e; exact ⟨by omega, by omega⟩
theorem fitE_self {e : Int} (h0 : -9223372036854775807 ≤ e) (h1 : e ≤ 9223372036854775807) : fitE e = e := by unfold fitE; rw [if_neg (by omega), if_neg (by omega)]
theorem snd_fitE (e : Int) : sndV (fitE e) = fitE e := sndV_self (fitE_r e).1
theorem fitE_mono {x y : Int} (h : x ≤ y) : fitE x ≤ fitE y := by unfold fitE; (repeat' split) <;> omega
theorem cmpI_pos (a b : Int) : cmpI a b > 0 ↔ b < a := by unfold cmpI; split <;> (try split) <;> omega
theorem cmpI_neg (a b : Int) : cmpI a b < 0 ↔ a < b := by unfold cmpI; split <;> (try split) <;> omega
theorem cmpI_le (a b : Int) : cmpI a b ≤ 0 ↔ a ≤ b := by unfold cmpI; split <;> (try split) <;> omega
theorem mid {w x : Int} (hx : x = w) (h0 : -9223372036854775807 ≤ w) (h1 : w ≤ 9223372036854775807) {T F : Prop} (t : T) :
    sel (w / 4294967296 == x / 4294967296) 
      (sel (IntKind.wrap IntKind.i64 ((w + 2147483648) / 4294967296 - w / 4294967296) == 0) 
        (sel ((IntKind.wrap IntKind.i64 ((w + 2147483648) / 4294967296 - w / 4294967296) == 1) == decide (IntKind.wrap IntKind.i64 (x - IntKind.wrap IntKind.i64 (w / 4294967296 * 4294967296)) ≥ 2147483648)) T F)
        (sel (IntKind.wrap IntKind.i64 ((w + 2147483648) / 4294967296 - w / 4294967296) == 1) 
          (sel ((IntKind.wrap IntKind.i64 ((w + 2147483648) / 4294967296 - w / 4294967296) == 1) == decide (IntKind.wrap IntKind.i64 (x - IntKind.wrap IntKind.i64 (w / 4294967296 * 4294967296)) ≥ 2147483648)) T F) F)) F := by
  subst hx
  have e1 : IntKind.wrap IntKind.i64 ((x + 2147483648) / 4294967296 - x / 4294967296) = (x + 2147483648) / 4294967296 - x / 4294967296 := wrap_i64 ⟨by omega, by omega⟩
  have e2 : IntKind.wrap IntKind.i64 (x / 4294967296 * 4294967296) = x / 4294967296 * 4294967296 := wrap_i64 ⟨by omega, by omega⟩
  have e3 : IntKind.wrap IntKind.i64 (x - x / 4294967296 * 4294967296) = x - x / 4294967296 * 4294967296 := wrap_i64 ⟨by omega, by omega⟩
  rw [e1, e2, e3]
  have key : (((x + 2147483648) / 4294967296 - x / 4294967296 == 1) == decide (x - x / 4294967296 * 4294967296 ≥ 2147483648)) = true := by
    by_cases h : x - x / 4294967296 * 4294967296 ≥ 2147483648
    · have : (x + 2147483648) / 4294967296 - x / 4294967296 = 1 := by omega
      rw [this, decide_eq_true h]; rfl
    · have : (x + 2147483648) / 4294967296 - x / 4294967296 = 0 := by omega
      rw [this, decide_eq_false h]; rfl
  refine sel_T (beq_self_eq_true _) (sel_of (fun _ => sel_T key t) fun g => sel_T ?_ (sel_T key t))
  have g : ¬ (x + 2147483648) / 4294967296 - x / 4294967296 = 0 := by simpa using g
  have : (x + 2147483648) / 4294967296 - x / 4294967296 = 1 := by omega
  rw [this]; rfl
theorem sel_add {c1 c2 : Bool} {P1 P2 F Q : Prop} (h1 : P1) (h2 : P2) (h : c1 = true → c2 = true → False) (q : Q) : sel c1 (P1 ∧ (P2 ∧ sel c2 F Q)) Q :=
  sel_of (fun g1 => ⟨h1, h2, sel_of (fun g2 => (h g1 g2).elim) fun _ => q⟩) fun _ => q
theorem sel_two {c1 c2 : Bool} {F Q : Prop} (h : c1 = true → c2 = true → False) (q : Q) : sel c1 (sel c2 F Q) Q :=
  sel_of (fun g1 => sel_of (fun g2 => (h g1 g2).elim) fun _ => q) fun _ => q
theorem MonoLaw_spec : PureSpec Try.prog 4 sThreeLaw := vc_spec hm ΓL_ok Try.func4 (Λ := fun _ => noΛ) fun args p x h hp => by
  unfold sThreeLaw at h
  split at h <;> try (cases h; done)
  rename_i a f b g c h
  cases h
  obtain ⟨h1, h2, h3⟩ := hp _ rfl
  refine ⟨rfl, rfl, ?_⟩
  refine Eq.mpr (vcMonoLaw a f b g c h _) ?_
  have ha := sndV_in h1
  have hb := sndV_in h2
  have hc := sndV_in h3
  refine sel_add ⟨h1, h3⟩ ⟨h2, h3⟩ (fun g1 g2 => ?_) ?_
  · have g1 := (cmpI_le _ _).1 (of_decide_eq_true g1)
    have g2 := (cmpI_pos _ _).1 (of_decide_eq_true g2)
    rw [snd_fitE, snd_fitE] at g2
    have := fitE_mono (show sndV a + sndV c ≤ sndV b + sndV c by omega)
    omega
  · refine sel_F (decide_eq_false (by omega)) (sel_F (decide_eq_false (by omega)) ⟨h1, ⟨⟨⟨by omega, by omega⟩, by decide, by decide⟩, ?_, by decide, by decide⟩, sel_two (fun g1 g2 => ?_) ?_⟩)
    · have := iabs_le (sndV_i64 h1)
      have := iabs_nonneg (sndV a)
      unfold iabs at *
      split at * <;> exact ⟨by omega, by omega⟩
    · have g1 := (cmpI_pos _ _).1 (of_decide_eq_true g1)
      have g2 := of_decide_eq_true g2
      have e : sndV a = a := sndV_self (by omega)
      rw [e] at g1
      unfold iabs at g1
      split at g1 <;> omega
    · refine sel_of (fun g => ⟨h1, mid ?_ ha.1 ha.2 rfl⟩) fun g => ⟨h1, mid ?_ ha.1 ha.2 rfl⟩
      · have g : a = -9223372036854775808 := by simpa using g
        subst g
        rfl
      · have g : a ≠ -9223372036854775808 := by simpa using g
        unfold sndV
        rw [if_neg g]
theorem fitG_false {e : Int} {f : Bool} (h : fitG e f = false) : -9223372036854775807 ≤ e ∧ e ≤ 9223372036854775807 ∧ f = false := by
  unfold fitG iabs at h
  split at h <;> split at h <;> first | (cases h; done) | exact ⟨by omega, by omega, h⟩
theorem iabs_nat (v : Int) : iabs v = (v.natAbs : Int) := by unfold iabs; split <;> omega
theorem tmod_lt {x b : Int} (h : b ≠ 0) : iabs (Int.tmod x b) < iabs b := by
  rw [iabs_nat, iabs_nat, Int.natAbs_tmod]
  exact_mod_cast Nat.mod_lt _ (by omega)
theorem near {A B q r s : Int} (h : A * B - r = q * B + s) (hr : iabs r < iabs B) (hs : iabs s < iabs B) : iabs (q - A) ≤ 1 := by
  have e : (q - A) * B = -r - s := by rw [Int.sub_mul]; omega
  rcases Int.lt_or_le 1 (iabs (q - A)) with h1 | h1
  · exfalso
    have hm : iabs ((q - A) * B) = iabs (q - A) * iabs B := by rw [iabs_nat, iabs_nat, iabs_nat, Int.natAbs_mul, Int.natCast_mul]
    have h2 : 2 * iabs B ≤ iabs (q - A) * iabs B := Int.mul_le_mul_of_nonneg_right (by omega) (iabs_nonneg B)
    rw [e] at hm
    have h3 : iabs (-r - s) ≤ iabs r + iabs s := by unfold iabs; (repeat' split) <;> omega
    omega
  · exact h1
theorem ratV_r (a b : Int) : -9223372036854775807 ≤ ratV a b ∧ ratV a b ≤ 9223372036854775807 := by
  unfold ratV
  split
  · unfold noneV; split <;> (try split) <;> omega
  · exact fitE_r _
theorem ratV_i64 (a b : Int) : I64 (ratV a b) := by have := ratV_r a b; exact ⟨by omega, by omega⟩
/-- A quotient of a product differs from the factor by at most one step. -/
theorem scale_near {A B : Int} (hB : 4294967296 ≤ iabs B) : iabs (Int.tdiv (Int.tdiv (A * B) 4294967296 * 4294967296) B - A) ≤ 1 := by
  have e1 := Int.tmod_add_tdiv_mul (A * B) 4294967296
  have e2 := Int.tmod_add_tdiv_mul (Int.tdiv (A * B) 4294967296 * 4294967296) B
  have hz : B ≠ 0 := fun e => by subst e; unfold iabs at hB; simp at hB
  have h1 := tmod_lt (x := A * B) (b := 4294967296) (by decide)
  have h0 : iabs 4294967296 = 4294967296 := by decide
  exact near (B := B) (r := Int.tmod (A * B) 4294967296) (s := Int.tmod (Int.tdiv (A * B) 4294967296 * 4294967296) B) (by omega) (by omega) (tmod_lt hz)
theorem sel_sc {c1 c2 c3 : Bool} {P F Q : Prop} (hP : P) (h : c1 = true → c2 = true → c3 = false) (q : Q) : sel c1 (sel c2 (P ∧ sel c3 F Q) Q) Q :=
  sel_of (fun g1 => sel_of (fun g2 => ⟨hP, sel_F (h g1 g2) q⟩) fun _ => q) fun _ => q
theorem iabs_snd {x : Int} (h0 : -9223372036854775807 ≤ x) (h1 : x ≤ 9223372036854775807) : sndV (iabs x) = iabs x := sndV_self (by unfold iabs; split <;> omega)
theorem ScaleLaw_spec : PureSpec Try.prog 6 sTwoLaw := vc_spec hm ΓL_ok Try.func6 (Λ := fun _ => noΛ) fun args p x h hp => by
  unfold sTwoLaw at h
  split at h <;> try (cases h; done)
  rename_i a f b g
  cases h
  obtain ⟨h1, h2⟩ := hp _ rfl
  refine ⟨rfl, rfl, ?_⟩
  refine Eq.mpr (vcScaleLaw a f b g _) ?_
  have ha := sndV_in h1
  have hb := sndV_in h2
  refine ⟨⟨by decide, by decide⟩, sel_sc ⟨h1, by decide, by decide⟩ (fun g1 g2 => ?_) ?_⟩
  · have g1 : f = false := by simpa using g1
    have g2 : a ≠ -9223372036854775808 := by simpa using g2
    subst g1
    have e : sndV a = a := by unfold sndV; rw [if_neg g2]
    have e2 : mulE a 4294967296 = a := by unfold mulE; exact Int.mul_tdiv_cancel _ (by decide)
    have e3 : sndF a false = false := by unfold sndF; rw [if_neg g2]
    rw [e] at ha
    rw [e, e2, e3]
    refine nq (fitE_self ha.1 ha.2) ?_
    unfold fitG
    rw [if_pos (by unfold iabs; split <;> omega)]; rfl
  · refine ⟨⟨h1, h2⟩, ⟨fitE_i64 _, h2⟩, sel_of (fun _ => rfl) fun g3 => ⟨h2, sel_of (fun _ => rfl) fun g4 => ⟨⟨ratV_i64 _ _, h1⟩, fitE_i64 _, sel_T ?_ rfl⟩⟩⟩
    have g4 := of_decide_eq_false g4
    rw [cmpI_neg, iabs_snd hb.1 hb.2] at g4
    have hB : 4294967296 ≤ iabs (sndV b) := by omega
    have hn := scale_near (A := sndV a) hB
    simp only [snd_fitE, Bool.or_eq_false_iff] at g3 ⊢
    obtain ⟨k1, k2, _⟩ := g3
    rw [sndF_self (fitE_r _).1] at k2
    obtain ⟨m0, m1, _⟩ := fitG_false k2
    rw [fitE_self m0 m1] at k1 ⊢
    have hz : sndV b ≠ 0 := fun e => by rw [e] at hB; unfold iabs at hB; simp at hB
    unfold ratF at k1
    rw [if_neg hz] at k1
    obtain ⟨r0, r1, _⟩ := fitG_false k1
    have er : ratV (mulE (sndV a) (sndV b)) (sndV b) = ratE (mulE (sndV a) (sndV b)) (sndV b) := by unfold ratV; rw [if_neg hz, fitE_self r0 r1]
    rw [er, sndV_self r0]
    have hn' : iabs (ratE (mulE (sndV a) (sndV b)) (sndV b) - sndV a) ≤ 1 := hn
    generalize ratE (mulE (sndV a) (sndV b)) (sndV b) - sndV a = d at *
    have d0 : -1 ≤ d ∧ d ≤ 1 := by unfold iabs at hn'; split at hn' <;> omega
    rw [fitE_self (by omega) (by omega), iabs_snd (by omega) (by omega)]
    exact decide_eq_true ((cmpI_le _ _).2 hn')
end Go.Proofs.Ytnnmfonapfhcaaa
