/-
  Contracts at a literal nil: sums, shapes.
-/
import Derived.Test.YtheljpebapokjaaPmN
set_option maxRecDepth 100000
set_option linter.unusedSimpArgs false
set_option linter.unusedVariables false
namespace Go.Proofs.Ytheljpebapokjaa
open Go.SE Go.RowKit

/-- One contract, else the other. -/
def orRo (s1 s2 : List SV → List Ro → Option (Option Prop × SV)) : List SV → List Ro → Option (Option Prop × SV) := fun a b => match s1 a b with
  | some e => some e
  | none => s2 a b
def orHp (s1 s2 : List SV → List Blk → Option Eff) : List SV → List Blk → Option Eff := fun a b => match s1 a b with
  | some e => some e
  | none => s2 a b
def sAdd0 : List SV → List Ro → Option (Option Prop × SV)
  | [.v (.slice none 0 0)], [] => some (none, vS (addL 0 fun _ => zeroV))
  | _, _ => none
noncomputable def sReach0 : List SV → List Ro → Option (Option Prop × SV)
  | [.agg [.v (.int .i64 k), .v (.int .i64 r), .v (.int .i64 w), .v (.int .i64 h), .v (.slice none 0 0)]], [] => some (some (shOk ⟨k, r, w, h⟩), .v (.int .i64 (rchS (chkS ⟨k, r, w, h⟩ 0 zP) ⟨k, r, w, h⟩ 0 zP)))
  | _, _ => none
def sWeigh0 : List SV → List Ro → Option (Option Prop × SV)
  | [.agg [.v (.int .i64 k), .v (.int .i64 r), .v (.int .i64 w), .v (.int .i64 h), .v (.slice none 0 0)], .v (.int .i64 d)], [] => some (some (shOk ⟨k, r, w, h⟩ ∧ I64 d), .tup [vS (wghV (chkS ⟨k, r, w, h⟩ 0 zP) ⟨k, r, w, h⟩ 0 zP d), .v (.int .i64 (wghE (chkS ⟨k, r, w, h⟩ 0 zP) d))])
  | _, _ => none
def sCorn0 (args : List SV) (bs : List Blk) : Option Eff := match args, bs with
  | [.agg [.v (.int .i64 k), .v (.int .i64 r), .v (.int .i64 w), .v (.int .i64 h), .v (.slice none 0 0)]], [] => some (.nd (shOk ⟨k, r, w, h⟩) Nat 0 (fun c => .sl 1000 2 0 (corN (chkS ⟨k, r, w, h⟩ 0 zP) ⟨k, r, w, h⟩ 0) (corN (chkS ⟨k, r, w, h⟩ 0 zP) ⟨k, r, w, h⟩ 0 + c)) fun c => [(1000, spB (corN (chkS ⟨k, r, w, h⟩ 0 zP) ⟨k, r, w, h⟩ 0) (corN (chkS ⟨k, r, w, h⟩ 0 zP) ⟨k, r, w, h⟩ 0 + c) (corG ⟨k, r, w, h⟩ zP))])
  | _, _ => none
def sDisc0 : List SV → Option (Option Prop × SV)
  | [.v (.int .i64 r)] => some (some (I64 r), .tup [shS (keepS (chkS (discS r) 0 zP == 0) (discS r)) nilV, .v (.int .i64 (chkS (discS r) 0 zP))])
  | _ => none
def sSquare0 : List SV → Option (Option Prop × SV)
  | [.v (.int .i64 w), .v (.int .i64 h)] => some (some (I64 w ∧ I64 h), .tup [shS (keepS (chkS (boxS w h) 0 zP == 0) (boxS w h)) nilV, .v (.int .i64 (chkS (boxS w h) 0 zP))])
  | _ => none
theorem vcCorn0 (s : ShB) (e : Int) : (vcFn Try.prog ΓI0 noΛ Try.f67 [shS s nilV] (heapOf []) 64 (fun y h' => FinE [] (cornE e s 0 zP) y h')) =
((shOk s) ∧ 
(sel ((chkS s 0 fun x => (0, 0)) != 0) (∃ c : Nat, ((((SV.v (Value.slice none 0 0)) = (SV.v (Value.slice none 0 0))) ∧ (((0 : Nat) = 0) ∧ ((((corN e s 0) : Nat) = 0) ∧ (((corN e s 0 + c) : Nat) = 0)))) ∧ (((((corN e s 0) : Nat) = 0) ∧ ((((corN e s 0 + c) : Nat) = 0) ∧ True)) ∧ True))) 
(sel (ShB.k s == 2) (∃ c : Nat, (((SV.sl 328 2 0 4 4) = (SV.sl 328 2 0 (corN e s 0) (corN e s 0 + c))) ∧ (((4 : Nat) = (corN e s 0)) ∧ ((((corN e s 0 + c) : Nat) ≤ 4) ∧ (∀ i : Nat, (((i : Nat) < (corN e s 0)) → ([(SV.v (Value.int IntKind.i64 (bop (Nat.beq i 0) (IntKind.wrap IntKind.i64 (0 - ShB.w s)) (bop (Nat.beq i 1) (ShB.w s) (bop (Nat.beq i 2) (ShB.w s) (IntKind.wrap IntKind.i64 (0 - ShB.w s))))))), (SV.v (Value.int IntKind.i64 (bop (Nat.beq i 0) (IntKind.wrap IntKind.i64 (0 - ShB.h s)) (bop (Nat.beq i 1) (IntKind.wrap IntKind.i64 (0 - ShB.h s)) (bop (Nat.beq i 2) (ShB.h s) (ShB.h s))))))] = [(SV.v (Value.int IntKind.i64 (Prod.fst (corG s zP i)))), (SV.v (Value.int IntKind.i64 (Prod.snd (corG s zP i))))]))))))) (((0 : Nat) ≤ 140737488355328) ∧ (∀ c : Nat, (∃ c_1 : Nat, (((SV.sl 360 2 0 0 (0 + c)) = (SV.sl 360 2 0 (corN e s 0) (corN e s 0 + c_1))) ∧ (((0 : Nat) = (corN e s 0)) ∧ ((((corN e s 0 + c_1) : Nat) ≤ (0 + c)) ∧ (∀ i : Nat, (((i : Nat) < (corN e s 0)) → ([] = [(SV.v (Value.int IntKind.i64 (Prod.fst (corG s zP i)))), (SV.v (Value.int IntKind.i64 (Prod.snd (corG s zP i))))])))))))))))) := by kernel_rfl
theorem vcDisc0 (r : Int) (R : SV → Prop) : (vcPure Try.prog ΓI1 noΛ Try.f25 [.v (.int .i64 r)] R) =
((shOk { k := 1, r := r, w := 0, h := 0 }) ∧ (R (SV.tup [(SV.agg [(SV.v (Value.int IntKind.i64 (ShB.k (keepS (chkS { k := 1, r := r, w := 0, h := 0 } 0 zP == 0) { k := 1, r := r, w := 0, h := 0 })))), (SV.v (Value.int IntKind.i64 (ShB.r (keepS (chkS { k := 1, r := r, w := 0, h := 0 } 0 zP == 0) { k := 1, r := r, w := 0, h := 0 })))), (SV.v (Value.int IntKind.i64 (ShB.w (keepS (chkS { k := 1, r := r, w := 0, h := 0 } 0 zP == 0) { k := 1, r := r, w := 0, h := 0 })))), (SV.v (Value.int IntKind.i64 (ShB.h (keepS (chkS { k := 1, r := r, w := 0, h := 0 } 0 zP == 0) { k := 1, r := r, w := 0, h := 0 })))), (SV.v (Value.slice none 0 0))]), (SV.v (Value.int IntKind.i64 (chkS { k := 1, r := r, w := 0, h := 0 } 0 zP)))]))) := by kernel_rfl
theorem vcSquare0 (w h : Int) (R : SV → Prop) : (vcPure Try.prog ΓI1 noΛ Try.f27 [.v (.int .i64 w), .v (.int .i64 h)] R) =
((shOk { k := 2, r := 0, w := w, h := h }) ∧ (R (SV.tup [(SV.agg [(SV.v (Value.int IntKind.i64 (ShB.k (keepS (chkS { k := 2, r := 0, w := w, h := h } 0 zP == 0) { k := 2, r := 0, w := w, h := h })))), (SV.v (Value.int IntKind.i64 (ShB.r (keepS (chkS { k := 2, r := 0, w := w, h := h } 0 zP == 0) { k := 2, r := 0, w := w, h := h })))), (SV.v (Value.int IntKind.i64 (ShB.w (keepS (chkS { k := 2, r := 0, w := w, h := h } 0 zP == 0) { k := 2, r := 0, w := w, h := h })))), (SV.v (Value.int IntKind.i64 (ShB.h (keepS (chkS { k := 2, r := 0, w := w, h := h } 0 zP == 0) { k := 2, r := 0, w := w, h := h })))), (SV.v (Value.slice none 0 0))]), (SV.v (Value.int IntKind.i64 (chkS { k := 2, r := 0, w := w, h := h } 0 zP)))]))) := by kernel_rfl
noncomputable def ΓN : Ctrs := addCtr (addCtr (addCtr (addCtr (addCtr (addCtr ΓG 49 (roCtr (orRo sAdd0 sAddL))) 69 (roCtr (orRo sReach0 sReachL))) 22 (roCtr (orRo sWeigh0 sWeigh))) 67 (hpCtr false (orHp sCorn0 sCorn))) 25 (pureCtr sDisc0)) 27 (pureCtr sSquare0)
section
variable {P : Program} {f : FuncId}
theorem ro_or {s1 s2 : List SV → List Ro → Option (Option Prop × SV)} (h1 : RoSpec P f s1) (h2 : RoSpec P f s2) : RoSpec P f (orRo s1 s2) := fun args bs e hs => by
  unfold roSpec at hs
  cases hr : roOf bs with
  | none => rw [hr] at hs; cases hs
  | some rs =>
    rw [hr] at hs
    simp only [orRo] at hs
    cases h : s1 args rs with
    | some px =>
      rw [h] at hs
      exact h1 args bs e (by unfold roSpec; rw [hr]; simp only [h]; exact hs)
    | none =>
      rw [h] at hs
      exact h2 args bs e (by unfold roSpec; rw [hr]; exact hs)
theorem hp_orE {s1 s2 : List SV → List Blk → Option Eff} (h1 : HpSpec P f s1) (h2 : HpSpec P f s2) : HpSpec P f (orHp s1 s2) := fun args bs e hs => by
  unfold orHp at hs
  cases h : s1 args bs with
  | some px =>
    rw [h] at hs
    exact h1 args bs e (h.trans hs)
  | none =>
    rw [h] at hs
    exact h2 args bs e hs
/-- Where nil lies. -/
def nilD (s : Nat) : Dict := fun k => bif Nat.beq k 0 then some ⟨0, s, 0, 0, true⟩ else none
theorem nil_rep {W : World} (s : Nat) (row : Nat → List SV) : HRep (nilD s) (heapOf [Ro.blk ⟨s, 0, row⟩]) W := by
  refine ⟨fun k b' hk => ?_, fun k k' r b' h1 h2 hk hrw => ?_⟩
  · match k, hk with
    | 0, hk =>
      have hk : some (Ro.blk ⟨s, 0, row⟩) = some b' := hk
      cases hk
      exact ⟨⟨0, s, 0, 0, true⟩, rfl, fun _ => ⟨rfl, rfl, fun _ => ⟨rfl, rfl⟩, fun hh => by cases hh⟩⟩
    | k + 1, hk => simp [heapOf] at hk
  · match k, hk with
    | 0, hk =>
      have hk : some (Ro.blk ⟨s, 0, row⟩) = some b' := hk
      cases hk
      cases hrw
    | k + 1, hk => simp [heapOf] at hk
/-- What holds of an empty slice holds of nil. -/
theorem ro_nil {spec spec' : List SV → List Ro → Option (Option Prop × SV)} (s : Nat) (h : RoSpec P f spec)
    (hs : ∀ args bs p x, spec' args bs = some (p, x) → bs = [] ∧ plain x = true ∧ ∃ args' row p', spec args' [⟨s, 0, row⟩] = some (p', x) ∧ ((∀ q, p = some q → q) → ∀ q, p' = some q → q) ∧ ∀ vals, absL noDict args vals → absL (nilD s) args' vals) : RoSpec P f spec' := by
  intro args bs e he hask δ w vals ha hr ht hl
  unfold roSpec at he
  cases hro : roOf bs with
  | none => rw [hro] at he; cases he
  | some rs =>
    rw [hro] at he
    simp only at he
    cases hsp : spec' args rs with
    | none => rw [hsp] at he; cases he
    | some px =>
      obtain ⟨p, x⟩ := px
      rw [hsp] at he
      cases he
      obtain ⟨rfl, hx, args', row, p', h1, h2, h3⟩ := hs args rs p x hsp
      obtain rfl : bs = [] := by
        cases bs with
        | nil => rfl
        | cons b bs =>
          simp only [roOf] at hro
          cases hb : (b.rw || b.dead || !b.flat) with
          | true => rw [hb] at hro; cases hro
          | false =>
            rw [hb] at hro
            cases hr2 : roOf bs with
            | none => rw [hr2] at hro; cases hro
            | some l => rw [hr2] at hro; cases hro
      obtain rfl : δ = noDict := funext fun k => ht k rfl
      have e1 : roSpec spec args' [Ro.blk ⟨s, 0, row⟩] = some (.det p' x []) := by
        show (match spec args' [⟨s, 0, row⟩] with | some (p, x) => some (Eff.det p x []) | none => none) = _
        rw [h1]
      refine (h _ _ _ e1 (h2 hask) (nilD s) w vals (h3 vals ha) (nil_rep s row) (fun k hk => ?_) (by simp)).mono fun ed w' ⟨r, y, u, δ', g1, g2, _, g4, g5⟩ => ?_
      · match k, hk with
        | 0, hk => cases hk
        | k + 1, _ => rfl
      · obtain ⟨rfl, rfl⟩ := g2
        refine ⟨r, _, [], noDict, g1, ⟨rfl, rfl⟩, rfl, (absV_plain _ _ hx).2 ((absV_plain _ _ hx).1 g4), upd_below hr ⟨g5.wrel.os, g5.wrel.tape, g5.wrel.output, g5.wrel.size, fun k hk => g5.wrel.block k hk ?_⟩⟩
        rintro ⟨k', b, hb, hrw, _⟩
        match k', hb with
        | 0, hb =>
          have hb : some (Ro.blk ⟨s, 0, row⟩) = some b := hb
          cases hb
          cases hrw
        | k + 1, hb => simp [heapOf] at hb
end
theorem nil_abs {s : Nat} {v : Value} (h : absV noDict (.v (.slice none 0 0)) v) : absV (nilD s) (.sl 0 s 0 0 0) v := by
  simp only [absV] at h ⊢
  subst h
  exact ⟨_, rfl, rfl, Nat.le_refl _, .inr ⟨trivial, trivial, _, rfl⟩⟩
theorem nil_shape {k r w h : Int} {v : Value} (hv : absV noDict (shS ⟨k, r, w, h⟩ nilV) v) : absV (nilD 2) (shS ⟨k, r, w, h⟩ (.sl 0 2 0 0 0)) v := by
  simp only [shS, nilV, absV] at hv ⊢
  obtain ⟨cs, rfl, hc⟩ := hv
  refine ⟨cs, rfl, ?_⟩
  match cs, hc with
  | [a, b, c, d, e], hc =>
    simp only [absL, absV] at hc ⊢
    obtain ⟨h0, h1, h2, h3, rfl, _⟩ := hc
    exact ⟨h0, h1, h2, h3, ⟨_, rfl, rfl, Nat.le_refl _, .inr ⟨trivial, trivial, _, rfl⟩⟩, trivial⟩
theorem Add0_spec : RoSpec Try.prog 49 sAdd0 := ro_nil 4 Add2_spec fun args bs p x h => by
  unfold sAdd0 at h
  split at h <;> try (cases h; done)
  cases h
  refine ⟨rfl, rfl, [.sl 0 4 0 0 0], fun _ => vR zeroV, _, rfl, fun _ q hq => ?_, fun vals hv => ?_⟩
  · cases hq; exact ⟨trivial, rfl, by decide⟩
  · match vals, hv with
    | [v], hv =>
      simp only [absL] at hv ⊢
      exact ⟨nil_abs hv.1, trivial⟩
theorem Reach0_spec : RoSpec Try.prog 69 sReach0 := ro_nil 2 Reach_spec fun args bs p x h => by
  unfold sReach0 at h
  split at h <;> try (cases h; done)
  rename_i k r w h
  cases h
  refine ⟨rfl, rfl, [shS ⟨k, r, w, h⟩ (.sl 0 2 0 0 0)], rowsP zP, _, rfl, fun hp q hq => ?_, fun vals hv => ?_⟩
  · cases hq; exact ⟨hp _ rfl, trivial, rfl, by decide⟩
  · match vals, hv with
    | [v], hv =>
      simp only [absL] at hv ⊢
      exact ⟨nil_shape hv.1, trivial⟩
theorem Weigh0_spec : RoSpec Try.prog 22 sWeigh0 := ro_nil 2 Weigh_spec fun args bs p x h => by
  unfold sWeigh0 at h
  split at h <;> try (cases h; done)
  rename_i k r w h d
  cases h
  refine ⟨rfl, rfl, [shS ⟨k, r, w, h⟩ (.sl 0 2 0 0 0), .v (.int .i64 d)], rowsP zP, _, rfl, fun hp q hq => ?_, fun vals hv => ?_⟩
  · cases hq; exact ⟨⟨(hp _ rfl).1, trivial, rfl, by decide⟩, (hp _ rfl).2⟩
  · match vals, hv with
    | [v, v'], hv =>
      simp only [absL] at hv ⊢
      exact ⟨nil_shape hv.1, by simpa only [absV] using hv.2.1, trivial⟩
theorem ReachL_spec : RoSpec Try.prog 69 sReachL := fun args bs e hs => Reach_spec args bs e (by
  unfold roSpec at hs ⊢
  cases hr : roOf bs with
  | none => rw [hr] at hs; cases hs
  | some rs =>
    rw [hr] at hs
    simp only at hs ⊢
    have : sReachL args rs = none ∨ sReach args rs = sReachL args rs := by
      unfold sReachL
      split
      · exact .inr rfl
      · exact .inl rfl
    rcases this with h | h
    · rw [h] at hs; cases hs
    · rw [h]; exact hs)
theorem Corn0_spec : HpSpec Try.prog 67 sCorn0 := hp_spec hm ΓI0_ok Try.func67 (Λ := fun _ _ => noΛ) fun args bs e hs hp => by
  unfold sCorn0 at hs
  split at hs <;> try (cases hs; done)
  rename_i k r w hh
  cases hs
  have hs : shOk ⟨k, r, w, hh⟩ := hp
  refine ⟨[], trivial, ?_⟩
  generalize hS : (⟨k, r, w, hh⟩ : ShB) = s at *
  have e1 : SV.agg [.v (.int .i64 k), .v (.int .i64 r), .v (.int .i64 w), .v (.int .i64 hh), .v (.slice none 0 0)] = shS s nilV := by rw [← hS]; rfl
  rw [e1]
  refine Eq.mpr (vcCorn0 s (chkS s 0 zP)) ?_
  refine ⟨hs, sel_of (fun h => ?_) fun h => sel_of (fun h2 => ?_) fun h2 => ?_⟩
  · have h : (chkS s 0 zP != 0) = true := h
    have hN : corN (chkS s 0 zP) s 0 = 0 := by unfold corN; rw [h]; rfl
    rw [hN]
    exact ⟨0, ⟨rfl, rfl, rfl, rfl⟩, ⟨rfl, rfl, trivial⟩, trivial⟩
  · have e0 : chkS s 0 zP = 0 := (eq_keep (s := zSh) h).2
    obtain ⟨w1, w2⟩ := chk_box e0 h2
    rw [e0]
    have hN : corN 0 s 0 = 4 := by unfold corN; rw [h2]; rfl
    have hG : corG s zP = boxC s.w s.h := funext fun i => by unfold corG; rw [h2]; rfl
    rw [hN, hG, wrap_i64 ⟨by omega, by omega⟩, wrap_i64 ⟨by omega, by omega⟩, Int.zero_sub, Int.zero_sub]
    refine ⟨0, rfl, rfl, Nat.le_refl _, fun i hi => ?_⟩
    obtain rfl | rfl | rfl | rfl : i = 0 ∨ i = 1 ∨ i = 2 ∨ i = 3 := by omega
    · rfl
    · rfl
    · rfl
    · rfl
  · have e0 : chkS s 0 zP = 0 := (eq_keep (s := zSh) h).2
    rw [e0]
    have hk : (s.k == 2) = false := h2
    have hN : corN 0 s 0 = 0 := by unfold corN; rw [hk]; rfl
    have hG : corG s zP = zP := funext fun i => by unfold corG; rw [hk]; rfl
    rw [hN, hG]
    exact ⟨by omega, fun c1 => ⟨c1, rfl, rfl, Nat.le_refl _, fun i hi => absurd hi (Nat.not_lt_zero _)⟩⟩
theorem Disc0_spec : PureSpec Try.prog 25 sDisc0 := vc_spec hm ΓI1_ok Try.func25 (Λ := fun _ => noΛ) fun args p x h hp => by
  unfold sDisc0 at h
  split at h <;> try (cases h; done)
  rename_i r
  cases h
  exact ⟨rfl, rfl, Eq.mpr (vcDisc0 r _) ⟨shOk_disc (hp _ rfl), rfl⟩⟩
theorem Square0_spec : PureSpec Try.prog 27 sSquare0 := vc_spec hm ΓI1_ok Try.func27 (Λ := fun _ => noΛ) fun args p x h hp => by
  unfold sSquare0 at h
  split at h <;> try (cases h; done)
  rename_i r w
  cases h
  exact ⟨rfl, rfl, Eq.mpr (vcSquare0 r w _) ⟨shOk_box (hp _ rfl), rfl⟩⟩
theorem ΓN_ok : ∀ f g, ΓN f = some g → g.ok Try.prog f := addCtr_ok (addCtr_ok (addCtr_ok (addCtr_ok (addCtr_ok (addCtr_ok ΓG_ok (ro_ok Try.func49 (by kernel_rfl) (by kernel_rfl) (ro_or Add0_spec Add2_spec))) (ro_ok Try.func69 (by kernel_rfl) (by kernel_rfl) (ro_or Reach0_spec ReachL_spec))) (ro_ok Try.func22 (by kernel_rfl) (by kernel_rfl) (ro_or Weigh0_spec Weigh_spec))) (hp_ok Try.func67 (by kernel_rfl) (by kernel_rfl) (hp_orE Corn0_spec Corn_spec))) (pure_ok Try.func25 (by kernel_rfl) (by kernel_rfl) Disc0_spec)) (pure_ok Try.func27 (by kernel_rfl) (by kernel_rfl) Square0_spec)
end Go.Proofs.Ytheljpebapokjaa
