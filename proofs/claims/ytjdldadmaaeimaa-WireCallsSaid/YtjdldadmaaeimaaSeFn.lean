/-
  The symbolic executor's functions: from the conditions of a body to the call; contracts.
-/
import Derived.Test.YtjdldadmaaeimaaSeMain
namespace Go.SE
open Go.RowKit

/-! ### plain values -/
mutual
def vOfS : SV → Value
  | .v x => x
  | .agg cs => .agg (vsOfS cs).toArray
  | .tup cs => .tuple (vsOfS cs).toArray
  | _ => undef
def vsOfS : List SV → List Value
  | [] => []
  | x :: xs => vOfS x :: vsOfS xs
end

mutual
theorem absV_plain {δ : Dict} : ∀ (x : SV) (r : Value), plain x = true → (absV δ x r ↔ r = vOfS x)
  | .v x, r, _ => by simp only [absV, vOfS]
  | .agg cs, r, h => by
    simp only [plain] at h
    simp only [absV, vOfS]
    constructor
    · rintro ⟨xs, rfl, h2⟩; rw [(absL_plain cs xs h).1 h2]
    · rintro rfl; exact ⟨_, rfl, (absL_plain cs _ h).2 rfl⟩
  | .tup cs, r, h => by
    simp only [plain] at h
    simp only [absV, vOfS]
    constructor
    · rintro ⟨xs, rfl, h2⟩; rw [(absL_plain cs xs h).1 h2]
    · rintro rfl; exact ⟨_, rfl, (absL_plain cs _ h).2 rfl⟩
  | .unk, _, h => by simp [plain] at h
  | .vp _ _, _, h => by simp [plain] at h
  | .ptr _ _ _, _, h => by simp [plain] at h
  | .sl _ _ _ _ _, _, h => by simp [plain] at h
  | .ap _ _ _, _, h => by simp [plain] at h
  | .fn _ _, _, h => by simp [plain] at h
theorem absL_plain {δ : Dict} : ∀ (xs : List SV) (rs : List Value), plainL xs = true → (absL δ xs rs ↔ rs = vsOfS xs)
  | [], [], _ => by simp [absL, vsOfS]
  | x :: xs, r :: rs, h => by
    simp only [plainL, Bool.and_eq_true] at h
    simp only [absL, vsOfS, List.cons.injEq, absV_plain x r h.1, absL_plain xs rs h.2]
  | [], _ :: _, _ => by simp [absL, vsOfS]
  | _ :: _, [], _ => by simp [absL, vsOfS]
end

section
variable {P : Program} {Γ : Ctrs}

theorem results_ok {own : Nat → Prop} {w0 : World} {δ : Dict} {s : St} {a : Act} {w : World} (hr : Rep own w0 δ s a w) : ∀ (l : List ResultVar) (xs : List SV), resultsS P s l = some xs →
    ∃ vs, (l.mapM (m := Sem) fun | .tmp t => pure (a.tmps.getD t undef) | .cell x t => do loadVar t (← asAddr (a.tmps.getD x undef))).run P w = .ok vs w ∧ absL δ xs vs
  | [], xs, h => by
    simp only [resultsS, Option.some.injEq] at h
    subst h
    exact ⟨[], by simp, by simp only [absL]⟩
  | .tmp t :: rest, xs, h => by
    simp only [resultsS] at h
    cases hl : resultsS P s rest with
    | none => rw [hl] at h; cases h
    | some l =>
      rw [hl] at h
      cases h
      obtain ⟨vs, h1, h2⟩ := results_ok hr rest l hl
      refine ⟨a.tmps.getD t undef :: vs, ?_, by simp only [absL]; exact ⟨hr.eval (.tmp t), h2⟩⟩
      simp only [List.mapM_cons, Sem.run_bind, Sem.run_pure, Result.andThen_ok]
      rw [h1]
      rfl
  | .cell x t :: rest, xs, h => by
    simp only [resultsS] at h
    cases hl : resultsS P s rest with
    | none => rw [hl] at h; cases h
    | some l =>
      cases hv : loadS P s.heap t (s.tmps.getD x undefS) with
      | none => rw [hl, hv] at h; cases h
      | some pv =>
        rw [hl, hv] at h
        · cases h
          obtain ⟨vs, h1, h2⟩ := results_ok hr rest l hl
          have hev := hr.eval (.tmp x)
          obtain ⟨y, y1, y2⟩ := load_ok (P := P) (w := w) hv hev hr.hr
          refine ⟨y :: vs, ?_, by simp only [absL]; exact ⟨y2, h2⟩⟩
          simp only [Act.eval] at y1
          have hld : (do loadVar t (← asAddr (a.tmps.getD x undef)) : Sem Value).run P w = .ok y w := by
            unfold Instr.loadAt at y1
            generalize a.tmps.getD x undef = z at y1 hev ⊢
            cases z <;> simp only [Instr.sureAddr, Sem.run_bind] at y1 <;> try (simp [stuck] at y1; done)
            rename_i ad
            cases ad with
            | none => simp [stuck] at y1
            | some ad => simpa [asAddr] using y1
          simp only [List.mapM_cons, Sem.run_bind]
          rw [Sem.run_bind] at hld
          rw [hld]
          simp only [Result.andThen_ok]
          rw [h1]
          rfl

theorem ret_ok {own : Nat → Prop} {w0 : World} {δ : Dict} {s : St} {a : Act} {w : World} {fn : Func} {x : SV} (hr : Rep own w0 δ s a w) (h : retS P fn s = some x) :
    ∃ v, (results fn a.tmps).run P w = .ok v w ∧ absV δ x v := by
  unfold retS at h
  cases hl : resultsS P s fn.results.toList with
  | none => rw [hl] at h; cases h
  | some xs =>
    rw [hl] at h
    obtain ⟨vs, h1, h2⟩ := results_ok (P := P) hr _ _ hl
    have hrun : (results fn a.tmps).run P w = .ok (if h : vs.toArray.size = 1 then vs.toArray[0] else .tuple vs.toArray) w := by
      unfold results
      rw [Array.mapM_eq_mapM_toList]
      simp only [Sem.run_bind, Sem.run_map]
      refine Eq.trans (congrArg (fun z : Result (List Value) => ((Result.andThen z fun a w' => Result.ok a.toArray w').andThen fun a w' => Sem.run P (pure (if h : a.size = 1 then a[0] else Value.tuple a)) w')) h1) ?_
      simp
    rw [hrun]
    match xs, vs, h2, h with
    | [y], [v], h2, h =>
      cases h
      simp only [absL, and_true] at h2
      exact ⟨v, by simp, h2⟩
    | [], [], h2, h =>
      cases h
      exact ⟨_, rfl, by simp only [absV]; exact ⟨[], by simp, h2⟩⟩
    | y :: y' :: ys, v :: v' :: vs, h2, h =>
      cases h
      exact ⟨_, rfl, by simp only [absV]; exact ⟨v :: v' :: vs, by simp, h2⟩⟩
    | [], _ :: _, h2, _ => simp only [absL] at h2
    | [_], [], h2, _ => simp only [absL] at h2
    | [_], _ :: _ :: _, h2, _ => simp [absL] at h2
    | _ :: _ :: _, [], h2, _ => simp only [absL] at h2
    | _ :: _ :: _, [_], h2, _ => simp [absL] at h2

theorem leaves_marks {fn : Func} {tmps : Array Value} {R : Ending → World → Prop} {B : Nat} : ∀ (Ds : List Nat) (w : World), Ds.Nodup → (∀ D, D ∈ Ds → B ≤ D ∧ w.heap[D]? = some (.deferred (some []))) →
    (∀ W, Off B w W → ∃ v, (results fn tmps).run P W = .ok v W ∧ R (.returned v) W) → LeavesInM Fence.wide 0 P fn tmps R (Ds.map fun D => { target := .collected D, args := #[] }) .returning w
  | [], w, _, _, h => h w (Off.refl B w)
  | D :: Ds, w, hn, hd, h => by
    obtain ⟨h1, h2⟩ := hd D List.mem_cons_self
    have hoff : Off B w (w.putObj D (.deferred none)) := Off.putObj _ h2 rfl h1
    refine ⟨by simp, .inl ⟨D, _, rfl, run_takeDeferred h2, leaves_marks Ds _ (List.nodup_cons.1 hn).2 (fun D' hD' => ?_) fun W hW => h W (hoff.trans hW)⟩⟩
    have hne : D' ≠ D := fun e => (List.nodup_cons.1 hn).1 (e ▸ hD')
    obtain ⟨g1, g2⟩ := hd D' (List.mem_cons_of_mem _ hD')
    exact ⟨g1, (World.putObj_heap_other hne).trans g2⟩

/-- ████ A CALL DOES WHAT THE CONDITIONS OF ITS BODY SAY ████ -/
theorem fn_calls (hm : P.follows .mixedOrders = true) (hΓ : ∀ f g, Γ f = some g → g.ok P f) {f : FuncId} {fn : Func} (hf : P.funcs[f]? = some fn) {Λ : Nat → Option LoopSpec} {args : List SV} {h0 : Heap} {nx : Nat} {δ : Dict} {w : World} {vals : List Value}
    (ha : absL δ args vals) (hr : HRep δ h0 w) (ht : ∀ k, h0 k = none → δ k = none) {R : SV → Heap → Prop} (h : vcFn P Γ Λ fn args h0 nx R) :
    Calls P f vals.toArray w fun e w' => ∃ r x δ' h', e = .returned r ∧ R x h' ∧ absV δ' x r ∧ HRep δ' h' w' ∧ δ.le δ' ∧ WRel (rwOf δ h0) w w' ∧ (∀ q, rwOf δ' h' q → w.heap.size ≤ q ∨ rwOf δ h0 q) := by
  unfold vcFn at h
  cases hb : fn.body with
  | none => rw [hb] at h; exact h.elim
  | some c =>
    rw [hb] at h
    simp only at h
    refine callsIn_wide.1 (callsIn_of_wp_marks (F := Fence.wide) (n := 0) hf hb trivial ?_ rfl)
    have hlen := absL_length ha
    have hrep : Rep (fun r => w.heap.size ≤ r ∨ rwOf δ h0 r) w δ { tmps := args ++ List.replicate (fn.ntmps - args.length) undefS, heap := h0, nx } { tmps := vals.toArray ++ Array.replicate (fn.ntmps - vals.toArray.size) undef, defers := [] } w := by
      refine ⟨?_, MarksOk.nil _ _, hr, ht, fun r hx => .inr hx, WRel.refl _ _⟩
      simp only [Array.toList_append, Array.toList_replicate, List.size_toArray, ← hlen]
      exact absL_append ha (absL_replicate (by simp [undefS, absV]) _)
    refine wpIn_mono (code_wp hm hΓ c none 0 _ w (fun r hx => .inl hx) (.inl rfl) 0 _ δ _ _ w h hrep) fun e a' w' ⟨δ', s', h1, h2, h3⟩ => ?_
    have fin : (match retS P fn s' with | some x => R x s'.heap | none => False) → LeavesInM Fence.wide 0 P fn a'.tmps (fun e w' => ∃ r x δ' h', e = .returned r ∧ R x h' ∧ absV δ' x r ∧ HRep δ' h' w' ∧ δ.le δ' ∧ WRel (rwOf δ h0) w w' ∧ (∀ q, rwOf δ' h' q → w.heap.size ≤ q ∨ rwOf δ h0 q)) a'.defers .returning w' := fun hx => by
      cases hrs : retS P fn s' with
      | none => rw [hrs] at hx; exact hx.elim
      | some x =>
        rw [hrs] at hx
        obtain ⟨Ds, d1, d2, d3⟩ := h2.df.split (r := []) h3.rs
        rw [d1, List.append_nil]
        refine leaves_marks (B := w.heap.size) Ds w' d2 d3 fun W hW => ?_
        obtain ⟨o1, o2⟩ := h2.off (Nat.le_refl _) hW
        have h2' : Rep (fun r => w.heap.size ≤ r ∨ rwOf δ h0 r) w δ' s' { a' with defers := [] } W := ⟨h2.tm, MarksOk.nil _ _, o1, h2.tight, h2.mine, o2⟩
        obtain ⟨v, v1, v2⟩ := ret_ok (P := P) h2' hrs
        refine ⟨v, v1, v, x, δ', s'.heap, rfl, hx, v2, o1, h3.le, ⟨o2.os, o2.tape, o2.output, o2.size, fun r hlt hn => o2.block r hlt ?_⟩, h2.mine⟩
        rintro (hx | hx)
        · omega
        · exact hn hx
    cases e with
    | normal => exact fin h1
    | ret => exact fin h1
    | exit i => exact h1.elim
    | goto i => exact h1.elim
    | panic i => exact h1.elim
    | outgrown => exact h1.elim

theorem leaves_marksP {fn : Func} {tmps : Array Value} {R : Ending → World → Prop} {B : Nat} {ch : List PanicEntry} : ∀ (Ds : List Nat) (w : World), Ds.Nodup → (∀ D, D ∈ Ds → B ≤ D ∧ w.heap[D]? = some (.deferred (some []))) →
    (∀ W, Off B w W → R (.panicked ch) W) → LeavesInM Fence.wide 0 P fn tmps R (Ds.map fun D => { target := .collected D, args := #[] }) (.panicking ch) w
  | [], w, _, _, h => h w (Off.refl B w)
  | D :: Ds, w, hn, hd, h => by
    obtain ⟨h1, h2⟩ := hd D List.mem_cons_self
    have hoff : Off B w (w.putObj D (.deferred none)) := Off.putObj _ h2 rfl h1
    refine ⟨by simp, .inl ⟨D, _, rfl, run_takeDeferred h2, leaves_marksP Ds _ (List.nodup_cons.1 hn).2 (fun D' hD' => ?_) fun W hW => h W (hoff.trans hW)⟩⟩
    have hne : D' ≠ D := fun e => (List.nodup_cons.1 hn).1 (e ▸ hD')
    obtain ⟨g1, g2⟩ := hd D' (List.mem_cons_of_mem _ hD')
    exact ⟨g1, (World.putObj_heap_other hne).trans g2⟩

/-- ████ THE SAME OF A FUNCTION THAT MAY PANIC ████ -/
theorem fn_callsP (hm : P.follows .mixedOrders = true) (hΓ : ∀ f g, Γ f = some g → g.ok P f) {f : FuncId} {fn : Func} (hf : P.funcs[f]? = some fn) {Λ : Nat → Option LoopSpec} {args : List SV} {h0 : Heap} {nx : Nat} {δ : Dict} {w : World} {vals : List Value}
    (ha : absL δ args vals) (hr : HRep δ h0 w) (ht : ∀ k, h0 k = none → δ k = none) {R RP : SV → Heap → Prop} (h : vcFnP P Γ Λ fn args h0 nx R RP) :
    Calls P f vals.toArray w fun e w' => ∃ r x δ' h', ((e = .returned r ∧ R x h') ∨ (e = .panicked [{ v := r, recovered := false }] ∧ RP x h')) ∧ absV δ' x r ∧ HRep δ' h' w' ∧ δ.le δ' ∧ WRel (rwOf δ h0) w w' ∧ (∀ q, rwOf δ' h' q → w.heap.size ≤ q ∨ rwOf δ h0 q) := by
  unfold vcFnP at h
  cases hb : fn.body with
  | none => rw [hb] at h; exact h.elim
  | some c =>
    rw [hb] at h
    simp only at h
    refine callsIn_wide.1 (callsIn_of_wp_marks (F := Fence.wide) (n := 0) hf hb trivial ?_ rfl)
    have hlen := absL_length ha
    have hrep : Rep (fun r => w.heap.size ≤ r ∨ rwOf δ h0 r) w δ { tmps := args ++ List.replicate (fn.ntmps - args.length) undefS, heap := h0, nx } { tmps := vals.toArray ++ Array.replicate (fn.ntmps - vals.toArray.size) undef, defers := [] } w := by
      refine ⟨?_, MarksOk.nil _ _, hr, ht, fun r hx => .inr hx, WRel.refl _ _⟩
      simp only [Array.toList_append, Array.toList_replicate, List.size_toArray, ← hlen]
      exact absL_append ha (absL_replicate (by simp [undefS, absV]) _)
    refine wpIn_mono (code_wp hm hΓ c none 0 _ w (fun r hx => .inl hx) (.inl rfl) 0 _ δ _ _ w h hrep) fun e a' w' ⟨δ', s', h1, h2, h3⟩ => ?_
    have end1 : ∀ W, Off w.heap.size w' W → HRep δ' s'.heap W ∧ WRel (rwOf δ h0) w W := fun W hW => by
      obtain ⟨o1, o2⟩ := h2.off (Nat.le_refl _) hW
      refine ⟨o1, o2.os, o2.tape, o2.output, o2.size, fun r hlt hn => o2.block r hlt ?_⟩
      rintro (hx | hx)
      · omega
      · exact hn hx
    have fin : (match retS P fn s' with | some x => R x s'.heap | none => False) → LeavesInM Fence.wide 0 P fn a'.tmps (fun e w' => ∃ r x δ' h', ((e = .returned r ∧ R x h') ∨ (e = .panicked [{ v := r, recovered := false }] ∧ RP x h')) ∧ absV δ' x r ∧ HRep δ' h' w' ∧ δ.le δ' ∧ WRel (rwOf δ h0) w w' ∧ (∀ q, rwOf δ' h' q → w.heap.size ≤ q ∨ rwOf δ h0 q)) a'.defers .returning w' := fun hx => by
      cases hrs : retS P fn s' with
      | none => rw [hrs] at hx; exact hx.elim
      | some x =>
        rw [hrs] at hx
        obtain ⟨Ds, d1, d2, d3⟩ := h2.df.split (r := []) h3.rs
        rw [d1, List.append_nil]
        refine leaves_marks (B := w.heap.size) Ds w' d2 d3 fun W hW => ?_
        obtain ⟨o1, o2⟩ := h2.off (Nat.le_refl _) hW
        have h2' : Rep (fun r => w.heap.size ≤ r ∨ rwOf δ h0 r) w δ' s' { a' with defers := [] } W := ⟨h2.tm, MarksOk.nil _ _, o1, h2.tight, h2.mine, o2⟩
        obtain ⟨v, v1, v2⟩ := ret_ok (P := P) h2' hrs
        exact ⟨v, v1, v, x, δ', s'.heap, .inl ⟨rfl, hx⟩, v2, o1, h3.le, (end1 W hW).2, h2.mine⟩
    cases e with
    | normal => exact fin h1
    | ret => exact fin h1
    | exit i => exact h1.elim
    | goto i => exact h1.elim
    | panic ch =>
      obtain ⟨en, rfl, hre⟩ : ∃ en, ch = [en] ∧ (bif en.recovered || en.goexit then False else RP (.v en.v) s'.heap) := by
        match ch, h1 with
        | [en], h1 => exact ⟨en, rfl, h1⟩
        | [], h1 => exact h1.elim
        | _ :: _ :: _, h1 => exact h1.elim
      obtain ⟨v, rec, go⟩ := en
      cases rec with
      | true => exact hre.elim
      | false =>
        cases go with
        | true => exact hre.elim
        | false =>
          obtain ⟨Ds, d1, d2, d3⟩ := h2.df.split (r := []) h3.rs
          show LeavesInM Fence.wide 0 P fn a'.tmps _ a'.defers (.panicking _) w'
          rw [d1, List.append_nil]
          refine leaves_marksP (B := w.heap.size) Ds w' d2 d3 fun W hW => ?_
          exact ⟨v, .v v, δ', s'.heap, .inr ⟨rfl, hre⟩, absV_v.2 rfl, (end1 W hW).1, h3.le, (end1 W hW).2, h2.mine⟩
    | outgrown => exact h1.elim

/-! ### contracts -/
/-- A callee that only reckons: of plain values a plain value. -/
def pureCtr (f : List SV → Option (Option Prop × SV)) : Ctr :=
  { writes := false, run := fun args _ _ => match f args with | some (p, x) => some (.det p x []) | none => none }

def noHeap : Heap := fun _ => none
def noDict : Dict := fun _ => none

theorem HRep.empty (w : World) : HRep noDict noHeap w := ⟨fun k b h => (by cases h), fun k k' r b h => (by obtain ⟨_, _, h, _⟩ := h; cases h)⟩

/-- What a call of a function comes to, in the kit's words. -/
def PureSpec (P : Program) (f : FuncId) (spec : List SV → Option (Option Prop × SV)) : Prop :=
  ∀ args p x, spec args = some (p, x) → (∀ q, p = some q → q) → plainL args = true ∧ plain x = true ∧ ∀ w, Calls P f (vsOfS args).toArray w fun e w' => e = .returned (vOfS x) ∧ Below w.heap.size w w'

/-- The conditions of a body that only reckons. -/
def vcPure (P : Program) (Γ : Ctrs) (Λ : Nat → Option LoopSpec) (fn : Func) (args : List SV) (R : SV → Prop) : Prop := vcFn P Γ Λ fn args noHeap 64 fun x _ => R x

theorem pure_calls (hm : P.follows .mixedOrders = true) (hΓ : ∀ f g, Γ f = some g → g.ok P f) {f : FuncId} {fn : Func} (hf : P.funcs[f]? = some fn) {Λ : Nat → Option LoopSpec} {args : List SV} (ha : plainL args = true) {x : SV} (hx : plain x = true)
    (h : vcPure P Γ Λ fn args (· = x)) (w : World) : Calls P f (vsOfS args).toArray w fun e w' => e = .returned (vOfS x) ∧ Below w.heap.size w w' := by
  refine (fn_calls hm hΓ hf (δ := noDict) (h0 := noHeap) ((absL_plain _ _ ha).2 rfl) (HRep.empty w) (fun _ _ => rfl) h).mono fun e w' ⟨r, y, δ', h', h1, h2, h3, _, _, h6, _⟩ => ?_
  subst h2
  refine ⟨by rw [h1, (absV_plain _ _ hx).1 h3], h6.os, h6.tape, h6.output, h6.size, fun k hk => h6.block k hk ?_⟩
  rintro ⟨k', b, hb, _⟩
  cases hb

theorem upd_below {δ : Dict} {h : Heap} {w w' : World} (hr : HRep δ h w) (h5 : Below w.heap.size w w') : Upd δ h w δ [] w' :=
  ⟨δ.le_refl, ⟨fun k b hk => (hr.blk k b hk).imp fun p ⟨d1, d2⟩ => ⟨d1, fun hd => (d2 hd).mono δ.le_refl fun hno => h5.block p.r (blkRep_lt ((d2 hd).rep hno))⟩, hr.inj⟩, fun k h0 h1 => absurd h0 h1, fun k p h0 h1 => (by rw [h0] at h1; cases h1), WRel.of_below h5⟩

theorem pure_ok {f : FuncId} {fn : Func} (hf : P.funcs[f]? = some fn) (hn : (fn.name == "runtime.NumGoroutine") = false) (hb : fn.body.isNone = false) {spec : List SV → Option (Option Prop × SV)} (hs : PureSpec P f spec) : (pureCtr spec).ok P f := by
  intro args h base e he δ w vals ha hr hp _
  simp only [pureCtr] at he
  cases hsp : spec args with
  | none => rw [hsp] at he; cases he
  | some px =>
    obtain ⟨p, x⟩ := px
    rw [hsp] at he
    cases he
    obtain ⟨h1, h2, h3⟩ := hs args p x hsp hp
    have hv := (absL_plain _ _ h1).1 ha
    subst hv
    have hrun : (callFunc f (vsOfS args).toArray).run P w = .ok (.enter f (vsOfS args).toArray) w := by
      have hn' : ¬ fn.name = "runtime.NumGoroutine" := by simpa using hn
      have hb' : ¬ fn.body = none := fun e => by rw [e] at hb; cases hb
      simp [callFunc, hf, hn', hb']
    rw [hrun]
    refine (h3 w).mono fun ed w' ⟨h4, h5⟩ => ⟨vOfS x, x, [], δ, h4, ⟨rfl, rfl⟩, (absV_plain _ _ h2).2 rfl, ?_⟩
    exact upd_below hr h5

theorem vc_spec (hm : P.follows .mixedOrders = true) (hΓ : ∀ f g, Γ f = some g → g.ok P f) {f : FuncId} {fn : Func} (hf : P.funcs[f]? = some fn) {spec : List SV → Option (Option Prop × SV)} {Λ : List SV → Nat → Option LoopSpec}
    (h : ∀ args p x, spec args = some (p, x) → (∀ q, p = some q → q) → plainL args = true ∧ plain x = true ∧ vcPure P Γ (Λ args) fn args (· = x)) : PureSpec P f spec := fun args p x hs hp =>
  ⟨(h args p x hs hp).1, (h args p x hs hp).2.1, pure_calls hm hΓ hf (h args p x hs hp).1 (h args p x hs hp).2.1 (h args p x hs hp).2.2⟩

/-- No callee. -/
def noCtrs : Ctrs := fun _ => none
theorem noCtrs_ok : ∀ f g, noCtrs f = some g → g.ok P f := fun _ _ h => by cases h

/-- One callee more. -/
def addCtr (Γ : Ctrs) (f : FuncId) (g : Ctr) : Ctrs := fun x => bif Nat.beq x f then some g else Γ x
theorem addCtr_ok {Γ : Ctrs} (hΓ : ∀ f g, Γ f = some g → g.ok P f) {f : FuncId} {g : Ctr} (hg : g.ok P f) : ∀ f' g', addCtr Γ f g f' = some g' → g'.ok P f' := fun f' g' h => by
  unfold addCtr at h
  cases he : Nat.beq f' f with
  | true =>
    rw [he] at h
    cases h
    rw [Nat.eq_of_beq_eq_true he]; exact hg
  | false => rw [he] at h; exact hΓ f' g' h
end
end Go.SE
