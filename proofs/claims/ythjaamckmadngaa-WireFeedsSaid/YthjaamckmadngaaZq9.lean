/-
  What the proof uses, part 9.
-/
import Derived.RecoverIn
import Derived.Test.YthjaamckmadngaaZq8
set_option maxRecDepth 100000
set_option linter.unusedSimpArgs false
set_option linter.unusedVariables false

section
namespace Go.SE
open Go.RowKit
def vcCaught (P : Program) (Γ : Ctrs) (gn : Func) (rt : Tmp) (c2 : Code) (arg v : SV) (h : Heap) (nx : Nat) (R : Heap → Prop) : Prop :=
  vcCode P Γ (fun _ => none) c2 0 { tmps := ([arg] ++ List.replicate (gn.ntmps - 1) undefS).set rt v, heap := h, nx := nx } fun e s => match e with
    | .normal => R s.heap
    | .ret => R s.heap
    | _ => False
def atRet (P : Program) (fn : Func) (s : St) (R : SV → Heap → Prop) (h : Heap) : Prop := match retS P fn { s with heap := h } with
  | some x => R x h
  | none => False
def vcFnD (P : Program) (Γ : Ctrs) (Λ : Nat → Option LoopSpec) (fn gn : Func) (A B c2 : Code) (ti rt : Tmp) (args : List SV) (h : Heap) (nx : Nat) (R : SV → Heap → Prop) : Prop :=
  vcCode P Γ Λ A 0 { tmps := args ++ List.replicate (fn.ntmps - args.length) undefS, heap := h, nx } fun e s => match e with
    | .normal => vcCode P Γ Λ B 0 s fun e2 s2 => match e2 with
      | .normal => vcCaught P Γ gn rt c2 (s.tmps.getD ti undefS) (.v .nilIface) s2.heap s2.nx (atRet P fn s2 R)
      | .ret => vcCaught P Γ gn rt c2 (s.tmps.getD ti undefS) (.v .nilIface) s2.heap s2.nx (atRet P fn s2 R)
      | .panic ch => match ch with
        | [en] => bif en.recovered || en.goexit then False else vcCaught P Γ gn rt c2 (s.tmps.getD ti undefS) (.v en.v) s2.heap s2.nx (atRet P fn s2 R)
        | _ => False
      | _ => False
    | _ => False
section
variable {P : Program} {Γ : Ctrs}
theorem leaves_marksR {fn : Func} {tmps : Array Value} {R : Ending → World → Prop} {B : Nat} {rest : List Deferred} {u : FrameMode} (hu : u ≠ .run) : ∀ (Ds : List Nat) (w : World), Ds.Nodup → (∀ D, D ∈ Ds → B ≤ D ∧ w.heap[D]? = some (.deferred (some []))) →
    (∀ W, Off B w W → LeavesInM Fence.wide 0 P fn tmps R rest u W) → LeavesInM Fence.wide 0 P fn tmps R (Ds.map (fun D => { target := .collected D, args := #[] }) ++ rest) u w
  | [], w, _, _, h => h w (Off.refl B w)
  | D :: Ds, w, hn, hd, h => by
    obtain ⟨h1, h2⟩ := hd D List.mem_cons_self
    have hoff : Off B w (w.putObj D (.deferred none)) := Off.putObj _ h2 rfl h1
    refine ⟨hu, .inl ⟨D, _, rfl, run_takeDeferred h2, leaves_marksR hu Ds _ (List.nodup_cons.1 hn).2 (fun D' hD' => ?_) fun W hW => h W (hoff.trans hW)⟩⟩
    have hne : D' ≠ D := fun e => (List.nodup_cons.1 hn).1 (e ▸ hD')
    obtain ⟨g1, g2⟩ := hd D' (List.mem_cons_of_mem _ hD')
    exact ⟨g1, (World.putObj_heap_other hne).trans g2⟩
theorem caught_calls (hm : P.follows .mixedOrders = true) (hΓ : ∀ f g, Γ f = some g → g.ok P f) {g : FuncId} {gn : Func} (hg : P.funcs[g]? = some gn) {rid : Nat} {o : Oper} {c2 : Code} {rt : Tmp}
    (hb : gn.body = some (.seq (.region rid #[o] false) c2)) (ho : ∀ (ρ : Operand → Value) (w : World), (execOp ρ o).run P w = .ok .recover w) (hog : o.guard = none) (hod : o.dst = some rt) (hres : gn.results = #[]) (hnr : noRF c2 = true)
    {u u' : FrameMode} {v : Value} (hrec : ∀ (c : Frame) (cs : List Frame), c.mode = u → recoverD (c :: cs) = some (v, { c with mode := u' } :: cs) ∨ (recoverD (c :: cs) = none ∧ v = .nilIface ∧ u' = u))
    {arg : SV} {val : Value} {h : Heap} {nx : Nat} {δ : Dict} {w : World} (ha : absV δ arg val) (hr : HRep δ h w) (ht : ∀ k, h k = none → δ k = none) {R : Heap → Prop} (hc : vcCaught P Γ gn rt c2 arg (.v v) h nx R) :
    CallsDIn Fence.wide 0 P g #[val] u w fun e u2 w' => (∃ r, e = .returned r) ∧ u2 = u' ∧ ∃ δ' h', R h' ∧ HRep δ' h' w' ∧ δ.le δ' ∧ WRel (rwOf δ h) w w' ∧ (∀ k, h' k = none → δ' k = none) ∧ (∀ q, rwOf δ' h' q → w.heap.size ≤ q ∨ rwOf δ h q) := by
  refine callsDIn_of_wpSIn hg hb trivial fun c₀ cs hu => ?_
  apply wpSIn_seq
  apply wpSIn_region
  -- behind recover
  have go : ∀ cs', (∃ u3, cs' = { c₀ with mode := u3 } :: cs ∧ u3 = u') →
      c2.wpSIn Fence.wide 0 P (bodyPostS P gn c₀ cs fun e u2 w' => (∃ r, e = .returned r) ∧ u2 = u' ∧ ∃ δ' h', R h' ∧ HRep δ' h' w' ∧ δ.le δ' ∧ WRel (rwOf δ h) w w' ∧ (∀ k, h' k = none → δ' k = none) ∧ (∀ q, rwOf δ' h' q → w.heap.size ≤ q ∨ rwOf δ h q))
        { tmps := (#[val] ++ Array.replicate (gn.ntmps - (#[val] : Array Value).size) undef).setIfInBounds rt v, defers := [] } cs' w := fun cs' ⟨u3, hcs, hu3⟩ => by
    refine wpSIn_of_wpIn rfl ?_
    have hrep : Rep (fun r => w.heap.size ≤ r ∨ rwOf δ h r) w δ { tmps := ([arg] ++ List.replicate (gn.ntmps - 1) undefS).set rt (.v v), heap := h, nx := nx } { tmps := (#[val] ++ Array.replicate (gn.ntmps - (#[val] : Array Value).size) undef).setIfInBounds rt v, defers := [] } w := by
      refine ⟨?_, MarksOk.nil _ _, hr, ht, fun r hx => .inr hx, WRel.refl _ _⟩
      have h0 : absL δ ([arg] ++ List.replicate (gn.ntmps - 1) undefS) ([val] ++ List.replicate (gn.ntmps - 1) undef) :=
        absL_append (by simp only [absL, and_true]; exact ha) (absL_replicate (by simp [undefS, absV]) _)
      have := absL_set h0 rt (x := .v v) (r := v) (absV_v.2 rfl)
      simpa using this
    refine wpIn_mono (code_wp hm hΓ c2 none 0 _ w (fun r hx => .inl hx) (.inl rfl) 0 _ δ _ _ w hc hrep) fun e a' w' ⟨δ', s', h1, h2, h3⟩ => ?_
    have hdf : a'.defers = [] := h3.df hnr
    have hrun : (results gn a'.tmps).run P w' = .ok (.tuple #[]) w' := by
      unfold results
      rw [hres]
      simp
    have wr : WRel (rwOf δ h) w w' := ⟨h2.wr.os, h2.wr.tape, h2.wr.output, h2.wr.size, fun r hlt hn => h2.wr.block r hlt (by
      rintro (hx | hx)
      · omega
      · exact hn hx)⟩
    cases e with
    | normal => exact ⟨hdf, u3, hcs, .tuple #[], hrun, ⟨_, rfl⟩, hu3, δ', s'.heap, h1, h2.hr, h3.le, wr, h2.tight, h2.mine⟩
    | ret => exact ⟨hdf, u3, hcs, .tuple #[], hrun, ⟨_, rfl⟩, hu3, δ', s'.heap, h1, h2.hr, h3.le, wr, h2.tight, h2.mine⟩
    | exit i => exact h1.elim
    | goto i => exact h1.elim
    | panic i => exact h1.elim
    | outgrown => exact h1.elim
  have hcs : ∀ (x : Value), ({ tmps := #[val] ++ Array.replicate (gn.ntmps - (#[val] : Array Value).size) undef, defers := [] } : Act).put o.dst x = { tmps := (#[val] ++ Array.replicate (gn.ntmps - (#[val] : Array Value).size) undef).setIfInBounds rt x, defers := [] } := fun x => by rw [hod]; rfl
  have hw : ∀ y, Region.wanted o y = true := fun y => by simp [Region.wanted, hog]
  show wpOpsSIn Fence.wide 0 P #[o] _ [0] _ _ _
  simp only [wpOpsSIn, List.getElem?_toArray, List.getElem?_cons_zero, hw, if_true, ho]
  refine ⟨fun _ _ => trivial, ?_⟩
  rcases hrec c₀ cs hu with h1 | ⟨h1, h2, h3⟩
  · rw [h1]
    simp only [Exit.thenS]
    rw [hcs]
    exact go _ ⟨u', rfl, rfl⟩
  · rw [h1]
    simp only [Exit.thenS]
    rw [hcs, ← h2]
    refine go _ ⟨u, ?_, h3.symm⟩
    rw [← hu]
theorem fn_callsD (hm : P.follows .mixedOrders = true) (hΓ : ∀ f g, Γ f = some g → g.ok P f) {f g : FuncId} {fn gn : Func} (hf : P.funcs[f]? = some fn) (hg : P.funcs[g]? = some gn) {A B c2 : Code} {rid rid2 : Nat} {o o2 : Oper} {ti rt : Tmp}
    (hb : fn.body = some (.seq A (.seq (.region rid #[o] false) B))) (ho : ∀ (a : Act) (w : World), (execOp a.eval o).run P w = .ok (.defer { target := .fn (.func g) #[], args := #[a.eval (.tmp ti)] }) w) (hog : o.guard = none) (hod : o.dst = none) (hnA : noRF A = true)
    (hb2 : gn.body = some (.seq (.region rid2 #[o2] false) c2)) (ho2 : ∀ (ρ : Operand → Value) (w : World), (execOp ρ o2).run P w = .ok .recover w) (hog2 : o2.guard = none) (hod2 : o2.dst = some rt) (hres : gn.results = #[]) (hnr : noRF c2 = true) (hname : (gn.name == "runtime.NumGoroutine") = false)
    {Λ : Nat → Option LoopSpec} {args : List SV} {h0 : Heap} {nx : Nat} {δ : Dict} {w : World} {vals : List Value}
    (ha : absL δ args vals) (hr : HRep δ h0 w) (ht : ∀ k, h0 k = none → δ k = none) {R : SV → Heap → Prop} (h : vcFnD P Γ Λ fn gn A B c2 ti rt args h0 nx R) :
    Calls P f vals.toArray w fun e w' => ∃ r x δ' h', e = .returned r ∧ R x h' ∧ absV δ' x r ∧ HRep δ' h' w' ∧ δ.le δ' ∧ WRel (rwOf δ h0) w w' ∧ (∀ q, rwOf δ' h' q → w.heap.size ≤ q ∨ rwOf δ h0 q) := by
  unfold vcFnD at h
  refine callsIn_wide.1 (callsIn_of_wp_marks (F := Fence.wide) (n := 0) hf hb trivial ?_ rfl)
  have hlen := absL_length ha
  have hrep : Rep (fun r => w.heap.size ≤ r ∨ rwOf δ h0 r) w δ { tmps := args ++ List.replicate (fn.ntmps - args.length) undefS, heap := h0, nx } { tmps := vals.toArray ++ Array.replicate (fn.ntmps - vals.toArray.size) undef, defers := [] } w := by
    refine ⟨?_, MarksOk.nil _ _, hr, ht, fun r hx => .inr hx, WRel.refl _ _⟩
    simp only [Array.toList_append, Array.toList_replicate, List.size_toArray, ← hlen]
    exact absL_append ha (absL_replicate (by simp [undefS, absV]) _)
  refine wpIn_seq (wpIn_mono (code_wp hm hΓ A none 0 _ w (fun r hx => .inl hx) (.inl rfl) 0 _ δ _ _ w h hrep) fun e a1 w1 ⟨δ1, s1, h1, h2, h3⟩ => ?_)
  cases e with
  | exit i => exact h1.elim
  | goto i => exact h1.elim
  | panic i => exact h1.elim
  | ret => exact h1.elim
  | outgrown => exact h1.elim
  | normal =>
  have hdf1 : a1.defers = [] := h3.df hnA
  have hval := h2.eval (.tmp ti)
  -- the deferred call is laid by
  have hw : ∀ y, Region.wanted o y = true := fun y => by simp [Region.wanted, hog]
  have hnd : ∀ (ρ : Operand → Value), (Oper.semAt Fence.wide.round ρ o) = execOp ρ o := fun ρ => Oper.semAt_none ρ o
  refine wpIn_seq (wpIn_region ?_)
  show wpOpsIn Fence.wide 0 P #[o] _ [0] _ _
  simp only [wpOpsIn, List.getElem?_toArray, List.getElem?_cons_zero, hw, if_true, Oper.wpIn, hnd, ho, Oper.uponIn_defer, hod, Act.put]
  refine ⟨fun _ _ => trivial, ?_⟩
  simp only [Exit.then]
  generalize hv : a1.eval (.tmp ti) = val at hval
  have hrep1 : Rep (fun r => w.heap.size ≤ r ∨ rwOf δ h0 r) w δ1 s1 { a1 with defers := { target := .fn (.func g) #[], args := #[val] } :: a1.defers } w1 :=
    ⟨h2.tm, ⟨[], [{ target := .fn (.func g) #[], args := #[val] }], by rw [hdf1]; rfl, fun d hd => by rw [List.mem_singleton.1 hd]; rfl, List.nodup_nil, fun _ hD => by cases hD⟩, h2.hr, h2.tight, h2.mine, h2.wr⟩
  refine wpIn_mono (code_wp hm hΓ B none 0 _ w (fun r hx => .inl hx) (.inl rfl) 0 _ δ1 s1 _ w1 h1 hrep1) fun e2 a2 w2 ⟨δ2, s2, k1, k2, k3⟩ => ?_
  have hrs : restOf a2.defers = [{ target := .fn (.func g) #[], args := #[val] }] := by
    rw [k3.rs]
    show restOf (_ :: a1.defers) = _
    rw [hdf1]
    rfl
  have hval2 : absV δ2 (s1.tmps.getD ti undefS) val := absV_mono k3.le _ _ hval
  -- the end, however it comes
  have fin : ∀ (u u' : FrameMode) (v : Value), u ≠ .run → settle u' = .returning → (∀ (c : Frame) (cs : List Frame), c.mode = u → recoverD (c :: cs) = some (v, { c with mode := u' } :: cs) ∨ (recoverD (c :: cs) = none ∧ v = .nilIface ∧ u' = u)) →
      vcCaught P Γ gn rt c2 (s1.tmps.getD ti undefS) (.v v) s2.heap s2.nx (atRet P fn s2 R) →
      LeavesInM Fence.wide 0 P fn a2.tmps (fun e w' => ∃ r x δ' h', e = .returned r ∧ R x h' ∧ absV δ' x r ∧ HRep δ' h' w' ∧ δ.le δ' ∧ WRel (rwOf δ h0) w w' ∧ (∀ q, rwOf δ' h' q → w.heap.size ≤ q ∨ rwOf δ h0 q)) a2.defers u w2 := fun u u' v hu hu' hrec hc => by
    obtain ⟨Ds, d1, d2, d3⟩ := k2.df.split hrs
    rw [d1]
    refine leaves_marksR (B := w.heap.size) hu Ds w2 d2 d3 fun W hW => ?_
    obtain ⟨o1, o2'⟩ := k2.off (Nat.le_refl _) hW
    have hinv : (invoke (.fn (.func g) #[]) #[val]).run P W = .ok (.enter g #[val]) W := by
      have hn' : ¬ gn.name = "runtime.NumGoroutine" := by simpa using hname
      have hb' : ¬ gn.body = none := fun e => by rw [hb2] at e; cases e
      simp [invoke, callFunc, hg, hn', hb']
    refine ⟨hu, .inr ⟨fun h => (by cases h), .func g, #[], g, #[val], rfl, hinv, fun _ _ => trivial, ?_⟩⟩
    refine (caught_calls hm hΓ hg hb2 ho2 hog2 hod2 hres hnr hrec hval2 o1 k2.tight hc).mono fun e u2 w3 ⟨⟨r, hr1⟩, hu2, δ3, h3', g1, g2, g3, g4, g5, g6⟩ => ?_
    subst hr1
    subst hu2
    show LeavesInM _ _ _ _ _ _ [] (settle u2) w3
    rw [hu']
    unfold atRet at g1
    cases hrs' : retS P fn { s2 with heap := h3' } with
    | none => rw [hrs'] at g1; exact g1.elim
    | some x =>
      rw [hrs'] at g1
      have hle : ∀ r, rwOf δ2 s2.heap r → (w.heap.size ≤ r ∨ rwOf δ h0 r) := k2.mine
      have hsz : w.heap.size ≤ W.heap.size := o2'.size
      have wr3 : WRel (fun r => w.heap.size ≤ r ∨ rwOf δ h0 r) w w3 := o2'.trans (g4.mono fun r _ => hle r)
      have mine3 : ∀ q, rwOf δ3 h3' q → w.heap.size ≤ q ∨ rwOf δ h0 q := fun q hq => by
        rcases g6 q hq with hx | hx
        · exact .inl (by omega)
        · exact hle q hx
      have rep3 : Rep (fun r => w.heap.size ≤ r ∨ rwOf δ h0 r) w δ3 { s2 with heap := h3' } { a2 with defers := [] } w3 :=
        ⟨absL_mono g3 _ _ k2.tm, MarksOk.nil _ _, g2, g5, mine3, wr3⟩
      obtain ⟨y, y1, y2⟩ := ret_ok (P := P) rep3 hrs'
      exact ⟨y, y1, y, x, δ3, h3', rfl, g1, y2, g2, Dict.le_trans h3.le (Dict.le_trans k3.le g3), ⟨wr3.os, wr3.tape, wr3.output, wr3.size, fun r hlt hn => wr3.block r hlt (by
        rintro (hx | hx)
        · omega
        · exact hn hx)⟩, mine3⟩
  have idle : ∀ (c : Frame) (cs : List Frame), c.mode = .returning → recoverD (c :: cs) = some (.nilIface, { c with mode := .returning } :: cs) ∨ (recoverD (c :: cs) = none ∧ (.nilIface : Value) = .nilIface ∧ FrameMode.returning = .returning) := fun c cs hc =>
    .inr ⟨by simp [recoverD, hc], rfl, rfl⟩
  cases e2 with
  | normal => exact fin .returning .returning .nilIface (by simp) rfl idle k1
  | ret => exact fin .returning .returning .nilIface (by simp) rfl idle k1
  | exit i => exact k1.elim
  | goto i => exact k1.elim
  | outgrown => exact k1.elim
  | panic ch =>
    obtain ⟨en, rfl, hre⟩ : ∃ en, ch = [en] ∧ (bif en.recovered || en.goexit then False else vcCaught P Γ gn rt c2 (s1.tmps.getD ti undefS) (.v en.v) s2.heap s2.nx (atRet P fn s2 R)) := by
      match ch, k1 with
      | [en], k1 => exact ⟨en, rfl, k1⟩
      | [], k1 => exact k1.elim
      | _ :: _ :: _, k1 => exact k1.elim
    obtain ⟨v, rec, go⟩ := en
    cases rec with
    | true => exact hre.elim
    | false =>
      cases go with
      | true => exact hre.elim
      | false =>
        refine fin (.panicking [{ v := v, recovered := false }]) (.panicking [{ v := v, recovered := true }]) v (by simp) rfl (fun c cs hc => .inl ?_) hre
        simp [recoverD, hc]
theorem hp_spec_of {f : FuncId} {spec : List SV → List Blk → Option Eff}
    (h : ∀ args bs e, spec args bs = some e → e.asks → ∃ bs', blksSame bs bs' ∧ ∀ δ w vals, absL δ args vals → HRep δ (heapOf bs') w → (∀ k, heapOf bs' k = none → δ k = none) → Calls P f vals.toArray w fun ed w' => ∃ r x δ' h', ed = .returned r ∧ FinE bs' e x h' ∧ absV δ' x r ∧ HRep δ' h' w' ∧ δ.le δ' ∧ WRel (rwOf δ (heapOf bs')) w w' ∧ (∀ q, rwOf δ' h' q → w.heap.size ≤ q ∨ rwOf δ (heapOf bs') q)) : HpSpec P f spec := fun args bs e hs hp δ w vals ha hr ht hlen => by
  obtain ⟨bs', hsm, hvc⟩ := h args bs e hs hp
  have hr1 := heapOf_same hsm hr
  have ht1 : ∀ k, heapOf bs' k = none → δ k = none := fun k hk => ht k (heapOf_none hsm k hk)
  refine (hvc δ w vals ha hr1 ht1).mono fun ed w' ⟨r, y, δ', h', h1, h2, h3, h4, h5, h6, h7⟩ => ?_
  obtain ⟨x, u, hout, hfin⟩ := FinE_out h2
  obtain ⟨g1, δ'', g2, g3⟩ := fin_upd hr1 ht1 (by rw [← blksSame_len hsm]; exact hlen) hfin h3 h4 h5 h6 h7
  refine ⟨r, x, u, δ'', h1, hout, ?_, g2, ?_⟩
  · -- the same names
    unfold finOk at g1 ⊢
    rw [Bool.and_eq_true] at g1 ⊢
    constructor
    · have : ∀ u : List (Nat × Blk), namesFin bs' u = namesFin bs u := by
        intro u
        induction u with
        | nil => rfl
        | cons q u ih =>
          obtain ⟨k, p⟩ := q
          simp only [namesFin, ih]
          rcases blksSame_get hsm k with ⟨e1, e2⟩ | ⟨a, b, e1, e2, e3⟩
          · rw [e1, e2]
          · rw [e1, e2]; simp only [e3.rw, e3.dead]
      rw [← this]; exact g1.1
    · have : ∀ (as bs : List Blk) j, blksSame as bs → allFin u as j = allFin u bs j := by
        intro as
        induction as with
        | nil => intro bs j h; cases bs with | nil => rfl | cons _ _ => exact h.elim
        | cons a as ih =>
          intro bs j h
          cases bs with
          | nil => exact h.elim
          | cons b bs => simp only [allFin, h.1.rw, h.1.dead, ih bs (j + 1) h.2]
      rw [this bs bs' 0 hsm]; exact g1.2
  · -- the same effect
    have hrwOf : ∀ r, rwOf δ (heapOf bs') r → rwOf δ (heapOf bs) r := fun r ⟨k, b, e1, e2, b', p, e3, e4, e5⟩ => by
      rcases blksSame_get hsm k with ⟨_, g⟩ | ⟨a, b0, f1, f2, f3⟩
      · unfold heapOf at e1; rw [g] at e1; cases e1
      · unfold heapOf at e1 e3; rw [f2] at e1 e3; cases e1; cases e3
        exact ⟨k, a, f1, f3.rw.trans e2, a, p, f1, f3.dead.trans e4, e5⟩
    have hget : ∀ k, (happ (heapOf bs) u k = none ∧ happ (heapOf bs') u k = none) ∨ ∃ a b, happ (heapOf bs) u k = some a ∧ happ (heapOf bs') u k = some b ∧ BlkSame b a := fun k => by
      cases hi : inNames k u with
      | true =>
        rw [happ_same u (heapOf bs) (heapOf bs') hi]
        cases hh : happ (heapOf bs') u k with
        | none => exact .inl ⟨rfl, rfl⟩
        | some b => exact .inr ⟨b, b, rfl, rfl, BlkSame.refl b⟩
      | false =>
        rw [happ_other u _ hi, happ_other u _ hi]
        rcases blksSame_get hsm k with ⟨e1, e2⟩ | ⟨a, b, e1, e2, e3⟩
        · exact .inl ⟨e1, e2⟩
        · exact .inr ⟨a, b, e1, e2, e3.symm⟩
    have hlies : ∀ k r, lies δ'' (happ (heapOf bs) u) k r → lies δ'' (happ (heapOf bs') u) k r := fun k r ⟨b, p, e1, e2, e3⟩ => by
      rcases hget k with ⟨g, _⟩ | ⟨a, b', f1, f2, f3⟩
      · rw [g] at e1; cases e1
      · rw [f1] at e1; cases e1
        exact ⟨b', p, f2, f3.dead.trans e2, e3⟩
    refine ⟨g3.le, ⟨fun k b hk => ?_, fun k k' r b l1 l2 hk hb => ?_⟩, g3.fresh, fun k p e1 e2 e3 => (g3.place k p e1 e2 e3).imp id (hrwOf _), g3.wrel.mono fun r _ => hrwOf r⟩
    · rcases hget k with ⟨g, _⟩ | ⟨a, b', f1, f2, f3⟩
      · rw [g] at hk; cases hk
      · rw [f1] at hk; cases hk
        obtain ⟨p, d1, d2⟩ := g3.rep.blk k b' f2
        exact ⟨p, d1, fun hd => (d2 (f3.dead.trans hd)).same f3⟩
    · rcases hget k with ⟨g, _⟩ | ⟨a, b', f1, f2, f3⟩
      · rw [g] at hk; cases hk
      · rw [f1] at hk; cases hk
        exact g3.rep.inj k k' r b' (hlies _ _ l1) (hlies _ _ l2) f2 (f3.rw.trans hb)
end
end Go.SE
end
