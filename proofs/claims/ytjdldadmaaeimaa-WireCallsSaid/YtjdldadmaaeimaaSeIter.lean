/-
  The symbolic executor: ranges over a function. The iterator's contract here is of its own kind: it hands over its items in order, and looks at blocks that the rounds keep; the rounds' invariant is told which round it is.
-/
import Derived.Test.YtjdldadmaaeimaaSeRel
import Derived.RangeFuncWrites
import Derived.RangeFuncCalls
import Derived.RangeFuncLeaves
import Derived.OrdersIn
import Derived.Sort.LoopGhostIn
namespace Go.SE
open Go.RowKit

/-- Every function may be called; 'ro': the round that is under way. -/
def WF (ro : Option Nat) : Fence := { fn := fun _ => True, depth := none, alive := false, round := ro }
theorem WF_none : WF none = Fence.wide := rfl
theorem WF_some (l : Nat) : WF (some l) = (WF none).inRound l := rfl

theorem calls_in {P : Program} {f : FuncId} {args : Array Value} {w : World} {R : Ending → World → Prop} (ro : Option Nat) (n : Nat) (h : Calls P f args w R) : CallsIn (WF ro) n P f args w R := by
  cases ro with
  | none => exact callsIn_wide.2 h
  | some l => exact CallsIn.inRound l (F := WF none) (callsIn_wide.2 h)

/-- What turns aside: blocks of cells, and all below B, lie as they lay. -/
structure Off (B : Nat) (w w' : World) : Prop where
  os : w'.os = w.os
  tape : w'.tape = w.tape
  output : w'.output = w.output
  size : w.heap.size ≤ w'.heap.size
  same : ∀ (r : Nat) (o : Obj), w.heap[r]? = some o → o.isCells = true ∨ r < B → w'.heap[r]? = some o

theorem Off.refl (B : Nat) (w : World) : Off B w w := ⟨rfl, rfl, rfl, Nat.le_refl _, fun _ _ h _ => h⟩
theorem Off.trans {B : Nat} {a b c : World} (h : Off B a b) (k : Off B b c) : Off B a c :=
  ⟨k.os.trans h.os, k.tape.trans h.tape, k.output.trans h.output, Nat.le_trans h.size k.size, fun r o hr ho => k.same r o (h.same r o hr ho) ho⟩
theorem Off.alloc (B : Nat) (w : World) (o : Obj) : Off B w (w.alloc o) :=
  ⟨rfl, rfl, rfl, by simp, fun r _ hr _ => (Below.heap_alloc w o r (Array.getElem?_eq_some_iff.1 hr).1).trans hr⟩
theorem Off.putObj {B : Nat} {w : World} {l : Nat} {o : Obj} (o' : Obj) (h : w.heap[l]? = some o) (hc : o.isCells = false) (hB : B ≤ l) : Off B w (w.putObj l o') :=
  ⟨rfl, rfl, rfl, by simp, fun r x hr hx => by
    have hne : r ≠ l := fun e => by
      subst e
      rw [h] at hr; cases hr
      rcases hx with hx | hx
      · rw [hc] at hx; cases hx
      · omega
    exact (World.putObj_heap_other hne).trans hr⟩
theorem Off.below {B : Nat} {w w' : World} (h : Below w.heap.size w w') : Off B w w' :=
  ⟨h.os, h.tape, h.output, h.size, fun r _ hr _ => (h.block r (Array.getElem?_eq_some_iff.1 hr).1).trans hr⟩

/-- An iterator over N items, in order. -/
def SeqIn (P : Program) (g : Nat) (lb : Array Value) (encs : Nat → Array Value) (N : Nat) (Kp : World → Prop) (w : World) : Prop :=
  ∀ (l : Nat) (J : Nat → World → Prop) (Jx : World → Prop) (W : World), Below w.heap.size w W →
    (∀ k W1 W2, J k W1 → Below W1.heap.size W1 W2 → J k W2) → (∀ W1 W2, Jx W1 → Below W1.heap.size W1 W2 → Jx W2) → (∀ k W1, J k W1 → Kp W1) →
    (∀ k W1 m, J k W1 → k < N → YieldAt Fence.wide m P l (encs k) W1 fun e W' => (e = .returned (.bool true) ∧ J (k + 1) W') ∨ (e = .returned (.bool false) ∧ Jx W')) →
    J 0 W → ∀ n, CallsIn Fence.wide n P g (#[.func (.yield l) #[] #[]] ++ lb) W fun e W' => (∃ v, e = .returned v) ∧ (J N W' ∨ Jx W')

/-- How a round may be left. -/
def rfPost (B : Nat) (I : World → Prop) (Ix : Code → World → Prop) (W : World) : Exit → Act → World → Prop
  | .normal, _, W' => KeepsFrom B W W' ∧ I W'
  | .ret, _, W' => KeepsFrom B W W' ∧ Ix .ret W'
  | .exit id, _, W' => KeepsFrom B W W' ∧ Ix (.exit id) W'
  | _, _, _ => False

theorem rf_law {P : Program} {g : Operand} {ps : Array Tmp} {assign body : Code} {Q : Exit → Act → World → Prop} {a : Act} {w : World} {n : Nat} {gf : Nat} {lb : Array Value} (hg : a.eval g = .func (.func gf) #[] lb)
    (eg : ∀ args w, (callFunc gf args).run P w = .ok (.enter gf args) w) {encs : Nat → Array Value} {N : Nat} {Kp : World → Prop} (hseq : SeqIn P gf lb encs N Kp w) (hps : ∀ i, i < N → (encs i).size = ps.size)
    (I : Nat → World → Prop) (Ix : Code → World → Prop) (hI : ∀ k W W', I k W → Off w.heap.size W W' → I k W') (hIx : ∀ c W W', Ix c W → Off w.heap.size W W' → Ix c W') (hK : ∀ k W, I k W → Kp W) (h0 : I 0 w)
    (hround : ∀ (l k : Nat) (W : World), I k W → k < N → assign.wpIn (WF (some l)) 0 P (Exit.then (fun a1 W1 => KeepsFrom w.heap.size W W1 ∧ ∀ W2, Off w.heap.size W1 W2 → body.wpIn (WF (some l)) 0 P (rfPost w.heap.size (I (k + 1)) Ix W2) a1 W2) (fun _ _ _ => False))
      { tmps := (ps.zip (encs k)).foldl (fun t (p, v) => t.setIfInBounds p v) a.tmps, defers := [] } W)
    (hdone : ∀ (D : Nat) (W : World), w.heap.size ≤ D → I N W → W.heap[D]? = some (.deferred (some [])) → Q .normal { a with defers := { target := .collected D, args := #[] } :: a.defers } W)
    (hret : ∀ (D : Nat) (W : World), w.heap.size ≤ D → Ix .ret W → W.heap[D]? = some (.deferred (some [])) → Q .ret { a with defers := { target := .collected D, args := #[] } :: a.defers } W)
    (hexit : ∀ (D id : Nat) (W : World), w.heap.size ≤ D → Ix (.exit id) W → W.heap[D]? = some (.deferred (some [])) → Q (.exit id) { a with defers := { target := .collected D, args := #[] } :: a.defers } W) :
    (Code.rangeFunc g ps assign body).wpIn (WF none) n P Q a w := by
  refine wpIn_rangeFunc ?_
  intro fn hfn
  obtain ⟨rec, hrec⟩ : ∃ rec : LoopState → Option Code → Loop, rec = fun st pe => { state := st, pending := pe, fn, tmps := a.tmps, params := ps, assign, body, defers := w.heap.size } := ⟨_, rfl⟩
  obtain ⟨W1, hW1⟩ : ∃ W1, (w.alloc (.deferred (some []))).alloc (.loop (rec .ready none)) = W1 := ⟨_, rfl⟩
  have hL1 : W1.heap[w.heap.size + 1]? = some (.loop (rec .ready none)) := by
    rw [← hW1]; have := World.alloc_heap_new (w.alloc (.deferred (some []))) (.loop (rec .ready none)); rwa [World.size_alloc] at this
  have hD1 : W1.heap[w.heap.size]? = some (.deferred (some [])) := by
    rw [← hW1]; exact (Below.heap_alloc _ _ _ (by simp)).trans (World.alloc_heap_new w _)
  have hI1 : I 0 W1 := by rw [← hW1]; exact hI _ _ _ (hI _ _ _ h0 (Off.alloc _ _ _)) (Off.alloc _ _ _)
  have hb1 : Below w.heap.size w W1 := by rw [← hW1]; exact ((Below.refl _ w).alloc (Nat.le_refl _) _).alloc (by simp) _
  refine ⟨w.heap.size + 1, [{ target := .collected w.heap.size, args := #[] }], W1, { target := .fn (.func gf) lb, args := #[.func (.yield (w.heap.size + 1)) #[] #[]] }, W1, gf,
    #[.func (.yield (w.heap.size + 1)) #[] #[]] ++ lb, W1, ?_, ?_, fun _ _ => trivial, ?_, fun h => absurd h (by decide), ?_⟩
  · rw [← hW1, hrec]; exact run_enterLoop_outer _ _ _ _ _
  · simp only [resolve, hg]
    simp [go_sem]
  · simp [invoke, go_sem, eg]
  · have book : ∀ {A B : World} {r : Nat} {o : Obj}, Below A.heap.size A B → A.heap[r]? = some o → B.heap[r]? = some o := fun h hr => (h.block _ (Array.getElem?_eq_some_iff.1 hr).1).trans hr
    refine (hseq (w.heap.size + 1)
      (fun k W => I k W ∧ W.heap[w.heap.size + 1]? = some (.loop (rec .ready none)) ∧ W.heap[w.heap.size]? = some (.deferred (some [])))
      (fun W => ∃ c, (c = .ret ∨ ∃ id, c = .exit id) ∧ Ix c W ∧ W.heap[w.heap.size + 1]? = some (.loop (rec .done (some c))) ∧ W.heap[w.heap.size]? = some (.deferred (some [])))
      W1 hb1 (fun k A B ⟨h1, h2, h3⟩ hb => ⟨hI _ _ _ h1 (Off.below hb), book hb h2, book hb h3⟩)
      (fun A B ⟨c, h0, h1, h2, h3⟩ hb => ⟨c, h0, hIx _ _ _ h1 (Off.below hb), book hb h2, book hb h3⟩)
      (fun k A h => hK k A h.1) ?_ ⟨hI1, hL1, hD1⟩ (n - 1)).mono ?_
    · rintro k W m ⟨hi, hl, hd⟩ hk
      have hlt : w.heap.size + 1 < W.heap.size := (Array.getElem?_eq_some_iff.1 hl).1
      have hy := run_yield (P := P) (args := encs k) hl (by rw [hrec]; exact hps k hk)
      rw [hrec] at hy
      refine ⟨fn, _, assign, body, hy, roundIn_of_wpIn (F := Fence.wide) trivial ?_⟩
      -- a round wants no room: the fence has none
      have anyDepth : ∀ {c : Code} {Q' : Exit → Act → World → Prop} {a' : Act} {W' : World}, c.wpIn (WF (some (w.heap.size + 1))) 0 P Q' a' W' → c.wpIn (Fence.wide.inRound (w.heap.size + 1)) m P Q' a' W' := fun h b k cs hro hb hr => h b k cs hro hb (fun _ hd => by cases hd)
      refine anyDepth (wpIn_mono (hround (w.heap.size + 1) k W hi hk) fun e a2 W2 he => ?_)
      cases e with
      | normal =>
        obtain ⟨hkf, hbody⟩ := he
        have hl2 : W2.heap[w.heap.size + 1]? = some (.loop (rec .ready none)) := hkf.same _ _ (by omega) hl rfl
        have hd2 : W2.heap[w.heap.size]? = some (.deferred (some [])) := hkf.same _ _ (Nat.le_refl _) hd rfl
        have hlt2 : w.heap.size + 1 < W2.heap.size := (Array.getElem?_eq_some_iff.1 hl2).1
        refine ⟨_, run_beginRound hl2 (by rw [hrec]), ?_⟩
        have hl3 : (W2.putObj (w.heap.size + 1) (.loop { rec .ready none with state := .busy })).heap[w.heap.size + 1]? = some (.loop { rec .ready none with state := .busy }) := World.putObj_heap_same hlt2
        have hd3 : (W2.putObj (w.heap.size + 1) (.loop { rec .ready none with state := .busy })).heap[w.heap.size]? = some (.deferred (some [])) := (World.putObj_heap_other (by omega)).trans hd2
        refine anyDepth (wpIn_mono (hbody _ (Off.putObj _ hl2 rfl (by omega))) ?_)
        have fin : ∀ (jump : Option Code) (W3 : World), KeepsFrom w.heap.size (W2.putObj (w.heap.size + 1) (.loop { rec .ready none with state := .busy })) W3 →
            (Instr.endRound (w.heap.size + 1) jump).run P W3 = .ok (.bool jump.isNone) (W3.putObj (w.heap.size + 1) (.loop (rec (if jump.isNone then .ready else .done) jump))) ∧
            W3.heap[w.heap.size + 1]? = some (.loop { rec .ready none with state := .busy }) ∧
            (W3.putObj (w.heap.size + 1) (.loop (rec (if jump.isNone then .ready else .done) jump))).heap[w.heap.size + 1]? = some (.loop (rec (if jump.isNone then .ready else .done) jump)) ∧
            (W3.putObj (w.heap.size + 1) (.loop (rec (if jump.isNone then .ready else .done) jump))).heap[w.heap.size]? = some (.deferred (some [])) := fun jump W3 hk3 => by
          have hl4 := hk3.same _ _ (by omega) hl3 rfl
          have := run_endRound (P := P) jump hl4
          rw [hrec] at this ⊢
          exact ⟨this, by rw [hrec] at hl4; exact hl4, World.putObj_heap_same (Array.getElem?_eq_some_iff.1 hl4).1, (World.putObj_heap_other (by omega)).trans (hk3.same _ _ (Nat.le_refl _) hd3 rfl)⟩
        rintro e a3 W3 hp
        cases e with
        | normal =>
          obtain ⟨hk3, hi3⟩ := hp
          obtain ⟨hr, hl4, hl5, hd5⟩ := fin none W3 hk3
          exact ⟨_, _, hr, .inl ⟨rfl, hI _ _ _ hi3 (Off.putObj _ hl4 rfl (by omega)), hl5, hd5⟩⟩
        | ret =>
          obtain ⟨hk3, hi3⟩ := hp
          obtain ⟨hr, hl4, hl5, hd5⟩ := fin (some .ret) W3 hk3
          exact ⟨_, _, hr, .inr ⟨rfl, .ret, .inl rfl, hIx _ _ _ hi3 (Off.putObj _ hl4 rfl (by omega)), hl5, hd5⟩⟩
        | exit id =>
          obtain ⟨hk3, hi3⟩ := hp
          obtain ⟨hr, hl4, hl5, hd5⟩ := fin (some (.exit id)) W3 hk3
          exact ⟨_, _, hr, .inr ⟨rfl, .exit id, .inr ⟨id, rfl⟩, hIx _ _ _ hi3 (Off.putObj _ hl4 rfl (by omega)), hl5, hd5⟩⟩
        | goto t => exact hp.elim
        | panic ch => exact hp.elim
        | outgrown => exact hp.elim
      | ret => exact he.elim
      | exit id => exact he.elim
      | goto t => exact he.elim
      | panic ch => exact he.elim
      | outgrown => exact he.elim
    · rintro e W2 ⟨⟨v, rfl⟩, (⟨hi, hl, hd⟩ | ⟨c, hc, hi, hl, hd⟩)⟩
      · exact ⟨none, _, by have := run_endLoop (P := P) hl (by rw [hrec]; simp); rw [hrec] at this; exact this, hdone _ _ (Nat.le_refl _) (hI _ _ _ hi (Off.putObj _ hl rfl (by omega))) ((World.putObj_heap_other (by omega)).trans hd)⟩
      · have off := hIx _ _ _ hi (Off.putObj (.loop { rec .done (some c) with state := .exhausted }) hl rfl (by omega))
        have hd' : (W2.putObj (w.heap.size + 1) (.loop { rec .done (some c) with state := .exhausted })).heap[w.heap.size]? = some (.deferred (some [])) := (World.putObj_heap_other (by omega)).trans hd
        refine ⟨some c, W2.putObj (w.heap.size + 1) (.loop { rec .done (some c) with state := .exhausted }), by have := run_endLoop (P := P) hl (by rw [hrec]; simp); rw [hrec] at this ⊢; exact this, ?_⟩
        rcases hc with rfl | ⟨id, rfl⟩
        · exact wpIn_ret (hret _ _ (Nat.le_refl _) off hd')
        · exact wpIn_exit (hexit _ _ _ (Nat.le_refl _) off hd')
end Go.SE
