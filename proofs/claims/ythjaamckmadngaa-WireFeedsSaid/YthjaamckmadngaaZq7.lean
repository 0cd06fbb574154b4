/-
  What the proof uses, part 7.
-/
import Derived.RangeFuncWrites
import Derived.RangeFuncCalls
import Derived.RangeFuncLeaves
import Derived.OrdersIn
import Derived.Sort.LoopGhostIn
import Derived.Test.YthjaamckmadngaaZq6
set_option maxRecDepth 100000
set_option linter.unusedSimpArgs false
set_option linter.unusedVariables false

section
namespace Go.SE
open Go.RowKit
def WF (ro : Option Nat) : Fence := { fn := fun _ => True, depth := none, alive := false, round := ro }
theorem calls_in {P : Program} {f : FuncId} {args : Array Value} {w : World} {R : Ending → World → Prop} (ro : Option Nat) (n : Nat) (h : Calls P f args w R) : CallsIn (WF ro) n P f args w R := by
  cases ro with
  | none => exact callsIn_wide.2 h
  | some l => exact CallsIn.inRound l (F := WF none) (callsIn_wide.2 h)
structure Off (B : Nat) (w w' : World) : Prop where
  os : w'.os = w.os
  tape : w'.tape = w.tape
  output : w'.output = w.output
  size : w.heap.size ≤ w'.heap.size
  same : ∀ (r : Nat) (o : Obj), w.heap[r]? = some o → o.isCells = true ∨ r < B → w'.heap[r]? = some o
theorem Off.refl (B : Nat) (w : World) : Off B w w := ⟨rfl, rfl, rfl, Nat.le_refl _, fun _ _ h _ => h⟩
theorem Off.trans {B : Nat} {a b c : World} (h : Off B a b) (k : Off B b c) : Off B a c :=
  ⟨k.os.trans h.os, k.tape.trans h.tape, k.output.trans h.output, Nat.le_trans h.size k.size, fun r o hr ho => k.same r o (h.same r o hr ho) ho⟩
theorem Off.alloc (B : Nat) (w : World) (o : Obj) : Off B w (w.alloc o) :=
  ⟨rfl, rfl, rfl, by simp, fun r _ hr _ => (Below.heap_alloc w o r (Array.getElem?_eq_some_iff.1 hr).1).trans hr⟩
theorem Off.putObj {B : Nat} {w : World} {l : Nat} {o : Obj} (o' : Obj) (h : w.heap[l]? = some o) (hc : o.isCells = false) (hB : B ≤ l) : Off B w (w.putObj l o') :=
  ⟨rfl, rfl, rfl, by simp, fun r x hr hx => by
    have hne : r ≠ l := fun e => by
      subst e
      rw [h] at hr; cases hr
      rcases hx with hx | hx
      · rw [hc] at hx; cases hx
      · omega
    exact (World.putObj_heap_other hne).trans hr⟩
theorem Off.below {B : Nat} {w w' : World} (h : Below w.heap.size w w') : Off B w w' :=
  ⟨h.os, h.tape, h.output, h.size, fun r _ hr _ => (h.block r (Array.getElem?_eq_some_iff.1 hr).1).trans hr⟩
def SeqIn (P : Program) (g : Nat) (lb : Array Value) (encs : Nat → Array Value) (N : Nat) (Kp : World → Prop) (w : World) : Prop :=
  ∀ (l : Nat) (J : Nat → World → Prop) (Jx : World → Prop) (W : World), Below w.heap.size w W →
    (∀ k W1 W2, J k W1 → Below W1.heap.size W1 W2 → J k W2) → (∀ W1 W2, Jx W1 → Below W1.heap.size W1 W2 → Jx W2) → (∀ k W1, J k W1 → Kp W1) →
    (∀ k W1 m, J k W1 → k < N → YieldAt Fence.wide m P l (encs k) W1 fun e W' => (e = .returned (.bool true) ∧ J (k + 1) W') ∨ (e = .returned (.bool false) ∧ Jx W')) →
    J 0 W → ∀ n, CallsIn Fence.wide n P g (#[.func (.yield l) #[] #[]] ++ lb) W fun e W' => (∃ v, e = .returned v) ∧ (J N W' ∨ Jx W')
def rfPost (B : Nat) (I : World → Prop) (Ix : Code → World → Prop) (W : World) : Exit → Act → World → Prop
  | .normal, _, W' => KeepsFrom B W W' ∧ I W'
  | .ret, _, W' => KeepsFrom B W W' ∧ Ix .ret W'
  | .exit id, _, W' => KeepsFrom B W W' ∧ Ix (.exit id) W'
  | _, _, _ => False
theorem rf_law {P : Program} {g : Operand} {ps : Array Tmp} {assign body : Code} {Q : Exit → Act → World → Prop} {a : Act} {w : World} {n : Nat} {gf : Nat} {lb : Array Value} (hg : a.eval g = .func (.func gf) #[] lb)
    (eg : ∀ args w, (callFunc gf args).run P w = .ok (.enter gf args) w) {encs : Nat → Array Value} {N : Nat} {Kp : World → Prop} (hseq : SeqIn P gf lb encs N Kp w) (hps : ∀ i, i < N → (encs i).size = ps.size)
    (I : Nat → World → Prop) (Ix : Code → World → Prop) (hI : ∀ k W W', I k W → Off w.heap.size W W' → I k W') (hIx : ∀ c W W', Ix c W → Off w.heap.size W W' → Ix c W') (hK : ∀ k W, I k W → Kp W) (h0 : I 0 w)
    (hround : ∀ (l k : Nat) (W : World), I k W → k < N → assign.wpIn (WF (some l)) 0 P (Exit.then (fun a1 W1 => KeepsFrom w.heap.size W W1 ∧ ∀ W2, Off w.heap.size W1 W2 → body.wpIn (WF (some l)) 0 P (rfPost w.heap.size (I (k + 1)) Ix W2) a1 W2) (fun _ _ _ => False))
      { tmps := (ps.zip (encs k)).foldl (fun t (p, v) => t.setIfInBounds p v) a.tmps, defers := [] } W)
    (hdone : ∀ (D : Nat) (W : World), w.heap.size ≤ D → I N W → W.heap[D]? = some (.deferred (some [])) → Q .normal { a with defers := { target := .collected D, args := #[] } :: a.defers } W)
    (hret : ∀ (D : Nat) (W : World), w.heap.size ≤ D → Ix .ret W → W.heap[D]? = some (.deferred (some [])) → Q .ret { a with defers := { target := .collected D, args := #[] } :: a.defers } W)
    (hexit : ∀ (D id : Nat) (W : World), w.heap.size ≤ D → Ix (.exit id) W → W.heap[D]? = some (.deferred (some [])) → Q (.exit id) { a with defers := { target := .collected D, args := #[] } :: a.defers } W) :
    (Code.rangeFunc g ps assign body).wpIn (WF none) n P Q a w := by
  refine wpIn_rangeFunc ?_
  intro fn hfn
  obtain ⟨rec, hrec⟩ : ∃ rec : LoopState → Option Code → Loop, rec = fun st pe => { state := st, pending := pe, fn, tmps := a.tmps, params := ps, assign, body, defers := w.heap.size } := ⟨_, rfl⟩
  obtain ⟨W1, hW1⟩ : ∃ W1, (w.alloc (.deferred (some []))).alloc (.loop (rec .ready none)) = W1 := ⟨_, rfl⟩
  have hL1 : W1.heap[w.heap.size + 1]? = some (.loop (rec .ready none)) := by
    rw [← hW1]; have := World.alloc_heap_new (w.alloc (.deferred (some []))) (.loop (rec .ready none)); rwa [World.size_alloc] at this
  have hD1 : W1.heap[w.heap.size]? = some (.deferred (some [])) := by
    rw [← hW1]; exact (Below.heap_alloc _ _ _ (by simp)).trans (World.alloc_heap_new w _)
  have hI1 : I 0 W1 := by rw [← hW1]; exact hI _ _ _ (hI _ _ _ h0 (Off.alloc _ _ _)) (Off.alloc _ _ _)
  have hb1 : Below w.heap.size w W1 := by rw [← hW1]; exact ((Below.refl _ w).alloc (Nat.le_refl _) _).alloc (by simp) _
  refine ⟨w.heap.size + 1, [{ target := .collected w.heap.size, args := #[] }], W1, { target := .fn (.func gf) lb, args := #[.func (.yield (w.heap.size + 1)) #[] #[]] }, W1, gf,
    #[.func (.yield (w.heap.size + 1)) #[] #[]] ++ lb, W1, ?_, ?_, fun _ _ => trivial, ?_, fun h => absurd h (by decide), ?_⟩
  · rw [← hW1, hrec]; exact run_enterLoop_outer _ _ _ _ _
  · simp only [resolve, hg]
    simp [go_sem]
  · simp [invoke, go_sem, eg]
  · have book : ∀ {A B : World} {r : Nat} {o : Obj}, Below A.heap.size A B → A.heap[r]? = some o → B.heap[r]? = some o := fun h hr => (h.block _ (Array.getElem?_eq_some_iff.1 hr).1).trans hr
    refine (hseq (w.heap.size + 1)
      (fun k W => I k W ∧ W.heap[w.heap.size + 1]? = some (.loop (rec .ready none)) ∧ W.heap[w.heap.size]? = some (.deferred (some [])))
      (fun W => ∃ c, (c = .ret ∨ ∃ id, c = .exit id) ∧ Ix c W ∧ W.heap[w.heap.size + 1]? = some (.loop (rec .done (some c))) ∧ W.heap[w.heap.size]? = some (.deferred (some [])))
      W1 hb1 (fun k A B ⟨h1, h2, h3⟩ hb => ⟨hI _ _ _ h1 (Off.below hb), book hb h2, book hb h3⟩)
      (fun A B ⟨c, h0, h1, h2, h3⟩ hb => ⟨c, h0, hIx _ _ _ h1 (Off.below hb), book hb h2, book hb h3⟩)
      (fun k A h => hK k A h.1) ?_ ⟨hI1, hL1, hD1⟩ (n - 1)).mono ?_
    · rintro k W m ⟨hi, hl, hd⟩ hk
      have hlt : w.heap.size + 1 < W.heap.size := (Array.getElem?_eq_some_iff.1 hl).1
      have hy := run_yield (P := P) (args := encs k) hl (by rw [hrec]; exact hps k hk)
      rw [hrec] at hy
      refine ⟨fn, _, assign, body, hy, roundIn_of_wpIn (F := Fence.wide) trivial ?_⟩
      -- a round wants no room: the fence has none
      have anyDepth : ∀ {c : Code} {Q' : Exit → Act → World → Prop} {a' : Act} {W' : World}, c.wpIn (WF (some (w.heap.size + 1))) 0 P Q' a' W' → c.wpIn (Fence.wide.inRound (w.heap.size + 1)) m P Q' a' W' := fun h b k cs hro hb hr => h b k cs hro hb (fun _ hd => by cases hd)
      refine anyDepth (wpIn_mono (hround (w.heap.size + 1) k W hi hk) fun e a2 W2 he => ?_)
      cases e with
      | normal =>
        obtain ⟨hkf, hbody⟩ := he
        have hl2 : W2.heap[w.heap.size + 1]? = some (.loop (rec .ready none)) := hkf.same _ _ (by omega) hl rfl
        have hd2 : W2.heap[w.heap.size]? = some (.deferred (some [])) := hkf.same _ _ (Nat.le_refl _) hd rfl
        have hlt2 : w.heap.size + 1 < W2.heap.size := (Array.getElem?_eq_some_iff.1 hl2).1
        refine ⟨_, run_beginRound hl2 (by rw [hrec]), ?_⟩
        have hl3 : (W2.putObj (w.heap.size + 1) (.loop { rec .ready none with state := .busy })).heap[w.heap.size + 1]? = some (.loop { rec .ready none with state := .busy }) := World.putObj_heap_same hlt2
        have hd3 : (W2.putObj (w.heap.size + 1) (.loop { rec .ready none with state := .busy })).heap[w.heap.size]? = some (.deferred (some [])) := (World.putObj_heap_other (by omega)).trans hd2
        refine anyDepth (wpIn_mono (hbody _ (Off.putObj _ hl2 rfl (by omega))) ?_)
        have fin : ∀ (jump : Option Code) (W3 : World), KeepsFrom w.heap.size (W2.putObj (w.heap.size + 1) (.loop { rec .ready none with state := .busy })) W3 →
            (Instr.endRound (w.heap.size + 1) jump).run P W3 = .ok (.bool jump.isNone) (W3.putObj (w.heap.size + 1) (.loop (rec (if jump.isNone then .ready else .done) jump))) ∧
            W3.heap[w.heap.size + 1]? = some (.loop { rec .ready none with state := .busy }) ∧
            (W3.putObj (w.heap.size + 1) (.loop (rec (if jump.isNone then .ready else .done) jump))).heap[w.heap.size + 1]? = some (.loop (rec (if jump.isNone then .ready else .done) jump)) ∧
            (W3.putObj (w.heap.size + 1) (.loop (rec (if jump.isNone then .ready else .done) jump))).heap[w.heap.size]? = some (.deferred (some [])) := fun jump W3 hk3 => by
          have hl4 := hk3.same _ _ (by omega) hl3 rfl
          have := run_endRound (P := P) jump hl4
          rw [hrec] at this ⊢
          exact ⟨this, by rw [hrec] at hl4; exact hl4, World.putObj_heap_same (Array.getElem?_eq_some_iff.1 hl4).1, (World.putObj_heap_other (by omega)).trans (hk3.same _ _ (Nat.le_refl _) hd3 rfl)⟩
        rintro e a3 W3 hp
        cases e with
        | normal =>
          obtain ⟨hk3, hi3⟩ := hp
          obtain ⟨hr, hl4, hl5, hd5⟩ := fin none W3 hk3
          exact ⟨_, _, hr, .inl ⟨rfl, hI _ _ _ hi3 (Off.putObj _ hl4 rfl (by omega)), hl5, hd5⟩⟩
        | ret =>
          obtain ⟨hk3, hi3⟩ := hp
          obtain ⟨hr, hl4, hl5, hd5⟩ := fin (some .ret) W3 hk3
          exact ⟨_, _, hr, .inr ⟨rfl, .ret, .inl rfl, hIx _ _ _ hi3 (Off.putObj _ hl4 rfl (by omega)), hl5, hd5⟩⟩
        | exit id =>
          obtain ⟨hk3, hi3⟩ := hp
          obtain ⟨hr, hl4, hl5, hd5⟩ := fin (some (.exit id)) W3 hk3
          exact ⟨_, _, hr, .inr ⟨rfl, .exit id, .inr ⟨id, rfl⟩, hIx _ _ _ hi3 (Off.putObj _ hl4 rfl (by omega)), hl5, hd5⟩⟩
        | goto t => exact hp.elim
        | panic ch => exact hp.elim
        | outgrown => exact hp.elim
      | ret => exact he.elim
      | exit id => exact he.elim
      | goto t => exact he.elim
      | panic ch => exact he.elim
      | outgrown => exact he.elim
    · rintro e W2 ⟨⟨v, rfl⟩, (⟨hi, hl, hd⟩ | ⟨c, hc, hi, hl, hd⟩)⟩
      · exact ⟨none, _, by have := run_endLoop (P := P) hl (by rw [hrec]; simp); rw [hrec] at this; exact this, hdone _ _ (Nat.le_refl _) (hI _ _ _ hi (Off.putObj _ hl rfl (by omega))) ((World.putObj_heap_other (by omega)).trans hd)⟩
      · have off := hIx _ _ _ hi (Off.putObj (.loop { rec .done (some c) with state := .exhausted }) hl rfl (by omega))
        have hd' : (W2.putObj (w.heap.size + 1) (.loop { rec .done (some c) with state := .exhausted })).heap[w.heap.size]? = some (.deferred (some [])) := (World.putObj_heap_other (by omega)).trans hd
        refine ⟨some c, W2.putObj (w.heap.size + 1) (.loop { rec .done (some c) with state := .exhausted }), by have := run_endLoop (P := P) hl (by rw [hrec]; simp); rw [hrec] at this ⊢; exact this, ?_⟩
        rcases hc with rfl | ⟨id, rfl⟩
        · exact wpIn_ret (hret _ _ (Nat.le_refl _) off hd')
        · exact wpIn_exit (hexit _ _ _ (Nat.le_refl _) off hd')
end Go.SE
end
section
namespace Go.SE
def Keeps (δ : Dict) (h : Heap) (ks : List Nat) (w : World) : Prop := ∃ δ', δ.le δ' ∧ ∀ k, k ∈ ks → ∀ b p, h k = some b → δ k = some p → b.dead = false → Live δ' b w p
def ItOk (P : Program) (g : FuncId) (run : List SV → Heap → Option (Prop × Nat × Nat × (Nat → List SV) × List Nat)) : Prop :=
  ∀ caps h p N m item ks, run caps h = some (p, N, m, item, ks) → p → ∀ δ w lb, absL δ caps lb → HRep δ h w →
    (∀ args w, (callFunc g args).run P w = .ok (.enter g args) w) ∧ ∃ encs : Nat → Array Value, (∀ i, i < N → absL δ (item i) (encs i).toList ∧ (encs i).size = m) ∧ SeqIn P g lb.toArray encs N (Keeps δ h ks) w
structure It where
  P : Program
  f : FuncId
  run : List SV → Heap → Option (Prop × Nat × Nat × (Nat → List SV) × List Nat)
  ok : ItOk P f run
def noRF : Code → Bool
  | .rangeFunc _ _ _ _ => false
  | .seq a b => noRF a && noRF b
  | .cond _ a b => noRF a && noRF b
  | .block _ c => noRF c
  | .loop c => noRF c
  | .scope c => noRF c
  | _ => true
def putAll (l : List SV) : List Nat → List SV → List SV
  | t :: ts, x :: xs => putAll (l.set t x) ts xs
  | _, _ => l
structure LoopSpec where
  X : Type
  inv : X → Prop
  mu : X → Nat
  slots : List (Nat × (X → SV))
  blks : List (Nat × (X → Blk))
  dead : List Nat
  pr : List (Nat × (Nat → List Nat)) := []
  news : List (Nat × (X → Blk) × (St → SV)) := []
  it : Option It := none
  ix : X → Nat := fun _ => 0
  rel : Option (St → X → Prop) := none
def LoopSpec.at (s : St) (L : LoopSpec) : LoopSpec :=
  match L.rel with
  | none => L
  | some r => { L with inv := fun x => L.inv x ∧ r s x }
def atL (s : St) : Option LoopSpec → Option LoopSpec
  | none => none
  | some L => some (L.at s)
def prOf (Λ : Nat → Option LoopSpec) (rid : Nat) : List (Nat × (Nat → List Nat)) := match Λ (1000000 + rid) with
  | some L => L.pr
  | none => []
def setSlots (l : List SV) : List (Nat × SV) → List SV
  | [] => l
  | (t, x) :: rest => setSlots (l.set t x) rest
def killSlots (l : List SV) : List Nat → List SV
  | [] => l
  | t :: rest => killSlots (l.set t .unk) rest
def atX {X α : Type} (x : X) : List (Nat × (X → α)) → List (Nat × α)
  | [] => []
  | (k, f) :: rest => (k, f x) :: atX x rest
def dstsOps : List Oper → List Nat
  | [] => []
  | o :: rest => match o.dst with
    | some t => t :: dstsOps rest
    | none => dstsOps rest
def dsts : Code → List Nat
  | .region _ ops _ => dstsOps ops.toList
  | .seq a b => dsts a ++ dsts b
  | .cond _ a b => dsts a ++ dsts b
  | .block _ c => dsts c
  | .loop c => dsts c
  | .scope c => dsts c
  | _ => []
inductive Cur where
  | at (k : Nat)
  | nil (size : Nat)
def nameOf : SV → Option Nat
  | .sl k _ _ _ _ => some k
  | .vp k _ => some k
  | .ap k _ _ => some k
  | .ptr k _ _ => some k
  | _ => none
def atNews {X : Type} (x : X) : List (Nat × (X → Blk) × (St → SV)) → List (Nat × Blk)
  | [] => []
  | (k, f, _) :: rest => (k, f x) :: atNews x rest
def curs {X : Type} (s : St) (x : X) : List (Nat × (X → Blk) × (St → SV)) → List (Nat × Cur)
  | [] => []
  | (k, p, f) :: rest => (k, match nameOf (f s) with | some k' => .at k' | none => .nil (p x).size) :: curs s x rest
def curOf : List (Nat × Cur) → Nat → Option Cur
  | [], _ => none
  | (k', c) :: rest, k => bif Nat.beq k k' then some c else curOf rest k
def killsOf {X : Type} (s : St) : List (Nat × (X → Blk) × (St → SV)) → List Nat
  | [] => []
  | (_, _, f) :: rest => match nameOf (f s) with
    | some k => k :: killsOf s rest
    | none => killsOf s rest
def LoopSpec.kills (L : LoopSpec) (s : St) : List Nat := killsOf s L.news
def LoopSpec.head (L : LoopSpec) (s : St) (x : L.X) : St :=
  { s with
    tmps := setSlots (killSlots s.tmps (L.dead ++ L.slots.map (·.1))) (atX x L.slots)
    heap := happ (fun k => match s.heap k with | some b => some (bif (L.kills s).elem k then killed { b with lock := true } else bif inNames k L.blks then b else { b with lock := true }) | none => none) (atX x L.blks ++ atNews x L.news) }
def LoopSpec.covers (L : LoopSpec) (l : List Nat) : Bool := l.all fun t => inNames t L.slots || L.dead.elem t
def reqP (b : Bool) (p : Prop) : Prop := match b with
  | true => p
  | false => False
mutual
def mtS (m : List (Nat × Cur)) (h : Heap) : SV → SV → Prop
  | .unk, _ => True
  | .v x, y => y = .v x
  | .sl k s i l c, y => match curOf m k with
    | some (.at k') => y = .sl k' s i l c
    | some (.nil sz) => reqP (Nat.beq sz s) (y = .v (.slice none 0 0) ∧ i = 0 ∧ l = 0 ∧ c = 0)
    | none => reqP (h k).isSome (y = .sl k s i l c)
  | .vp k j, y => match curOf m k with
    | some (.at k') => y = .vp k' j
    | some (.nil _) => False
    | none => reqP (h k).isSome (y = .vp k j)
  | .ptr k i j, y => match curOf m k with
    | some (.at k') => y = .ptr k' i j
    | some (.nil _) => False
    | none => reqP (h k).isSome (y = .ptr k i j)
  | .ap k n l, y => match curOf m k with
    | some (.at k') => y = .ap k' n l
    | some (.nil _) => False
    | none => reqP (h k).isSome (y = .ap k n l)
  | .fn f cs, y => match y with
    | .fn f' ds => f' = f ∧ mtL m h cs ds
    | _ => False
  | .ifc t x, y => match y with
    | .ifc t' z => t' = t ∧ mtS m h x z
    | _ => False
  | .agg cs, y => match y with
    | .agg ds => mtL m h cs ds
    | _ => False
  | .tup cs, y => match y with
    | .tup ds => mtL m h cs ds
    | _ => False
def mtL (m : List (Nat × Cur)) (h : Heap) : List SV → List SV → Prop
  | [], ys => match ys with
    | [] => True
    | _ => False
  | x :: xs, ys => match ys with
    | y :: ys' => match xs with
      | [] => match ys' with
        | [] => mtS m h x y
        | _ => False
      | _ => mtS m h x y ∧ mtL m h xs ys'
    | [] => False
end
def slotsEq (m : List (Nat × Cur)) (h : Heap) (s : St) : List (Nat × SV) → Prop
  | [] => True
  | [(t, x)] => mtS m h x (s.tmps.getD t .unk)
  | (t, x) :: rest => mtS m h x (s.tmps.getD t .unk) ∧ slotsEq m h s rest
def blkEq (m : List (Nat × Cur)) (h : Heap) (b p : Blk) : Prop :=
  reqP (Nat.beq b.size p.size && b.rw == p.rw && !b.lock && !p.lock && (b.flat || !p.flat) && !b.dead && !p.dead && (Nat.beq p.elem 0 || Nat.beq b.elem p.elem) && (!p.whole || b.whole))
    (b.n = p.n ∧ p.ext ≤ b.ext ∧ match p.flat with
      | true => ∀ i, i < p.n → b.row i = p.row i
      | false => match p.lit with
        | true => reqP (Nat.beq p.n 1) (mtL m h (p.row 0) (b.row 0))
        | false => ∀ i, i < p.n → mtL m h (p.row i) (b.row i))
def blksEq (m : List (Nat × Cur)) (h : Heap) (s : St) : List (Nat × Blk) → Prop
  | [] => True
  | (k, p) :: rest => match curOf m k with
    | some (.at k') => match s.heap k' with
      | some b => match rest with
        | [] => blkEq m h b p
        | _ => blkEq m h b p ∧ blksEq m h s rest
      | none => False
    | some (.nil sz) => (p.n = 0 ∧ p.ext = 0 ∧ reqP (!p.lock && !p.dead && Nat.beq sz p.size) True) ∧ blksEq m h s rest
    | none => match s.heap k with
      | some b => match rest with
        | [] => blkEq m h b p
        | _ => blkEq m h b p ∧ blksEq m h s rest
      | none => False
def cursOk (h : Heap) (kills : List Nat) : List (Nat × Cur) → Bool
  | [] => true
  | (_, .at k) :: rest => ((h k).isNone || kills.elem k) && rest.all (fun p => match p.2 with | .at k' => !Nat.beq k k' | .nil _ => true) && cursOk h kills rest
  | (_, .nil _) :: rest => cursOk h kills rest
def fits (L : LoopSpec) (h : Heap) (ks : List Nat) (s : St) (x : L.X) : Prop :=
  let m := curs s x L.news
  reqP (cursOk h ks m) (L.inv x ∧ slotsEq m h s (atX x L.slots) ∧ blksEq m h s (atX x L.blks ++ atNews x L.news))
def namesAll (L : LoopSpec) (h : Heap) (ks : List Nat) : Bool :=
  L.blks.all (fun p => (h p.1).isSome && !ks.elem p.1) && L.news.all (fun p => (h p.1).isNone) && ks.all (fun k => match h k with | some b => !b.lock | none => false)
def within2 (L M : LoopSpec) (s : St) : Bool :=
  M.blks.all (fun p => match s.heap p.1 with | some b => !b.lock | none => true) && L.blks.all (fun p => inNames p.1 M.blks) && (L.kills s).all fun k => (M.kills s).elem k
def unlock (h0 h : Heap) : Heap := fun k => match h k with
  | some b => match h0 k with
    | some b0 => some { b with lock := b0.lock }
    | none => some b
  | none => none
def cnt : Code → Nat
  | .region _ ops _ => ops.size
  | .seq a b => cnt a + cnt b
  | .cond _ a b => cnt a + cnt b
  | .block _ c => cnt c
  | .loop c => cnt c
  | .scope c => cnt c
  | .rangeFunc _ _ a c => cnt a + cnt c
  | _ => 0
def firstRid : Code → Nat
  | .region rid _ _ => rid
  | .seq a _ => firstRid a
  | .cond _ a _ => firstRid a
  | .block _ c => firstRid c
  | .loop c => firstRid c
  | .scope c => firstRid c
  | _ => 0
def cutKey (c : Code) : Nat := 2000000 + 1000 * cnt c + firstRid c
def LoopSpec.shut (L : LoopSpec) (s : St) : St := { s with heap := unlock (fun k => match s.heap k with | some b => some (bif inNames k L.blks then b else { b with lock := true }) | none => none) s.heap }
def LoopSpec.opn (L : LoopSpec) (s : St) (n : Nat) (x : L.X) : St := { L.head s x with heap := unlock s.heap (L.head s x).heap, nx := s.nx + 8 * n }
def atNx (n : Nat) (K : Exit → St → Prop) (e : Exit) (s : St) : Prop := K e { s with nx := n }
def panicK (K : Exit → St → Prop) (s : St) (ops : Array Oper) (x : SV) (h : Heap) : Prop := match x with
  | .v v => K (.panic [{ v := v, recovered := false }]) { tmps := killSlots s.tmps (dstsOps ops.toList), heap := h, nx := s.nx + 8 * ops.size }
  | _ => False
def vcCode (P : Program) (Γ : Ctrs) (Λ : Nat → Option LoopSpec) : Code → Nat → St → (Exit → St → Prop) → Prop
  | .skip, _, s, K => K .normal s
  | .region rid ops draw, _, s, K =>
    let bs : Vw := ⟨beforeL ops.toList [], prOf Λ rid⟩
    bif !draw || regionOk P Γ ops bs then vcOps P Γ ops.toList bs draw (panicK K s ops) (fun s => K .normal { s with nx := s.nx + 8 * ops.size }) ops.toList 0 s else False
  | .seq a b, id, s, K => match atL s (Λ (cutKey a)) with
    | none => vcCode P Γ Λ a id s fun e s => match e with
      | .normal => vcCode P Γ Λ b id s K
      | e => K e s
    | some L => bif L.news.isEmpty && L.covers (dsts a) && namesAll L s.heap (L.kills s) then
        vcCode P Γ Λ a id (L.shut s) (fun e s' => match e with
          | .normal => ∃ x, fits L s.heap (L.kills s) s' x
          | e => K e { s' with heap := unlock s.heap s'.heap }) ∧ ∀ x, L.inv x → vcCode P Γ Λ b id (L.opn s (cnt a) x) K
      else False
  | .cond c a b, id, s, K => match s.eval c with
    | .v (.bool t) => match c with
      | .tmp i => sel t (vcCode P Γ Λ a id { s with tmps := s.tmps.set i (.v (.bool true)) } (atNx (s.nx + 8 * (cnt a + cnt b)) K)) (vcCode P Γ Λ b id { s with tmps := s.tmps.set i (.v (.bool false)) } (atNx (s.nx + 8 * (cnt a + cnt b)) K))
      | _ => sel t (vcCode P Γ Λ a id s (atNx (s.nx + 8 * (cnt a + cnt b)) K)) (vcCode P Γ Λ b id s (atNx (s.nx + 8 * (cnt a + cnt b)) K))
    | _ => False
  | .block id c, _, s, K => vcCode P Γ Λ c id s (atNx (s.nx + 8 * cnt c) fun e s => match e with
    | .exit i => bif Nat.beq i id then K .normal s else K (.exit i) s
    | e => K e s)
  | .exit i, _, s, K => K (.exit i) s
  | .ret, _, s, K => K .ret s
  | .loop c, id, s, K => match atL s (Λ id) with
    | none => False
    | some L => match atL s (Λ (5000000 + id)) with
      | none => bif L.covers (dsts c) && namesAll L s.heap (L.kills s) then (∃ x, fits L s.heap (L.kills s) s x) ∧ ∀ x, L.inv x → vcCode P Γ Λ c id (L.head s x) fun e s' => match e with
          | .normal => ∃ x', fits L s.heap (L.kills s) s' x' ∧ L.mu x' < L.mu x
          | e => K e { s' with heap := unlock s.heap s'.heap }
        else False
      | some M => bif (L.covers (dsts c) && namesAll L s.heap (L.kills s)) && (M.covers (dsts c) && namesAll M s.heap (M.kills s)) && within2 L M s then
          (∃ x, fits L s.heap (L.kills s) s x) ∧ (∀ x, L.inv x → vcCode P Γ Λ c id (L.head s x) fun e s' => match e with
            | .normal => (∃ x', fits L s.heap (L.kills s) s' x' ∧ L.mu x' < L.mu x) ∨ ∃ x', fits M s.heap (M.kills s) s' x' ∧ M.mu x' < L.mu x
            | e => K e { s' with heap := unlock s.heap s'.heap }) ∧ ∀ x, M.inv x → vcCode P Γ Λ c id (M.head s x) fun e s' => match e with
            | .normal => ∃ x', fits M s.heap (M.kills s) s' x' ∧ M.mu x' < M.mu x
            | e => K e { s' with heap := unlock s.heap s'.heap }
        else False
  | .rangeFunc f ps asg c, id, s, K => match atL s (Λ id) with
    | none => False
    | some L => match L.it, s.eval f with
      | some it, .fn g caps => bif Nat.beq g it.f && L.slots.isEmpty && noRF asg && noRF c && namesAll L s.heap (L.kills s) then match it.run caps s.heap with
        | some (p, N, m, item, ks) => bif Nat.beq m ps.size && ks.all (fun k => !inNames k L.blks && !(L.kills s).elem k) then
            (it.P = P ∧ p) ∧ (∃ x, L.ix x = 0 ∧ fits L s.heap (L.kills s) s x) ∧ (∀ x, L.inv x → L.ix x < N → vcCode P Γ Λ asg id { L.head s x with tmps := putAll (L.head s x).tmps ps.toList (item (L.ix x)) } fun e s1 => match e with
              | .normal => vcCode P Γ Λ c id s1 fun e s' => match e with
                | .normal => ∃ x', L.ix x' = L.ix x + 1 ∧ fits L s.heap (L.kills s) { s' with tmps := s.tmps } x'
                | .ret => K .ret { s with heap := unlock s.heap s'.heap }
                | .exit i => K (.exit i) { s with heap := unlock s.heap s'.heap }
                | _ => False
              | _ => False) ∧ ∀ x, L.inv x → L.ix x = N → K .normal { s with heap := unlock s.heap (L.head s x).heap }
          else False
        | none => False
        else False
      | _, _ => False
  | _, _, _, _ => False
def resultsS (P : Program) (s : St) : List ResultVar → Option (List SV)
  | [] => some []
  | .tmp t :: rest => match resultsS P s rest with
    | some l => some (s.tmps.getD t undefS :: l)
    | none => none
  | .cell a t :: rest => match resultsS P s rest, loadS P s.heap t (s.tmps.getD a undefS) with
    | some l, some x => some (x :: l)
    | _, _ => none
def retS (P : Program) (fn : Func) (s : St) : Option SV :=
  match resultsS P s fn.results.toList with
  | some [x] => some x
  | some l => some (.tup l)
  | none => none
def vcFn (P : Program) (Γ : Ctrs) (Λ : Nat → Option LoopSpec) (fn : Func) (args : List SV) (h : Heap) (nx : Nat) (R : SV → Heap → Prop) : Prop :=
  match fn.body with
  | none => False
  | some c => vcCode P Γ Λ c 0 { tmps := args ++ List.replicate (fn.ntmps - args.length) undefS, heap := h, nx } fun e s => match e with
    | .normal => match retS P fn s with | some x => R x s.heap | none => False
    | .ret => match retS P fn s with | some x => R x s.heap | none => False
    | _ => False
end Go.SE
end
section
namespace Go.SE
def isMark (d : Deferred) : Bool := match d.target with
  | .collected _ => true
  | _ => false
def restOf (ds : List Deferred) : List Deferred := ds.filter fun d => !isMark d
def MarksOk (B : Nat) (ds : List Deferred) (w : World) : Prop := ∃ (Ds : List Nat) (rest : List Deferred), ds = Ds.map (fun D => { target := .collected D, args := #[] }) ++ rest ∧ (∀ d, d ∈ rest → isMark d = false) ∧ Ds.Nodup ∧ ∀ D, D ∈ Ds → B ≤ D ∧ w.heap[D]? = some (.deferred (some []))
theorem MarksOk.nil (B : Nat) (w : World) : MarksOk B [] w := ⟨[], [], rfl, fun _ h => (by cases h), List.nodup_nil, fun _ h => by cases h⟩
theorem restOf_marks : ∀ (Ds : List Nat) (rest : List Deferred), (∀ d, d ∈ rest → isMark d = false) → restOf (Ds.map (fun D => ({ target := .collected D, args := #[] } : Deferred)) ++ rest) = rest
  | [], rest, h => by
    show rest.filter _ = rest
    exact List.filter_eq_self.2 fun d hd => by rw [h d hd]; rfl
  | D :: Ds, rest, h => restOf_marks Ds rest h
theorem MarksOk.split {B : Nat} {ds r : List Deferred} {w : World} (h : MarksOk B ds w) (hr : restOf ds = r) : ∃ Ds : List Nat, ds = Ds.map (fun D => { target := .collected D, args := #[] }) ++ r ∧ Ds.Nodup ∧ ∀ D, D ∈ Ds → B ≤ D ∧ w.heap[D]? = some (.deferred (some [])) := by
  obtain ⟨Ds, rest, h1, h0, h2, h3⟩ := h
  rw [h1, restOf_marks Ds rest h0] at hr
  exact ⟨Ds, hr ▸ h1, h2, h3⟩
structure Rep (own : Nat → Prop) (w0 : World) (δ : Dict) (s : St) (a : Act) (w : World) : Prop where
  tm : absL δ s.tmps a.tmps.toList
  df : MarksOk w0.heap.size a.defers w
  hr : HRep δ s.heap w
  tight : ∀ k, s.heap k = none → δ k = none
  mine : ∀ r, rwOf δ s.heap r → own r
  wr : WRel own w0 w
def keep (l : List Nat) (a a' : Act) : Prop := ∀ t, t ∉ l → a'.tmps[t]? = a.tmps[t]?
theorem keep_refl (l : List Nat) (a : Act) : keep l a a := fun _ _ => rfl
theorem keep_trans {l : List Nat} {a b c : Act} (h : keep l a b) (h' : keep l b c) : keep l a c := fun t ht => (h' t ht).trans (h t ht)
theorem keep_mono {l l' : List Nat} {a b : Act} (h : keep l a b) (hs : ∀ t, t ∈ l → t ∈ l') : keep l' a b := fun t ht => h t fun hx => ht (hs t hx)
theorem keep_put (a : Act) (d : Option Tmp) (v : Value) (l : List Nat) (hd : ∀ t, d = some t → t ∈ l) : keep l a (a.put d v) := by
  intro t ht
  cases d with
  | none => rfl
  | some d =>
    have hne : d ≠ t := fun e => ht (hd t (by rw [e]))
    simp [Act.put, Array.getElem?_setIfInBounds_ne hne]
def locks (s s' : St) : Prop := ∀ k b, s.heap k = some b → b.lock = true → s'.heap k = some b
theorem locks_refl (s : St) : locks s s := fun _ _ h _ => h
theorem locks_trans {a b c : St} (h : locks a b) (h' : locks b c) : locks a c := fun k x hx hl => h' k x (h k x hx hl) hl
structure From (l : List Nat) (δ0 : Dict) (s0 : St) (a0 : Act) (δ : Dict) (s : St) (a : Act) : Prop where
  keep : keep l a0 a
  le : δ0.le δ
  locks : locks s0 s
  len : a.tmps.size = a0.tmps.size
  df : a.defers = a0.defers
theorem From.refl (l : List Nat) (δ : Dict) (s : St) (a : Act) : From l δ s a δ s a := ⟨keep_refl l a, δ.le_refl, locks_refl s, rfl, rfl⟩
theorem From.trans {l : List Nat} {δ0 δ1 δ2 : Dict} {s0 s1 s2 : St} {a0 a1 a2 : Act} (h : From l δ0 s0 a0 δ1 s1 a1) (h' : From l δ1 s1 a1 δ2 s2 a2) : From l δ0 s0 a0 δ2 s2 a2 :=
  ⟨keep_trans h.keep h'.keep, Dict.le_trans h.le h'.le, locks_trans h.locks h'.locks, h'.len.trans h.len, h'.df.trans h.df⟩
theorem From.mono {l l' : List Nat} {δ0 δ : Dict} {s0 s : St} {a0 a : Act} (h : From l δ0 s0 a0 δ s a) (hs : ∀ t, t ∈ l → t ∈ l') : From l' δ0 s0 a0 δ s a := ⟨keep_mono h.keep hs, h.le, h.locks, h.len, h.df⟩
def Good (own : Nat → Prop) (w0 : World) (l : List Nat) (δ0 : Dict) (s0 : St) (a0 : Act) (K : St → Prop) (a : Act) (w : World) : Prop :=
  ∃ δ s, K s ∧ Rep own w0 δ s a w ∧ From l δ0 s0 a0 δ s a
section
variable {P : Program} {Γ : Ctrs} {own : Nat → Prop} {w0 : World} {δ : Dict} {s : St} {a : Act} {w : World} {ro : Option Nat} {n : Nat}
theorem Rep.eval (h : Rep own w0 δ s a w) (x : Operand) : absV δ (s.eval x) (a.eval x) := by
  cases x with
  | tmp t =>
    simp only [St.eval, Act.eval]
    cases hx : s.tmps[t]? with
    | some y =>
      obtain ⟨r, h1, h2⟩ := absL_get h.tm hx
      have h1' : a.tmps[t]? = some r := by simpa using h1
      simp only [List.getD, hx, Option.getD_some]
      have : a.tmps.getD t undef = r := by simp [Array.getD_eq_getD_getElem?, h1']
      rw [this]; exact h2
    | none =>
      have hlen := absL_length h.tm
      have h1 : a.tmps[t]? = none := by
        have : s.tmps.length ≤ t := List.getElem?_eq_none_iff.1 hx
        simp at hlen ⊢
        omega
      simp only [List.getD, hx, Option.getD_none]
      have : a.tmps.getD t undef = undef := by simp [Array.getD_eq_getD_getElem?, h1]
      rw [this]; simp [undefS, absV]
  | const v =>
    simp only [St.eval, Act.eval]
    unfold ofConst
    split
    · simp only [absV]; exact ⟨_, by simp, absL_vs _⟩
    · simp only [absV]
  | global g => simp only [St.eval, Act.eval, absV]
  | func f => simp only [St.eval, Act.eval, absV]; exact ⟨[], rfl, by simp only [absL]⟩
theorem put_tm {δ' : Dict} (hm : absL δ s.tmps a.tmps.toList) (hle : δ.le δ') (d : Option Tmp) {x : SV} {v : Value} (hx : absV δ' x v) : absL δ' (s.put d x).tmps (a.put d v).tmps.toList := by
  cases d with
  | none => exact absL_mono hle _ _ hm
  | some t =>
    simp only [St.put, Act.put, Array.toList_setIfInBounds]
    exact absL_set (absL_mono hle _ _ hm) t hx
theorem size_put (a : Act) (d : Option Tmp) (v : Value) : (a.put d v).tmps.size = a.tmps.size := by cases d <;> simp [Act.put]
theorem put_defers (a : Act) (d : Option Tmp) (v : Value) : (a.put d v).defers = a.defers := by cases d <;> rfl
theorem lies_sub {h h' : Heap} (hs : ∀ k b, h' k = some b → h k = some b) {k r : Nat} (hl : lies δ h' k r) : lies δ h k r := by
  obtain ⟨b, p, h1, h2⟩ := hl
  exact ⟨b, p, hs k b h1, h2⟩
theorem HRep.sub {h h' : Heap} (hr : HRep δ h w) (hs : ∀ k b, h' k = some b → h k = some b) : HRep δ h' w :=
  ⟨fun k b hk => hr.blk k b (hs k b hk), fun k k' r b h1 h2 hk hb => hr.inj k k' r b (lies_sub hs h1) (lies_sub hs h2) (hs k b hk) hb⟩
theorem view_sub (bs : Vw) (nx j : Nat) (h : Heap) : ∀ k b, viewOf bs nx j h k = some b → h k = some b := fun k b hk => by
  rw [viewOf_eq] at hk
  split at hk
  · cases hk
  · exact hk
theorem rwOf_cells {h : Heap} (hr : HRep δ h w) {r : Nat} (hx : rwOf δ h r) : ∃ c e fz, w.heap[r]? = some (.cells c e fz) := by
  obtain ⟨k, b, h1, _, b', p, g1, g2, g3, g4, g5⟩ := hx
  have : some b' = some b := g1.symm.trans h1
  cases this
  obtain ⟨q, d1, d2⟩ := hr.blk k b h1
  rw [g3] at d1; cases d1
  obtain ⟨c, e, fz, c1, _⟩ := (d2 g2).rep g4
  subst g5
  exact ⟨c, e, fz, c1⟩
theorem WRel.others {own : Nat → Prop} {w w' : World} (h : WRel own w w') (hown : ∀ r, r < w.heap.size → own r → ∃ c e fz, w.heap[r]? = some (.cells c e fz)) {r : Nat} {o : Obj} (hr : w.heap[r]? = some o) (ho : o.isCells = false) : w'.heap[r]? = some o := by
  have hlt := (Array.getElem?_eq_some_iff.1 hr).1
  refine (h.block r hlt fun hx => ?_).trans hr
  obtain ⟨c, e, fz, hc⟩ := hown r hlt hx
  rw [hr] at hc; cases hc; cases ho
theorem MarksOk.rel {B : Nat} {ds : List Deferred} {own : Nat → Prop} {w w' : World} (h : MarksOk B ds w) (hr : WRel own w w') (hown : ∀ r, r < w.heap.size → own r → ∃ c e fz, w.heap[r]? = some (.cells c e fz)) : MarksOk B ds w' := by
  obtain ⟨Ds, rest, h1, h0, h2, h3⟩ := h
  exact ⟨Ds, rest, h1, h0, h2, fun D hD => ⟨(h3 D hD).1, hr.others hown (h3 D hD).2 rfl⟩⟩
theorem Rep.after (hown : ∀ r, w0.heap.size ≤ r → own r) (h : Rep own w0 δ s a w) {bs : Vw} {i : Nat} {o : Oper} {wr : Bool} {x : SV} {u : List (Nat × Blk)} {v : Value} {δ' : Dict} {w' : World}
    (hu : updOk wr (viewOf bs s.nx i s.heap) s.heap (s.nx + 8 * i) u = true) (hx : absV δ' x v) (hU : Upd δ (viewOf bs s.nx i s.heap) w δ' u w') : Rep own w0 δ' (apS s o x u) (a.put o.dst v) w' := by
  have hf : updFits (viewOf bs s.nx i s.heap) s.heap u := fun k hk => by
    rcases updOk_names hu k hk with ⟨b0, h1, _, h3, h4, _⟩ | ⟨h1, _, h3⟩
    · exact .inl ⟨b0, h1, h3, h4⟩
    · exact .inr ⟨h1, h3⟩
  obtain ⟨l1, l2, l3⟩ := hU.lift h.hr (view_sub _ _ _ _) h.tight hf
  have hvl : ∀ r, rwOf δ (viewOf bs s.nx i s.heap) r → rwOf δ s.heap r := fun r ⟨k, b, g1, g2, g3⟩ => ⟨k, b, view_sub _ _ _ _ _ _ g1, g2, lies_sub (view_sub _ _ _ _) g3⟩
  refine ⟨put_tm h.tm hU.le o.dst hx, by rw [put_defers]; exact h.df.rel l3 fun r _ hx => rwOf_cells h.hr hx, l1, l2, fun r ⟨k, b, g1, g2, b', q, f1, f2, f3, f4, f5⟩ => ?_, h.wr.trans (l3.mono fun r hr hrw => h.mine r hrw)⟩
  have e1 : b' = b := by
    have : some b' = some b := f1.symm.trans g1
    cases this; rfl
  subst e1
  -- what may be written behind it could be written before, or is new
  cases hd : δ k with
  | none =>
    rcases hU.place k q hd f3 f4 with h5 | h5
    · exact hown r (by rw [← f5]; exact Nat.le_trans h.wr.size h5)
    · rw [f5] at h5; exact h.mine r (hvl r h5)
  | some p =>
    have h1 := hU.le _ _ hd
    rw [f3] at h1; cases h1
    refine h.mine r ?_
    cases hi : inNames k u with
    | true =>
      rcases hf k hi with ⟨b0, g3, g4, g5⟩ | ⟨_, g4⟩
      · exact ⟨k, b0, view_sub _ _ _ _ _ _ g3, g4, b0, q, view_sub _ _ _ _ _ _ g3, g5, hd, f4, f5⟩
      · rw [h.tight k g4] at hd; cases hd
    | false =>
      have : happ s.heap u k = some b' := g1
      rw [happ_other u _ hi] at this
      exact ⟨k, b', this, g2, b', q, this, f2, hd, f4, f5⟩
theorem locks_ap {bs : Vw} {i : Nat} {o : Oper} {wr : Bool} {x : SV} {u : List (Nat × Blk)} (hu : updOk wr (viewOf bs s.nx i s.heap) s.heap (s.nx + 8 * i) u = true) : locks s (apS s o x u) := fun k b hk hl => by
  show happ s.heap u k = some b
  rw [happ_other u _ ?_]
  · exact hk
  · cases hi : inNames k u with
    | false => rfl
    | true =>
      rcases updOk_names hu k hi with ⟨b0, h1, _, _, _, h4⟩ | ⟨_, _, h3⟩
      · have := view_sub _ _ _ _ _ _ h1
        rw [hk] at this; cases this
        rw [hl] at h4; cases h4
      · rw [hk] at h3; cases h3
theorem kill_get : ∀ (ds : List Nat) (l : List SV) (t : Nat), (killSlots l ds)[t]? = if t ∈ ds ∧ t < l.length then some .unk else l[t]?
  | [], l, t => by simp [killSlots]
  | d :: ds, l, t => by
    simp only [killSlots]
    rw [kill_get ds (l.set d .unk) t]
    simp only [List.length_set, List.mem_cons, List.getElem?_set]
    by_cases h1 : t ∈ ds
    · by_cases hl : t < l.length
      · simp [h1, hl]
      · have : l[t]? = none := List.getElem?_eq_none (Nat.le_of_not_lt hl)
        simp only [h1, hl, and_false, if_false, this, or_true]
        split
        · rename_i hd; subst hd; simp [hl]
        · rfl
    · by_cases hd : d = t
      · subst hd
        by_cases hl : d < l.length
        · simp [h1, hl]
        · simp [h1, hl]
      · have hd' : ¬ t = d := fun e => hd e.symm
        simp [h1, hd, hd']
theorem absL_kill {δ : Dict} {xs : List SV} {rs0 rs : List Value} {l : List Nat} (h : absL δ xs rs0) (hl : rs.length = rs0.length) (hk : ∀ t, t ∉ l → rs[t]? = rs0[t]?) : absL δ (killSlots xs l) rs := by
  have hlen := absL_length h
  have hkl : (killSlots xs l).length = xs.length := by
    have : ∀ (l : List Nat) (xs : List SV), (killSlots xs l).length = xs.length := by
      intro l
      induction l with
      | nil => intro xs; rfl
      | cons t l ih => intro xs; simp only [killSlots]; rw [ih]; simp
    exact this l xs
  refine absL_of_get (by omega) fun i x hx => ?_
  rw [kill_get] at hx
  split at hx
  · rename_i hh
    cases hx
    have : i < rs.length := by omega
    exact ⟨rs[i], List.getElem?_eq_getElem this, by simp only [absV]⟩
  · rename_i hh
    obtain ⟨r, h1, h2⟩ := absL_get h hx
    by_cases hi : i ∈ l
    · have : i < xs.length := (List.getElem?_eq_some_iff.1 hx).1
      exact absurd ⟨hi, this⟩ hh
    · exact ⟨r, (hk i hi).trans h1, h2⟩
def Stops (own : Nat → Prop) (w0 : World) (l : List Nat) (δ0 : Dict) (s0 : St) (a0 : Act) (KP : SV → Heap → Prop) (v : Value) (a : Act) (w : World) : Prop :=
  ∃ δ x h, KP x h ∧ absV δ x v ∧ Rep own w0 δ { tmps := killSlots s0.tmps l, heap := h, nx := s0.nx } a w ∧ From l δ0 s0 a0 δ { tmps := killSlots s0.tmps l, heap := h, nx := s0.nx } a
theorem WF_room (h : (WF ro).depth.isSome = true) : False := by cases h
theorem opS_plain {o : Oper} {ρ : Operand → SV} {h : Heap} {base : Nat} {e : Eff} (he : opS P Γ o ρ h base = some e) : ∀ c, o.op ≠ .defer c := by
  intro c hc
  unfold opS at he
  rw [hc] at he
  cases he
theorem stepA_wp (hΓ : ∀ f g, Γ f = some g → g.ok P f) (hown : ∀ r, w0.heap.size ≤ r → own r) {ops : Array Oper} {bs : Vw} {i : Nat} {o : Oper} {dr : Bool} {KP : SV → Heap → Prop} {K : St → Prop} {Q : Exit → Act → World → Prop} {δ0 : Dict} {s0 : St} {a0 : Act} {l : List Nat}
    (hQP : ∀ v a w, Stops own w0 l δ0 s0 a0 KP v a w → Q (.panic [{ v := v, recovered := false }]) a w) (h00 : absL δ0 s0.tmps a0.tmps.toList) (hi : ops[i]? = some o) (hdst : ∀ t, o.dst = some t → t ∈ l) (hk : From l δ0 s0 a0 δ s a) (h : stepA P Γ ops.toList bs dr KP i o s K) (hr : Rep own w0 δ s a w) : wpOpIn (WF ro) n P ops Q i (Good own w0 l δ0 s0 a0 K) a w := by
  unfold wpOpIn
  rw [hi]
  simp only
  -- the operation carried out
  have run : ∀ e, stopS Γ o s.eval (viewOf bs s.nx i s.heap) = false → opS P Γ o s.eval (viewOf bs s.nx i s.heap) (s.nx + 8 * i) = some e → (e.bind fun x u => updOk (writerOp Γ o) (viewOf bs s.nx i s.heap) s.heap (s.nx + 8 * i) u = true ∧ K (apS s o x u)) →
      o.wpIn (WF ro) n P a w (Good own w0 l δ0 s0 a0 K) Q := fun e hst he hb => by
    have hview := hr.hr.sub (view_sub bs s.nx i s.heap)
    have hout : ∀ x u, EffOut e x u → updOk (writerOp Γ o) (viewOf bs s.nx i s.heap) s.heap (s.nx + 8 * i) u = true ∧ K (apS s o x u) := fun x u ho => Eff.bind_out hb ho
    have hnext := opS_ok (w := w) hΓ (ρ := a.eval) hr.eval (fun _ => rfl) hview he (Eff.bind_asks hb) (fun x u ho k hk hn => by
        rcases updOk_names (hout x u ho).1 k hk with ⟨b0, h1, _⟩ | ⟨_, _, h3⟩
        · rw [hn] at h1; cases h1
        · exact hr.tight k h3)
      (fun hw x u ho k hk => by
        rcases updOk_names (hout x u ho).1 k hk with ⟨b0, _, h2, _⟩ | ⟨h1, _, _⟩
        · rw [hw] at h2; cases h2
        · exact h1) hst
    have fin : ∀ x u δ' v w', EffOut e x u → absV δ' x v → Upd δ (viewOf bs s.nx i s.heap) w δ' u w' → Good own w0 l δ0 s0 a0 K (a.put o.dst v) w' := fun x u δ' v w' ho hx hU =>
      ⟨δ', apS s o x u, (hout x u ho).2, hr.after hown (hout x u ho).1 hx hU, hk.trans ⟨keep_put a o.dst v l hdst, hU.le, locks_ap (hout x u ho).1, size_put _ _ _, put_defers _ _ _⟩⟩
    refine ⟨fun _ _ => trivial, ?_⟩
    rw [show o.semAt (WF ro).round a.eval = execOp a.eval o from Oper.semAt_eq _ _ _ (opS_plain he)]
    generalize (execOp a.eval o).run P w = r at hnext
    cases r with
    | halt hh w' => exact hnext.elim
    | ok n w' =>
      cases n <;> simp only [NextOk] at hnext <;> simp only [Oper.uponIn]
      case value v => obtain ⟨x, u, δ', h1, h2, h3⟩ := hnext; exact fin x u δ' v w' h1 h2 h3
      case skip => obtain ⟨x, u, δ', h1, h2, h3⟩ := hnext; exact fin x u δ' undef w' h1 h2 h3
      case enter f args =>
        refine ⟨fun hh => (WF_room hh).elim, calls_in ro _ (hnext.mono fun ed w'' ⟨r, x, u, δ', h0, h1, h2, h3⟩ => ?_)⟩
        subst h0
        exact fin x u δ' r w'' h1 h2 h3
  have skip : (Eff.bind (.det none undefS []) fun x u => updOk (writerOp Γ o) (viewOf bs s.nx i s.heap) s.heap (s.nx + 8 * i) u = true ∧ K (apS s o x u)) → Good own w0 l δ0 s0 a0 K (a.put o.dst undef) w := fun hb =>
    ⟨δ, apS s o undefS [], hb.2, hr.after hown hb.1 (absV_v.2 rfl) (Upd.same (hr.hr.sub (view_sub bs s.nx i s.heap))), hk.trans ⟨keep_put a o.dst undef l hdst, δ.le_refl, locks_ap hb.1, size_put _ _ _, put_defers _ _ _⟩⟩
  -- a panic
  have dies : ∀ e, stopS Γ o s.eval (viewOf bs s.nx i s.heap) = true → opS P Γ o s.eval (viewOf bs s.nx i s.heap) (s.nx + 8 * i) = some e → ((stopEff Γ o s.eval (viewOf bs s.nx i s.heap) (s.nx + 8 * i) e).bind fun x u => updOk (writerOp Γ o) (viewOf bs s.nx i s.heap) s.heap (s.nx + 8 * i) u = true ∧ KP x (happ s.heap u)) →
      o.wpIn (WF ro) n P a w (Good own w0 l δ0 s0 a0 K) Q := fun e hst he hb => by
    have hview := hr.hr.sub (view_sub bs s.nx i s.heap)
    have hout : ∀ x u, EffOut (stopEff Γ o s.eval (viewOf bs s.nx i s.heap) (s.nx + 8 * i) e) x u → updOk (writerOp Γ o) (viewOf bs s.nx i s.heap) s.heap (s.nx + 8 * i) u = true ∧ KP x (happ s.heap u) := fun x u ho => Eff.bind_out hb ho
    have hnext := opS_stop (w := w) hΓ (ρ := a.eval) hr.eval (fun _ => rfl) hview he (Eff.bind_asks hb) (fun x u ho k hk hn => by
        rcases updOk_names (hout x u ho).1 k hk with ⟨b0, h1, _⟩ | ⟨_, _, h3⟩
        · rw [hn] at h1; cases h1
        · exact hr.tight k h3) hst
    have fin : ∀ x u δ' v w', EffOut (stopEff Γ o s.eval (viewOf bs s.nx i s.heap) (s.nx + 8 * i) e) x u → absV δ' x v → Upd δ (viewOf bs s.nx i s.heap) w δ' u w' → Q (.panic [{ v := v, recovered := false }]) a w' := fun x u δ' v w' ho hx hU => by
      have ha := hr.after hown (o := { o with dst := none }) (hout x u ho).1 hx hU
      have hle := Dict.le_trans hk.le hU.le
      refine hQP v a w' ⟨δ', x, happ s.heap u, (hout x u ho).2, hx, ⟨absL_kill (absL_mono hle _ _ h00) (by simpa using hk.len) (fun t ht => by simpa using hk.keep t ht), ha.df, ha.hr, ha.tight, ha.mine, ha.wr⟩, ⟨hk.keep, hle, locks_trans hk.locks (locks_ap (o := { o with dst := none }) (x := x) (hout x u ho).1), hk.len, hk.df⟩⟩
    refine ⟨fun _ _ => trivial, ?_⟩
    rw [show o.semAt (WF ro).round a.eval = execOp a.eval o from Oper.semAt_eq _ _ _ (opS_plain he)]
    generalize (execOp a.eval o).run P w = r at hnext
    cases r with
    | halt hh w' =>
      cases hh with
      | panic v =>
        obtain ⟨x, u, δ', h1, h2, h3⟩ := hnext
        exact fin x u δ' v w' h1 h2 h3
      | _ => exact hnext.elim
    | ok n w' =>
      cases n <;> simp only [NextStop] at hnext <;> simp only [Oper.uponIn]
      case enter f args =>
        refine ⟨fun hh => (WF_room hh).elim, calls_in ro _ (hnext.mono fun ed w'' ⟨r, x, u, δ', h0, h1, h2, h3⟩ => ?_)⟩
        subst h0
        exact fin x u δ' r w'' h1 h2 h3
  -- what stepA says, once it is known whether it panics
  have split : ∀ (b : Bool) (e : Eff), stopA Γ ops.toList bs i o s = b → (match stopA Γ ops.toList bs i o s with
      | true => (stopEff Γ o s.eval (viewOf bs s.nx i s.heap) (s.nx + 8 * i) e).bind fun x u => updOk (writerOp Γ o) (viewOf bs s.nx i s.heap) s.heap (s.nx + 8 * i) u = true ∧ (dr = true → laterOk P Γ bs i s ops.toList 0 = true) ∧ KP x (happ s.heap u)
      | false => e.bind fun x u => updOk (writerOp Γ o) (viewOf bs s.nx i s.heap) s.heap (s.nx + 8 * i) u = true ∧ K (apS s o x u)) → (b = true → (stopEff Γ o s.eval (viewOf bs s.nx i s.heap) (s.nx + 8 * i) e).bind fun x u => updOk (writerOp Γ o) (viewOf bs s.nx i s.heap) s.heap (s.nx + 8 * i) u = true ∧ KP x (happ s.heap u)) ∧ (b = false → e.bind fun x u => updOk (writerOp Γ o) (viewOf bs s.nx i s.heap) s.heap (s.nx + 8 * i) u = true ∧ K (apS s o x u)) := fun b e hb he => by
    rw [hb] at he
    constructor
    · intro h; subst h; exact Eff.bind_mono (fun x u hx => ⟨hx.1, hx.2.2⟩) he
    · intro h; subst h; exact he
  have both : ∀ e, opS P Γ o s.eval (viewOf bs s.nx i s.heap) (s.nx + 8 * i) = some e → stopA Γ ops.toList bs i o s = stopS Γ o s.eval (viewOf bs s.nx i s.heap) → (match stopA Γ ops.toList bs i o s with
      | true => (stopEff Γ o s.eval (viewOf bs s.nx i s.heap) (s.nx + 8 * i) e).bind fun x u => updOk (writerOp Γ o) (viewOf bs s.nx i s.heap) s.heap (s.nx + 8 * i) u = true ∧ (dr = true → laterOk P Γ bs i s ops.toList 0 = true) ∧ KP x (happ s.heap u)
      | false => e.bind fun x u => updOk (writerOp Γ o) (viewOf bs s.nx i s.heap) s.heap (s.nx + 8 * i) u = true ∧ K (apS s o x u)) → o.wpIn (WF ro) n P a w (Good own w0 l δ0 s0 a0 K) Q := fun e he hs hb => by
    cases hst : stopS Γ o s.eval (viewOf bs s.nx i s.heap) with
    | true => exact dies e hst he ((split true e (hs.trans hst) hb).1 rfl)
    | false => exact run e hst he ((split false e (hs.trans hst) hb).2 rfl)
  unfold stepA at h
  cases hA : actOf P Γ ops.toList bs i o s with
  | none => rw [hA] at h; exact h.elim
  | some eA =>
  rw [hA] at h
  simp only at h
  unfold actOf at hA
  cases hg : o.guard with
  | none =>
    rw [hg] at hA
    simp only at hA
    have hw : Region.wanted o (yielded ops a.tmps) = true := by simp [Region.wanted, hg]
    rw [if_pos hw]
    exact both eA hA (by unfold stopA; rw [hg]) h
  | some gw =>
    obtain ⟨g, want⟩ := gw
    rw [hg] at hA
    simp only at hA
    cases hd : (ops.toList[g]?).bind (·.dst) with
    | none => rw [hd] at hA; cases hA
    | some t =>
      rw [hd] at hA
      simp only at hA
      have hd' : (ops[g]?).bind (·.dst) = some t := by rw [← hd]; simp
      -- what the guard's slot holds
      have slot : ∀ y, s.tmps.getD t .unk = y → y ≠ .unk → ∃ r, a.tmps[t]? = some r ∧ absV δ y r := fun y hy hne => by
        cases hx : s.tmps[t]? with
        | none => rw [List.getD, hx] at hy; simp at hy; exact absurd hy.symm hne
        | some z =>
          rw [List.getD, hx] at hy
          simp at hy
          subst hy
          obtain ⟨r, h1, h2⟩ := absL_get hr.tm hx
          exact ⟨r, by simpa using h1, h2⟩
      split at hA
      · rename_i b hb
        obtain ⟨r, h1, h2⟩ := slot _ hb (by simp)
        simp only [absV] at h2
        subst h2
        have hy : yielded ops a.tmps g = some b := by simp [yielded, hd', h1]
        by_cases hbw : b = want
        · rw [if_pos hbw] at hA
          have hw : Region.wanted o (yielded ops a.tmps) = true := by simp [Region.wanted, hg, hy, hbw]
          rw [if_pos hw]
          exact both eA hA (by unfold stopA; rw [hg]; simp only [hd, hb, if_pos hbw]) h
        · rw [if_neg hbw] at hA
          cases hA
          have hw : ¬ Region.wanted o (yielded ops a.tmps) = true := by simp [Region.wanted, hg, hy, hbw]
          rw [if_neg hw]
          exact ⟨fun _ _ => trivial, skip ((split false _ (by unfold stopA; rw [hg]; simp only [hd, hb, if_neg hbw]) h).2 rfl)⟩
      · rename_i vs hb
        obtain ⟨r, h1, h2⟩ := slot _ hb (by simp)
        simp only [absV] at h2
        subst h2
        cases hA
        have hy : yielded ops a.tmps g = none := by simp [yielded, hd', h1]
        have hw : ¬ Region.wanted o (yielded ops a.tmps) = true := by simp [Region.wanted, hg, hy]
        rw [if_neg hw]
        exact ⟨fun _ _ => trivial, skip ((split false _ (by unfold stopA; rw [hg]; simp only [hd, hb]) h).2 rfl)⟩
      · cases hA
theorem dsts_mem {ops : List Oper} : ∀ {o : Oper}, o ∈ ops → ∀ t, o.dst = some t → t ∈ dstsOps ops := by
  induction ops with
  | nil => intro o h; cases h
  | cons x l ih =>
    intro o h t ht
    rcases List.mem_cons.1 h with rfl | h
    · simp [dstsOps, ht]
    · have := ih h t ht
      unfold dstsOps
      split
      · exact List.mem_cons_of_mem _ this
      · exact this
theorem any_wp (hΓ : ∀ f g, Γ f = some g → g.ok P f) (hown : ∀ r, w0.heap.size ≤ r → own r) {ops : Array Oper} {bs : Vw} {KP : SV → Heap → Prop} {K : St → Prop} {Q : Exit → Act → World → Prop} {δ0 : Dict} {s0 : St} {a0 : Act}
    (hQ : ∀ a w, Good own w0 (dstsOps ops.toList) δ0 s0 a0 K a w → Q .normal a w) (hQP : ∀ v a w, Stops own w0 (dstsOps ops.toList) δ0 s0 a0 KP v a w → Q (.panic [{ v := v, recovered := false }]) a w) (h00 : absL δ0 s0.tmps a0.tmps.toList) : ∀ (fuel : Nat) (listed : Array Bool) (δ : Dict) (s : St) (a : Act) (w : World), vcAny P Γ ops bs KP K fuel listed s → Rep own w0 δ s a w → From (dstsOps ops.toList) δ0 s0 a0 δ s a → wpAnyIn (WF ro) n P .any ops Q fuel listed a w
  | 0, listed, δ, s, a, w, h, hr, hk => ⟨h.1, hQ a w ⟨δ, s, h.2, hr, hk⟩⟩
  | fuel + 1, listed, δ, s, a, w, h, hr, hk => by
    refine ⟨fun h0 => hQ a w ⟨δ, s, h.1 h0, hr, hk⟩, fun i hi => ?_⟩
    have h1 := h.2 i hi
    unfold stepI at h1
    obtain ⟨_, o, ho, _⟩ := mem_ready.1 hi
    rw [ho] at h1
    refine wpOpIn_mono (fun a' w' hg => ?_) (stepA_wp hΓ hown (Q := Q) hQP h00 ho (fun t ht => dsts_mem (by simpa using Array.mem_of_getElem? ho) t ht) hk h1 hr)
    obtain ⟨δ', s', h2, h3, h4⟩ := hg
    exact any_wp hΓ hown hQ hQP h00 fuel _ δ' s' a' w' h2 h3 h4
theorem seq_wp (hΓ : ∀ f g, Γ f = some g → g.ok P f) (hown : ∀ r, w0.heap.size ≤ r → own r) {ops : Array Oper} {bs : Vw} {dr : Bool} {KP : SV → Heap → Prop} {K : St → Prop} {Q : Exit → Act → World → Prop} {δ0 : Dict} {s0 : St} {a0 : Act}
    (hQ : ∀ a w, Good own w0 (dstsOps ops.toList) δ0 s0 a0 K a w → Q .normal a w) (hQP : ∀ v a w, Stops own w0 (dstsOps ops.toList) δ0 s0 a0 KP v a w → Q (.panic [{ v := v, recovered := false }]) a w) (h00 : absL δ0 s0.tmps a0.tmps.toList) : ∀ (l : List Oper) (k : Nat) (δ : Dict) (s : St) (a : Act) (w : World), (∀ (j : Nat), l[j]? = ops[k + j]?) → vcOps P Γ ops.toList bs dr KP K l k s → Rep own w0 δ s a w →
    From (dstsOps ops.toList) δ0 s0 a0 δ s a → wpOpsIn (WF ro) n P ops Q (List.range' k l.length) a w
  | [], k, δ, s, a, w, _, h, hr, hk => by simp only [List.length_nil, List.range'_zero, wpOpsIn]; exact hQ a w ⟨δ, s, h, hr, hk⟩
  | o :: l, k, δ, s, a, w, hl, h, hr, hk => by
    have ho : ops[k]? = some o := by simpa using (hl 0).symm
    simp only [List.length_cons, List.range'_succ, wpOpsIn_cons]
    refine wpOpIn_mono (fun a' w' hg => ?_) (stepA_wp hΓ hown (Q := Q) hQP h00 ho (fun t ht => dsts_mem (by simpa using Array.mem_of_getElem? ho) t ht) hk (stepS_A h) hr)
    obtain ⟨δ', s', h2, h3, h4⟩ := hg
    exact seq_wp hΓ hown hQ hQP h00 l (k + 1) δ' s' a' w' (fun j => by have := hl (j + 1); simpa [Nat.add_assoc, Nat.add_comm 1 j] using this) h2 h3 h4
theorem Rep.drew (h : Rep own w0 δ s a w) : Rep own w0 δ s a { w with drawn := w.drawn + 1 } :=
  ⟨h.tm, h.df, ⟨fun k b hk => (h.hr.blk k b hk).imp fun _ ⟨d1, d2⟩ => ⟨d1, fun hd => (d2 hd).mono δ.le_refl fun _ => rfl⟩, h.hr.inj⟩, h.tight, h.mine, h.wr.drew⟩
theorem Rep.nx (h : Rep own w0 δ s a w) (n : Nat) : Rep own w0 δ { s with nx := n } a w := ⟨h.tm, h.df, h.hr, h.tight, h.mine, h.wr⟩
theorem From.nx {l : List Nat} {δ0 δ : Dict} {s0 s : St} {a0 a : Act} (h : From l δ0 s0 a0 δ s a) (n : Nat) : From l δ0 s0 a0 δ { s with nx := n } a := ⟨h.keep, h.le, h.locks, h.len, h.df⟩
theorem region_wp (hm : P.follows .mixedOrders = true) (hΓ : ∀ f g, Γ f = some g → g.ok P f) (hown : ∀ r, w0.heap.size ≤ r → own r) {ops : Array Oper} {draw : Bool} {rid : Nat} {pr : List (Nat × (Nat → List Nat))} {KP : SV → Heap → Prop} {K : St → Prop} {Q : Exit → Act → World → Prop} {δ0 : Dict} {s0 : St} {a0 : Act}
    (hQ : ∀ a w, Good own w0 (dstsOps ops.toList) δ0 s0 a0 K a w → Q .normal a w) (hQP : ∀ v a w, Stops own w0 (dstsOps ops.toList) δ0 s0 a0 KP v a w → Q (.panic [{ v := v, recovered := false }]) a w) (h00 : absL δ0 s0.tmps a0.tmps.toList) (hb : (!draw || regionOk P Γ ops ⟨beforeL ops.toList [], pr⟩) = true) (h : vcOps P Γ ops.toList ⟨beforeL ops.toList [], pr⟩ draw KP K ops.toList 0 s)
    (hr : Rep own w0 δ s a w) (hk : From (dstsOps ops.toList) δ0 s0 a0 δ s a) : (Code.region rid ops draw).wpIn (WF ro) n P Q a w := by
  cases draw with
  | false =>
    refine wpIn_region ?_
    have := seq_wp (ro := ro) (n := n) hΓ hown hQ hQP h00 ops.toList 0 δ s a w (fun j => by simp) h hr hk
    rw [Array.length_toList, ← List.range_eq_range'] at this
    exact this
  | true =>
    simp only [Bool.not_true, Bool.false_or] at hb
    refine wpIn_region_any hm ?_
    have := any_text hb ops.toList 0 (Array.replicate ops.size false) s (fun j => by simp) (by simp) (fun j hj => by simp [hj]) (by simp) h
    rw [Array.length_toList] at this
    exact any_wp hΓ hown hQ hQP h00 _ _ δ s a _ this hr.drew hk
end
end Go.SE
end
section
namespace Go.SE
theorem reqP_iff {b : Bool} {p : Prop} : reqP b p ↔ b = true ∧ p := by
  cases b <;> simp [reqP]
section
variable {m : List (Nat × Cur)} {h : Heap} {δ' δ'' : Dict}
mutual
theorem mtS_abs (hat : ∀ N k, curOf m N = some (.at k) → ∀ p, δ' k = some p → δ'' N = some p) (hnil : ∀ N sz, curOf m N = some (.nil sz) → δ'' N = some ⟨0, sz, 0, 0, true⟩)
    (hold : ∀ k, curOf m k = none → (h k).isSome = true → ∀ p, δ' k = some p → δ'' k = some p) : ∀ (x y : SV) (r : Value), mtS m h x y → absV δ' y r → absV δ'' x r
  | .unk, _, _, _, _ => by simp only [absV]
  | .v x, y, r, hm, hr => by
    simp only [mtS] at hm
    subst hm
    simp only [absV] at *
    exact hr
  | .sl k s i l c, y, r, hm, hr => by
    simp only [mtS] at hm
    cases hc : curOf m k with
    | none =>
      rw [hc] at hm
      simp only [reqP_iff] at hm
      obtain ⟨hh, rfl⟩ := hm
      simp only [absV] at *
      obtain ⟨p, h1, h2⟩ := hr
      exact ⟨p, hold k hc hh p h1, h2⟩
    | some cu =>
      rw [hc] at hm
      cases cu with
      | «at» k' =>
        simp only at hm
        subst hm
        simp only [absV] at *
        obtain ⟨p, h1, h2⟩ := hr
        exact ⟨p, hat k k' hc p h1, h2⟩
      | nil sz =>
        simp only [reqP_iff] at hm
        obtain ⟨hh, rfl, rfl, rfl, rfl⟩ := hm
        have := Nat.eq_of_beq_eq_true hh
        subst this
        simp only [absV] at *
        subst hr
        exact ⟨_, hnil k sz hc, rfl, Nat.le_refl _, .inr ⟨trivial, trivial, _, rfl⟩⟩
  | .vp k j, y, r, hm, hr => by
    simp only [mtS] at hm
    cases hc : curOf m k with
    | none =>
      rw [hc] at hm
      simp only [reqP_iff] at hm
      obtain ⟨hh, rfl⟩ := hm
      simp only [absV] at *
      obtain ⟨p, h1, h2⟩ := hr
      exact ⟨p, hold k hc hh p h1, h2⟩
    | some cu =>
      rw [hc] at hm
      cases cu with
      | «at» k' =>
        simp only at hm
        subst hm
        simp only [absV] at *
        obtain ⟨p, h1, h2⟩ := hr
        exact ⟨p, hat k k' hc p h1, h2⟩
      | nil sz => exact hm.elim
  | .ptr k i j, y, r, hm, hr => by
    simp only [mtS] at hm
    cases hc : curOf m k with
    | none =>
      rw [hc] at hm
      simp only [reqP_iff] at hm
      obtain ⟨hh, rfl⟩ := hm
      simp only [absV] at *
      obtain ⟨p, h1, h2⟩ := hr
      exact ⟨p, hold k hc hh p h1, h2⟩
    | some cu =>
      rw [hc] at hm
      cases cu with
      | «at» k' =>
        simp only at hm
        subst hm
        simp only [absV] at *
        obtain ⟨p, h1, h2⟩ := hr
        exact ⟨p, hat k k' hc p h1, h2⟩
      | nil sz => exact hm.elim
  | .ap k n l, y, r, hm, hr => by
    simp only [mtS] at hm
    cases hc : curOf m k with
    | none =>
      rw [hc] at hm
      simp only [reqP_iff] at hm
      obtain ⟨hh, rfl⟩ := hm
      simp only [absV] at *
      obtain ⟨p, h1, h2⟩ := hr
      exact ⟨p, hold k hc hh p h1, h2⟩
    | some cu =>
      rw [hc] at hm
      cases cu with
      | «at» k' =>
        simp only at hm
        subst hm
        simp only [absV] at *
        obtain ⟨p, h1, h2⟩ := hr
        exact ⟨p, hat k k' hc p h1, h2⟩
      | nil sz => exact hm.elim
  | .fn f cs, y, r, hm, hr => by
    simp only [mtS] at hm
    split at hm
    · rename_i f' ds
      obtain ⟨rfl, hm⟩ := hm
      simp only [absV] at *
      obtain ⟨xs, h1, h2⟩ := hr
      exact ⟨xs, h1, mtL_abs hat hnil hold cs ds xs hm h2⟩
    · exact hm.elim
  | .ifc t x, y, r, hm, hr => by
    simp only [mtS] at hm
    split at hm
    · rename_i t' z
      obtain ⟨rfl, hm⟩ := hm
      simp only [absV] at *
      obtain ⟨v, h1, h2⟩ := hr
      exact ⟨v, h1, mtS_abs hat hnil hold x z v hm h2⟩
    · exact hm.elim
  | .agg cs, y, r, hm, hr => by
    simp only [mtS] at hm
    split at hm
    · rename_i ds
      simp only [absV] at *
      obtain ⟨xs, h1, h2⟩ := hr
      exact ⟨xs, h1, mtL_abs hat hnil hold cs ds xs hm h2⟩
    · exact hm.elim
  | .tup cs, y, r, hm, hr => by
    simp only [mtS] at hm
    split at hm
    · rename_i ds
      simp only [absV] at *
      obtain ⟨xs, h1, h2⟩ := hr
      exact ⟨xs, h1, mtL_abs hat hnil hold cs ds xs hm h2⟩
    · exact hm.elim
theorem mtL_abs (hat : ∀ N k, curOf m N = some (.at k) → ∀ p, δ' k = some p → δ'' N = some p) (hnil : ∀ N sz, curOf m N = some (.nil sz) → δ'' N = some ⟨0, sz, 0, 0, true⟩)
    (hold : ∀ k, curOf m k = none → (h k).isSome = true → ∀ p, δ' k = some p → δ'' k = some p) : ∀ (xs ys : List SV) (rs : List Value), mtL m h xs ys → absL δ' ys rs → absL δ'' xs rs
  | [], ys, rs, hm, hr => by
    simp only [mtL] at hm
    split at hm
    · exact absL_mono (δ := δ'') (fun _ _ h => h) _ _ (by cases rs <;> simp only [absL] at *)
    · exact hm.elim
  | x :: xs, ys, rs, hm, hr => by
    match ys, rs, hr with
    | y :: ys', r :: rs', hr =>
      simp only [absL] at hr ⊢
      simp only [mtL] at hm
      match xs, hm with
      | [], hm =>
        simp only at hm
        match ys', hm with
        | [], hm =>
          refine ⟨mtS_abs hat hnil hold x y r hm hr.1, ?_⟩
          cases rs' with
          | nil => simp only [absL]
          | cons _ _ => simp only [absL] at hr; exact hr.2.elim
        | _ :: _, hm => exact hm.elim
      | x' :: xs', hm =>
        simp only at hm
        exact ⟨mtS_abs hat hnil hold x y r hm.1 hr.1, mtL_abs hat hnil hold (x' :: xs') ys' rs' hm.2 hr.2⟩
    | [], [], hr => simp only [mtL] at hm
    | [], _ :: _, hr => simp only [absL] at hr
    | _ :: _, [], hr => simp only [absL] at hr
end
end
mutual
theorem absV_same {δ0 δ' : Dict} (hle : δ0.le δ') : ∀ (x : SV) (r r' : Value), absV δ0 x r → absV δ' x r' → absV δ0 x r'
  | .unk, _, _, _, _ => by simp only [absV]
  | .v x, _, r', _, h' => by simp only [absV] at *; exact h'
  | .vp k j, _, r', h0, h' => by
    simp only [absV] at *
    obtain ⟨p0, g1, _⟩ := h0
    obtain ⟨p, h1, h2⟩ := h'
    have := hle _ _ g1; rw [h1] at this; cases this
    exact ⟨_, g1, h2⟩
  | .ptr k i j, _, r', h0, h' => by
    simp only [absV] at *
    obtain ⟨p0, g1, _⟩ := h0
    obtain ⟨p, h1, h2⟩ := h'
    have := hle _ _ g1; rw [h1] at this; cases this
    exact ⟨_, g1, h2⟩
  | .sl k s i l c, _, r', h0, h' => by
    simp only [absV] at *
    obtain ⟨p0, g1, _⟩ := h0
    obtain ⟨p, h1, h2⟩ := h'
    have := hle _ _ g1; rw [h1] at this; cases this
    exact ⟨_, g1, h2⟩
  | .ap k n l, _, r', h0, h' => by
    simp only [absV] at *
    obtain ⟨p0, g1, _⟩ := h0
    obtain ⟨p, h1, h2⟩ := h'
    have := hle _ _ g1; rw [h1] at this; cases this
    exact ⟨_, g1, h2⟩
  | .fn f caps, _, r', h0, h' => by
    simp only [absV] at *
    obtain ⟨xs0, _, g2⟩ := h0
    obtain ⟨xs, h1, h2⟩ := h'
    exact ⟨xs, h1, absL_same hle caps xs0 xs g2 h2⟩
  | .ifc t x, _, r', h0, h' => by
    simp only [absV] at *
    obtain ⟨y0, _, g2⟩ := h0
    obtain ⟨y, h1, h2⟩ := h'
    exact ⟨y, h1, absV_same hle x y0 y g2 h2⟩
  | .agg cs, _, r', h0, h' => by
    simp only [absV] at *
    obtain ⟨xs0, _, g2⟩ := h0
    obtain ⟨xs, h1, h2⟩ := h'
    exact ⟨xs, h1, absL_same hle cs xs0 xs g2 h2⟩
  | .tup vs, _, r', h0, h' => by
    simp only [absV] at *
    obtain ⟨xs0, _, g2⟩ := h0
    obtain ⟨xs, h1, h2⟩ := h'
    exact ⟨xs, h1, absL_same hle vs xs0 xs g2 h2⟩
theorem absL_same {δ0 δ' : Dict} (hle : δ0.le δ') : ∀ (xs : List SV) (rs rs' : List Value), absL δ0 xs rs → absL δ' xs rs' → absL δ0 xs rs'
  | [], _, [], _, _ => by simp only [absL]
  | x :: xs, r :: rs, r' :: rs', h0, h' => by
    simp only [absL] at *
    exact ⟨absV_same hle x r r' h0.1 h'.1, absL_same hle xs rs rs' h0.2 h'.2⟩
  | _ :: _, [], _, h0, _ => by simp only [absL] at h0
  | [], _, _ :: _, _, h' => by simp only [absL] at h'
  | _ :: _, _ :: _, [], _, h' => by simp only [absL] at h'
end
section
variable {P : Program} {Γ : Ctrs} {own : Nat → Prop} {w0 : World} {L : LoopSpec}
theorem absL_slots {δ : Dict} {rs : List Value} : ∀ (ps : List (Nat × SV)) {l : List SV}, absL δ l rs → (∀ t v, (t, v) ∈ ps → ∀ r, rs[t]? = some r → absV δ v r) → absL δ (setSlots l ps) rs
  | [], l, h, _ => h
  | (t, v) :: ps, l, h, hp => by
    simp only [setSlots]
    refine absL_slots ps ?_ fun t' v' hm r hr => hp t' v' (List.mem_cons_of_mem _ hm) r hr
    refine absL_of_get (by simpa using absL_length h) fun i x hx => ?_
    rw [List.getElem?_set] at hx
    by_cases hi : t = i
    · subst hi
      rw [if_pos rfl] at hx
      split at hx
      · cases hx
        rename_i hlt
        have hlt' : t < rs.length := by rw [← absL_length h]; exact hlt
        exact ⟨rs[t], List.getElem?_eq_getElem hlt', hp t _ List.mem_cons_self _ (List.getElem?_eq_getElem hlt')⟩
      · cases hx
    · rw [if_neg hi] at hx
      exact absL_get h hx
theorem atX_names {X α : Type} (x : X) (k : Nat) : ∀ l : List (Nat × (X → α)), inNames k (atX x l) = inNames k l
  | [] => rfl
  | (k', f) :: rest => by simp only [atX, inNames, atX_names x k rest]
theorem slotsEq_spec {m : List (Nat × Cur)} {h : Heap} {s : St} : ∀ {ps : List (Nat × SV)}, slotsEq m h s ps → ∀ t v, (t, v) ∈ ps → mtS m h v (s.tmps.getD t .unk)
  | [], _, t, v, h => by cases h
  | [(t', v')], h, t, v, hm => by
    simp only [List.mem_singleton, Prod.mk.injEq] at hm
    obtain ⟨rfl, rfl⟩ := hm
    exact h
  | (t', v') :: p :: rest, h, t, v, hm => by
    simp only [slotsEq] at h
    rcases List.mem_cons.1 hm with he | hm
    · cases he; exact h.1
    · exact slotsEq_spec h.2 t v hm
structure BlkFits (m : List (Nat × Cur)) (h : Heap) (b p : Blk) : Prop where
  size : b.size = p.size
  rw : b.rw = p.rw
  lock : b.lock = false
  lock' : p.lock = false
  flat : p.flat = true → b.flat = true
  dead : b.dead = false
  dead' : p.dead = false
  elem : p.elem ≠ 0 → b.elem = p.elem
  whole : p.whole = true → b.whole = true
  n : b.n = p.n
  ext : p.ext ≤ b.ext
  row : ∀ i, i < p.n → (p.flat = true ∧ b.row i = p.row i) ∨ (p.flat = false ∧ mtL m h (p.row i) (b.row i))
theorem blkEq_spec {m : List (Nat × Cur)} {h : Heap} {b p : Blk} (he : blkEq m h b p) : BlkFits m h b p := by
  unfold blkEq at he
  rw [reqP_iff] at he
  obtain ⟨hc, h1, h2, h3⟩ := he
  simp only [Bool.and_eq_true, Bool.not_eq_true', Bool.or_eq_true, beq_iff_eq] at hc
  obtain ⟨⟨⟨⟨⟨⟨⟨⟨c1, c2⟩, c3⟩, c4⟩, c5⟩, c6⟩, c7⟩, c8⟩, c9⟩ := hc
  refine ⟨Nat.eq_of_beq_eq_true c1, c2, c3, c4, fun hp => ?_, c6, c7, fun hp => ?_, fun hp => ?_, h1, h2, fun i hi => ?_⟩
  · rcases c5 with c5 | c5
    · exact c5
    · rw [hp] at c5; cases c5
  · rcases c8 with c8 | c8
    · exact absurd (Nat.eq_of_beq_eq_true c8) hp
    · exact Nat.eq_of_beq_eq_true c8
  · rcases c9 with c9 | c9
    · rw [hp] at c9; cases c9
    · exact c9
  · cases hf : p.flat with
    | true => rw [hf] at h3; exact .inl ⟨rfl, h3 i hi⟩
    | false =>
      rw [hf] at h3
      simp only at h3
      cases hl : p.lit with
      | true =>
        rw [hl] at h3
        simp only [reqP_iff] at h3
        have := Nat.eq_of_beq_eq_true h3.1
        have : i = 0 := by omega
        subst this
        exact .inr ⟨rfl, h3.2⟩
      | false => rw [hl] at h3; exact .inr ⟨rfl, h3 i hi⟩
theorem blksEq_spec {m : List (Nat × Cur)} {h : Heap} {s : St} : ∀ {ps : List (Nat × Blk)}, blksEq m h s ps → ∀ k p, (k, p) ∈ ps →
    (∃ k' b, curOf m k = some (.at k') ∧ s.heap k' = some b ∧ BlkFits m h b p) ∨ (∃ sz, curOf m k = some (.nil sz) ∧ p.n = 0 ∧ p.ext = 0 ∧ sz = p.size) ∨ (∃ b, curOf m k = none ∧ s.heap k = some b ∧ BlkFits m h b p)
  | [], _, k, p, hm => by cases hm
  | (k', p') :: rest, he, k, p, hm => by
    simp only [blksEq] at he
    -- the first and the rest
    have both : ((∃ k'' b, curOf m k' = some (.at k'') ∧ s.heap k'' = some b ∧ BlkFits m h b p') ∨ (∃ sz, curOf m k' = some (.nil sz) ∧ p'.n = 0 ∧ p'.ext = 0 ∧ sz = p'.size) ∨ (∃ b, curOf m k' = none ∧ s.heap k' = some b ∧ BlkFits m h b p')) ∧ blksEq m h s rest := by
      cases hc : curOf m k' with
      | none =>
        rw [hc] at he
        simp only at he
        cases hs : s.heap k' with
        | none => rw [hs] at he; exact he.elim
        | some b =>
          rw [hs] at he
          cases rest with
          | nil => exact ⟨.inr (.inr ⟨b, rfl, rfl, blkEq_spec he⟩), trivial⟩
          | cons q rest => exact ⟨.inr (.inr ⟨b, rfl, rfl, blkEq_spec he.1⟩), he.2⟩
      | some cu =>
        rw [hc] at he
        cases cu with
        | «at» k'' =>
          simp only at he
          cases hs : s.heap k'' with
          | none => rw [hs] at he; exact he.elim
          | some b =>
            rw [hs] at he
            cases rest with
            | nil => exact ⟨.inl ⟨k'', b, rfl, hs, blkEq_spec he⟩, trivial⟩
            | cons q rest => exact ⟨.inl ⟨k'', b, rfl, hs, blkEq_spec he.1⟩, he.2⟩
        | nil sz =>
          simp only [reqP_iff, Bool.and_eq_true, Bool.not_eq_true'] at he
          exact ⟨.inr (.inl ⟨sz, rfl, he.1.1, he.1.2.1, Nat.eq_of_beq_eq_true he.1.2.2.1.2⟩), he.2⟩
    rcases List.mem_cons.1 hm with e | hm
    · cases e; exact both.1
    · exact blksEq_spec both.2 k p hm
theorem happ_mem {k : Nat} : ∀ (u : List (Nat × Blk)) (h : Heap), inNames k u = true → ∃ b, (k, b) ∈ u ∧ happ h u k = some b
  | [], _, hn => by simp [inNames] at hn
  | (k', b) :: rest, h, hn => by
    simp only [happ]
    cases hr : inNames k rest with
    | true =>
      obtain ⟨b', h1, h2⟩ := happ_mem rest (hset h k' b) hr
      exact ⟨b', List.mem_cons_of_mem _ h1, h2⟩
    | false =>
      rw [happ_other rest _ hr]
      simp only [inNames, hr, Bool.or_false] at hn
      have : k = k' := Nat.eq_of_beq_eq_true hn
      subst this
      exact ⟨b, List.mem_cons_self, by simp [hset]⟩
theorem curOf_names {X : Type} {s : St} {x : X} : ∀ {l : List (Nat × (X → Blk) × (St → SV))} {k : Nat}, (curOf (curs s x l) k ≠ none ↔ inNames k (atNews x l) = true)
  | [], k => by simp [curs, curOf, atNews, inNames]
  | (k', p, f) :: l, k => by
    simp only [curs, curOf, atNews, inNames]
    cases h : Nat.beq k k' with
    | true => simp
    | false => simpa using curOf_names (l := l)
theorem curOf_mem {k : Nat} {c : Cur} : ∀ {m : List (Nat × Cur)}, curOf m k = some c → (k, c) ∈ m
  | [], h => by cases h
  | (k', c') :: m, h => by
    simp only [curOf] at h
    cases hb : Nat.beq k k' with
    | true =>
      rw [hb, cond_true] at h
      cases h
      rw [Nat.eq_of_beq_eq_true hb]
      exact List.mem_cons_self
    | false => rw [hb, cond_false] at h; exact List.mem_cons_of_mem _ (curOf_mem h)
theorem cursOk_spec {h : Heap} {kills : List Nat} : ∀ {m : List (Nat × Cur)}, cursOk h kills m = true → (∀ N k, curOf m N = some (.at k) → h k = none ∨ k ∈ kills) ∧ (∀ N N' k, curOf m N = some (.at k) → curOf m N' = some (.at k) → N = N')
  | [], _ => ⟨fun N k h => (by cases h), fun N N' k h _ => (by cases h)⟩
  | (K, c) :: m, ho => by
    have hrest : cursOk h kills m = true := by
      cases c with
      | «at» k => simp only [cursOk, Bool.and_eq_true] at ho; exact ho.2
      | nil sz => exact ho
    obtain ⟨g1, g2⟩ := cursOk_spec hrest
    have hd : ∀ k, c = .at k → (h k = none ∨ k ∈ kills) ∧ ∀ N, curOf m N ≠ some (.at k) := fun k e => by
      subst e
      simp only [cursOk, Bool.and_eq_true, Bool.or_eq_true] at ho
      refine ⟨ho.1.1.imp (fun hh => by simpa using hh) (fun hh => by simpa using hh), fun N hN => ?_⟩
      have := List.all_eq_true.1 ho.1.2 _ (curOf_mem hN)
      simp at this
    constructor
    · intro N k hN
      simp only [curOf] at hN
      cases hb : Nat.beq N K with
      | true => rw [hb, cond_true] at hN; cases hN; exact (hd k rfl).1
      | false => rw [hb, cond_false] at hN; exact g1 N k hN
    · intro N N' k hN hN'
      simp only [curOf] at hN hN'
      cases hb : Nat.beq N K with
      | true =>
        rw [hb, cond_true] at hN
        cases hN
        cases hb' : Nat.beq N' K with
        | true => rw [Nat.eq_of_beq_eq_true hb, Nat.eq_of_beq_eq_true hb']
        | false => rw [hb', cond_false] at hN'; exact absurd hN' ((hd k rfl).2 N')
      | false =>
        rw [hb, cond_false] at hN
        cases hb' : Nat.beq N' K with
        | true => rw [hb', cond_true] at hN'; cases hN'; exact absurd hN ((hd k rfl).2 N)
        | false => rw [hb', cond_false] at hN'; exact g2 N N' k hN hN'
theorem inNames_append {α : Type} {k : Nat} : ∀ {a b : List (Nat × α)}, inNames k (a ++ b) = (inNames k a || inNames k b)
  | [], b => by simp [inNames]
  | (k', y) :: a, b => by simp only [List.cons_append, inNames, inNames_append (a := a), Bool.or_assoc]
theorem inNames_any {α : Type} {k : Nat} : ∀ {l : List (Nat × α)}, inNames k l = true → ∃ y, (k, y) ∈ l
  | [], h => by simp [inNames] at h
  | (k', y) :: l, h => by
    simp only [inNames, Bool.or_eq_true] at h
    rcases h with h | h
    · rw [Nat.eq_of_beq_eq_true h]; exact ⟨y, List.mem_cons_self⟩
    · obtain ⟨z, hz⟩ := inNames_any h; exact ⟨z, List.mem_cons_of_mem _ hz⟩
theorem atNews_mem {X : Type} {x : X} {k : Nat} {p : Blk} : ∀ {l : List (Nat × (X → Blk) × (St → SV))}, (k, p) ∈ atNews x l → ∃ q ∈ l, q.1 = k
  | [], h => by cases h
  | (k', f, g) :: l, h => by
    simp only [atNews] at h
    rcases List.mem_cons.1 h with e | h
    · cases e; exact ⟨_, List.mem_cons_self, rfl⟩
    · obtain ⟨q, h1, h2⟩ := atNews_mem h; exact ⟨q, List.mem_cons_of_mem _ h1, h2⟩
structure NamesOk (L : LoopSpec) (h : Heap) (ks : List Nat) : Prop where
  blks : ∀ k, inNames k L.blks = true → h k ≠ none ∧ k ∉ ks
  news : ∀ (x : L.X) k, inNames k (atNews x L.news) = true → h k = none
  kills : ∀ k, k ∈ ks → ∃ b, h k = some b ∧ b.lock = false
theorem namesAll_spec {h : Heap} {ks : List Nat} (hall : namesAll L h ks = true) : NamesOk L h ks := by
  unfold namesAll at hall
  simp only [Bool.and_eq_true, List.all_eq_true] at hall
  obtain ⟨⟨h1, h2⟩, h3⟩ := hall
  refine ⟨fun k hk => ?_, fun x k hk => ?_, fun k hk => ?_⟩
  · obtain ⟨y, hy⟩ := inNames_any hk
    have := h1 _ hy
    simp only [Bool.not_eq_true', List.elem_eq_contains, List.contains_eq_mem, decide_eq_false_iff_not] at this
    exact ⟨fun e => by rw [e] at this; simp at this, this.2⟩
  · obtain ⟨y, hy⟩ := inNames_any hk
    obtain ⟨q, q1, q2⟩ := atNews_mem hy
    have := h2 q q1
    rw [q2] at this
    simpa using this
  · have := h3 k hk
    split at this
    · rename_i b hb; exact ⟨b, hb, by simpa using this⟩
    · cases this
theorem head_heap (s : St) (x : L.X) (hall : NamesOk L s.heap (L.kills s)) (k : Nat) :
    ((L.head s x).heap k = none ∧ s.heap k = none) ∨
    (∃ p, (k, p) ∈ atX x L.blks ++ atNews x L.news ∧ (L.head s x).heap k = some p ∧ ((s.heap k ≠ none ∧ inNames k L.blks = true ∧ k ∉ L.kills s) ∨ (s.heap k = none ∧ inNames k (atNews x L.news) = true))) ∨
    (∃ b, s.heap k = some b ∧ k ∈ L.kills s ∧ (L.head s x).heap k = some (killed { b with lock := true }) ∧ b.lock = false) ∨
    (∃ b, s.heap k = some b ∧ (L.head s x).heap k = some { b with lock := true } ∧ inNames k L.blks = false ∧ k ∉ L.kills s) := by
  unfold LoopSpec.head
  simp only
  cases hi : inNames k (atX x L.blks ++ atNews x L.news) with
  | true =>
    obtain ⟨p, h1, h2⟩ := happ_mem (atX x L.blks ++ atNews x L.news) (fun k => match s.heap k with | some b => some (bif (L.kills s).elem k then killed { b with lock := true } else bif inNames k L.blks then b else { b with lock := true }) | none => none) hi
    refine .inr (.inl ⟨p, h1, h2, ?_⟩)
    rw [inNames_append, Bool.or_eq_true, atX_names] at hi
    rcases hi with hi | hi
    · exact .inl ⟨(hall.blks k hi).1, hi, (hall.blks k hi).2⟩
    · exact .inr ⟨hall.news x k hi, hi⟩
  | false =>
    rw [happ_other _ _ hi]
    rw [inNames_append, Bool.or_eq_false_iff, atX_names] at hi
    cases hs : s.heap k with
    | none => exact .inl ⟨rfl, rfl⟩
    | some b =>
      by_cases hk : k ∈ L.kills s
      · obtain ⟨b', h1, h2⟩ := hall.kills k hk
        rw [hs] at h1; cases h1
        exact .inr (.inr (.inl ⟨b, rfl, hk, by simp [hk], h2⟩))
      · exact .inr (.inr (.inr ⟨b, rfl, by simp [hi.1, hk], hi.1, hk⟩))
theorem head_rep {s s' : St} {x : L.X} {δ0 δ' : Dict} {a0 a' : Act} {w' we : World} {l : List Nat} (hall : NamesOk L s.heap (L.kills s)) (hcov : L.covers l = true) (hr0 : Rep own w0 δ0 s a0 we) (hr : Rep own w0 δ' s' a' w')
    (hle : δ0.le δ') (hk : keep l a0 a') (hlen : a'.tmps.size = a0.tmps.size) (hlock : ∀ k b, s.heap k = some b → inNames k L.blks = false → k ∉ L.kills s → s'.heap k = some b ∨ s'.heap k = some { b with lock := true }) (hf : fits L s.heap (L.kills s) s' x) :
    ∃ δ'', δ0.le δ'' ∧ Rep own w0 δ'' (L.head s x) a' w' := by
  unfold fits at hf
  simp only [reqP_iff] at hf
  obtain ⟨hco, _, hs, hb⟩ := hf
  obtain ⟨hco1, hco2⟩ := cursOk_spec hco
  generalize hm : curs s' x L.news = m at hs hb hco1 hco2
  have hdom : ∀ k, s.heap k ≠ none → δ0 k ≠ none := fun k hk h0 => by
    cases hh : s.heap k with
    | none => exact hk hh
    | some b => obtain ⟨p, h1, _⟩ := hr0.hr.blk k b hh; rw [h0] at h1; cases h1
  have hnew : ∀ k, curOf m k ≠ none → s.heap k = none := fun k hk => by
    rw [← hm, curOf_names] at hk
    exact hall.news x k hk
  have hold0 : ∀ k, s.heap k ≠ none → curOf m k = none := fun k hk => by
    cases hc : curOf m k with
    | none => rfl
    | some c => exact absurd (hnew k (by rw [hc]; simp)) hk
  let δ'' : Dict := fun k => match curOf m k with
    | some (.at k') => δ' k'
    | some (.nil sz) => some ⟨0, sz, 0, 0, true⟩
    | none => δ0 k
  have dat : ∀ N k, curOf m N = some (.at k) → δ'' N = δ' k := fun N k h => by simp only [δ'', h]
  have dnil : ∀ N sz, curOf m N = some (.nil sz) → δ'' N = some ⟨0, sz, 0, 0, true⟩ := fun N sz h => by simp only [δ'', h]
  have dold : ∀ k, curOf m k = none → δ'' k = δ0 k := fun k h => by simp only [δ'', h]
  have dsame : ∀ k, s.heap k ≠ none → ∀ p, δ' k = some p → δ0 k = some p := fun k hk p hp => by
    cases h0 : δ0 k with
    | none => exact (hdom k hk h0).elim
    | some q => have := hle _ _ h0; rw [hp] at this; cases this; rfl
  have hle'' : δ0.le δ'' := fun k p hp => by
    have : s.heap k ≠ none := fun e => by rw [hr0.tight k e] at hp; cases hp
    rw [dold k (hold0 k this)]; exact hp
  have hat : ∀ N k, curOf m N = some (.at k) → ∀ p, δ' k = some p → δ'' N = some p := fun N k h p hp => by rw [dat N k h, hp]
  have hold : ∀ k, curOf m k = none → (s.heap k).isSome = true → ∀ p, δ' k = some p → δ'' k = some p := fun k h hh p hp => by
    rw [dold k h]
    exact dsame k (by intro e; rw [e] at hh; cases hh) p hp
  -- a block that fits
  have conv : ∀ (b p : Blk) (q : Loc), BlkFits m s.heap b p → Live δ' b w' q → Live δ'' p w' q := fun b p q hf hl => by
    refine ⟨hl.s.trans hf.size, hl.n.trans hf.n, fun hno => ?_, fun hno => ?_⟩
    · have := hl.no hno
      have h1 := hf.n
      have h2 := hf.ext
      omega
    · obtain ⟨c, e, fz, c1, c2, c3, c4, c5, c6, c7⟩ := hl.rep hno
      have hrows : ∀ i, i < p.n → ∀ (rs : List Value), absL δ' (b.row i) rs → absL δ'' (p.row i) rs := fun i hi rs hrs => by
        rcases hf.row i hi with ⟨g1, g2⟩ | ⟨_, g1⟩
        · rw [← g2]
          exact absL_nameless _ _ (c3 (hf.flat g1) i (by rw [hf.n]; exact hi)) hrs
        · exact mtL_abs hat dnil hold _ _ _ g1 hrs
      refine ⟨c, e, fz, c1, fun h => c2 (hf.rw.trans h), fun h i hi => ?_, fun h => ?_, ?_, fun h => ?_, fun i hi => ?_⟩
      · rcases hf.row i hi with ⟨g1, g2⟩ | ⟨g1, _⟩
        · rw [← g2]; exact c3 (hf.flat h) i (by rw [hf.n]; exact hi)
        · rw [h] at g1; cases g1
      · rw [← hf.elem h]; exact c4 (by rw [hf.elem h]; exact h)
      · rw [← hf.size]
        have := Nat.mul_le_mul_right b.size hf.ext
        omega
      · rw [← hf.size]; exact (c6 (hf.whole h)).imp id fun ⟨a, b⟩ => ⟨a, fun hr => b (hf.rw.trans hr)⟩
      · obtain ⟨d1, d2⟩ := c7 i (by rw [hf.n]; exact hi)
        obtain ⟨xs, e1, e2⟩ := exists_list (δ := δ') (c := c) (b.row i) (q.o + i * b.size) (fun j y hy => d2 j y hy)
        have e3 := hrows i hi xs e1
        have hlen' := absL_length e1
        have hlen'' := absL_length e3
        rw [hf.size] at d1 e2
        refine ⟨by omega, fun j y hy => ?_⟩
        obtain ⟨r, f1, f2⟩ := absL_get e3 hy
        exact ⟨r, e2 j r f1, f2⟩
  -- a block of the head, as s' has it
  have orig : ∀ k p, (L.head s x).heap k = some p → ∃ q, δ'' k = some q ∧ (p.dead = false → Live δ'' p w' q ∧ (q.no = false → ∃ k' b, s'.heap k' = some b ∧ b.dead = false ∧ b.rw = p.rw ∧ δ' k' = some q ∧ ((curOf m k = some (.at k')) ∨ (curOf m k = none ∧ k' = k ∧ s.heap k ≠ none ∧ k ∉ L.kills s)))) := fun k p hp => by
    rcases head_heap s x hall k with ⟨h1, _⟩ | ⟨p', h1, h2, h3⟩ | ⟨b, h1, h2, h3, _⟩ | ⟨b, h1, h2, h3, h4⟩
    · rw [hp] at h1; cases h1
    · rw [hp] at h2; cases h2
      rcases blksEq_spec hb k p h1 with ⟨k', b, g1, g2, g3⟩ | ⟨sz, g1, g2, g3, g4⟩ | ⟨b, g1, g2, g3⟩
      · obtain ⟨q, d1, d2⟩ := hr.hr.blk k' b g2
        exact ⟨q, (dat k k' g1).trans d1, fun _ => ⟨conv b p q g3 (d2 g3.dead), fun _ => ⟨k', b, g2, g3.dead, g3.rw, d1, .inl g1⟩⟩⟩
      · subst g4
        exact ⟨_, dnil k _ g1, fun _ => ⟨⟨rfl, g2.symm, fun _ => ⟨g2, g3⟩, fun hh => (by cases hh)⟩, fun hh => (by cases hh)⟩⟩
      · have hold' : s.heap k ≠ none ∧ k ∉ L.kills s := by
          rcases h3 with ⟨h3, _, h4⟩ | ⟨_, h4⟩
          · exact ⟨h3, h4⟩
          · rw [← curOf_names (s := s'), hm] at h4; exact absurd g1 h4
        obtain ⟨q, d1, d2⟩ := hr.hr.blk k b g2
        exact ⟨q, (dold k g1).trans (dsame k hold'.1 q d1), fun _ => ⟨conv b p q g3 (d2 g3.dead), fun _ => ⟨k, b, g2, g3.dead, g3.rw, d1, .inr ⟨g1, rfl, hold'.1, hold'.2⟩⟩⟩⟩
    · rw [hp] at h3; cases h3
      obtain ⟨q, d1, _⟩ := hr0.hr.blk k b h1
      exact ⟨q, hle'' _ _ d1, fun hh => by simp [killed] at hh⟩
    · rw [hp] at h2; cases h2
      have hcase : ∃ b', s'.heap k = some b' ∧ b'.size = b.size ∧ b'.rw = b.rw ∧ b'.n = b.n ∧ b'.row = b.row ∧ b'.flat = b.flat ∧ b'.dead = b.dead ∧ b'.ext = b.ext ∧ b'.elem = b.elem ∧ b'.whole = b.whole := by
        rcases hlock k b h1 h3 h4 with g | g
        · exact ⟨b, g, rfl, rfl, rfl, rfl, rfl, rfl, rfl, rfl, rfl⟩
        · exact ⟨_, g, rfl, rfl, rfl, rfl, rfl, rfl, rfl, rfl, rfl⟩
      obtain ⟨b', g1, g2, g3, g4, g5, g6, g7, g8, g9, g10⟩ := hcase
      obtain ⟨q0, q1, q2⟩ := hr0.hr.blk k b h1
      obtain ⟨q, d1, d2⟩ := hr.hr.blk k b' g1
      have hsk : s.heap k ≠ none := by rw [h1]; simp
      have hc := hold0 k hsk
      have hqq := dsame k hsk q d1
      rw [q1] at hqq; cases hqq
      refine ⟨q0, (dold k hc).trans q1, fun hdd => ⟨?_, fun _ => ⟨k, b', g1, by rw [g7]; exact hdd, g3, d1, .inr ⟨hc, rfl, hsk, h4⟩⟩⟩⟩
      have hdd' : b.dead = false := hdd
      have hl := d2 (by rw [g7]; exact hdd')
      have hl0 := q2 hdd'
      refine ⟨hl.s.trans g2, hl.n.trans g4, fun hno => by have := hl.no hno; rw [g4, g8] at this; exact this, fun hno => ?_⟩
      obtain ⟨c, e, fz, c1, c2, c3, c4, c5, c6, c7⟩ := hl.rep hno
      obtain ⟨_, _, _, _, _, _, _, _, _, z7⟩ := hl0.rep hno
      rw [g2, g8] at c5
      rw [g3] at c2
      rw [g6, g4, g5] at c3
      rw [g9] at c4
      rw [g2, g10, g3] at c6
      refine ⟨c, e, fz, c1, c2, c3, c4, c5, c6, fun i hi => ?_⟩
      obtain ⟨d1', d2'⟩ := c7 i (by rw [g4]; exact hi)
      obtain ⟨p1, p2⟩ := z7 i hi
      rw [g5, g2] at d1'
      refine ⟨d1', fun j y hy => ?_⟩
      obtain ⟨r', f1, f2⟩ := d2' j y (by rw [g5]; exact hy)
      rw [g2] at f1
      obtain ⟨r'', f3, f4⟩ := p2 j y hy
      exact ⟨r', f1, absV_mono hle'' _ _ (absV_same hle y r'' r' f4 f2)⟩
  have origl : ∀ k r, lies δ'' (L.head s x).heap k r → ∃ k' b p, (L.head s x).heap k = some p ∧ s'.heap k' = some b ∧ b.rw = p.rw ∧ lies δ' s'.heap k' r ∧ ((curOf m k = some (.at k')) ∨ (curOf m k = none ∧ k' = k ∧ s.heap k ≠ none ∧ k ∉ L.kills s)) := fun k r ⟨p, q, h1, h2, h3, h4, h5⟩ => by
    obtain ⟨q', g1, g2⟩ := orig k p h1
    rw [h3] at g1; cases g1
    obtain ⟨k', b, e1, e2, e3, e4, e5⟩ := (g2 h2).2 h4
    exact ⟨k', b, p, h1, e1, e3, ⟨b, q, e1, e2, e4, h4, h5⟩, e5⟩
  refine ⟨δ'', hle'', ?_, hr.df, ⟨fun k p hp => ?_, fun k1 k2 r p hl1 hl2 hp hrw => ?_⟩, fun k hk => ?_, fun r ⟨k, p, hp, hrw, hl⟩ => ?_, hr.wr⟩
  · -- the slots
    unfold LoopSpec.head
    refine absL_slots (atX x L.slots) (l := killSlots s.tmps (L.dead ++ L.slots.map (·.1))) ?_ fun t v hmm r hr' => ?_
    · refine absL_of_get ?_ fun t y hy => ?_
      · have : ∀ (ds : List Nat) (l : List SV), (killSlots l ds).length = l.length := by
          intro ds
          induction ds with
          | nil => intro l; rfl
          | cons d ds ih => intro l; simp only [killSlots]; rw [ih]; simp
        rw [this]
        have := absL_length hr0.tm
        simp at this ⊢
        omega
      · rw [kill_get] at hy
        by_cases hd : t ∈ L.dead ++ L.slots.map (·.1) ∧ t < s.tmps.length
        · rw [if_pos hd] at hy
          cases hy
          have : t < a'.tmps.toList.length := by
            have h1 := absL_length hr0.tm
            simp at h1 ⊢
            omega
          exact ⟨_, List.getElem?_eq_getElem this, by simp only [absV]⟩
        · rw [if_neg hd] at hy
          have hlt : t < s.tmps.length := (List.getElem?_eq_some_iff.1 hy).1
          have hnd : t ∉ L.dead ++ L.slots.map (·.1) := fun hx => hd ⟨hx, hlt⟩
          have hnl : t ∉ l := fun hx => by
            have h1 := List.all_eq_true.1 hcov t hx
            simp only [Bool.or_eq_true] at h1
            rcases h1 with h1 | h1
            · refine hnd (List.mem_append_right _ ?_)
              have : ∀ (ps : List (Nat × (L.X → SV))), inNames t ps = true → t ∈ ps.map (·.1) := by
                intro ps
                induction ps with
                | nil => intro h; simp [inNames] at h
                | cons p ps ih =>
                  obtain ⟨k, f⟩ := p
                  intro h
                  simp only [inNames, Bool.or_eq_true] at h
                  rcases h with h | h
                  · have := Nat.eq_of_beq_eq_true h
                    subst this
                    simp
                  · simp only [List.map_cons]; exact List.mem_cons_of_mem _ (ih h)
              exact this _ h1
            · exact hnd (List.mem_append_left _ (by simpa using h1))
          obtain ⟨r, h1, h2⟩ := absL_get hr0.tm hy
          refine ⟨r, ?_, absV_mono hle'' _ _ h2⟩
          have := hk t hnl
          simp at h1 ⊢
          rw [this, h1]
    · have h1 := slotsEq_spec hs t v hmm
      refine mtS_abs hat dnil hold v _ r h1 ?_
      cases hx : s'.tmps[t]? with
      | none => rw [List.getD, hx]; simp [absV]
      | some y =>
        rw [List.getD, hx]
        simp only [Option.getD_some]
        obtain ⟨r', g1, g2⟩ := absL_get hr.tm hx
        rw [g1] at hr'; cases hr'
        exact g2
  · obtain ⟨q, g1, g2⟩ := orig k p hp
    exact ⟨q, g1, fun hd => (g2 hd).1⟩
  · obtain ⟨k1', b1, p1, e1, e2, e3, e4, e5⟩ := origl k1 r hl1
    obtain ⟨k2', b2, p2, f1, f2, f3, f4, f5⟩ := origl k2 r hl2
    have : p1 = p := by
      have h : some p1 = some p := e1.symm.trans hp
      cases h; rfl
    subst this
    have := hr.hr.inj k1' k2' r b1 e4 f4 e2 (e3.trans hrw)
    subst this
    rcases e5 with e5 | ⟨e5, rfl, e6, e7⟩ <;> rcases f5 with f5 | ⟨f5, rfl, f6, f7⟩
    · exact hco2 k1 k2 _ e5 f5
    · rcases hco1 k1 _ e5 with g | g
      · exact absurd g f6
      · exact absurd g f7
    · rcases hco1 k2 _ f5 with g | g
      · exact absurd g e6
      · exact absurd g e7
    · rfl
  · rcases head_heap s x hall k with ⟨_, h1⟩ | ⟨p, _, h2, _⟩ | ⟨b, _, _, h2, _⟩ | ⟨b, _, h2, _⟩
    · have hc : curOf m k = none := by
        cases hc : curOf m k with
        | none => rfl
        | some c =>
          exfalso
          have : inNames k (atX x L.blks ++ atNews x L.news) = true := by
            rw [inNames_append, Bool.or_eq_true]
            right
            rw [← curOf_names (s := s'), hm, hc]; simp
          have := happ_ne (atX x L.blks ++ atNews x L.news) (fun k => match s.heap k with | some b => some (bif (L.kills s).elem k then killed { b with lock := true } else bif inNames k L.blks then b else { b with lock := true }) | none => none) this
          exact this hk
      rw [dold k hc]
      exact hr0.tight k h1
    · rw [hk] at h2; cases h2
    · rw [hk] at h2; cases h2
    · rw [hk] at h2; cases h2
  · obtain ⟨k', b, p', e1, e2, e3, e4, _⟩ := origl k r hl
    have : p' = p := by
      have h : some p' = some p := e1.symm.trans hp
      cases h; rfl
    subst this
    exact hr.mine r ⟨k', b, e2, e3.trans hrw, e4⟩
theorem Rep.off {B : Nat} {δ : Dict} {s : St} {a : Act} {w w' : World} (hB : w0.heap.size ≤ B) (h : Rep own w0 δ s a w) (ho : Off B w w') : HRep δ s.heap w' ∧ WRel own w0 w' := by
  refine ⟨⟨fun k b hk => ?_, h.hr.inj⟩, ⟨ho.os.trans h.wr.os, ho.tape.trans h.wr.tape, ho.output.trans h.wr.output, Nat.le_trans h.wr.size ho.size, fun r hr hno => ?_⟩⟩
  · obtain ⟨p, d1, d2⟩ := h.hr.blk k b hk
    refine ⟨p, d1, fun hd => ?_⟩
    have hl := d2 hd
    refine ⟨hl.s, hl.n, hl.no, fun hno => ?_⟩
    obtain ⟨c, e, fz, c1, rest⟩ := hl.rep hno
    exact ⟨c, e, fz, ho.same _ _ c1 (.inl rfl), rest⟩
  · have h1 := h.wr.block r hr hno
    rw [Array.getElem?_eq_getElem hr] at h1 ⊢
    exact ho.same _ _ h1 (.inr (Nat.lt_of_lt_of_le hr hB))
theorem MarksOk.off {B0 B : Nat} {ds : List Deferred} {w w' : World} (h : MarksOk B0 ds w) (hlt : ∀ D, ({ target := .collected D, args := #[] } : Deferred) ∈ ds → D < B) (ho : Off B w w') : MarksOk B0 ds w' := by
  obtain ⟨Ds, rest, h1, h0, h2, h3⟩ := h
  exact ⟨Ds, rest, h1, h0, h2, fun D hD => ⟨(h3 D hD).1, ho.same _ _ (h3 D hD).2 (.inr (hlt D (by rw [h1]; exact List.mem_append_left _ (List.mem_map_of_mem hD))))⟩⟩
theorem MarksOk.lt {B0 : Nat} {ds : List Deferred} {w : World} (h : MarksOk B0 ds w) : ∀ D, ({ target := .collected D, args := #[] } : Deferred) ∈ ds → D < w.heap.size := by
  obtain ⟨Ds, rest, h1, h0, _, h3⟩ := h
  intro D hD
  rw [h1] at hD
  rcases List.mem_append.1 hD with hD | hD
  case inr => have := h0 _ hD; simp [isMark] at this
  obtain ⟨D', hD', e⟩ := List.mem_map.1 hD
  cases e
  exact (Array.getElem?_eq_some_iff.1 (h3 D hD').2).1
theorem HRep.aside {B : Nat} {δ : Dict} {hp : Heap} {w w' : World} (h : HRep δ hp w) (ho : Off B w w') : HRep δ hp w' := by
  refine ⟨fun k b hk => ?_, h.inj⟩
  obtain ⟨p, d1, d2⟩ := h.blk k b hk
  refine ⟨p, d1, fun hd => ?_⟩
  have hl := d2 hd
  refine ⟨hl.s, hl.n, hl.no, fun hno => ?_⟩
  obtain ⟨c, e, fz, c1, rest⟩ := hl.rep hno
  exact ⟨c, e, fz, ho.same _ _ c1 (.inl rfl), rest⟩
theorem Rep.aside {B : Nat} {δ : Dict} {s : St} {a : Act} {w w' : World} (h : Rep own w0 δ s a w) (hB : w0.heap.size ≤ B) (hlt : ∀ D, ({ target := .collected D, args := #[] } : Deferred) ∈ a.defers → D < B) (ho : Off B w w') : Rep own w0 δ s a w' :=
  ⟨h.tm, h.df.off hlt ho, (h.off hB ho).1, h.tight, h.mine, (h.off hB ho).2⟩
theorem MarksOk.cons {B0 D : Nat} {ds : List Deferred} {w : World} (h : MarksOk B0 ds w) (hB : B0 ≤ D) (hlt : ∀ D', ({ target := .collected D', args := #[] } : Deferred) ∈ ds → D' < D) (hD : w.heap[D]? = some (.deferred (some []))) : MarksOk B0 ({ target := .collected D, args := #[] } :: ds) w := by
  obtain ⟨Ds, rest, h1, h0, h2, h3⟩ := h
  refine ⟨D :: Ds, rest, by rw [h1]; rfl, h0, List.nodup_cons.2 ⟨fun hm => ?_, h2⟩, fun D' hD' => ?_⟩
  · have := hlt D (by rw [h1]; exact List.mem_append_left _ (List.mem_map_of_mem hm))
    omega
  · rcases List.mem_cons.1 hD' with rfl | hm
    · exact ⟨hB, hD⟩
    · exact h3 D' hm
theorem put_all {δ : Dict} : ∀ (ps : List Nat) (xs : List SV) (vs : List Value) (l : List SV) (arr : List Value), absL δ l arr → absL δ xs vs → absL δ (putAll l ps xs) ((ps.zip vs).foldl (fun t pv => t.set pv.1 pv.2) arr)
  | [], xs, vs, l, arr, h, _ => by simpa [putAll] using h
  | t :: ts, [], [], l, arr, h, _ => by simpa [putAll] using h
  | t :: ts, x :: xs, v :: vs, l, arr, h, hx => by
    simp only [absL] at hx
    simp only [putAll, List.zip_cons_cons, List.foldl_cons]
    exact put_all ts xs vs _ _ (absL_set h t hx.1) hx.2
  | t :: ts, [], _ :: _, l, arr, _, hx => by simp only [absL] at hx
  | t :: ts, _ :: _, [], l, arr, _, hx => by simp only [absL] at hx
theorem fold_list (ps : Array Tmp) (vs arr : Array Value) : ((ps.zip vs).foldl (fun t (p, v) => t.setIfInBounds p v) arr).toList = (ps.toList.zip vs.toList).foldl (fun t pv => t.set pv.1 pv.2) arr.toList := by
  rw [← Array.foldl_toList, Array.toList_zip]
  generalize ps.toList.zip vs.toList = l
  induction l generalizing arr with
  | nil => rfl
  | cons x l ih =>
    simp only [List.foldl_cons]
    rw [ih, Array.toList_setIfInBounds]
theorem Rep.same {δ : Dict} {s s' : St} {a : Act} {w : World} (h : Rep own w0 δ s a w) (ht : s'.tmps = s.tmps) (hh : s'.heap = s.heap) : Rep own w0 δ s' a w :=
  ⟨by rw [ht]; exact h.tm, h.df, by rw [hh]; exact h.hr, by rw [hh]; exact h.tight, by rw [hh]; exact h.mine, h.wr⟩
theorem Rep.unlock {δ : Dict} {s s' : St} {a : Act} {w : World} (h : Rep own w0 δ s' a w) : Rep own w0 δ { s' with heap := unlock s.heap s'.heap } a w := by
  have key : ∀ k b, Go.SE.unlock s.heap s'.heap k = some b → ∃ b', s'.heap k = some b' ∧ b'.size = b.size ∧ b'.rw = b.rw ∧ b'.n = b.n ∧ b'.row = b.row ∧ b'.flat = b.flat ∧ b'.dead = b.dead ∧ b'.ext = b.ext ∧ b'.elem = b.elem ∧ b'.whole = b.whole := fun k b hk => by
    unfold Go.SE.unlock at hk
    cases h1 : s'.heap k with
    | none => rw [h1] at hk; cases hk
    | some b' =>
      rw [h1] at hk
      simp only at hk
      cases h2 : s.heap k with
      | none => rw [h2] at hk; cases hk; exact ⟨b, rfl, rfl, rfl, rfl, rfl, rfl, rfl, rfl, rfl, rfl⟩
      | some b0 => rw [h2] at hk; cases hk; exact ⟨b', rfl, rfl, rfl, rfl, rfl, rfl, rfl, rfl, rfl, rfl⟩
  have keyl : ∀ k r, lies δ (Go.SE.unlock s.heap s'.heap) k r → lies δ s'.heap k r := fun k r ⟨b, p, h1, h2, h3⟩ => by
    obtain ⟨b', g1, _, _, _, _, _, g7, _⟩ := key k b h1
    exact ⟨b', p, g1, g7.trans h2, h3⟩
  refine ⟨h.tm, h.df, ⟨fun k b hk => ?_, fun k k' r b hl hl' hk hrw => ?_⟩, fun k hk => ?_, fun r ⟨k, b, hk, hrw, hl⟩ => ?_, h.wr⟩
  · obtain ⟨b', g1, g2, g3, g4, g5, g6, g7, g8, g9, g10⟩ := key k b hk
    obtain ⟨q, d1, d2⟩ := h.hr.blk k b' g1
    refine ⟨q, d1, fun hd => ?_⟩
    have hl := d2 (g7.trans hd)
    refine ⟨hl.s.trans g2, hl.n.trans g4, fun hno => by have := hl.no hno; rw [g4, g8] at this; exact this, fun hno => ?_⟩
    obtain ⟨c, e, fz, c1, c2, c3, c4, c5, c6, c7⟩ := hl.rep hno
    rw [g2, g8] at c5
    rw [g3] at c2
    rw [g6, g4, g5] at c3
    rw [g9] at c4
    rw [g2, g10, g3] at c6
    rw [g4, g5, g2] at c7
    exact ⟨c, e, fz, c1, c2, c3, c4, c5, c6, c7⟩
  · obtain ⟨b1, g1, _, g3, _⟩ := key k b hk
    exact h.hr.inj k k' r b1 (keyl k r hl) (keyl k' r hl') g1 (g3.trans hrw)
  · refine h.tight k ?_
    simp only [Go.SE.unlock] at hk
    cases h1 : s'.heap k with
    | none => rfl
    | some b' =>
      rw [h1] at hk
      simp only at hk
      cases h2 : s.heap k <;> rw [h2] at hk <;> cases hk
  · obtain ⟨b1, g1, _, g3, _⟩ := key k b hk
    exact h.mine r ⟨k, b1, g1, g3.trans hrw, keyl k r hl⟩
structure FromC (q : Bool) (l : List Nat) (δ0 : Dict) (s0 : St) (a0 : Act) (δ : Dict) (s : St) (a : Act) : Prop where
  keep : keep l a0 a
  le : δ0.le δ
  locks : locks s0 s
  len : a.tmps.size = a0.tmps.size
  rs : restOf a.defers = restOf a0.defers
  df : q = true → a.defers = a0.defers
theorem FromC.refl (q : Bool) (l : List Nat) (δ : Dict) (s : St) (a : Act) : FromC q l δ s a δ s a := ⟨keep_refl l a, δ.le_refl, locks_refl s, rfl, rfl, fun _ => rfl⟩
theorem FromC.wk {q q' : Bool} {l : List Nat} {δ0 δ : Dict} {s0 s : St} {a0 a : Act} (h : FromC q l δ0 s0 a0 δ s a) (hq : q' = true → q = true) : FromC q' l δ0 s0 a0 δ s a := ⟨h.keep, h.le, h.locks, h.len, h.rs, fun e => h.df (hq e)⟩
theorem FromC.trans {q : Bool} {l : List Nat} {δ0 δ1 δ2 : Dict} {s0 s1 s2 : St} {a0 a1 a2 : Act} (h : FromC q l δ0 s0 a0 δ1 s1 a1) (h' : FromC q l δ1 s1 a1 δ2 s2 a2) : FromC q l δ0 s0 a0 δ2 s2 a2 :=
  ⟨keep_trans h.keep h'.keep, Dict.le_trans h.le h'.le, locks_trans h.locks h'.locks, h'.len.trans h.len, h'.rs.trans h.rs, fun hq => (h'.df hq).trans (h.df hq)⟩
theorem FromC.mono {q : Bool} {l l' : List Nat} {δ0 δ : Dict} {s0 s : St} {a0 a : Act} (h : FromC q l δ0 s0 a0 δ s a) (hs : ∀ t, t ∈ l → t ∈ l') : FromC q l' δ0 s0 a0 δ s a := ⟨keep_mono h.keep hs, h.le, h.locks, h.len, h.rs, h.df⟩
theorem FromC.nx {q : Bool} {l : List Nat} {δ0 δ : Dict} {s0 s : St} {a0 a : Act} (h : FromC q l δ0 s0 a0 δ s a) (n : Nat) : FromC q l δ0 s0 a0 δ { s with nx := n } a := ⟨h.keep, h.le, h.locks, h.len, h.rs, h.df⟩
def Ends (own : Nat → Prop) (w0 : World) (q : Bool) (l : List Nat) (δ0 : Dict) (s0 : St) (a0 : Act) (K : Exit → St → Prop) (e : Exit) (a : Act) (w : World) : Prop :=
  ∃ δ s, K e s ∧ Rep own w0 δ s a w ∧ FromC q l δ0 s0 a0 δ s a
theorem tmps_same {s : St} {i : Nat} {b : Bool} {t : Bool} (h : s.eval (.tmp i) = .v (.bool b)) (hb : b = t) : ({ s with tmps := s.tmps.set i (.v (.bool t)) } : St) = s := by
  subst hb
  simp only [St.eval] at h
  have hx : s.tmps.getD i .unk = .v (.bool b) := by
    cases hg : s.tmps[i]? with
    | none => rw [List.getD, hg] at h; simp [undefS, undef] at h
    | some y => rw [List.getD, hg] at h ⊢; simpa using h
  rw [set_same hx (by simp)]
theorem within2_spec {L M : LoopSpec} {s : St} (h : within2 L M s = true) (hn : namesAll M s.heap (M.kills s) = true) :
    (∀ k b, s.heap k = some b → b.lock = true → inNames k M.blks = false ∧ k ∉ M.kills s) ∧ ∀ k, inNames k M.blks = false → k ∉ M.kills s → inNames k L.blks = false ∧ k ∉ L.kills s := by
  unfold within2 at h
  simp only [Bool.and_eq_true, List.all_eq_true] at h
  obtain ⟨⟨h1, h2⟩, h3⟩ := h
  unfold namesAll at hn
  simp only [Bool.and_eq_true, List.all_eq_true] at hn
  refine ⟨fun k b hk hl => ⟨?_, fun hm => ?_⟩, fun k hi hkk => ⟨?_, fun hm => ?_⟩⟩
  · cases hi : inNames k M.blks with
    | false => rfl
    | true =>
      obtain ⟨y, hy⟩ := inNames_any hi
      have := h1 _ hy
      simp only [hk, hl] at this
      cases this
  · have := hn.2 k hm
    rw [hk] at this
    simp only [hl] at this
    cases this
  · cases hi' : inNames k L.blks with
    | false => rfl
    | true =>
      obtain ⟨y, hy⟩ := inNames_any hi'
      have := h2 _ hy
      simp only at this
      rw [hi] at this
      cases this
  · have := h3 k hm
    exact hkk (by simpa using this)
theorem no_lock {L : LoopSpec} {s : St} {x0 : L.X} (hall : NamesOk L s.heap (L.kills s)) (hf0 : fits L s.heap (L.kills s) s x0) : ∀ k b, s.heap k = some b → b.lock = true → inNames k L.blks = false ∧ k ∉ L.kills s := fun k b hk hl => by
  constructor
  · cases hi : inNames k L.blks with
    | false => rfl
    | true =>
      exfalso
      have hi' : inNames k (atX x0 L.blks ++ atNews x0 L.news) = true := by rw [inNames_append, atX_names, hi]; rfl
      obtain ⟨p, hp, _⟩ := happ_mem (atX x0 L.blks ++ atNews x0 L.news) s.heap hi'
      unfold fits at hf0
      simp only [reqP_iff] at hf0
      have hc : curOf (curs s x0 L.news) k = none := by
        cases hc : curOf (curs s x0 L.news) k with
        | none => rfl
        | some c =>
          have : inNames k (atNews x0 L.news) = true := curOf_names.1 (by rw [hc]; simp)
          rw [hall.news x0 k this] at hk; cases hk
      rcases blksEq_spec hf0.2.2.2 k p hp with ⟨k', b', g1, _⟩ | ⟨sz, g1, _⟩ | ⟨b', _, g1, g2⟩
      · rw [hc] at g1; cases g1
      · rw [hc] at g1; cases g1
      · rw [hk] at g1; cases g1
        have := g2.lock
        rw [hl] at this; cases this
  · intro hkk
    obtain ⟨b', g1, g2⟩ := hall.kills k hkk
    rw [hk] at g1; cases g1
    rw [hl] at g2; cases g2
theorem code_wp (hm : P.follows .mixedOrders = true) (hΓ : ∀ f g, Γ f = some g → g.ok P f) {Λ : Nat → Option LoopSpec} : ∀ (c : Code) (ro : Option Nat) (n : Nat) (own : Nat → Prop) (w0 : World), (∀ r, w0.heap.size ≤ r → own r) → (ro = none ∨ noRF c = true) → ∀ (id : Nat) (K : Exit → St → Prop) (δ : Dict) (s : St) (a : Act) (w : World),
    vcCode P Γ Λ c id s K → Rep own w0 δ s a w → c.wpIn (WF ro) n P (Ends own w0 (noRF c) (dsts c) δ s a K) a w
  | .skip, ro, n, own, w0, hown, hrf, id, K, δ, s, a, w, h, hr => wpIn_skip ⟨δ, s, h, hr, FromC.refl _ _ _ _ _⟩
  | .exit i, ro, n, own, w0, hown, hrf, id, K, δ, s, a, w, h, hr => wpIn_exit ⟨δ, s, h, hr, FromC.refl _ _ _ _ _⟩
  | .ret, ro, n, own, w0, hown, hrf, id, K, δ, s, a, w, h, hr => wpIn_ret ⟨δ, s, h, hr, FromC.refl _ _ _ _ _⟩
  | .region rid ops draw, ro, n, own, w0, hown, hrf, id, K, δ, s, a, w, h, hr => by
    simp only [vcCode] at h
    cases hb : (!draw || regionOk P Γ ops ⟨beforeL ops.toList [], prOf Λ rid⟩) with
    | false => rw [hb] at h; exact h.elim
    | true =>
      rw [hb, cond_true] at h
      refine region_wp hm hΓ hown (fun a' w' ⟨δ', s', h1, h2, h3⟩ => ⟨δ', { s' with nx := s'.nx + 8 * ops.size }, h1, h2.nx _, ⟨h3.keep, h3.le, h3.locks, h3.len, by rw [h3.df], fun _ => h3.df⟩⟩) (fun v a' w' ⟨δ', x, h', k1, k2, k3, k4⟩ => ?_) hr.tm hb h hr (From.refl _ _ _ _)
      cases x with
      | v val =>
        simp only [absV] at k2
        subst k2
        exact ⟨δ', { tmps := killSlots s.tmps (dstsOps ops.toList), heap := h', nx := s.nx + 8 * ops.size }, k1, k3.nx (s.nx + 8 * ops.size), ⟨k4.keep, k4.le, k4.locks, k4.len, by rw [k4.df], fun _ => k4.df⟩⟩
      | _ => exact k1.elim
  | .seq x y, ro, n, own, w0, hown, hrf, id, K, δ, s, a, w, h, hr => by
    simp only [vcCode] at h
    cases hL : atL s (Λ (cutKey x)) with
    | none =>
      rw [hL] at h
      simp only at h
      refine wpIn_seq (wpIn_mono (code_wp hm hΓ x ro n own w0 hown (hrf.imp (fun e => e) fun h => ((Bool.and_eq_true _ _).mp h).1) id _ δ s a w h hr) fun e a' w' ⟨δ', s', h1, h2, h3⟩ => ?_)
      have h3' := (h3.mono (l' := dsts (.seq x y)) fun t ht => List.mem_append_left _ ht).wk (q' := noRF (.seq x y)) fun h => ((Bool.and_eq_true _ _).mp h).1
      cases e with
      | normal =>
        refine wpIn_mono (code_wp hm hΓ y ro n own w0 hown (hrf.imp (fun e => e) fun h => ((Bool.and_eq_true _ _).mp h).2) id K δ' s' a' w' h1 h2) fun e2 a2 w2 ⟨δ2, s2, g1, g2, g3⟩ => ?_
        exact ⟨δ2, s2, g1, g2, h3'.trans ((g3.mono fun t ht => List.mem_append_right _ ht).wk fun h => ((Bool.and_eq_true _ _).mp h).2)⟩
      | exit i => exact ⟨δ', s', h1, h2, h3'⟩
      | goto l => exact ⟨δ', s', h1, h2, h3'⟩
      | ret => exact ⟨δ', s', h1, h2, h3'⟩
      | panic ch => exact ⟨δ', s', h1, h2, h3'⟩
      | outgrown => exact ⟨δ', s', h1, h2, h3'⟩
    | some L =>
      rw [hL] at h
      simp only at h
      cases hcv : (L.news.isEmpty && L.covers (dsts x) && namesAll L s.heap (L.kills s)) with
      | false => rw [hcv] at h; exact h.elim
      | true =>
        rw [hcv, cond_true] at h
        simp only [Bool.and_eq_true] at hcv
        obtain ⟨⟨hne, hcov⟩, hna⟩ := hcv
        have hall := namesAll_spec hna
        have hnews : L.news = [] := by cases hn : L.news with | nil => rfl | cons _ _ => rw [hn] at hne; cases hne
        have hkill : L.kills s = [] := by unfold LoopSpec.kills; rw [hnews]; rfl
        obtain ⟨h1, h2⟩ := h
        have hshut : ∀ k b, s.heap k = some b → (L.shut s).heap k = some (bif inNames k L.blks then b else { b with lock := true }) := fun k b hk => by
          unfold LoopSpec.shut Go.SE.unlock
          simp only [hk]
          cases inNames k L.blks <;> rfl
        have hlocked : ∀ k b, s.heap k = some b → b.lock = true → (L.shut s).heap k = some b := fun k b hk hl => by
          rw [hshut k b hk]
          cases inNames k L.blks with
          | true => rfl
          | false => rw [cond_false, show ({ b with lock := true } : Blk) = b by cases b; simp only at hl; subst hl; rfl]
        have hrs : Rep own w0 δ (L.shut s) a w := Rep.unlock (s := { s with heap := fun k => match s.heap k with | some b => some (bif inNames k L.blks then b else { b with lock := true }) | none => none }) hr
        refine wpIn_seq (wpIn_mono (code_wp hm hΓ x ro n own w0 hown (hrf.imp (fun e => e) fun h => ((Bool.and_eq_true _ _).mp h).1) id _ δ (L.shut s) a w h1 hrs) fun e a' w' ⟨δ', s', g1, g2, g3⟩ => ?_)
        have out : ∀ e', K e' { s' with heap := unlock s.heap s'.heap } → Ends own w0 (noRF (.seq x y)) (dsts (.seq x y)) δ s a K e' a' w' := fun e' hK =>
          ⟨δ', _, hK, g2.unlock, ⟨keep_mono g3.keep fun t ht => List.mem_append_left _ ht, g3.le, fun k b hk hl => by
            have := g3.locks k b (hlocked k b hk hl) hl
            show unlock s.heap s'.heap k = some b
            unfold unlock
            rw [this, hk], g3.len, g3.rs, fun hq => g3.df ((Bool.and_eq_true _ _).mp hq).1⟩⟩
        cases e with
        | normal =>
          obtain ⟨x0, hf⟩ := g1
          have hinv : L.inv x0 := by
            unfold fits at hf
            simp only [reqP_iff] at hf
            exact hf.2.1
          obtain ⟨δ3, e1, e2⟩ := head_rep hall hcov hr g2 g3.le g3.keep g3.len (fun k b hk hi _ => .inr (by
            refine g3.locks k _ ?_ rfl
            rw [hshut k b hk, hi]; rfl)) hf
          have e3 : Rep own w0 δ3 (L.opn s (cnt x) x0) a' w' := (Rep.unlock (s := s) e2).nx _
          have nolock : ∀ k b, s.heap k = some b → b.lock = true → inNames k L.blks = false := fun k b hk hl => by
            cases hi : inNames k L.blks with
            | false => rfl
            | true =>
              exfalso
              have hi' : inNames k (atX x0 L.blks ++ atNews x0 L.news) = true := by rw [inNames_append, atX_names, hi]; rfl
              obtain ⟨p, hp, _⟩ := happ_mem (atX x0 L.blks ++ atNews x0 L.news) s.heap hi'
              unfold fits at hf
              simp only [reqP_iff] at hf
              have hc : ∀ k, curOf (curs s' x0 L.news) k = none := fun k => by rw [hnews]; rfl
              rcases blksEq_spec hf.2.2.2 k p hp with ⟨k', b', q1, _⟩ | ⟨sz, q1, _⟩ | ⟨b', _, q1, q2⟩
              · rw [hc] at q1; cases q1
              · rw [hc] at q1; cases q1
              · rw [g3.locks k b (hlocked k b hk hl) hl] at q1; cases q1
                have := q2.lock
                rw [hl] at this; cases this
          refine wpIn_mono (code_wp hm hΓ y ro n own w0 hown (hrf.imp (fun e => e) fun h => ((Bool.and_eq_true _ _).mp h).2) id K δ3 _ a' w' (h2 x0 hinv) e3) fun e2 a2 w2 ⟨δ2, s2, q1, q2, q3⟩ => ?_
          refine ⟨δ2, s2, q1, q2, ⟨keep_trans (keep_mono g3.keep fun t ht => List.mem_append_left _ ht) (keep_mono q3.keep fun t ht => List.mem_append_right _ ht), Dict.le_trans e1 q3.le, fun k b hk hl => ?_, q3.len.trans g3.len, q3.rs.trans g3.rs, fun hq => (q3.df ((Bool.and_eq_true _ _).mp hq).2).trans (g3.df ((Bool.and_eq_true _ _).mp hq).1)⟩⟩
          refine q3.locks k b ?_ hl
          show unlock s.heap (L.head s x0).heap k = some b
          unfold unlock
          rcases head_heap s x0 hall k with ⟨_, h1⟩ | ⟨p, _, _, ⟨_, h1, _⟩ | ⟨h1, _⟩⟩ | ⟨b', _, h1, _⟩ | ⟨b', h1, h2, _⟩
          · rw [hk] at h1; cases h1
          · rw [nolock k b hk hl] at h1; cases h1
          · rw [hk] at h1; cases h1
          · rw [hkill] at h1; cases h1
          · rw [hk] at h1; cases h1
            rw [h2, hk]
        | exit i => exact out _ g1
        | goto l => exact out _ g1
        | ret => exact out _ g1
        | panic ch => exact out _ g1
        | outgrown => exact out _ g1
  | .cond c x y, ro, n, own, w0, hown, hrf, id, K, δ, s, a, w, h, hr => by
    simp only [vcCode] at h
    cases hc : s.eval c with
    | v val =>
      rw [hc] at h
      cases val with
      | bool t =>
        simp only at h
        have hev := hr.eval c
        rw [hc] at hev
        simp only [absV] at hev
        have both : sel t (vcCode P Γ Λ x id s (atNx (s.nx + 8 * (cnt x + cnt y)) K)) (vcCode P Γ Λ y id s (atNx (s.nx + 8 * (cnt x + cnt y)) K)) := by
          cases c with
          | tmp i =>
            cases t with
            | true => simp only [sel] at h ⊢; rw [tmps_same hc rfl] at h; exact h
            | false => simp only [sel] at h ⊢; rw [tmps_same hc rfl] at h; exact h
          | const v => exact h
          | global g => exact h
          | func f => exact h
        cases t with
        | true =>
          refine wpIn_cond_true hev (wpIn_mono (code_wp hm hΓ x ro n own w0 hown (hrf.imp (fun e => e) fun h => ((Bool.and_eq_true _ _).mp h).1) id _ δ s a w both hr) fun e a' w' ⟨δ', s', h1, h2, h3⟩ => ⟨δ', _, h1, h2.nx _, ((h3.nx _).mono fun t ht => List.mem_append_left _ ht).wk fun h => ((Bool.and_eq_true _ _).mp h).1⟩)
        | false =>
          refine wpIn_cond_false hev (wpIn_mono (code_wp hm hΓ y ro n own w0 hown (hrf.imp (fun e => e) fun h => ((Bool.and_eq_true _ _).mp h).2) id _ δ s a w both hr) fun e a' w' ⟨δ', s', h1, h2, h3⟩ => ⟨δ', _, h1, h2.nx _, ((h3.nx _).mono fun t ht => List.mem_append_right _ ht).wk fun h => ((Bool.and_eq_true _ _).mp h).2⟩)
      | _ => exact h.elim
    | _ => rw [hc] at h; exact h.elim
  | .block bid c, ro, n, own, w0, hown, hrf, id, K, δ, s, a, w, h, hr => by
    simp only [vcCode] at h
    refine wpIn_block (wpIn_mono (code_wp hm hΓ c ro n own w0 hown hrf bid _ δ s a w h hr) fun e a' w' ⟨δ', s0, h1, h2, h3⟩ => ?_)
    have h2 := h2.nx (s.nx + 8 * cnt c)
    have h3 := h3.nx (s.nx + 8 * cnt c)
    unfold atNx at h1
    generalize ({ s0 with nx := s.nx + 8 * cnt c } : St) = s' at h1 h2 h3
    cases e with
    | exit i =>
      simp only at h1
      show (if i = bid then _ else _)
      by_cases hi : i = bid
      · rw [if_pos hi]
        rw [show Nat.beq i bid = true by rw [hi]; exact Nat.beq_refl bid, cond_true] at h1
        exact ⟨δ', s', h1, h2, h3⟩
      · rw [if_neg hi]
        rw [beq_false hi, cond_false] at h1
        exact ⟨δ', s', h1, h2, h3⟩
    | normal => exact ⟨δ', s', h1, h2, h3⟩
    | goto l => exact ⟨δ', s', h1, h2, h3⟩
    | ret => exact ⟨δ', s', h1, h2, h3⟩
    | panic ch => exact ⟨δ', s', h1, h2, h3⟩
    | outgrown => exact ⟨δ', s', h1, h2, h3⟩
  | .loop c, ro, n, own, w0, hown, hrf, id, K, δ, s, a, w, h, hr => by
    simp only [vcCode] at h
    cases hL : atL s (Λ id) with
    | none => rw [hL] at h; exact h.elim
    | some L =>
      rw [hL] at h
      simp only at h
      cases hL2 : atL s (Λ (5000000 + id)) with
      | none =>
        rw [hL2] at h
        simp only at h
        cases hcv : (L.covers (dsts c) && namesAll L s.heap (L.kills s)) with
        | false => rw [hcv] at h; exact h.elim
        | true =>
          rw [hcv, cond_true] at h
          rw [Bool.and_eq_true] at hcv
          have hall := namesAll_spec hcv.2
          obtain ⟨⟨x0, hf0⟩, hround⟩ := h
          have inv_of : ∀ s' x, fits L s.heap (L.kills s) s' x → L.inv x := fun s' x hf => by
            unfold fits at hf
            simp only [reqP_iff] at hf
            exact hf.2.1
          have nolock : ∀ k b, s.heap k = some b → b.lock = true → inNames k L.blks = false ∧ k ∉ L.kills s := no_lock hall hf0
          let I : Nat → Act → World → Prop := fun q a' w' => ∃ x δ1, L.inv x ∧ L.mu x = q ∧ δ.le δ1 ∧ Rep own w0 δ1 (L.head s x) a' w' ∧ keep (dsts c) a a' ∧ a'.tmps.size = a.tmps.size ∧ restOf a'.defers = restOf a.defers ∧ (noRF c = true → a'.defers = a.defers)
          obtain ⟨δ1, hd1, hd2⟩ := head_rep hall hcv.1 hr hr δ.le_refl (keep_refl _ a) rfl (fun k b hk _ _ => .inl hk) hf0
          refine wpIn_loop_ghost I (L.mu x0) ⟨x0, δ1, inv_of s x0 hf0, rfl, hd1, hd2, keep_refl _ a, rfl, rfl, fun _ => rfl⟩ ?_
          rintro q a1 w1 ⟨x, δ1, hinv, hmu, hle1, hrep, hkeep, hlen, hrest, hdf⟩
          refine wpIn_mono (code_wp hm hΓ c ro n own w0 hown hrf id _ δ1 (L.head s x) a1 w1 (hround x hinv) hrep) fun e a2 w2 ⟨δ2, s2, g1, g2, g3⟩ => ?_
          -- what is locked at the head is as it was
          have hlk : ∀ k b, s.heap k = some b → inNames k L.blks = false → k ∉ L.kills s → s2.heap k = some { b with lock := true } := fun k b hk hi hkk => by
            refine g3.locks k _ ?_ rfl
            rcases head_heap s x hall k with ⟨_, h1⟩ | ⟨p, _, _, ⟨_, h1, _⟩ | ⟨h1, _⟩⟩ | ⟨b', _, h1, _⟩ | ⟨b', h1, h2, _⟩
            · rw [hk] at h1; cases h1
            · rw [hi] at h1; cases h1
            · rw [hk] at h1; cases h1
            · exact absurd h1 hkk
            · rw [hk] at h1; cases h1; exact h2
          have out : ∀ e', K e' { s2 with heap := unlock s.heap s2.heap } → Ends own w0 (noRF (.loop c)) (dsts (.loop c)) δ s a K e' a2 w2 := fun e' hK =>
            ⟨δ2, _, hK, g2.unlock, ⟨keep_trans hkeep g3.keep, Dict.le_trans hle1 g3.le, fun k b hk hl => by
              have := hlk k b hk (nolock k b hk hl).1 (nolock k b hk hl).2
              show unlock s.heap s2.heap k = some b
              unfold unlock
              rw [this, hk], g3.len.trans hlen, g3.rs.trans hrest, fun hq => (g3.df hq).trans (hdf hq)⟩⟩
          cases e with
          | normal =>
            obtain ⟨x', hf', hlt⟩ := g1
            obtain ⟨δ3, e1, e2⟩ := head_rep hall hcv.1 hr g2 (Dict.le_trans hle1 g3.le) (keep_trans hkeep g3.keep) (g3.len.trans hlen) (fun k b hk hi hkk => .inr (hlk k b hk hi hkk)) hf'
            exact ⟨L.mu x', by omega, x', δ3, inv_of s2 x' hf', rfl, e1, e2, keep_trans hkeep g3.keep, g3.len.trans hlen, g3.rs.trans hrest, fun hq => (g3.df hq).trans (hdf hq)⟩
          | exit i => exact out _ g1
          | goto l => exact out _ g1
          | ret => exact out _ g1
          | panic ch => exact out _ g1
          | outgrown => exact out _ g1
      | some M =>
        rw [hL2] at h
        simp only at h
        cases hcv : ((L.covers (dsts c) && namesAll L s.heap (L.kills s)) && (M.covers (dsts c) && namesAll M s.heap (M.kills s)) && within2 L M s) with
        | false => rw [hcv] at h; exact h.elim
        | true =>
          rw [hcv, cond_true] at h
          simp only [Bool.and_eq_true] at hcv
          obtain ⟨⟨⟨hcL, hnL⟩, hcM, hnM⟩, hw2⟩ := hcv
          have hallL := namesAll_spec hnL
          have hallM := namesAll_spec hnM
          obtain ⟨nolockM, sub⟩ := within2_spec hw2 hnM
          have nolockL : ∀ k b, s.heap k = some b → b.lock = true → inNames k L.blks = false ∧ k ∉ L.kills s := fun k b hk hl => sub k (nolockM k b hk hl).1 (nolockM k b hk hl).2
          obtain ⟨⟨x0, hf0⟩, hrL, hrM⟩ := h
          have inv_of : ∀ (S : LoopSpec) s' x, fits S s.heap (S.kills s) s' x → S.inv x := fun S s' x hf => by
            unfold fits at hf
            simp only [reqP_iff] at hf
            exact hf.2.1
          let J : LoopSpec → Nat → Act → World → Prop := fun S q a' w' => ∃ (x : S.X) (δ1 : Dict), S.inv x ∧ S.mu x = q ∧ δ.le δ1 ∧ Rep own w0 δ1 (S.head s x) a' w' ∧ keep (dsts c) a a' ∧ a'.tmps.size = a.tmps.size ∧ restOf a'.defers = restOf a.defers ∧ (noRF c = true → a'.defers = a.defers)
          let I : Nat → Act → World → Prop := fun q a' w' => J L q a' w' ∨ J M q a' w'
          -- a round from either head
          have round : ∀ (S : LoopSpec), NamesOk S s.heap (S.kills s) → (∀ k b, s.heap k = some b → b.lock = true → inNames k S.blks = false ∧ k ∉ S.kills s) → ∀ (x : S.X) (δ1 : Dict) (a1 : Act) (w1 : World) (N : St → Prop), vcCode P Γ Λ c id (S.head s x) (fun e s' => match e with
              | .normal => N s'
              | e => K e { s' with heap := unlock s.heap s'.heap }) → δ.le δ1 → Rep own w0 δ1 (S.head s x) a1 w1 → keep (dsts c) a a1 → a1.tmps.size = a.tmps.size → restOf a1.defers = restOf a.defers → (noRF c = true → a1.defers = a.defers) →
              c.wpIn (WF ro) n P (fun e a2 w2 => match e with
                | .normal => ∃ δ2 s2, N s2 ∧ Rep own w0 δ2 s2 a2 w2 ∧ δ.le δ2 ∧ keep (dsts c) a a2 ∧ a2.tmps.size = a.tmps.size ∧ restOf a2.defers = restOf a.defers ∧ (noRF c = true → a2.defers = a.defers) ∧ ∀ k b, s.heap k = some b → inNames k S.blks = false → k ∉ S.kills s → s2.heap k = some { b with lock := true }
                | e => Ends own w0 (noRF (.loop c)) (dsts (.loop c)) δ s a K e a2 w2) a1 w1 := fun S hall nolock x δ1 a1 w1 N hv hle1 hrep hkeep hlen hrest hdf => by
            refine wpIn_mono (code_wp hm hΓ c ro n own w0 hown hrf id _ δ1 (S.head s x) a1 w1 hv hrep) fun e a2 w2 ⟨δ2, s2, g1, g2, g3⟩ => ?_
            have hlk : ∀ k b, s.heap k = some b → inNames k S.blks = false → k ∉ S.kills s → s2.heap k = some { b with lock := true } := fun k b hk hi hkk => by
              refine g3.locks k _ ?_ rfl
              rcases head_heap s x hall k with ⟨_, h1⟩ | ⟨p, _, _, ⟨_, h1, _⟩ | ⟨h1, _⟩⟩ | ⟨b', _, h1, _⟩ | ⟨b', h1, h2, _⟩
              · rw [hk] at h1; cases h1
              · rw [hi] at h1; cases h1
              · rw [hk] at h1; cases h1
              · exact absurd h1 hkk
              · rw [hk] at h1; cases h1; exact h2
            have out : ∀ e', K e' { s2 with heap := unlock s.heap s2.heap } → Ends own w0 (noRF (.loop c)) (dsts (.loop c)) δ s a K e' a2 w2 := fun e' hK =>
              ⟨δ2, _, hK, g2.unlock, ⟨keep_trans hkeep g3.keep, Dict.le_trans hle1 g3.le, fun k b hk hl => by
                have := hlk k b hk (nolock k b hk hl).1 (nolock k b hk hl).2
                show unlock s.heap s2.heap k = some b
                unfold unlock
                rw [this, hk], g3.len.trans hlen, g3.rs.trans hrest, fun hq => (g3.df hq).trans (hdf hq)⟩⟩
            cases e with
            | normal => exact ⟨δ2, s2, g1, g2, Dict.le_trans hle1 g3.le, keep_trans hkeep g3.keep, g3.len.trans hlen, g3.rs.trans hrest, fun hq => (g3.df hq).trans (hdf hq), hlk⟩
            | exit i => exact out _ g1
            | goto l => exact out _ g1
            | ret => exact out _ g1
            | panic ch => exact out _ g1
            | outgrown => exact out _ g1
          obtain ⟨δ1, hd1, hd2⟩ := head_rep hallL hcL hr hr δ.le_refl (keep_refl _ a) rfl (fun k b hk _ _ => .inl hk) hf0
          refine wpIn_loop_ghost I (L.mu x0) (.inl ⟨x0, δ1, inv_of L s x0 hf0, rfl, hd1, hd2, keep_refl _ a, rfl, rfl, fun _ => rfl⟩) ?_
          rintro q a1 w1 (⟨x, δ1, hinv, hmu, hle1, hrep, hkeep, hlen, hrest, hdf⟩ | ⟨x, δ1, hinv, hmu, hle1, hrep, hkeep, hlen, hrest, hdf⟩)
          · refine wpIn_mono (round L hallL nolockL x δ1 a1 w1 _ (hrL x hinv) hle1 hrep hkeep hlen hrest hdf) fun e a2 w2 he => ?_
            cases e with
            | normal =>
              obtain ⟨δ2, s2, hN, g2, g3, g4, g5, g6, g7, hlk⟩ := he
              rcases hN with ⟨x', hf', hlt⟩ | ⟨x', hf', hlt⟩
              · obtain ⟨δ3, e1, e2⟩ := head_rep hallL hcL hr g2 g3 g4 g5 (fun k b hk hi hkk => .inr (hlk k b hk hi hkk)) hf'
                exact ⟨L.mu x', by omega, .inl ⟨x', δ3, inv_of L s2 x' hf', rfl, e1, e2, g4, g5, g6, g7⟩⟩
              · obtain ⟨δ3, e1, e2⟩ := head_rep hallM hcM hr g2 g3 g4 g5 (fun k b hk hi hkk => .inr (hlk k b hk (sub k hi hkk).1 (sub k hi hkk).2)) hf'
                exact ⟨M.mu x', by omega, .inr ⟨x', δ3, inv_of M s2 x' hf', rfl, e1, e2, g4, g5, g6, g7⟩⟩
            | exit i => exact he
            | goto l => exact he
            | ret => exact he
            | panic ch => exact he
            | outgrown => exact he
          · refine wpIn_mono (round M hallM nolockM x δ1 a1 w1 _ (hrM x hinv) hle1 hrep hkeep hlen hrest hdf) fun e a2 w2 he => ?_
            cases e with
            | normal =>
              obtain ⟨δ2, s2, hN, g2, g3, g4, g5, g6, g7, hlk⟩ := he
              obtain ⟨x', hf', hlt⟩ := hN
              obtain ⟨δ3, e1, e2⟩ := head_rep hallM hcM hr g2 g3 g4 g5 (fun k b hk hi hkk => .inr (hlk k b hk hi hkk)) hf'
              exact ⟨M.mu x', by omega, .inr ⟨x', δ3, inv_of M s2 x' hf', rfl, e1, e2, g4, g5, g6, g7⟩⟩
            | exit i => exact he
            | goto l => exact he
            | ret => exact he
            | panic ch => exact he
            | outgrown => exact he
  | .rangeFunc f ps asg cb, ro, n, own, w0, hown, hrf, id, K, δ, s, a, w, h, hr => by
    rcases hrf with hrf | hrf
    · subst hrf
      simp only [vcCode] at h
      cases hL : atL s (Λ id) with
      | none => rw [hL] at h; exact h.elim
      | some L =>
        rw [hL] at h
        simp only at h
        cases hit : L.it with
        | none => rw [hit] at h; exact h.elim
        | some it =>
          rw [hit] at h
          cases hev : s.eval f with
          | fn g caps =>
            rw [hev] at h
            simp only at h
            cases hc : (Nat.beq g it.f && L.slots.isEmpty && noRF asg && noRF cb && namesAll L s.heap (L.kills s)) with
            | false => rw [hc] at h; exact h.elim
            | true =>
              rw [hc, cond_true] at h
              simp only [Bool.and_eq_true] at hc
              obtain ⟨⟨⟨⟨c1, _⟩, c3⟩, c4⟩, c5⟩ := hc
              obtain rfl := Nat.eq_of_beq_eq_true c1
              have hall := namesAll_spec c5
              cases hrun : it.run caps s.heap with
              | none => rw [hrun] at h; exact h.elim
              | some pk =>
                obtain ⟨p, N, m, item, ks⟩ := pk
                rw [hrun] at h
                simp only at h
                cases hm2 : (Nat.beq m ps.size && ks.all (fun k => !inNames k L.blks && !(L.kills s).elem k)) with
                | false => rw [hm2] at h; exact h.elim
                | true =>
                  rw [hm2, cond_true] at h
                  rw [Bool.and_eq_true] at hm2
                  obtain ⟨k1, k2⟩ := hm2
                  obtain rfl := Nat.eq_of_beq_eq_true k1
                  have k2 := List.all_eq_true.1 k2
                  obtain ⟨⟨hP, hp⟩, ⟨x0, hx0, hf0⟩, hround, hdone⟩ := h
                  obtain ⟨itP, itf, itrun, itok⟩ := it
                  simp only at hP hrun hev
                  have itok : ItOk P itf itrun := hP ▸ itok
                  have hev' := hr.eval f
                  rw [hev] at hev'
                  simp only [absV] at hev'
                  obtain ⟨lb, hlb, hcaps⟩ := hev'
                  obtain ⟨heg, encs, hencs, hseq⟩ := itok caps s.heap p N ps.size item ks hrun hp δ w lb hcaps hr.hr
                  have B0 : w0.heap.size ≤ w.heap.size := hr.wr.size
                  have mlt := hr.df.lt
                  have inv_of : ∀ s' x, fits L s.heap (L.kills s) s' x → L.inv x := fun s' x hf => by
                    unfold fits at hf
                    simp only [reqP_iff] at hf
                    exact hf.2.1
                  have nolock : ∀ k b, s.heap k = some b → b.lock = true → inNames k L.blks = false ∧ k ∉ L.kills s := no_lock hall hf0
                  have kept : ∀ k, k ∈ ks → inNames k L.blks = false ∧ k ∉ L.kills s := fun k hk => by
                    have := k2 k hk
                    simp only [Bool.and_eq_true, Bool.not_eq_true'] at this
                    exact ⟨this.1, fun hm => by have := this.2; simp [hm] at this⟩
                  have headLock : ∀ x k b, s.heap k = some b → inNames k L.blks = false → k ∉ L.kills s → (L.head s x).heap k = some { b with lock := true } := fun x k b hk hi hkk => by
                    rcases head_heap s x hall k with ⟨_, h1⟩ | ⟨p, _, _, ⟨_, h1, _⟩ | ⟨h1, _⟩⟩ | ⟨b', _, h1, _⟩ | ⟨b', h1, h2, _⟩
                    · rw [hk] at h1; cases h1
                    · rw [hi] at h1; cases h1
                    · rw [hk] at h1; cases h1
                    · exact absurd h1 hkk
                    · rw [hk] at h1; cases h1; exact h2
                  -- a state's Rep with the caller's own slots
                  have withTmps : ∀ {s' : St} {δ' : Dict} {W : World}, δ.le δ' → HRep δ' s'.heap W → (∀ k, s'.heap k = none → δ' k = none) → (∀ r, rwOf δ' s'.heap r → own r) → WRel own w0 W → MarksOk w0.heap.size a.defers W → Rep own w0 δ' { s' with tmps := s.tmps } a W :=
                    fun hle h1 h2 h3 h4 h5 => ⟨absL_mono hle _ _ hr.tm, h5, h1, h2, h3, h4⟩
                  have outC : ∀ {s' : St} {δ' : Dict} {W : World} {e : Exit} {a' : Act}, a'.tmps = a.tmps → restOf a'.defers = restOf a.defers → K e { s with heap := unlock s.heap s'.heap } → δ.le δ' → Rep own w0 δ' { s' with tmps := s.tmps } a' W → (∀ k b, s.heap k = some b → inNames k L.blks = false → k ∉ L.kills s → s'.heap k = some { b with lock := true }) → Ends own w0 false [] δ s a K e a' W :=
                    fun {s' δ' W e a'} ht hds hK hle hrep hlk => ⟨δ', _, hK, (hrep.unlock (s := s)).same rfl rfl, ⟨fun t _ => by rw [ht], hle, fun k b hk hl => by
                      have := hlk k b hk (nolock k b hk hl).1 (nolock k b hk hl).2
                      show unlock s.heap s'.heap k = some b
                      unfold unlock
                      rw [this, hk], by rw [ht], hds, fun h => (by cases h)⟩⟩
                  let I : Nat → World → Prop := fun k W => ∃ x δ1, L.inv x ∧ L.ix x = k ∧ δ.le δ1 ∧ Rep own w0 δ1 (L.head s x) a W
                  let Ix : Code → World → Prop := fun c W => (c = .ret ∧ Ends own w0 false [] δ s a K .ret a W) ∨ ∃ i, c = .exit i ∧ Ends own w0 false [] δ s a K (.exit i) a W
                  have marked : ∀ {e : Exit} {D : Nat} {W : World}, w.heap.size ≤ D → Ends own w0 false [] δ s a K e a W → W.heap[D]? = some (.deferred (some [])) → Ends own w0 false [] δ s a K e { a with defers := { target := .collected D, args := #[] } :: a.defers } W :=
                    fun {e D W} hD ⟨δ', s', hK, hrep, hfr⟩ hd => ⟨δ', s', hK, ⟨hrep.tm, hrep.df.cons (Nat.le_trans B0 hD) (fun D' hD' => Nat.lt_of_lt_of_le (mlt D' hD') hD) hd, hrep.hr, hrep.tight, hrep.mine, hrep.wr⟩, ⟨hfr.keep, hfr.le, hfr.locks, hfr.len, hfr.rs, fun h => (by cases h)⟩⟩
                  obtain ⟨δ1, hd1, hd2⟩ := head_rep (l := []) hall rfl hr hr δ.le_refl (keep_refl _ a) rfl (fun k b hk _ _ => .inl hk) hf0
                  refine rf_law (N := N) hlb heg hseq (fun i hi => (hencs i hi).2) I Ix ?_ ?_ ?_ ⟨x0, δ1, inv_of s x0 hf0, hx0, hd1, hd2⟩ ?_ ?_ ?_ ?_
                  · rintro k W W' ⟨x, δ1, h1, h2, h3, h4⟩ ho
                    exact ⟨x, δ1, h1, h2, h3, h4.aside B0 mlt ho⟩
                  · rintro c W W' (⟨rfl, δ', s', hK, hrep, hfr⟩ | ⟨i, rfl, δ', s', hK, hrep, hfr⟩) ho
                    · exact .inl ⟨rfl, δ', s', hK, hrep.aside B0 mlt ho, hfr⟩
                    · exact .inr ⟨i, rfl, δ', s', hK, hrep.aside B0 mlt ho, hfr⟩
                  · rintro k W ⟨x, δ1, h1, h2, h3, h4⟩
                    refine ⟨δ1, h3, fun k' hk' b p hb hp hd => ?_⟩
                    obtain ⟨q, e1, e2⟩ := h4.hr.blk k' _ (headLock x k' b hb (kept k' hk').1 (kept k' hk').2)
                    have := h3 _ _ hp
                    rw [e1] at this; cases this
                    have hl := e2 hd
                    exact ⟨hl.s, hl.n, hl.no, hl.rep⟩
                  · rintro l k W ⟨x, δ1, hinv, hix, hle1, hrep⟩ hk
                    subst hix
                    have own1c : ∀ r, r < W.heap.size → (W.heap.size ≤ r ∨ rwOf δ1 (L.head s x).heap r) → ∃ c e fz, W.heap[r]? = some (.cells c e fz) := fun r hlt hx => by
                      rcases hx with hx | hx
                      · omega
                      · exact rwOf_cells hrep.hr hx
                    have htm : absL δ1 (putAll (L.head s x).tmps ps.toList (item (L.ix x))) ((ps.zip (encs (L.ix x))).foldl (fun t (p, v) => t.setIfInBounds p v) a.tmps).toList := by
                      rw [fold_list]
                      exact put_all _ _ _ _ _ hrep.tm (absL_mono hle1 _ _ (hencs _ hk).1)
                    have rep1 : Rep (fun r => W.heap.size ≤ r ∨ rwOf δ1 (L.head s x).heap r) W δ1 { L.head s x with tmps := putAll (L.head s x).tmps ps.toList (item (L.ix x)) } { tmps := (ps.zip (encs (L.ix x))).foldl (fun t (p, v) => t.setIfInBounds p v) a.tmps, defers := [] } W :=
                      ⟨htm, MarksOk.nil _ _, hrep.hr, hrep.tight, fun r hx => .inr hx, WRel.refl _ _⟩
                    have hv := hround x hinv hk
                    refine wpIn_mono (code_wp hm hΓ asg (some l) 0 _ W (fun r hx => .inl hx) (.inr c3) id _ δ1 _ _ W hv rep1) fun e1 a2 W1 hg => ?_
                    obtain ⟨δ2, s2, g1, g2, g3⟩ := hg
                    cases e1 with
                    | exit i => exact g1.elim
                    | goto l => exact g1.elim
                    | ret => exact g1.elim
                    | panic ch => exact g1.elim
                    | outgrown => exact g1.elim
                    | normal =>
                      refine ⟨⟨g2.wr.size, fun r o _ hr' ho' => g2.wr.others own1c hr' ho'⟩, fun W2 ho => ?_⟩
                      have hdf : a2.defers = [] := g3.df c3
                      have hr2 : HRep δ2 s2.heap W2 := g2.hr.aside ho
                      have own2c : ∀ r, r < W2.heap.size → (W2.heap.size ≤ r ∨ rwOf δ2 s2.heap r) → ∃ c e fz, W2.heap[r]? = some (.cells c e fz) := fun r hlt hx => by
                        rcases hx with hx | hx
                        · omega
                        · exact rwOf_cells hr2 hx
                      have rep2 : Rep (fun r => W2.heap.size ≤ r ∨ rwOf δ2 s2.heap r) W2 δ2 s2 a2 W2 :=
                        ⟨g2.tm, by rw [hdf]; exact MarksOk.nil _ _, hr2, g2.tight, fun r hx => .inr hx, WRel.refl _ _⟩
                      refine wpIn_mono (code_wp hm hΓ cb (some l) 0 _ W2 (fun r hx => .inl hx) (.inr c4) id _ δ2 _ a2 W2 g1 rep2) fun e a3 W3 ⟨δ3, s3, e1, e2, e3⟩ => ?_
                      have ownBack : ∀ r, (W2.heap.size ≤ r ∨ rwOf δ2 s2.heap r) → own r := fun r hx => by
                        have sz1 := hrep.wr.size
                        have sz2 := g2.wr.size
                        have sz3 := ho.size
                        rcases hx with hx | hx
                        · exact hown r (by omega)
                        · rcases g2.mine r hx with hx | hx
                          · exact hown r (by omega)
                          · exact hrep.mine r hx
                      have hle3 : δ.le δ3 := Dict.le_trans hle1 (Dict.le_trans g3.le e3.le)
                      have hlk3 : ∀ k b, s.heap k = some b → inNames k L.blks = false → k ∉ L.kills s → s3.heap k = some { b with lock := true } := fun k b hk hi hkk =>
                        e3.locks k _ (g3.locks k _ (headLock x k b hk hi hkk) rfl) rfl
                      have wr3 : WRel own w0 W3 := by
                        refine ⟨e2.wr.os.trans (ho.os.trans (g2.wr.os.trans hrep.wr.os)), e2.wr.tape.trans (ho.tape.trans (g2.wr.tape.trans hrep.wr.tape)), e2.wr.output.trans (ho.output.trans (g2.wr.output.trans hrep.wr.output)), Nat.le_trans hrep.wr.size (Nat.le_trans g2.wr.size (Nat.le_trans ho.size e2.wr.size)), fun r hr' hno => ?_⟩
                        have sz1 := hrep.wr.size
                        have sz2 := g2.wr.size
                        have sz3 := ho.size
                        have b1 := hrep.wr.block r hr' hno
                        have b2 := g2.wr.block r (by omega) (fun hx => by
                          rcases hx with hx | hx
                          · omega
                          · exact hno (hrep.mine r hx))
                        have b3 : W2.heap[r]? = W1.heap[r]? := by
                          have hlt : r < W1.heap.size := by omega
                          rw [Array.getElem?_eq_getElem hlt]
                          exact ho.same _ _ (Array.getElem?_eq_getElem hlt) (.inr (by omega))
                        have b4 := e2.wr.block r (by omega) (fun hx => hno (ownBack r hx))
                        rw [b4, b3, b2, b1]
                      have df3 : MarksOk w0.heap.size a.defers W3 := ((hrep.df.rel g2.wr own1c).off mlt ho).rel e2.wr own2c
                      have rep3 : Rep own w0 δ3 { s3 with tmps := s.tmps } a W3 := withTmps hle3 e2.hr e2.tight (fun r hx => ownBack r (e2.mine r hx)) wr3 df3
                      have hkf : KeepsFrom w.heap.size W2 W3 := ⟨e2.wr.size, fun r o _ hr' ho' => e2.wr.others own2c hr' ho'⟩
                      cases e with
                      | normal =>
                        obtain ⟨x', hx', hf'⟩ := e1
                        obtain ⟨δ4, f1, f2⟩ := head_rep (l := []) (s' := { s3 with tmps := s.tmps }) hall rfl hr rep3 hle3 (keep_refl _ a) rfl (fun k b hk hi hkk => .inr (hlk3 k b hk hi hkk)) hf'
                        exact ⟨hkf, x', δ4, inv_of _ x' hf', hx', f1, f2⟩
                      | ret => exact ⟨hkf, .inl ⟨rfl, outC rfl rfl e1 hle3 rep3 hlk3⟩⟩
                      | exit i => exact ⟨hkf, .inr ⟨i, rfl, outC rfl rfl e1 hle3 rep3 hlk3⟩⟩
                      | goto l => exact e1.elim
                      | panic ch => exact e1.elim
                      | outgrown => exact e1.elim
                  · rintro D W hD ⟨x, δ1, hinv, hix, hle1, hrep⟩ hd
                    exact marked hD (outC rfl rfl (hdone x hinv hix) hle1 (withTmps hle1 hrep.hr hrep.tight hrep.mine hrep.wr hrep.df) (headLock x)) hd
                  · rintro D W hD (⟨_, he⟩ | ⟨i, hi, _⟩) hd
                    · exact marked hD he hd
                    · cases hi
                  · rintro D i W hD (⟨hi, _⟩ | ⟨j, hj, he⟩) hd
                    · cases hi
                    · cases hj; exact marked hD he hd
          | _ => rw [hev] at h; exact h.elim
    · simp only [noRF] at hrf; cases hrf
  | .scope _, ro, n, own, w0, hown, hrf, id, K, δ, s, a, w, h, hr => by simp only [vcCode] at h
  | .label _, ro, n, own, w0, hown, hrf, id, K, δ, s, a, w, h, hr => by simp only [vcCode] at h
  | .goto _, ro, n, own, w0, hown, hrf, id, K, δ, s, a, w, h, hr => by simp only [vcCode] at h
  | .refuse _, ro, n, own, w0, hown, hrf, id, K, δ, s, a, w, h, hr => by simp only [vcCode] at h
end
end Go.SE
end
section
namespace Go.SE
open Go.RowKit
mutual
def vOfS : SV → Value
  | .v x => x
  | .agg cs => .agg (vsOfS cs).toArray
  | .tup cs => .tuple (vsOfS cs).toArray
  | _ => undef
def vsOfS : List SV → List Value
  | [] => []
  | x :: xs => vOfS x :: vsOfS xs
end
mutual
theorem absV_plain {δ : Dict} : ∀ (x : SV) (r : Value), plain x = true → (absV δ x r ↔ r = vOfS x)
  | .v x, r, _ => by simp only [absV, vOfS]
  | .agg cs, r, h => by
    simp only [plain] at h
    simp only [absV, vOfS]
    constructor
    · rintro ⟨xs, rfl, h2⟩; rw [(absL_plain cs xs h).1 h2]
    · rintro rfl; exact ⟨_, rfl, (absL_plain cs _ h).2 rfl⟩
  | .tup cs, r, h => by
    simp only [plain] at h
    simp only [absV, vOfS]
    constructor
    · rintro ⟨xs, rfl, h2⟩; rw [(absL_plain cs xs h).1 h2]
    · rintro rfl; exact ⟨_, rfl, (absL_plain cs _ h).2 rfl⟩
  | .unk, _, h => by simp [plain] at h
  | .vp _ _, _, h => by simp [plain] at h
  | .ptr _ _ _, _, h => by simp [plain] at h
  | .sl _ _ _ _ _, _, h => by simp [plain] at h
  | .ap _ _ _, _, h => by simp [plain] at h
  | .fn _ _, _, h => by simp [plain] at h
  | .ifc _ _, _, h => by simp [plain] at h
theorem absL_plain {δ : Dict} : ∀ (xs : List SV) (rs : List Value), plainL xs = true → (absL δ xs rs ↔ rs = vsOfS xs)
  | [], [], _ => by simp [absL, vsOfS]
  | x :: xs, r :: rs, h => by
    simp only [plainL, Bool.and_eq_true] at h
    simp only [absL, vsOfS, List.cons.injEq, absV_plain x r h.1, absL_plain xs rs h.2]
  | [], _ :: _, _ => by simp [absL, vsOfS]
  | _ :: _, [], _ => by simp [absL, vsOfS]
end
section
variable {P : Program} {Γ : Ctrs}
theorem results_ok {own : Nat → Prop} {w0 : World} {δ : Dict} {s : St} {a : Act} {w : World} (hr : Rep own w0 δ s a w) : ∀ (l : List ResultVar) (xs : List SV), resultsS P s l = some xs →
    ∃ vs, (l.mapM (m := Sem) fun | .tmp t => pure (a.tmps.getD t undef) | .cell x t => do loadVar t (← asAddr (a.tmps.getD x undef))).run P w = .ok vs w ∧ absL δ xs vs
  | [], xs, h => by
    simp only [resultsS, Option.some.injEq] at h
    subst h
    exact ⟨[], by simp, by simp only [absL]⟩
  | .tmp t :: rest, xs, h => by
    simp only [resultsS] at h
    cases hl : resultsS P s rest with
    | none => rw [hl] at h; cases h
    | some l =>
      rw [hl] at h
      cases h
      obtain ⟨vs, h1, h2⟩ := results_ok hr rest l hl
      refine ⟨a.tmps.getD t undef :: vs, ?_, by simp only [absL]; exact ⟨hr.eval (.tmp t), h2⟩⟩
      simp only [List.mapM_cons, Sem.run_bind, Sem.run_pure, Result.andThen_ok]
      rw [h1]
      rfl
  | .cell x t :: rest, xs, h => by
    simp only [resultsS] at h
    cases hl : resultsS P s rest with
    | none => rw [hl] at h; cases h
    | some l =>
      cases hv : loadS P s.heap t (s.tmps.getD x undefS) with
      | none => rw [hl, hv] at h; cases h
      | some pv =>
        rw [hl, hv] at h
        · cases h
          obtain ⟨vs, h1, h2⟩ := results_ok hr rest l hl
          have hev := hr.eval (.tmp x)
          obtain ⟨y, y1, y2⟩ := load_ok (P := P) (w := w) hv hev hr.hr
          refine ⟨y :: vs, ?_, by simp only [absL]; exact ⟨y2, h2⟩⟩
          simp only [Act.eval] at y1
          have hld : (do loadVar t (← asAddr (a.tmps.getD x undef)) : Sem Value).run P w = .ok y w := by
            unfold Instr.loadAt at y1
            generalize a.tmps.getD x undef = z at y1 hev ⊢
            cases z <;> simp only [Instr.sureAddr, Sem.run_bind] at y1 <;> try (simp [stuck] at y1; done)
            rename_i ad
            cases ad with
            | none => simp [stuck] at y1
            | some ad => simpa [asAddr] using y1
          simp only [List.mapM_cons, Sem.run_bind]
          rw [Sem.run_bind] at hld
          rw [hld]
          simp only [Result.andThen_ok]
          rw [h1]
          rfl
theorem ret_ok {own : Nat → Prop} {w0 : World} {δ : Dict} {s : St} {a : Act} {w : World} {fn : Func} {x : SV} (hr : Rep own w0 δ s a w) (h : retS P fn s = some x) :
    ∃ v, (results fn a.tmps).run P w = .ok v w ∧ absV δ x v := by
  unfold retS at h
  cases hl : resultsS P s fn.results.toList with
  | none => rw [hl] at h; cases h
  | some xs =>
    rw [hl] at h
    obtain ⟨vs, h1, h2⟩ := results_ok (P := P) hr _ _ hl
    have hrun : (results fn a.tmps).run P w = .ok (if h : vs.toArray.size = 1 then vs.toArray[0] else .tuple vs.toArray) w := by
      unfold results
      rw [Array.mapM_eq_mapM_toList]
      simp only [Sem.run_bind, Sem.run_map]
      refine Eq.trans (congrArg (fun z : Result (List Value) => ((Result.andThen z fun a w' => Result.ok a.toArray w').andThen fun a w' => Sem.run P (pure (if h : a.size = 1 then a[0] else Value.tuple a)) w')) h1) ?_
      simp
    rw [hrun]
    match xs, vs, h2, h with
    | [y], [v], h2, h =>
      cases h
      simp only [absL, and_true] at h2
      exact ⟨v, by simp, h2⟩
    | [], [], h2, h =>
      cases h
      exact ⟨_, rfl, by simp only [absV]; exact ⟨[], by simp, h2⟩⟩
    | y :: y' :: ys, v :: v' :: vs, h2, h =>
      cases h
      exact ⟨_, rfl, by simp only [absV]; exact ⟨v :: v' :: vs, by simp, h2⟩⟩
    | [], _ :: _, h2, _ => simp only [absL] at h2
    | [_], [], h2, _ => simp only [absL] at h2
    | [_], _ :: _ :: _, h2, _ => simp [absL] at h2
    | _ :: _ :: _, [], h2, _ => simp only [absL] at h2
    | _ :: _ :: _, [_], h2, _ => simp [absL] at h2
theorem leaves_marks {fn : Func} {tmps : Array Value} {R : Ending → World → Prop} {B : Nat} : ∀ (Ds : List Nat) (w : World), Ds.Nodup → (∀ D, D ∈ Ds → B ≤ D ∧ w.heap[D]? = some (.deferred (some []))) →
    (∀ W, Off B w W → ∃ v, (results fn tmps).run P W = .ok v W ∧ R (.returned v) W) → LeavesInM Fence.wide 0 P fn tmps R (Ds.map fun D => { target := .collected D, args := #[] }) .returning w
  | [], w, _, _, h => h w (Off.refl B w)
  | D :: Ds, w, hn, hd, h => by
    obtain ⟨h1, h2⟩ := hd D List.mem_cons_self
    have hoff : Off B w (w.putObj D (.deferred none)) := Off.putObj _ h2 rfl h1
    refine ⟨by simp, .inl ⟨D, _, rfl, run_takeDeferred h2, leaves_marks Ds _ (List.nodup_cons.1 hn).2 (fun D' hD' => ?_) fun W hW => h W (hoff.trans hW)⟩⟩
    have hne : D' ≠ D := fun e => (List.nodup_cons.1 hn).1 (e ▸ hD')
    obtain ⟨g1, g2⟩ := hd D' (List.mem_cons_of_mem _ hD')
    exact ⟨g1, (World.putObj_heap_other hne).trans g2⟩
theorem fn_calls (hm : P.follows .mixedOrders = true) (hΓ : ∀ f g, Γ f = some g → g.ok P f) {f : FuncId} {fn : Func} (hf : P.funcs[f]? = some fn) {Λ : Nat → Option LoopSpec} {args : List SV} {h0 : Heap} {nx : Nat} {δ : Dict} {w : World} {vals : List Value}
    (ha : absL δ args vals) (hr : HRep δ h0 w) (ht : ∀ k, h0 k = none → δ k = none) {R : SV → Heap → Prop} (h : vcFn P Γ Λ fn args h0 nx R) :
    Calls P f vals.toArray w fun e w' => ∃ r x δ' h', e = .returned r ∧ R x h' ∧ absV δ' x r ∧ HRep δ' h' w' ∧ δ.le δ' ∧ WRel (rwOf δ h0) w w' ∧ (∀ q, rwOf δ' h' q → w.heap.size ≤ q ∨ rwOf δ h0 q) := by
  unfold vcFn at h
  cases hb : fn.body with
  | none => rw [hb] at h; exact h.elim
  | some c =>
    rw [hb] at h
    simp only at h
    refine callsIn_wide.1 (callsIn_of_wp_marks (F := Fence.wide) (n := 0) hf hb trivial ?_ rfl)
    have hlen := absL_length ha
    have hrep : Rep (fun r => w.heap.size ≤ r ∨ rwOf δ h0 r) w δ { tmps := args ++ List.replicate (fn.ntmps - args.length) undefS, heap := h0, nx } { tmps := vals.toArray ++ Array.replicate (fn.ntmps - vals.toArray.size) undef, defers := [] } w := by
      refine ⟨?_, MarksOk.nil _ _, hr, ht, fun r hx => .inr hx, WRel.refl _ _⟩
      simp only [Array.toList_append, Array.toList_replicate, List.size_toArray, ← hlen]
      exact absL_append ha (absL_replicate (by simp [undefS, absV]) _)
    refine wpIn_mono (code_wp hm hΓ c none 0 _ w (fun r hx => .inl hx) (.inl rfl) 0 _ δ _ _ w h hrep) fun e a' w' ⟨δ', s', h1, h2, h3⟩ => ?_
    have fin : (match retS P fn s' with | some x => R x s'.heap | none => False) → LeavesInM Fence.wide 0 P fn a'.tmps (fun e w' => ∃ r x δ' h', e = .returned r ∧ R x h' ∧ absV δ' x r ∧ HRep δ' h' w' ∧ δ.le δ' ∧ WRel (rwOf δ h0) w w' ∧ (∀ q, rwOf δ' h' q → w.heap.size ≤ q ∨ rwOf δ h0 q)) a'.defers .returning w' := fun hx => by
      cases hrs : retS P fn s' with
      | none => rw [hrs] at hx; exact hx.elim
      | some x =>
        rw [hrs] at hx
        obtain ⟨Ds, d1, d2, d3⟩ := h2.df.split (r := []) h3.rs
        rw [d1, List.append_nil]
        refine leaves_marks (B := w.heap.size) Ds w' d2 d3 fun W hW => ?_
        obtain ⟨o1, o2⟩ := h2.off (Nat.le_refl _) hW
        have h2' : Rep (fun r => w.heap.size ≤ r ∨ rwOf δ h0 r) w δ' s' { a' with defers := [] } W := ⟨h2.tm, MarksOk.nil _ _, o1, h2.tight, h2.mine, o2⟩
        obtain ⟨v, v1, v2⟩ := ret_ok (P := P) h2' hrs
        refine ⟨v, v1, v, x, δ', s'.heap, rfl, hx, v2, o1, h3.le, ⟨o2.os, o2.tape, o2.output, o2.size, fun r hlt hn => o2.block r hlt ?_⟩, h2.mine⟩
        rintro (hx | hx)
        · omega
        · exact hn hx
    cases e with
    | normal => exact fin h1
    | ret => exact fin h1
    | exit i => exact h1.elim
    | goto i => exact h1.elim
    | panic i => exact h1.elim
    | outgrown => exact h1.elim
def pureCtr (f : List SV → Option (Option Prop × SV)) : Ctr :=
  { writes := false, run := fun args _ _ => match f args with | some (p, x) => some (.det p x []) | none => none }
def noHeap : Heap := fun _ => none
def noDict : Dict := fun _ => none
theorem HRep.empty (w : World) : HRep noDict noHeap w := ⟨fun k b h => (by cases h), fun k k' r b h => (by obtain ⟨_, _, h, _⟩ := h; cases h)⟩
def PureSpec (P : Program) (f : FuncId) (spec : List SV → Option (Option Prop × SV)) : Prop :=
  ∀ args p x, spec args = some (p, x) → (∀ q, p = some q → q) → plainL args = true ∧ plain x = true ∧ ∀ w, Calls P f (vsOfS args).toArray w fun e w' => e = .returned (vOfS x) ∧ Below w.heap.size w w'
def vcPure (P : Program) (Γ : Ctrs) (Λ : Nat → Option LoopSpec) (fn : Func) (args : List SV) (R : SV → Prop) : Prop := vcFn P Γ Λ fn args noHeap 64 fun x _ => R x
theorem pure_calls (hm : P.follows .mixedOrders = true) (hΓ : ∀ f g, Γ f = some g → g.ok P f) {f : FuncId} {fn : Func} (hf : P.funcs[f]? = some fn) {Λ : Nat → Option LoopSpec} {args : List SV} (ha : plainL args = true) {x : SV} (hx : plain x = true)
    (h : vcPure P Γ Λ fn args (· = x)) (w : World) : Calls P f (vsOfS args).toArray w fun e w' => e = .returned (vOfS x) ∧ Below w.heap.size w w' := by
  refine (fn_calls hm hΓ hf (δ := noDict) (h0 := noHeap) ((absL_plain _ _ ha).2 rfl) (HRep.empty w) (fun _ _ => rfl) h).mono fun e w' ⟨r, y, δ', h', h1, h2, h3, _, _, h6, _⟩ => ?_
  subst h2
  refine ⟨by rw [h1, (absV_plain _ _ hx).1 h3], h6.os, h6.tape, h6.output, h6.size, fun k hk => h6.block k hk ?_⟩
  rintro ⟨k', b, hb, _⟩
  cases hb
theorem upd_below {δ : Dict} {h : Heap} {w w' : World} (hr : HRep δ h w) (h5 : Below w.heap.size w w') : Upd δ h w δ [] w' :=
  ⟨δ.le_refl, ⟨fun k b hk => (hr.blk k b hk).imp fun p ⟨d1, d2⟩ => ⟨d1, fun hd => (d2 hd).mono δ.le_refl fun hno => h5.block p.r (blkRep_lt ((d2 hd).rep hno))⟩, hr.inj⟩, fun k h0 h1 => absurd h0 h1, fun k p h0 h1 => (by rw [h0] at h1; cases h1), WRel.of_below h5⟩
theorem pure_ok {f : FuncId} {fn : Func} (hf : P.funcs[f]? = some fn) (hn : (fn.name == "runtime.NumGoroutine") = false) (hb : fn.body.isNone = false) {spec : List SV → Option (Option Prop × SV)} (hs : PureSpec P f spec) : (pureCtr spec).ok P f := by
  intro args h base e he δ w vals ha hr hp _
  simp only [pureCtr] at he
  cases hsp : spec args with
  | none => rw [hsp] at he; cases he
  | some px =>
    obtain ⟨p, x⟩ := px
    rw [hsp] at he
    cases he
    obtain ⟨h1, h2, h3⟩ := hs args p x hsp hp
    have hv := (absL_plain _ _ h1).1 ha
    subst hv
    have hrun : (callFunc f (vsOfS args).toArray).run P w = .ok (.enter f (vsOfS args).toArray) w := by
      have hn' : ¬ fn.name = "runtime.NumGoroutine" := by simpa using hn
      have hb' : ¬ fn.body = none := fun e => by rw [e] at hb; cases hb
      simp [callFunc, hf, hn', hb']
    rw [hrun]
    refine (h3 w).mono fun ed w' ⟨h4, h5⟩ => ⟨vOfS x, x, [], δ, h4, ⟨rfl, rfl⟩, (absV_plain _ _ h2).2 rfl, ?_⟩
    exact upd_below hr h5
theorem vc_spec (hm : P.follows .mixedOrders = true) (hΓ : ∀ f g, Γ f = some g → g.ok P f) {f : FuncId} {fn : Func} (hf : P.funcs[f]? = some fn) {spec : List SV → Option (Option Prop × SV)} {Λ : List SV → Nat → Option LoopSpec}
    (h : ∀ args p x, spec args = some (p, x) → (∀ q, p = some q → q) → plainL args = true ∧ plain x = true ∧ vcPure P Γ (Λ args) fn args (· = x)) : PureSpec P f spec := fun args p x hs hp =>
  ⟨(h args p x hs hp).1, (h args p x hs hp).2.1, pure_calls hm hΓ hf (h args p x hs hp).1 (h args p x hs hp).2.1 (h args p x hs hp).2.2⟩
def noCtrs : Ctrs := fun _ => none
theorem noCtrs_ok : ∀ f g, noCtrs f = some g → g.ok P f := fun _ _ h => by cases h
def addCtr (Γ : Ctrs) (f : FuncId) (g : Ctr) : Ctrs := fun x => bif Nat.beq x f then some g else Γ x
theorem addCtr_ok {Γ : Ctrs} (hΓ : ∀ f g, Γ f = some g → g.ok P f) {f : FuncId} {g : Ctr} (hg : g.ok P f) : ∀ f' g', addCtr Γ f g f' = some g' → g'.ok P f' := fun f' g' h => by
  unfold addCtr at h
  cases he : Nat.beq f' f with
  | true =>
    rw [he] at h
    cases h
    rw [Nat.eq_of_beq_eq_true he]; exact hg
  | false => rw [he] at h; exact hΓ f' g' h
end
end Go.SE
end
section
namespace Go.SE
def loopIn (i : Nat) : Code → Nat → Option Code
  | .loop c, e => bif Nat.beq e i then some c else loopIn i c e
  | .seq a b, e => match loopIn i a e with
    | some c => some c
    | none => loopIn i b e
  | .cond _ a b, e => match loopIn i a e with
    | some c => some c
    | none => loopIn i b e
  | .block id c, _ => loopIn i c id
  | .scope c, e => loopIn i c e
  | .rangeFunc _ _ _ c, e => loopIn i c e
  | _, _ => none
def deadOf (fn : Func) (i : Nat) (keep : List Nat) : List Nat := match fn.body with
  | some c => match loopIn i c 0 with
    | some b => (dsts b).filter fun t => !keep.elem t
    | none => []
  | none => []
def addLoop (Λ : Nat → Option LoopSpec) (fn : Func) (id : Nat) (X : Type) (inv : X → Prop) (mu : X → Nat) (slots : List (Nat × (X → SV))) (blks : List (Nat × (X → Blk))) : Nat → Option LoopSpec := fun i =>
  bif Nat.beq i id then some { X, inv, mu, slots, blks, dead := deadOf fn id (slots.map (·.1)) } else Λ i
def addLoopN (Λ : Nat → Option LoopSpec) (fn : Func) (id : Nat) (X : Type) (inv : X → Prop) (mu : X → Nat) (slots : List (Nat × (X → SV))) (blks : List (Nat × (X → Blk))) (news : List (Nat × (X → Blk) × (St → SV))) : Nat → Option LoopSpec := fun i =>
  bif Nat.beq i id then some { X, inv, mu, slots, blks, news, dead := deadOf fn id (slots.map (·.1)) } else Λ i
def addLoopM (Λ : Nat → Option LoopSpec) (fn : Func) (id : Nat) (X : Type) (inv : X → Prop) (mu : X → Nat) (slots : List (Nat × (X → SV))) (blks : List (Nat × (X → Blk))) (news : List (Nat × (X → Blk) × (St → SV))) : Nat → Option LoopSpec := fun i =>
  bif Nat.beq i (5000000 + id) then some { X, inv, mu, slots, blks, news, dead := deadOf fn id (slots.map (·.1)) } else Λ i
def addLoopR (Λ : Nat → Option LoopSpec) (fn : Func) (id : Nat) (X : Type) (inv : X → Prop) (rel : St → X → Prop) (mu : X → Nat) (slots : List (Nat × (X → SV))) (blks : List (Nat × (X → Blk))) : Nat → Option LoopSpec := fun i =>
  bif Nat.beq i id then some { X, inv, mu, slots, blks, dead := deadOf fn id (slots.map (·.1)), rel := some rel } else Λ i
def addPrs (Λ : Nat → Option LoopSpec) (rid : Nat) (pr : List (Nat × (Nat → List Nat))) : Nat → Option LoopSpec := fun i =>
  bif Nat.beq i (1000000 + rid) then some { X := Unit, inv := fun _ => True, mu := fun _ => 0, slots := [], blks := [], dead := [], pr } else Λ i
def inSlot (t : Nat) (s : St) : SV := s.tmps.getD t .unk
def inVar (k j : Nat) (s : St) : SV := match s.heap k with
  | some b => (b.row 0).getD j .unk
  | none => .unk
end Go.SE
end
section
namespace Go.SE
open Go.RowKit
inductive Ent where
  | win (k s i n : Nat)
  | whole (k : Nat)
def entIx (k : Nat) : List Ent → Nat → Option Nat
  | [], _ => none
  | .whole k' :: rest, j => bif Nat.beq k k' then some j else entIx k rest (j + 1)
  | .win _ _ _ _ :: rest, j => entIx k rest (j + 1)
structure Can where
  es : List Ent
  bs : List Blk
  /-- Is what a pointer points at only read? -/
  ro : Bool := false
def winBlk (b : Blk) (s i n : Nat) : Blk := { elem := b.elem, size := s, rw := false, lock := false, lit := false, flat := true, n, row := fun y => b.row (i + y), ext := 0 }
def Can.push (c : Can) (e : Ent) (b : Blk) : Can := ⟨c.es ++ [e], c.bs ++ [b], c.ro⟩
def Can.setRow (c : Can) (j : Nat) (cs : List SV) : Can := ⟨c.es, match c.bs[j]? with | some b => c.bs.set j { b with row := fun _ => cs } | none => c.bs, c.ro⟩
mutual
def canS : Nat → Heap → Bool → SV → Can → Option (SV × Can)
  | 0, _, _, _, _ => none
  | d + 1, h, deep, x, c => match x with
    | .v y => some (.v y, c)
    | .unk => some (.unk, c)
    | .agg cs => match canL d h deep cs c with
      | some (l, c') => some (.agg l, c')
      | none => none
    | .sl k s i n cap => match h k with
      | some b => bif b.dead || !b.flat || !Nat.beq b.size s then none else bif deep && b.rw then (match entIx k c.es 0 with
          | some j => some (.sl j s i n cap, c)
          | none => some (.sl c.es.length s i n cap, c.push (.whole k) { b with lock := false }))
        else some (.sl c.es.length s 0 n cap, c.push (.win k s i n) (winBlk b s i n))
      | none => none
    | .vp k 0 => bif c.ro then (match h k with
        | some b => bif b.dead || !b.flat || !Nat.beq b.n 1 then none else some (.ptr c.es.length 0 0, c.push (.win k b.size 0 1) (winBlk b b.size 0 1))
        | none => none)
      else match entIx k c.es 0 with
      | some j => some (.vp j 0, c)
      | none => match h k with
        | some b => bif b.dead || !b.rw || !Nat.beq b.n 1 then none else
            match canL d h true (b.row 0) (c.push (.whole k) { b with lock := false }) with
            | some (l, c') => some (.vp c.es.length 0, c'.setRow c.es.length l)
            | none => none
        | none => none
    | .fn f [] => some (.fn f [], c)
    | .ifc t y => match canS d h deep y c with
      | some (y', c') => some (.ifc t y', c')
      | none => none
    | _ => none
def canL : Nat → Heap → Bool → List SV → Can → Option (List SV × Can)
  | 0, _, _, _, _ => none
  | d + 1, h, deep, xs, c => match xs with
    | [] => some ([], c)
    | x :: rest => match canS d h deep x c with
      | some (y, c') => match canL d h deep rest c' with
        | some (l, c'') => some (y :: l, c'')
        | none => none
      | none => none
end
inductive Back where
  | win (k i : Nat)
  | whole (k : Nat)
  | no
def backOf (es : List Ent) (base j : Nat) : Back :=
  match es[j]? with
  | some (.win k _ i _) => .win k i
  | some (.whole k) => .whole k
  | none => bif Nat.ble 1000 j && Nat.blt j 1008 then .whole (base + (j - 1000)) else .no
mutual
def decS (es : List Ent) (base : Nat) : SV → SV
  | .unk => .unk
  | .v x => .v x
  | .vp j x => match backOf es base j with | .whole k => .vp k x | _ => .unk
  | .ptr j i x => match backOf es base j with | .whole k => .ptr k i x | .win k i0 => .ptr k (i0 + i) x | .no => .unk
  | .sl j s i n c => match backOf es base j with | .whole k => .sl k s i n c | .win k i0 => .sl k s (i0 + i) n c | .no => .unk
  | .ap j m l => match backOf es base j with | .whole k => .ap k m l | _ => .unk
  | .fn f cs => .fn f (decL es base cs)
  | .ifc t x => .ifc t (decS es base x)
  | .agg cs => .agg (decL es base cs)
  | .tup cs => .tup (decL es base cs)
def decL (es : List Ent) (base : Nat) : List SV → List SV
  | [] => []
  | x :: xs => decS es base x :: decL es base xs
end
def decB (es : List Ent) (base : Nat) (b : Blk) : Blk := { b with row := match b.flat with | true => b.row | false => fun i => decL es base (b.row i) }
def decU (es : List Ent) (base : Nat) : List (Nat × Blk) → List (Nat × Blk)
  | [] => []
  | (j, b) :: rest => match backOf es base j with
    | .whole k => (k, decB es base b) :: decU es base rest
    | _ => decU es base rest
def decE (es : List Ent) (base : Nat) : Eff → Eff
  | .det p x u => .det p (decS es base x) (decU es base u)
  | .nd p C c0 x u => .nd p C c0 (fun c => decS es base (x c)) (fun c => decU es base (u c))
  | .alt b e1 e2 => .alt b (decE es base e1) (decE es base e2)
def isWhole (k : Nat) : Ent → Bool
  | .whole k' => Nat.beq k k'
  | .win k' _ _ _ => Nat.beq k k'
def entsOk (h : Heap) : List Ent → Bool
  | [] => true
  | .whole k :: rest => rest.all (fun e => !isWhole k e) && entsOk h rest
  | .win k _ _ _ :: rest => rest.all (fun e => match e with | .whole k' => !Nat.beq k k' | .win _ _ _ _ => true) && entsOk h rest
def freshOk (h : Heap) (base : Nat) : Nat → Bool
  | 0 => true
  | n + 1 => (h (base + n)).isNone && freshOk h base n
def hpCtr (w : Bool) (spec : List SV → List Blk → Option Eff) : Ctr :=
  { writes := w, run := fun args h base => match canL 400 h false args ⟨[], [], !w⟩ with
      | some (l, c) => bif entsOk h c.es && freshOk h base 8 && Nat.ble c.es.length 1000 then match spec l c.bs with
        | some e => some (decE c.es base e)
        | none => none
        else none
      | none => none }
def heapOf (bs : List Blk) : Heap := fun k => bs[k]?
def namesFin (bs : List Blk) : List (Nat × Blk) → Bool
  | [] => true
  | (k, p) :: rest => (match bs[k]? with | some b => b.rw && !b.dead | none => Nat.ble 1000 k && Nat.blt k 1008 && p.rw && !p.dead) && namesFin bs rest
def allFin (u : List (Nat × Blk)) : List Blk → Nat → Bool
  | [], _ => true
  | b :: rest, j => (!b.rw || b.dead || inNames j u) && allFin u rest (j + 1)
def finOk (bs : List Blk) (u : List (Nat × Blk)) : Bool := namesFin bs u && allFin u bs 0
def HpSpec (P : Program) (f : FuncId) (spec : List SV → List Blk → Option Eff) : Prop :=
  ∀ args bs e, spec args bs = some e → e.asks → ∀ δ w vals, absL δ args vals → HRep δ (heapOf bs) w → (∀ k, heapOf bs k = none → δ k = none) → bs.length ≤ 1000 →
    Calls P f vals.toArray w fun ed w' => ∃ r x u δ', ed = .returned r ∧ EffOut e x u ∧ finOk bs u = true ∧ absV δ' x r ∧ Upd δ (heapOf bs) w δ' u w'
def addCur (j s : Nat) (y : SV) (m : List (Nat × Cur)) : List (Nat × Cur) :=
  match curOf m j with
  | some _ => m
  | none => match nameOf y with
    | some k => m ++ [(j, .at k)]
    | none => m ++ [(j, .nil s)]
mutual
def uniS : SV → SV → List (Nat × Cur) → List (Nat × Cur)
  | .sl j s _ _ _, y, m => bif Nat.ble 1000 j then addCur j s y m else m
  | .vp j _, y, m => bif Nat.ble 1000 j then addCur j 0 y m else m
  | .ptr j _ _, y, m => bif Nat.ble 1000 j then addCur j 0 y m else m
  | .ap j s _, y, m => bif Nat.ble 1000 j then addCur j s y m else m
  | .agg xs, .agg ys, m => uniL xs ys m
  | .tup xs, .tup ys, m => uniL xs ys m
  | .fn _ xs, .fn _ ys, m => uniL xs ys m
  | .ifc _ x, .ifc _ y, m => uniS x y m
  | _, _, m => m
def uniL : List SV → List SV → List (Nat × Cur) → List (Nat × Cur)
  | x :: xs, y :: ys, m => uniL xs ys (uniS x y m)
  | _, _, m => m
end
def uniU (h' : Heap) : List (Nat × Blk) → List (Nat × Cur) → List (Nat × Cur)
  | [], m => m
  | (k, p) :: rest, m => match p.dead, p.flat with
    | false, false => match (match Nat.ble 1000 k with
        | false => some k
        | true => match curOf m k with
          | some (.at k') => some k'
          | _ => none) with
      | some j => match h' j with
        | some b => uniU h' rest (uniL (p.row 0) (b.row 0) m)
        | none => uniU h' rest m
      | none => uniU h' rest m
    | _, _ => uniU h' rest m
def finBlks (m : List (Nat × Cur)) (h h' : Heap) : List (Nat × Blk) → Prop
  | [] => True
  | (k, p) :: rest => match p.dead with
    | true => finBlks m h h' rest
    | false => match curOf m k with
      | some (.at k') => match h' k' with
        | some b => match rest with
          | [] => blkEq m h b p
          | _ => blkEq m h b p ∧ finBlks m h h' rest
        | none => False
      | some (.nil sz) => (p.n = 0 ∧ p.ext = 0 ∧ reqP (Nat.beq sz p.size) True) ∧ finBlks m h h' rest
      | none => reqP (Nat.blt k 1000) (match h' k with
        | some b => match rest with
          | [] => blkEq m h b p
          | _ => blkEq m h b p ∧ finBlks m h h' rest
        | none => False)
def curNames (u : List (Nat × Blk)) : List (Nat × Cur) → Bool
  | [] => true
  | (j, _) :: rest => inNames j u && Nat.ble 1000 j && curNames u rest
def fin (bs : List Blk) (x : SV) (u : List (Nat × Blk)) (y : SV) (h' : Heap) : Prop :=
  let m := uniU h' u (uniS x y [])
  reqP (finOk bs u && cursOk (heapOf bs) [] m && curNames u m) (mtS m (heapOf bs) x y ∧ finBlks m (heapOf bs) h' u)
def FinE (bs : List Blk) (e : Eff) (y : SV) (h' : Heap) : Prop :=
  match e with
  | .det _ x u => fin bs x u y h'
  | .nd _ C _ x u => ∃ c : C, fin bs (x c) (u c) y h'
  | .alt b e1 e2 => sel b (FinE bs e1 y h') (FinE bs e2 y h')
theorem FinE_out {bs : List Blk} {y : SV} {h' : Heap} : ∀ {e : Eff}, FinE bs e y h' → ∃ x u, EffOut e x u ∧ fin bs x u y h'
  | .det p x u, h => ⟨x, u, ⟨rfl, rfl⟩, h⟩
  | .nd p C c0 x u, h => by obtain ⟨c, hc⟩ := h; exact ⟨x c, u c, ⟨c, rfl, rfl⟩, hc⟩
  | .alt true e1 e2, h => FinE_out (e := e1) h
  | .alt false e1 e2, h => FinE_out (e := e2) h
structure BlkSame (a b : Blk) : Prop where
  size : a.size = b.size
  rw : a.rw = b.rw
  flat : a.flat = b.flat
  n : a.n = b.n
  ext : a.ext = b.ext
  dead : a.dead = b.dead
  elem : a.elem = b.elem
  whole : a.whole = b.whole
  row : ∀ i, i < a.n → a.row i = b.row i
def blksSame : List Blk → List Blk → Prop
  | [], [] => True
  | a :: as, b :: bs => BlkSame a b ∧ blksSame as bs
  | _, _ => False
theorem BlkSame.refl (b : Blk) : BlkSame b b := ⟨rfl, rfl, rfl, rfl, rfl, rfl, rfl, rfl, fun _ _ => rfl⟩
theorem BlkSame.symm {a b : Blk} (h : BlkSame a b) : BlkSame b a := ⟨h.size.symm, h.rw.symm, h.flat.symm, h.n.symm, h.ext.symm, h.dead.symm, h.elem.symm, h.whole.symm, fun i hi => (h.row i (by rw [h.n]; exact hi)).symm⟩
theorem blksSame_symm : ∀ {as bs : List Blk}, blksSame as bs → blksSame bs as
  | [], [], _ => trivial
  | _ :: _, _ :: _, h => ⟨h.1.symm, blksSame_symm h.2⟩
  | [], _ :: _, h => h.elim
  | _ :: _, [], h => h.elim
theorem blksSame_len : ∀ {as bs : List Blk}, blksSame as bs → as.length = bs.length
  | [], [], _ => rfl
  | _ :: _, _ :: _, h => by simp [blksSame_len h.2]
  | [], _ :: _, h => h.elim
  | _ :: _, [], h => h.elim
theorem blksSame_get : ∀ {as bs : List Blk}, blksSame as bs → ∀ (k : Nat), (as[k]? = none ∧ bs[k]? = none) ∨ ∃ a b, as[k]? = some a ∧ bs[k]? = some b ∧ BlkSame a b
  | [], [], _, k => .inl ⟨by simp, by simp⟩
  | a :: as, b :: bs, h, 0 => .inr ⟨a, b, by simp, by simp, h.1⟩
  | a :: as, b :: bs, h, k + 1 => by simpa using blksSame_get h.2 k
  | [], _ :: _, h, _ => h.elim
  | _ :: _, [], h, _ => h.elim
theorem Live.same {δ : Dict} {a b : Blk} {w : World} {p : Loc} (h : BlkSame a b) (hl : Live δ a w p) : Live δ b w p := by
  refine ⟨hl.s.trans h.size, hl.n.trans h.n, fun hno => by rw [← h.n, ← h.ext]; exact hl.no hno, fun hno => ?_⟩
  obtain ⟨c, e, fz, c1, c2, c3, c4, c5, c6, c7⟩ := hl.rep hno
  refine ⟨c, e, fz, c1, fun hh => c2 (h.rw.trans hh), fun hh i hi => ?_, fun hh => ?_, ?_, fun hh => ?_, fun i hi => ?_⟩
  · rw [← h.row i (by rw [h.n]; exact hi)]; exact c3 (h.flat.trans hh) i (by rw [h.n]; exact hi)
  · rw [← h.elem]; exact c4 (by rw [h.elem]; exact hh)
  · rw [← h.ext, ← h.size]; exact c5
  · rw [← h.size, ← h.rw]; exact c6 (h.whole.trans hh)
  · rw [← h.row i (by rw [h.n]; exact hi), ← h.size]; exact c7 i (by rw [h.n]; exact hi)
theorem heapOf_same {as bs : List Blk} {δ : Dict} {w : World} (h : blksSame as bs) (hr : HRep δ (heapOf as) w) : HRep δ (heapOf bs) w := by
  have hl : ∀ k r, lies δ (heapOf bs) k r → lies δ (heapOf as) k r := fun k r ⟨b, p, h1, h2, h3⟩ => by
    rcases blksSame_get h k with ⟨_, g⟩ | ⟨a, b', g1, g2, g3⟩
    · unfold heapOf at h1; rw [g] at h1; cases h1
    · unfold heapOf at h1; rw [g2] at h1; cases h1
      exact ⟨a, p, g1, g3.dead.trans h2, h3⟩
  refine ⟨fun k b hk => ?_, fun k k' r b h1 h2 hk hb => ?_⟩
  · rcases blksSame_get h k with ⟨_, g⟩ | ⟨a, b', g1, g2, g3⟩
    · unfold heapOf at hk; rw [g] at hk; cases hk
    · unfold heapOf at hk; rw [g2] at hk; cases hk
      obtain ⟨p, d1, d2⟩ := hr.blk k a g1
      exact ⟨p, d1, fun hd => (d2 (g3.dead.trans hd)).same g3⟩
  · rcases blksSame_get h k with ⟨_, g⟩ | ⟨a, b', g1, g2, g3⟩
    · unfold heapOf at hk; rw [g] at hk; cases hk
    · unfold heapOf at hk; rw [g2] at hk; cases hk
      exact hr.inj k k' r a (hl _ _ h1) (hl _ _ h2) g1 (g3.rw.trans hb)
theorem heapOf_none {as bs : List Blk} (h : blksSame as bs) (k : Nat) (hk : heapOf bs k = none) : heapOf as k = none := by
  rcases blksSame_get h k with ⟨g, _⟩ | ⟨a, b', g1, g2, _⟩
  · exact g
  · unfold heapOf at hk; rw [g2] at hk; cases hk
theorem namesFin_spec {bs : List Blk} : ∀ {u : List (Nat × Blk)}, namesFin bs u = true → ∀ (k : Nat) (p : Blk), (k, p) ∈ u → (∃ b, bs[k]? = some b ∧ b.rw = true ∧ b.dead = false) ∨ (bs[k]? = none ∧ 1000 ≤ k ∧ k < 1008 ∧ p.rw = true ∧ p.dead = false)
  | [], _, k, p, h => by cases h
  | (k', p') :: u, ho, k, p, h => by
    simp only [namesFin, Bool.and_eq_true] at ho
    rcases List.mem_cons.1 h with e | h
    · have e1 : k = k' := congrArg Prod.fst e
      have e2 : p = p' := congrArg Prod.snd e
      subst e1
      subst e2
      have h1 := ho.1
      cases hb : bs[k]? with
      | some b =>
        rw [hb] at h1
        simp only [Bool.and_eq_true, Bool.not_eq_true'] at h1
        exact .inl ⟨b, rfl, h1.1, h1.2⟩
      | none =>
        rw [hb] at h1
        simp only [Bool.and_eq_true, Bool.not_eq_true'] at h1
        exact .inr ⟨rfl, Nat.le_of_ble_eq_true h1.1.1.1, Nat.le_of_ble_eq_true h1.1.1.2, h1.1.2, h1.2⟩
    · exact namesFin_spec ho.2 k p h
theorem allFin_spec {u : List (Nat × Blk)} : ∀ {bs : List Blk} {j : Nat}, allFin u bs j = true → ∀ (k : Nat) (b : Blk), bs[k]? = some b → b.rw = true → b.dead = false → inNames (j + k) u = true
  | [], _, _, k, b, h, _, _ => by simp at h
  | b' :: bs, j, ho, 0, b, h, h1, h2 => by
    simp at h
    subst h
    simp only [allFin, Bool.and_eq_true, Bool.or_eq_true, Bool.not_eq_true'] at ho
    rcases ho.1 with (g | g) | g
    · rw [h1] at g; cases g
    · rw [h2] at g; cases g
    · exact g
  | b' :: bs, j, ho, k + 1, b, h, h1, h2 => by
    simp at h
    simp only [allFin, Bool.and_eq_true] at ho
    have := allFin_spec ho.2 k b h h1 h2
    rw [show j + (k + 1) = j + 1 + k by omega]
    exact this
theorem finBlks_spec {m : List (Nat × Cur)} {h h' : Heap} : ∀ {u : List (Nat × Blk)}, finBlks m h h' u → ∀ k p, (k, p) ∈ u → p.dead = false →
    (∃ k' b, curOf m k = some (.at k') ∧ h' k' = some b ∧ BlkFits m h b p) ∨ (∃ sz, curOf m k = some (.nil sz) ∧ p.n = 0 ∧ p.ext = 0 ∧ sz = p.size) ∨ (∃ b, curOf m k = none ∧ k < 1000 ∧ h' k = some b ∧ BlkFits m h b p)
  | [], _, k, p, hm, _ => by cases hm
  | (k', p') :: rest, he, k, p, hm, hd => by
    simp only [finBlks] at he
    cases hpd : p'.dead with
    | true =>
      rw [hpd] at he
      rcases List.mem_cons.1 hm with e | hm
      · cases e; rw [hd] at hpd; cases hpd
      · exact finBlks_spec he k p hm hd
    | false =>
      rw [hpd] at he
      simp only at he
      have both : ((∃ k'' b, curOf m k' = some (.at k'') ∧ h' k'' = some b ∧ BlkFits m h b p') ∨ (∃ sz, curOf m k' = some (.nil sz) ∧ p'.n = 0 ∧ p'.ext = 0 ∧ sz = p'.size) ∨ (∃ b, curOf m k' = none ∧ k' < 1000 ∧ h' k' = some b ∧ BlkFits m h b p')) ∧ finBlks m h h' rest := by
        cases hc : curOf m k' with
        | none =>
          rw [hc] at he
          simp only [reqP_iff] at he
          obtain ⟨hlt, he⟩ := he
          have hlt : k' < 1000 := Nat.le_of_ble_eq_true hlt
          cases hs : h' k' with
          | none => rw [hs] at he; exact he.elim
          | some b =>
            rw [hs] at he
            cases rest with
            | nil => exact ⟨.inr (.inr ⟨b, rfl, hlt, rfl, blkEq_spec he⟩), trivial⟩
            | cons q rest => exact ⟨.inr (.inr ⟨b, rfl, hlt, rfl, blkEq_spec he.1⟩), he.2⟩
        | some cu =>
          rw [hc] at he
          cases cu with
          | «at» k'' =>
            simp only at he
            cases hs : h' k'' with
            | none => rw [hs] at he; exact he.elim
            | some b =>
              rw [hs] at he
              cases rest with
              | nil => exact ⟨.inl ⟨k'', b, rfl, hs, blkEq_spec he⟩, trivial⟩
              | cons q rest => exact ⟨.inl ⟨k'', b, rfl, hs, blkEq_spec he.1⟩, he.2⟩
          | nil sz =>
            simp only [reqP_iff] at he
            exact ⟨.inr (.inl ⟨sz, rfl, he.1.1, he.1.2.1, Nat.eq_of_beq_eq_true he.1.2.2.1⟩), he.2⟩
      rcases List.mem_cons.1 hm with e | hm
      · cases e; exact both.1
      · exact finBlks_spec both.2 k p hm hd
theorem curNames_spec {u : List (Nat × Blk)} : ∀ {m : List (Nat × Cur)}, curNames u m = true → ∀ k, curOf m k ≠ none → inNames k u = true ∧ 1000 ≤ k
  | [], _, k, h => absurd rfl h
  | (j, c) :: m, ho, k, h => by
    simp only [curNames, Bool.and_eq_true] at ho
    simp only [curOf] at h
    cases hb : Nat.beq k j with
    | true =>
      rw [Nat.eq_of_beq_eq_true hb]
      exact ⟨ho.1.1, Nat.le_of_ble_eq_true ho.1.2⟩
    | false => rw [hb, cond_false] at h; exact curNames_spec ho.2 k h
theorem fits_live {m : List (Nat × Cur)} {h : Heap} {δ' δ'' : Dict} (hat : ∀ N k, curOf m N = some (.at k) → ∀ p, δ' k = some p → δ'' N = some p) (hnil : ∀ N sz, curOf m N = some (.nil sz) → δ'' N = some ⟨0, sz, 0, 0, true⟩)
    (hold : ∀ k, curOf m k = none → (h k).isSome = true → ∀ p, δ' k = some p → δ'' k = some p) {b p : Blk} {q : Loc} {w' : World} (hf : BlkFits m h b p) (hl : Live δ' b w' q) : Live δ'' p w' q := by
  refine ⟨hl.s.trans hf.size, hl.n.trans hf.n, fun hno => ?_, fun hno => ?_⟩
  · have := hl.no hno
    have h1 := hf.n
    have h2 := hf.ext
    omega
  · obtain ⟨c, e, fz, c1, c2, c3, c4, c5, c6, c7⟩ := hl.rep hno
    have hrows : ∀ i, i < p.n → ∀ (rs : List Value), absL δ' (b.row i) rs → absL δ'' (p.row i) rs := fun i hi rs hrs => by
      rcases hf.row i hi with ⟨g1, g2⟩ | ⟨_, g1⟩
      · rw [← g2]
        exact absL_nameless _ _ (c3 (hf.flat g1) i (by rw [hf.n]; exact hi)) hrs
      · exact mtL_abs hat hnil hold _ _ _ g1 hrs
    refine ⟨c, e, fz, c1, fun h => c2 (hf.rw.trans h), fun h i hi => ?_, fun h => ?_, ?_, fun h => ?_, fun i hi => ?_⟩
    · rcases hf.row i hi with ⟨g1, g2⟩ | ⟨g1, _⟩
      · rw [← g2]; exact c3 (hf.flat h) i (by rw [hf.n]; exact hi)
      · rw [h] at g1; cases g1
    · rw [← hf.elem h]; exact c4 (by rw [hf.elem h]; exact h)
    · rw [← hf.size]
      have := Nat.mul_le_mul_right b.size hf.ext
      omega
    · rw [← hf.size]; exact (c6 (hf.whole h)).imp id fun ⟨a, b⟩ => ⟨a, fun hr => b (hf.rw.trans hr)⟩
    · obtain ⟨d1, d2⟩ := c7 i (by rw [hf.n]; exact hi)
      obtain ⟨xs, e1, e2⟩ := exists_list (δ := δ') (c := c) (b.row i) (q.o + i * b.size) (fun j y hy => d2 j y hy)
      have e3 := hrows i hi xs e1
      have hlen' := absL_length e1
      have hlen'' := absL_length e3
      rw [hf.size] at d1 e2
      refine ⟨by omega, fun j y hy => ?_⟩
      obtain ⟨r, f1, f2⟩ := absL_get e3 hy
      exact ⟨r, e2 j r f1, f2⟩
section
variable {P : Program} {Γ : Ctrs}
theorem fin_upd {bs : List Blk} {δ δ' : Dict} {h' : Heap} {w w' : World} {x y : SV} {u : List (Nat × Blk)} {r : Value} (hr : HRep δ (heapOf bs) w) (ht : ∀ k, heapOf bs k = none → δ k = none) (hlen : bs.length ≤ 1000) (hf : fin bs x u y h') (hy : absV δ' y r) (hr' : HRep δ' h' w') (hle : δ.le δ')
    (hw : WRel (rwOf δ (heapOf bs)) w w') (hmine : ∀ q, rwOf δ' h' q → w.heap.size ≤ q ∨ rwOf δ (heapOf bs) q) : finOk bs u = true ∧ ∃ δ'', absV δ'' x r ∧ Upd δ (heapOf bs) w δ'' u w' := by
  unfold fin at hf
  simp only [reqP_iff, Bool.and_eq_true] at hf
  obtain ⟨⟨⟨hfo, hco⟩, hcn⟩, hmx, hfb⟩ := hf
  generalize uniU h' u (uniS x y []) = m at hco hcn hmx hfb
  refine ⟨hfo, ?_⟩
  unfold finOk at hfo
  rw [Bool.and_eq_true] at hfo
  obtain ⟨hco1, hco2⟩ := cursOk_spec hco
  have hnew : ∀ k, curOf m k ≠ none → heapOf bs k = none ∧ inNames k u = true := fun k hk => by
    obtain ⟨h1, h2⟩ := curNames_spec hcn k hk
    refine ⟨?_, h1⟩
    unfold heapOf
    rw [List.getElem?_eq_none]
    omega
  have hold0 : ∀ k, heapOf bs k ≠ none → curOf m k = none := fun k hk => by
    cases hc : curOf m k with
    | none => rfl
    | some c => exact absurd (hnew k (by rw [hc]; simp)).1 hk
  let δ'' : Dict := fun k => match curOf m k with
    | some (.at k') => δ' k'
    | some (.nil sz) => some ⟨0, sz, 0, 0, true⟩
    | none => δ k
  have dat : ∀ N k, curOf m N = some (.at k) → δ'' N = δ' k := fun N k h => by simp only [δ'', h]
  have dnil : ∀ N sz, curOf m N = some (.nil sz) → δ'' N = some ⟨0, sz, 0, 0, true⟩ := fun N sz h => by simp only [δ'', h]
  have dold : ∀ k, curOf m k = none → δ'' k = δ k := fun k h => by simp only [δ'', h]
  have hdom : ∀ k, heapOf bs k ≠ none → ∃ p, δ k = some p := fun k hk => by
    cases hh : heapOf bs k with
    | none => exact absurd hh hk
    | some b => obtain ⟨p, h1, _⟩ := hr.blk k b hh; exact ⟨p, h1⟩
  have dsame : ∀ k, heapOf bs k ≠ none → ∀ p, δ' k = some p → δ k = some p := fun k hk p hp => by
    obtain ⟨q, h0⟩ := hdom k hk
    have := hle _ _ h0; rw [hp] at this; cases this; exact h0
  have hle'' : δ.le δ'' := fun k p hp => by
    have : heapOf bs k ≠ none := fun e => by rw [ht k e] at hp; cases hp
    rw [dold k (hold0 k this)]; exact hp
  have hat : ∀ N k, curOf m N = some (.at k) → ∀ p, δ' k = some p → δ'' N = some p := fun N k h p hp => by rw [dat N k h, hp]
  have hold : ∀ k, curOf m k = none → (heapOf bs k).isSome = true → ∀ p, δ' k = some p → δ'' k = some p := fun k h hh p hp => by
    rw [dold k h]
    exact dsame k (by intro e; rw [e] at hh; cases hh) p hp
  -- a block that is written
  have orig : ∀ k p, (k, p) ∈ u → ∃ q, δ'' k = some q ∧ (p.dead = false → Live δ'' p w' q ∧ (q.no = false → ∃ k' b, h' k' = some b ∧ b.dead = false ∧ b.rw = p.rw ∧ δ' k' = some q ∧ (curOf m k = some (.at k') ∨ (curOf m k = none ∧ k' = k ∧ heapOf bs k ≠ none)))) := fun k p hp => by
    have holdOr := namesFin_spec hfo.1 k p hp
    cases hd : p.dead with
    | true =>
      rcases holdOr with ⟨b, h1, _⟩ | ⟨_, _, _, _, h2⟩
      · obtain ⟨q, hq⟩ := hdom k (by unfold heapOf; rw [h1]; simp)
        exact ⟨q, hle'' _ _ hq, fun hh => (by cases hh)⟩
      · rw [hd] at h2; cases h2
    | false =>
      rcases finBlks_spec hfb k p hp hd with ⟨k', b, g1, g2, g3⟩ | ⟨sz, g1, g2, g3, g4⟩ | ⟨b, g1, g0, g2, g3⟩
      · obtain ⟨q, d1, d2⟩ := hr'.blk k' b g2
        exact ⟨q, (dat k k' g1).trans d1, fun _ => ⟨fits_live hat dnil hold g3 (d2 g3.dead), fun _ => ⟨k', b, g2, g3.dead, g3.rw, d1, .inl g1⟩⟩⟩
      · subst g4
        exact ⟨_, dnil k _ g1, fun _ => ⟨⟨rfl, g2.symm, fun _ => ⟨g2, g3⟩, fun hh => (by cases hh)⟩, fun hh => (by cases hh)⟩⟩
      · have hk : heapOf bs k ≠ none := by
          rcases holdOr with ⟨b, h1, _⟩ | ⟨_, h1, _⟩
          · unfold heapOf; rw [h1]; simp
          · omega
        obtain ⟨q, d1, d2⟩ := hr'.blk k b g2
        exact ⟨q, (dold k g1).trans (dsame k hk q d1), fun _ => ⟨fits_live hat dnil hold g3 (d2 g3.dead), fun _ => ⟨k, b, g2, g3.dead, g3.rw, d1, .inr ⟨g1, rfl, hk⟩⟩⟩⟩
  -- what is not written may not be
  have ro : ∀ k b, inNames k u = false → heapOf bs k = some b → b.dead = false → b.rw = false := fun k b hi hk hd => by
    cases hb : b.rw with
    | false => rfl
    | true =>
      have := allFin_spec hfo.2 k b hk hb hd
      rw [Nat.zero_add, hi] at this; cases this
  -- a name behind
  have cls : ∀ k r, lies δ'' (happ (heapOf bs) u) k r → (∃ k' b p, (k, p) ∈ u ∧ happ (heapOf bs) u k = some p ∧ h' k' = some b ∧ b.rw = p.rw ∧ lies δ' h' k' r ∧ (curOf m k = some (.at k') ∨ (curOf m k = none ∧ k' = k ∧ heapOf bs k ≠ none))) ∨ (inNames k u = false ∧ lies δ (heapOf bs) k r) := fun k r ⟨p, q, h1, h2, h3, h4, h5⟩ => by
    cases hi : inNames k u with
    | true =>
      obtain ⟨p', g1, g2⟩ := happ_mem u (heapOf bs) hi
      rw [h1] at g2; cases g2
      obtain ⟨q', d1, d2⟩ := orig k p g1
      rw [h3] at d1; cases d1
      obtain ⟨k', b, e1, e2, e3, e4, e5⟩ := (d2 h2).2 h4
      exact .inl ⟨k', b, p, g1, h1, e1, e3, ⟨b, q, e1, e2, e4, h4, h5⟩, e5⟩
    | false =>
      rw [happ_other u _ hi] at h1
      have hk : heapOf bs k ≠ none := by rw [h1]; simp
      rw [dold k (hold0 k hk)] at h3
      exact .inr ⟨rfl, p, q, h1, h2, h3, h4, h5⟩
  refine ⟨δ'', mtS_abs hat dnil hold x y r hmx hy, hle'', ⟨fun k p hp => ?_, fun k1 k2 r p hl1 hl2 hp hrw => ?_⟩, fun k h0 h1 => ?_, fun k q h0 h1 hno => ?_, hw⟩
  · cases hi : inNames k u with
    | true =>
      obtain ⟨p', g1, g2⟩ := happ_mem u (heapOf bs) hi
      rw [hp] at g2; cases g2
      obtain ⟨q, d1, d2⟩ := orig k p g1
      exact ⟨q, d1, fun hd => (d2 hd).1⟩
    | false =>
      rw [happ_other u _ hi] at hp
      obtain ⟨q, d1, d2⟩ := hr.blk k p hp
      refine ⟨q, hle'' _ _ d1, fun hd => (d2 hd).mono hle'' fun hno => hw.block q.r (blkRep_lt ((d2 hd).rep hno)) ?_⟩
      rintro ⟨k0, b0, e1, e2, e3⟩
      have := hr.inj k0 k q.r b0 e3 ⟨p, q, hp, hd, d1, hno, rfl⟩ e1 e2
      subst this
      rw [hp] at e1; cases e1
      rw [ro k0 p hi hp hd] at e2; cases e2
  · rcases cls k1 r hl1 with ⟨k1', b1, p1, e1, e2, e3, e4, e5, e6⟩ | ⟨e1, e2⟩
    · have : p1 = p := by
        have h : some p1 = some p := e2.symm.trans hp
        cases h; rfl
      subst this
      rcases cls k2 r hl2 with ⟨k2', b2, p2, f1, f2, f3, f4, f5, f6⟩ | ⟨f1, f2⟩
      · have := hr'.inj k1' k2' r b1 e5 f5 e3 (e4.trans hrw)
        subst this
        rcases e6 with e6 | ⟨e6, rfl, e7⟩ <;> rcases f6 with f6 | ⟨f6, rfl, f7⟩
        · exact hco2 k1 k2 _ e6 f6
        · rcases hco1 k1 _ e6 with g | g
          · exact absurd g f7
          · cases g
        · rcases hco1 k2 _ f6 with g | g
          · exact absurd g e7
          · cases g
        · rfl
      · -- one that is written against one that is only read
        exfalso
        rcases hmine r ⟨k1', b1, e3, e4.trans hrw, e5⟩ with g | ⟨k0, b0, g1, g2, g3⟩
        · have := lies_lt hr f2; omega
        · have := hr.inj k0 k2 r b0 g3 f2 g1 g2
          subst this
          obtain ⟨b2, q2, h1, h2, _⟩ := f2
          rw [h1] at g1; cases g1
          rw [ro k0 _ f1 h1 h2] at g2; cases g2
    · exfalso
      rw [happ_other u _ e1] at hp
      obtain ⟨b2, q2, h1, h2, _⟩ := e2
      rw [hp] at h1; cases h1
      rw [ro k1 _ e1 hp h2] at hrw; cases hrw
  · cases hi : inNames k u with
    | true => rfl
    | false =>
      exfalso
      have hc : curOf m k = none := by
        cases hc : curOf m k with
        | none => rfl
        | some c => rw [(hnew k (by rw [hc]; simp)).2] at hi; cases hi
      rw [dold k hc] at h1
      exact h1 h0
  · have hc : curOf m k ≠ none := fun hc => by rw [dold k hc, h0] at h1; cases h1
    obtain ⟨_, hi⟩ := hnew k hc
    obtain ⟨p, g1, _⟩ := happ_mem u (heapOf bs) hi
    have hp : p.rw = true ∧ p.dead = false := by
      rcases namesFin_spec hfo.1 k p g1 with ⟨b, e1, _⟩ | ⟨_, _, _, e1, e2⟩
      · have : heapOf bs k = some b := e1
        rw [(hnew k hc).1] at this; cases this
      · exact ⟨e1, e2⟩
    obtain ⟨q', d1, d2⟩ := orig k p g1
    rw [h1] at d1; cases d1
    obtain ⟨k', b, e1, e2, e3, e4, _⟩ := (d2 hp.2).2 hno
    exact hmine q.r ⟨k', b, e1, e3.trans hp.1, b, q, e1, e2, e4, hno, rfl⟩
theorem hp_spec (hm : P.follows .mixedOrders = true) (hΓ : ∀ f g, Γ f = some g → g.ok P f) {f : FuncId} {fn : Func} (hf : P.funcs[f]? = some fn) {spec : List SV → List Blk → Option Eff} {Λ : List SV → List Blk → Nat → Option LoopSpec}
    (h : ∀ args bs e, spec args bs = some e → e.asks → ∃ bs', blksSame bs bs' ∧ vcFn P Γ (Λ args bs) fn args (heapOf bs') 64 (fun y h' => FinE bs' e y h')) : HpSpec P f spec := fun args bs e hs hp δ w vals ha hr ht hlen => by
  obtain ⟨bs', hsm, hvc⟩ := h args bs e hs hp
  have hr1 := heapOf_same hsm hr
  have ht1 : ∀ k, heapOf bs' k = none → δ k = none := fun k hk => ht k (heapOf_none hsm k hk)
  refine (fn_calls hm hΓ hf ha hr1 ht1 hvc).mono fun ed w' ⟨r, y, δ', h', h1, h2, h3, h4, h5, h6, h7⟩ => ?_
  obtain ⟨x, u, hout, hfin⟩ := FinE_out h2
  obtain ⟨g1, δ'', g2, g3⟩ := fin_upd hr1 ht1 (by rw [← blksSame_len hsm]; exact hlen) hfin h3 h4 h5 h6 h7
  refine ⟨r, x, u, δ'', h1, hout, ?_, g2, ?_⟩
  · -- the same names
    unfold finOk at g1 ⊢
    rw [Bool.and_eq_true] at g1 ⊢
    constructor
    · have : ∀ u : List (Nat × Blk), namesFin bs' u = namesFin bs u := by
        intro u
        induction u with
        | nil => rfl
        | cons q u ih =>
          obtain ⟨k, p⟩ := q
          simp only [namesFin, ih]
          rcases blksSame_get hsm k with ⟨e1, e2⟩ | ⟨a, b, e1, e2, e3⟩
          · rw [e1, e2]
          · rw [e1, e2]; simp only [e3.rw, e3.dead]
      rw [← this]; exact g1.1
    · have : ∀ (as bs : List Blk) j, blksSame as bs → allFin u as j = allFin u bs j := by
        intro as
        induction as with
        | nil => intro bs j h; cases bs with | nil => rfl | cons _ _ => exact h.elim
        | cons a as ih =>
          intro bs j h
          cases bs with
          | nil => exact h.elim
          | cons b bs => simp only [allFin, h.1.rw, h.1.dead, ih bs (j + 1) h.2]
      rw [this bs bs' 0 hsm]; exact g1.2
  · -- the same effect
    have hrwOf : ∀ r, rwOf δ (heapOf bs') r → rwOf δ (heapOf bs) r := fun r ⟨k, b, e1, e2, b', p, e3, e4, e5⟩ => by
      rcases blksSame_get hsm k with ⟨_, g⟩ | ⟨a, b0, f1, f2, f3⟩
      · unfold heapOf at e1; rw [g] at e1; cases e1
      · unfold heapOf at e1 e3; rw [f2] at e1 e3; cases e1; cases e3
        exact ⟨k, a, f1, f3.rw.trans e2, a, p, f1, f3.dead.trans e4, e5⟩
    have hget : ∀ k, (happ (heapOf bs) u k = none ∧ happ (heapOf bs') u k = none) ∨ ∃ a b, happ (heapOf bs) u k = some a ∧ happ (heapOf bs') u k = some b ∧ BlkSame b a := fun k => by
      cases hi : inNames k u with
      | true =>
        rw [happ_same u (heapOf bs) (heapOf bs') hi]
        cases hh : happ (heapOf bs') u k with
        | none => exact .inl ⟨rfl, rfl⟩
        | some b => exact .inr ⟨b, b, rfl, rfl, BlkSame.refl b⟩
      | false =>
        rw [happ_other u _ hi, happ_other u _ hi]
        rcases blksSame_get hsm k with ⟨e1, e2⟩ | ⟨a, b, e1, e2, e3⟩
        · exact .inl ⟨e1, e2⟩
        · exact .inr ⟨a, b, e1, e2, e3.symm⟩
    have hlies : ∀ k r, lies δ'' (happ (heapOf bs) u) k r → lies δ'' (happ (heapOf bs') u) k r := fun k r ⟨b, p, e1, e2, e3⟩ => by
      rcases hget k with ⟨g, _⟩ | ⟨a, b', f1, f2, f3⟩
      · rw [g] at e1; cases e1
      · rw [f1] at e1; cases e1
        exact ⟨b', p, f2, f3.dead.trans e2, e3⟩
    refine ⟨g3.le, ⟨fun k b hk => ?_, fun k k' r b l1 l2 hk hb => ?_⟩, g3.fresh, fun k p e1 e2 e3 => (g3.place k p e1 e2 e3).imp id (hrwOf _), g3.wrel.mono fun r _ => hrwOf r⟩
    · rcases hget k with ⟨g, _⟩ | ⟨a, b', f1, f2, f3⟩
      · rw [g] at hk; cases hk
      · rw [f1] at hk; cases hk
        obtain ⟨p, d1, d2⟩ := g3.rep.blk k b' f2
        exact ⟨p, d1, fun hd => (d2 (f3.dead.trans hd)).same f3⟩
    · rcases hget k with ⟨g, _⟩ | ⟨a, b', f1, f2, f3⟩
      · rw [g] at hk; cases hk
      · rw [f1] at hk; cases hk
        exact g3.rep.inj k k' r b' (hlies _ _ l1) (hlies _ _ l2) f2 (f3.rw.trans hb)
end
end Go.SE
end
section
namespace Go.SE
open Go.RowKit
def dicOf (δ : Dict) (es : List Ent) : Dict := fun j => match es[j]? with
  | some (.win k s i n) => match δ k with
    | some p => some ⟨p.r, s, p.o + i * s, n, p.no⟩
    | none => none
  | some (.whole k) => δ k
  | none => none
theorem dicOf_push (δ : Dict) (es t : List Ent) : Dict.le (dicOf δ es) (dicOf δ (es ++ t)) := fun j p h => by
  unfold dicOf at *
  cases hj : es[j]? with
  | none => rw [hj] at h; cases h
  | some e =>
    have hlt := (List.getElem?_eq_some_iff.1 hj).1
    rw [List.getElem?_append_left hlt, hj]
    rw [hj] at h
    exact h
def EntOk (h : Heap) (δ D : Dict) (b : Blk) : Ent → Prop
  | .win k s i n => ∃ b0 p, h k = some b0 ∧ b0.dead = false ∧ b0.flat = true ∧ b0.size = s ∧ δ k = some p ∧ i + n ≤ p.n ∧ b = winBlk b0 s i n
  | .whole k => ∃ b0, h k = some b0 ∧ b0.dead = false ∧ b0.rw = true ∧ b.size = b0.size ∧ b.rw = b0.rw ∧ b.flat = b0.flat ∧ b.n = b0.n ∧ b.ext = b0.ext ∧ b.dead = b0.dead ∧ b.elem = b0.elem ∧ b.whole = b0.whole ∧
      ((b0.flat = true ∧ b.row = b0.row) ∨ (b0.n = 1 ∧ (∀ rs, absL δ (b0.row 0) rs → absL D (b.row 0) rs) ∧ (b0.flat = true → namelessL (b.row 0) = true)))
theorem EntOk.mono {h : Heap} {δ D D' : Dict} {b : Blk} (hle : D.le D') : ∀ {e : Ent}, EntOk h δ D b e → EntOk h δ D' b e
  | .win _ _ _ _, ho => ho
  | .whole _, ⟨b0, h1, h2, h3, h4, h5, h6, h7, h8, h9, h10, h11, h12⟩ => ⟨b0, h1, h2, h3, h4, h5, h6, h7, h8, h9, h10, h11, h12.imp id fun ⟨a, c, d⟩ => ⟨a, fun rs hr => absL_mono hle _ _ (c rs hr), d⟩⟩
structure CanOk (h : Heap) (δ : Dict) (c : Can) (pend : List Nat) : Prop where
  len : c.es.length = c.bs.length
  ent : ∀ (j : Nat) e b, c.es[j]? = some e → c.bs[j]? = some b → j ∈ pend ∨ EntOk h δ (dicOf δ c.es) b e
structure Grows (c c' : Can) (pend : List Nat) : Prop where
  es : ∃ t, c'.es = c.es ++ t
  keep : ∀ j, j ∈ pend → j < c.es.length → c'.bs[j]? = c.bs[j]?
theorem Grows.refl (c : Can) (pend : List Nat) : Grows c c pend := ⟨⟨[], by simp⟩, fun _ _ _ => rfl⟩
theorem Grows.trans {a b c : Can} {pend : List Nat} (h : Grows a b pend) (h' : Grows b c pend) : Grows a c pend := by
  obtain ⟨t, ht⟩ := h.es
  obtain ⟨t', ht'⟩ := h'.es
  refine ⟨⟨t ++ t', by rw [ht', ht, List.append_assoc]⟩, fun j hj hlt => (h'.keep j hj ?_).trans (h.keep j hj hlt)⟩
  rw [ht]; simp; omega
theorem Grows.le {a b : Can} {pend : List Nat} (h : Grows a b pend) (δ : Dict) : Dict.le (dicOf δ a.es) (dicOf δ b.es) := by
  obtain ⟨t, ht⟩ := h.es
  rw [ht]
  exact dicOf_push δ _ _
theorem push_ok {h : Heap} {δ : Dict} {c : Can} {pend : List Nat} (hc : CanOk h δ c pend) {e : Ent} {b : Blk} (he : c.es.length ∈ pend ∨ EntOk h δ (dicOf δ (c.es ++ [e])) b e) : CanOk h δ (c.push e b) pend := by
  refine ⟨by simp [Can.push, hc.len], fun j e' b' h1 h2 => ?_⟩
  simp only [Can.push] at h1 h2 ⊢
  by_cases hj : j < c.es.length
  · rw [List.getElem?_append_left hj] at h1
    rw [List.getElem?_append_left (by rw [← hc.len]; exact hj)] at h2
    exact (hc.ent j e' b' h1 h2).imp id fun ho => ho.mono (dicOf_push δ _ _)
  · have : j = c.es.length := by
      have := (List.getElem?_eq_some_iff.1 h1).1
      simp at this
      omega
    subst this
    rw [List.getElem?_append_right (Nat.le_refl _)] at h1
    rw [hc.len, List.getElem?_append_right (Nat.le_refl _)] at h2
    simp at h1 h2
    subst h1 h2
    exact he
theorem push_grows (c : Can) (e : Ent) (b : Blk) (pend : List Nat) (hlen : c.es.length = c.bs.length) : Grows c (c.push e b) pend := ⟨⟨[e], rfl⟩, fun j _ hlt => by simp only [Can.push]; rw [List.getElem?_append_left (by omega)]⟩
theorem entIx_spec {k : Nat} : ∀ {es : List Ent} {j i : Nat}, entIx k es j = some i → j ≤ i ∧ es[i - j]? = some (.whole k)
  | [], j, i, h => by cases h
  | .whole k' :: rest, j, i, h => by
    simp only [entIx] at h
    cases hb : Nat.beq k k' with
    | true =>
      rw [hb, cond_true] at h
      cases h
      rw [Nat.eq_of_beq_eq_true hb]
      exact ⟨Nat.le_refl _, by simp⟩
    | false =>
      rw [hb, cond_false] at h
      obtain ⟨h1, h2⟩ := entIx_spec h
      refine ⟨by omega, ?_⟩
      rw [show i - j = (i - (j + 1)) + 1 by omega, List.getElem?_cons_succ]
      exact h2
  | .win _ _ _ _ :: rest, j, i, h => by
    simp only [entIx] at h
    obtain ⟨h1, h2⟩ := entIx_spec h
    refine ⟨by omega, ?_⟩
    rw [show i - j = (i - (j + 1)) + 1 by omega, List.getElem?_cons_succ]
    exact h2
section
variable {h : Heap} {δ : Dict} {w : World}
structure CanRes (h : Heap) (δ : Dict) (pend : List Nat) (c c' : Can) : Prop where
  grows : Grows c c' pend
  ok : CanOk h δ c' pend
theorem canon_ok (hr : HRep δ h w) : ∀ (d : Nat),
    (∀ (deep : Bool) (x : SV) (c : Can) (y : SV) (c' : Can) (pend : List Nat), canS d h deep x c = some (y, c') → CanOk h δ c pend → (∃ r, absV δ x r) → CanRes h δ pend c c' ∧ (∀ r, absV δ x r → absV (dicOf δ c'.es) y r) ∧ (nameless x = true → y = x)) ∧
    (∀ (deep : Bool) (xs : List SV) (c : Can) (ys : List SV) (c' : Can) (pend : List Nat), canL d h deep xs c = some (ys, c') → CanOk h δ c pend → (∃ rs, absL δ xs rs) → CanRes h δ pend c c' ∧ (∀ rs, absL δ xs rs → absL (dicOf δ c'.es) ys rs) ∧ (namelessL xs = true → ys = xs))
  | 0 => ⟨fun deep x c y c' pend hc => by simp [canS] at hc, fun deep xs c ys c' pend hc => by simp [canL] at hc⟩
  | d + 1 => by
    obtain ⟨ihS, ihL⟩ := canon_ok hr d
    constructor
    · intro deep x c y c' pend hc hok hex
      cases x with
      | v z =>
        simp only [canS, Option.some.injEq, Prod.mk.injEq] at hc
        obtain ⟨rfl, rfl⟩ := hc
        exact ⟨⟨Grows.refl _ _, hok⟩, fun r hr' => by simpa only [absV] using hr', fun _ => rfl⟩
      | unk =>
        simp only [canS, Option.some.injEq, Prod.mk.injEq] at hc
        obtain ⟨rfl, rfl⟩ := hc
        exact ⟨⟨Grows.refl _ _, hok⟩, fun r hr' => by simp only [absV], fun _ => rfl⟩
      | agg cs =>
        simp only [canS] at hc
        cases hl : canL d h deep cs c with
        | none => rw [hl] at hc; cases hc
        | some lc =>
          obtain ⟨l, c1⟩ := lc
          rw [hl] at hc
          simp only [Option.some.injEq, Prod.mk.injEq] at hc
          obtain ⟨rfl, rfl⟩ := hc
          obtain ⟨r, hr'⟩ := hex
          simp only [absV] at hr'
          obtain ⟨xs, _, hxs⟩ := hr'
          obtain ⟨h1, h2, h3⟩ := ihL deep cs c l c1 pend hl hok ⟨xs, hxs⟩
          refine ⟨h1, fun r hr' => ?_, fun hn => by rw [h3 (by simpa [nameless] using hn)]⟩
          simp only [absV] at hr' ⊢
          obtain ⟨xs, e1, e2⟩ := hr'
          exact ⟨xs, e1, h2 xs e2⟩
      | sl k s i n cap =>
        simp only [canS] at hc
        cases hk : h k with
        | none => rw [hk] at hc; cases hc
        | some b =>
          rw [hk] at hc
          simp only at hc
          cases hb : (b.dead || !b.flat || !Nat.beq b.size s) with
          | true => rw [hb] at hc; cases hc
          | false =>
            rw [hb, cond_false] at hc
            simp only [Bool.or_eq_false_iff, Bool.not_eq_false'] at hb
            obtain ⟨⟨b1, b2⟩, b3⟩ := hb
            have hbs := Nat.eq_of_beq_eq_true b3
            have hnn : ∀ {q : Prop}, nameless (SV.sl k s i n cap) = true → q := fun hn => by simp [nameless] at hn
            cases hdr : (deep && b.rw) with
            | true =>
              rw [hdr, cond_true] at hc
              rw [Bool.and_eq_true] at hdr
              cases hix : entIx k c.es 0 with
              | some j =>
                rw [hix] at hc
                simp only [Option.some.injEq, Prod.mk.injEq] at hc
                obtain ⟨rfl, rfl⟩ := hc
                have hj := (entIx_spec hix).2
                rw [Nat.sub_zero] at hj
                refine ⟨⟨Grows.refl _ _, hok⟩, fun r hr' => ?_, hnn⟩
                simp only [absV] at hr' ⊢
                obtain ⟨p, d1, d2⟩ := hr'
                exact ⟨p, by unfold dicOf; rw [hj]; exact d1, d2⟩
              | none =>
                rw [hix] at hc
                simp only [Option.some.injEq, Prod.mk.injEq] at hc
                obtain ⟨rfl, rfl⟩ := hc
                refine ⟨⟨push_grows _ _ _ _ hok.len, push_ok hok (.inr ⟨b, hk, b1, hdr.2, rfl, rfl, rfl, rfl, rfl, rfl, rfl, rfl, .inl ⟨b2, rfl⟩⟩)⟩, fun r hr' => ?_, hnn⟩
                simp only [absV] at hr' ⊢
                obtain ⟨p, d1, d2⟩ := hr'
                exact ⟨p, by unfold dicOf Can.push; simp [d1], d2⟩
            | false =>
              rw [hdr, cond_false] at hc
              simp only [Option.some.injEq, Prod.mk.injEq] at hc
              obtain ⟨rfl, rfl⟩ := hc
              obtain ⟨r0, hr0⟩ := hex
              simp only [absV] at hr0
              obtain ⟨p0, d1, d2, d3, _⟩ := hr0
              refine ⟨⟨push_grows _ _ _ _ hok.len, push_ok hok (.inr ⟨b, p0, hk, b1, b2, hbs, d1, d3, rfl⟩)⟩, fun r hr' => ?_, hnn⟩
              simp only [absV] at hr' ⊢
              obtain ⟨p, e1, e2, e3, e4⟩ := hr'
              refine ⟨⟨p.r, s, p.o + i * s, n, p.no⟩, by unfold dicOf Can.push; simp [e1], rfl, by simp, e4.imp (fun ⟨g1, g2⟩ => ⟨g1, by rw [g2]; simp⟩) id⟩
      | vp k jj =>
        have hnn : ∀ {q : Prop}, nameless (SV.vp k jj) = true → q := fun hn => by simp [nameless] at hn
        cases jj with
        | succ _ => simp [canS] at hc
        | zero =>
        simp only [canS] at hc
        cases hro : c.ro with
        | true =>
          rw [hro, cond_true] at hc
          cases hk : h k with
          | none => rw [hk] at hc; cases hc
          | some b =>
            rw [hk] at hc
            simp only at hc
            cases hb : (b.dead || !b.flat || !Nat.beq b.n 1) with
            | true => rw [hb] at hc; cases hc
            | false =>
              rw [hb, cond_false] at hc
              simp only [Option.some.injEq, Prod.mk.injEq] at hc
              obtain ⟨rfl, rfl⟩ := hc
              simp only [Bool.or_eq_false_iff, Bool.not_eq_false'] at hb
              obtain ⟨⟨b1, b2⟩, b3⟩ := hb
              obtain ⟨r0, hr0⟩ := hex
              simp only [absV] at hr0
              obtain ⟨p0, d1, d2, _⟩ := hr0
              refine ⟨⟨push_grows _ _ _ _ hok.len, push_ok hok (.inr ⟨b, p0, hk, b1, b2, rfl, d1, by omega, rfl⟩)⟩, fun r hr' => ?_, hnn⟩
              simp only [absV] at hr' ⊢
              obtain ⟨p, e1, e2, e3⟩ := hr'
              refine ⟨⟨p.r, b.size, p.o + 0 * b.size, 1, p.no⟩, by unfold dicOf Can.push; simp [e1], Nat.lt_succ_self 0, by rw [e3]; simp⟩
        | false =>
        rw [hro, cond_false] at hc
        cases hix : entIx k c.es 0 with
        | some j =>
          rw [hix] at hc
          simp only [Option.some.injEq, Prod.mk.injEq] at hc
          obtain ⟨rfl, rfl⟩ := hc
          have hj := (entIx_spec hix).2
          rw [Nat.sub_zero] at hj
          refine ⟨⟨Grows.refl _ _, hok⟩, fun r hr' => ?_, hnn⟩
          simp only [absV] at hr' ⊢
          obtain ⟨p, d1, d2⟩ := hr'
          exact ⟨p, by unfold dicOf; rw [hj]; exact d1, d2⟩
        | none =>
          rw [hix] at hc
          simp only at hc
          cases hk : h k with
          | none => rw [hk] at hc; cases hc
          | some b =>
            rw [hk] at hc
            simp only at hc
            cases hb : (b.dead || !b.rw || !Nat.beq b.n 1) with
            | true => rw [hb] at hc; cases hc
            | false =>
              rw [hb, cond_false] at hc
              simp only [Bool.or_eq_false_iff, Bool.not_eq_false'] at hb
              obtain ⟨⟨b1, b2⟩, b3⟩ := hb
              have hbn := Nat.eq_of_beq_eq_true b3
              cases hl : canL d h true (b.row 0) (c.push (.whole k) { b with lock := false }) with
              | none => rw [hl] at hc; cases hc
              | some lc =>
                obtain ⟨l, c1⟩ := lc
                rw [hl] at hc
                simp only [Option.some.injEq, Prod.mk.injEq] at hc
                obtain ⟨rfl, rfl⟩ := hc
                -- the cells that are there
                obtain ⟨p, d1, d2⟩ := hr.blk k b hk
                have hlv := d2 b1
                have hno := hlv.notNo (by have := hlv.n; omega)
                obtain ⟨cc, e, fz, c1', c2, c3, c4, c5, c6, c7⟩ := hlv.rep hno
                obtain ⟨xs, x1, _⟩ := exists_list (δ := δ) (c := cc) (b.row 0) (p.o + 0 * b.size) (fun j x hx => (c7 0 (by omega)).2 j x hx)
                have hok1 : CanOk h δ (c.push (.whole k) { b with lock := false }) (c.es.length :: pend) := push_ok ⟨hok.len, fun j e b h1 h2 => (hok.ent j e b h1 h2).imp (List.mem_cons_of_mem _) id⟩ (.inl List.mem_cons_self)
                obtain ⟨g1, g2, g3⟩ := ihL true (b.row 0) _ l c1 (c.es.length :: pend) hl hok1 ⟨xs, x1⟩
                obtain ⟨t, ht⟩ := g1.grows.es
                simp only [Can.push] at ht
                have hmine : c1.bs[c.es.length]? = some { b with lock := false } := by
                  rw [g1.grows.keep c.es.length List.mem_cons_self (by simp [Can.push])]
                  simp [Can.push, hok.len]
                have hes : c1.es[c.es.length]? = some (.whole k) := by rw [ht]; simp
                have hset : (c1.setRow c.es.length l).bs = c1.bs.set c.es.length { b with lock := false, row := fun _ => l } := by
                  simp only [Can.setRow, hmine]
                have hlt : c.es.length < c1.bs.length := (List.getElem?_eq_some_iff.1 hmine).1
                refine ⟨⟨⟨⟨Ent.whole k :: t, ?_⟩, fun j hj hjl => ?_⟩, ⟨?_, fun j e b' h1 h2 => ?_⟩⟩, fun r hr' => ?_, hnn⟩
                · show c1.es = _
                  rw [ht]; simp
                · rw [hset, List.getElem?_set_ne (by omega), g1.grows.keep j (List.mem_cons_of_mem _ hj) (by simp [Can.push]; omega)]
                  simp only [Can.push]
                  rw [List.getElem?_append_left (by rw [← hok.len]; exact hjl)]
                · show c1.es.length = _
                  rw [hset, List.length_set]; exact g1.ok.len
                · have h1 : c1.es[j]? = some e := h1
                  rw [hset] at h2
                  by_cases hj : j = c.es.length
                  · subst hj
                    rw [hes] at h1
                    cases h1
                    rw [List.getElem?_set_self hlt] at h2
                    cases h2
                    right
                    exact ⟨b, hk, b1, b2, rfl, rfl, rfl, rfl, rfl, rfl, rfl, rfl, .inr ⟨hbn, g2, fun hf => by rw [g3 (c3 hf 0 (by omega))]; exact c3 hf 0 (by omega)⟩⟩
                  · rw [List.getElem?_set_ne (Ne.symm hj)] at h2
                    rcases g1.ok.ent j e b' h1 h2 with hp | hp
                    · rcases List.mem_cons.1 hp with hp | hp
                      · exact absurd hp hj
                      · exact .inl hp
                    · exact .inr hp
                · simp only [absV] at hr' ⊢
                  obtain ⟨p', q1, q2⟩ := hr'
                  exact ⟨p', by show dicOf δ c1.es _ = _; unfold dicOf; rw [hes]; exact q1, q2⟩
      | ptr k i j => simp [canS] at hc
      | ap k m l => simp [canS] at hc
      | fn f cs =>
        cases cs with
        | nil =>
          simp only [canS, Option.some.injEq, Prod.mk.injEq] at hc
          obtain ⟨rfl, rfl⟩ := hc
          exact ⟨⟨Grows.refl _ _, hok⟩, fun r hr => by simp only [absV] at hr ⊢; obtain ⟨xs, h1, h2⟩ := hr; exact ⟨xs, h1, by cases xs with | nil => simp only [absL] | cons _ _ => simp only [absL] at h2⟩, fun _ => rfl⟩
        | cons y ys => simp [canS] at hc
      | tup cs => simp [canS] at hc
      | ifc t y0 =>
        simp only [canS] at hc
        cases hy : canS d h deep y0 c with
        | none => rw [hy] at hc; cases hc
        | some p =>
          obtain ⟨y1, c1⟩ := p
          rw [hy] at hc
          simp only [Option.some.injEq, Prod.mk.injEq] at hc
          obtain ⟨rfl, rfl⟩ := hc
          obtain ⟨r, hr'⟩ := hex
          simp only [absV] at hr'
          obtain ⟨v, _, hv⟩ := hr'
          obtain ⟨a1, a2, a3⟩ := ihS deep y0 c y1 c1 pend hy hok ⟨v, hv⟩
          refine ⟨a1, fun r hr' => ?_, fun hn => ?_⟩
          · simp only [absV] at hr' ⊢
            obtain ⟨v, e, hv⟩ := hr'
            exact ⟨v, e, a2 v hv⟩
          · simp only [nameless] at hn
            rw [a3 hn]
    · intro deep xs c ys c' pend hc hok hex
      cases xs with
      | nil =>
        simp only [canL, Option.some.injEq, Prod.mk.injEq] at hc
        obtain ⟨rfl, rfl⟩ := hc
        exact ⟨⟨Grows.refl _ _, hok⟩, fun rs hr' => by cases rs <;> simp only [absL] at *, fun _ => rfl⟩
      | cons x rest =>
        simp only [canL] at hc
        cases hx : canS d h deep x c with
        | none => rw [hx] at hc; cases hc
        | some yc =>
          obtain ⟨y, c1⟩ := yc
          rw [hx] at hc
          simp only at hc
          cases hl : canL d h deep rest c1 with
          | none => rw [hl] at hc; cases hc
          | some lc =>
            obtain ⟨l, c2⟩ := lc
            rw [hl] at hc
            simp only [Option.some.injEq, Prod.mk.injEq] at hc
            obtain ⟨rfl, rfl⟩ := hc
            obtain ⟨rs, hrs⟩ := hex
            cases rs with
            | nil => simp only [absL] at hrs
            | cons r rs =>
              simp only [absL] at hrs
              obtain ⟨a1, a2, a3⟩ := ihS deep x c y c1 pend hx hok ⟨r, hrs.1⟩
              obtain ⟨e1, e2, e3⟩ := ihL deep rest c1 l c2 pend hl a1.ok ⟨rs, hrs.2⟩
              refine ⟨⟨a1.grows.trans e1.grows, e1.ok⟩, fun rs' hrs' => ?_, fun hn => ?_⟩
              · cases rs' with
                | nil => simp only [absL] at hrs'
                | cons r' rs' =>
                  simp only [absL] at hrs' ⊢
                  exact ⟨absV_mono (e1.grows.le δ) _ _ (a2 r' hrs'.1), e2 rs' hrs'.2⟩
              · simp only [namelessL, Bool.and_eq_true] at hn
                rw [a3 hn.1, e3 hn.2]
end
end Go.SE
end
section
namespace Go.SE
open Go.RowKit
section
variable {h : Heap} {δ δ' δ'' : Dict} {w w' : World} {es : List Ent} {bs : List Blk} {base : Nat} {ro : Bool}
theorem can_live (hr : HRep δ h w) (hok : CanOk h δ ⟨es, bs, ro⟩ []) {j : Nat} {b : Blk} (hj : bs[j]? = some b) : ∃ q, dicOf δ es j = some q ∧ (b.dead = false → Live (dicOf δ es) b w q) := by
  have hlt := (List.getElem?_eq_some_iff.1 hj).1
  have hlen : es.length = bs.length := hok.len
  have he : es[j]? = some es[j] := List.getElem?_eq_getElem (by omega)
  rcases hok.ent j _ b he hj with h0 | h0
  · cases h0
  cases hee : es[j] with
  | win k s i n =>
    rw [hee] at h0 he
    obtain ⟨b0, p, h1, h2, h3, h4, h5, h6, rfl⟩ := h0
    refine ⟨⟨p.r, s, p.o + i * s, n, p.no⟩, by unfold dicOf; rw [he]; simp only [h5], fun _ => ?_⟩
    obtain ⟨p', e1, e2⟩ := hr.blk k b0 h1
    rw [h5] at e1; cases e1
    have hlv := e2 h2
    have hpn := hlv.n
    refine ⟨rfl, rfl, fun hno => ?_, fun hno => ?_⟩
    · have := (hlv.no hno).1
      exact ⟨show n = 0 by omega, rfl⟩
    · obtain ⟨c, e, fz, c1, c2, c3, c4, c5, c6, c7⟩ := hlv.rep hno
      rw [h4] at c5 c7
      refine ⟨c, e, fz, c1, fun hh => (by cases hh), fun _ y hy => c3 h3 (i + y) (by simp only [winBlk] at hy; omega), c4, ?_, fun hh => (by cases hh), fun y hy => ?_⟩
      · simp only [winBlk, Nat.zero_mul, Nat.add_zero]
        rcases Nat.eq_zero_or_pos i with h0 | h0
        · subst h0; omega
        · rcases Nat.eq_zero_or_pos s with h0' | h0'
          · subst h0'; omega
          · obtain ⟨g1, g2⟩ := c7 (i - 1) (by omega)
            have hj : s - 1 < (b0.row (i - 1)).length := by omega
            obtain ⟨r', g3, _⟩ := g2 (s - 1) _ (List.getElem?_eq_getElem hj)
            have := (Array.getElem?_eq_some_iff.1 g3).1
            have e : i * s = (i - 1) * s + s := by rw [show i = (i - 1) + 1 by omega, Nat.add_mul]; simp
            omega
      · simp only [winBlk] at hy ⊢
        obtain ⟨g1, g2⟩ := c7 (i + y) (by omega)
        refine ⟨g1, fun z v hz => ?_⟩
        obtain ⟨r, g3, g4⟩ := g2 z v hz
        refine ⟨r, by rw [← g3, Nat.add_mul]; congr 1; omega, ?_⟩
        exact absV_nameless _ _ (namelessL_mem (c3 h3 (i + y) (by omega)) v (List.mem_of_getElem? hz)) g4
  | whole k =>
    rw [hee] at h0 he
    obtain ⟨b0, h1, h2, h3, g1, g2, g3, g4, g5, g6, g7, g8, g9⟩ := h0
    obtain ⟨p, e1, e2⟩ := hr.blk k b0 h1
    refine ⟨p, by unfold dicOf; rw [he]; exact e1, fun _ => ?_⟩
    have hlv := e2 h2
    refine ⟨hlv.s.trans g1.symm, hlv.n.trans g4.symm, fun hno => by rw [g4, g5]; exact hlv.no hno, fun hno => ?_⟩
    obtain ⟨c, e, fz, c1, c2, c3, c4, c5, c6, c7⟩ := hlv.rep hno
    rcases g9 with ⟨f1, f2⟩ | ⟨f1, f2, f3⟩
    · refine ⟨c, e, fz, c1, fun hh => c2 (g2.symm.trans hh), fun _ y hy => by rw [f2]; exact c3 f1 y (by omega), fun hh => by rw [g7]; exact c4 (by rw [← g7]; exact hh), by rw [g5, g1]; exact c5, fun hh => by rw [g1, g2]; exact c6 (g8.symm.trans hh), fun y hy => ?_⟩
      obtain ⟨a1, a2⟩ := c7 y (by omega)
      rw [f2, g1]
      refine ⟨a1, fun z v hz => ?_⟩
      obtain ⟨r, a3, a4⟩ := a2 z v hz
      exact ⟨r, a3, absV_nameless _ _ (namelessL_mem (c3 f1 y (by omega)) v (List.mem_of_getElem? hz)) a4⟩
    · refine ⟨c, e, fz, c1, fun hh => c2 (g2.symm.trans hh), fun hf y hy => ?_, fun hh => by rw [g7]; exact c4 (by rw [← g7]; exact hh), by rw [g5, g1]; exact c5, fun hh => by rw [g1, g2]; exact c6 (g8.symm.trans hh), fun y hy => ?_⟩
      · have : y = 0 := by omega
        subst this
        exact f3 (g3.symm.trans hf)
      · have : y = 0 := by omega
        subst this
        obtain ⟨a1, a2⟩ := c7 0 (by omega)
        obtain ⟨xs, x1, x2⟩ := exists_list (δ := δ) (c := c) (b0.row 0) (p.o + 0 * b0.size) (fun j x hx => a2 j x hx)
        have x3 := f2 xs x1
        have l1 := absL_length x1
        have l2 := absL_length x3
        rw [g1]
        refine ⟨by omega, fun z v hz => ?_⟩
        obtain ⟨r, y1, y2⟩ := absL_get x3 hz
        exact ⟨r, x2 z r y1, y2⟩
theorem entsOk_spec : ∀ {es : List Ent}, entsOk h es = true → ∀ (j j' : Nat) k e, es[j]? = some (.whole k) → es[j']? = some e → isWhole k e = true → j = j'
  | [], _, j, j', k, e, h1, _, _ => by simp at h1
  | e0 :: es, ho, j, j', k, e, h1, h2, h3 => by
    match j, j' with
    | 0, 0 => rfl
    | 0, j' + 1 =>
      simp at h1 h2
      subst h1
      simp only [entsOk, Bool.and_eq_true] at ho
      have := List.all_eq_true.1 ho.1 e (List.mem_of_getElem? h2)
      rw [h3] at this; cases this
    | j + 1, 0 =>
      simp at h1 h2
      subst h2
      exfalso
      have hm := List.mem_of_getElem? h1
      cases e0 with
      | whole k' =>
        simp only [entsOk, Bool.and_eq_true] at ho
        have := List.all_eq_true.1 ho.1 _ hm
        simp only [isWhole] at this h3
        rw [Nat.eq_of_beq_eq_true h3, Nat.beq_refl] at this
        cases this
      | win k' s i n =>
        simp only [entsOk, Bool.and_eq_true] at ho
        have := List.all_eq_true.1 ho.1 _ hm
        simp only [isWhole] at this h3
        rw [Nat.eq_of_beq_eq_true h3, Nat.beq_refl] at this
        cases this
    | j + 1, j' + 1 =>
      simp at h1 h2
      have hr : entsOk h es = true := by
        cases e0 <;> simp only [entsOk, Bool.and_eq_true] at ho <;> exact ho.2
      rw [entsOk_spec hr j j' k e h1 h2 h3]
def Ent.name : Ent → Nat
  | .win k _ _ _ => k
  | .whole k => k
theorem can_lies (hok : CanOk h δ ⟨es, bs, ro⟩ []) {j r : Nat} (hl : lies (dicOf δ es) (heapOf bs) j r) : ∃ e b b0, es[j]? = some e ∧ bs[j]? = some b ∧ h e.name = some b0 ∧ lies δ h e.name r ∧ (b.rw = true → b0.rw = true ∧ e = .whole e.name) := by
  obtain ⟨b, q, h1, h2, h3, h4, h5⟩ := hl
  have h1 : bs[j]? = some b := h1
  have hlt := (List.getElem?_eq_some_iff.1 h1).1
  have hlen : es.length = bs.length := hok.len
  have he : es[j]? = some es[j] := List.getElem?_eq_getElem (by omega)
  rcases hok.ent j _ b he h1 with h0 | h0
  · cases h0
  cases hee : es[j] with
  | win k s i n =>
    rw [hee] at h0 he
    obtain ⟨b0, p, g1, g2, g3, g4, g5, g6, rfl⟩ := h0
    unfold dicOf at h3
    rw [he] at h3
    simp only [g5] at h3
    cases h3
    exact ⟨_, _, b0, he, h1, g1, ⟨b0, p, g1, g2, g5, h4, h5⟩, fun hh => (by cases hh)⟩
  | whole k =>
    rw [hee] at h0 he
    obtain ⟨b0, g1, g2, g3, _⟩ := h0
    unfold dicOf at h3
    rw [he] at h3
    exact ⟨_, _, b0, he, h1, g1, ⟨b0, q, g1, g2, h3, h4, h5⟩, fun _ => ⟨g3, rfl⟩⟩
theorem can_rep (hr : HRep δ h w) (hok : CanOk h δ ⟨es, bs, ro⟩ []) (heo : entsOk h es = true) : HRep (dicOf δ es) (heapOf bs) w := by
  refine ⟨fun j b hj => can_live hr hok hj, fun j j' r b h1 h2 hj hb => ?_⟩
  obtain ⟨e, b1, b0, g1, g2, g3, g4, g5⟩ := can_lies hok h1
  obtain ⟨e', b1', b0', f1, f2, f3, f4, _⟩ := can_lies hok h2
  have : some b1 = some b := g2.symm.trans hj
  cases this
  obtain ⟨a1, a2⟩ := g5 hb
  have := hr.inj _ _ r b0 g4 f4 g3 a1
  rw [a2] at g1
  refine entsOk_spec heo j j' e.name e' g1 f1 ?_
  rw [this]
  cases e' <;> simp [isWhole, Ent.name]
theorem freshOk_spec : ∀ {n : Nat}, freshOk h base n = true → ∀ j, j < n → h (base + j) = none
  | 0, _, j, hj => by omega
  | n + 1, ho, j, hj => by
    simp only [freshOk, Bool.and_eq_true] at ho
    rcases Nat.lt_or_eq_of_le (Nat.le_of_lt_succ hj) with h1 | h1
    · exact freshOk_spec ho.2 j h1
    · subst h1
      simpa using ho.1
theorem backOf_win {j k s i n : Nat} (he : es[j]? = some (.win k s i n)) : backOf es base j = .win k i := by simp [backOf, he]
theorem backOf_whole {j k : Nat} (he : es[j]? = some (.whole k)) : backOf es base j = .whole k := by simp [backOf, he]
structure Turn (h : Heap) (δ δ' δ'' : Dict) (es : List Ent) (base : Nat) : Prop where
  old : δ.le δ''
  dic : (dicOf δ es).le δ'
  ent : ∀ (j : Nat) k s i n, es[j]? = some (.win k s i n) → ∃ p, δ k = some p ∧ p.s = s ∧ i + n ≤ p.n
  new : ∀ j, es[j]? = none → ∀ p, δ' j = some p → 1000 ≤ j ∧ j < 1008 ∧ δ'' (base + (j - 1000)) = some p
  whl : ∀ (j : Nat) k, es[j]? = some (.whole k) → ∃ p, δ k = some p
theorem Turn.at (ht : Turn h δ δ' δ'' es base) (j : Nat) (q : Loc) (hq : δ' j = some q) : (∃ k i p, backOf es base j = .win k i ∧ δ'' k = some p ∧ q.r = p.r ∧ q.s = p.s ∧ q.o = p.o + i * p.s ∧ i + q.n ≤ p.n ∧ q.no = p.no) ∨ (∃ k, backOf es base j = .whole k ∧ δ'' k = some q) := by
  cases he : es[j]? with
  | none =>
    obtain ⟨h1, h2, h3⟩ := ht.new j he q hq
    right
    refine ⟨base + (j - 1000), ?_, h3⟩
    unfold backOf
    rw [he]
    simp only
    rw [show (Nat.ble 1000 j && Nat.blt j 1008) = true by rw [Nat.ble_eq_true_of_le h1, show Nat.blt j 1008 = true from Nat.ble_eq_true_of_le h2]; rfl]
    rfl
  | some e =>
    cases e with
    | win k s i n =>
      obtain ⟨p, p1, p2, p3⟩ := ht.ent j k s i n he
      have hd : dicOf δ es j = some ⟨p.r, s, p.o + i * s, n, p.no⟩ := by unfold dicOf; rw [he]; simp only [p1]
      have := ht.dic _ _ hd
      rw [hq] at this
      cases this
      exact .inl ⟨k, i, p, backOf_win he, ht.old _ _ p1, rfl, p2.symm, by rw [p2], p3, rfl⟩
    | whole k =>
      obtain ⟨p, p1⟩ := ht.whl j k he
      have hd : dicOf δ es j = some p := by unfold dicOf; rw [he]; exact p1
      have := ht.dic _ _ hd
      rw [hq] at this
      cases this
      exact .inr ⟨k, backOf_whole he, ht.old _ _ p1⟩
mutual
theorem dec_abs (ht : Turn h δ δ' δ'' es base) : ∀ (x : SV) (r : Value), absV δ' x r → absV δ'' (decS es base x) r
  | .unk, _, _ => by simp only [decS, absV]
  | .v x, r, hr => by simp only [decS, absV] at *; exact hr
  | .vp j x, r, hr => by
    simp only [absV] at hr
    obtain ⟨q, h1, h2, rfl⟩ := hr
    simp only [decS]
    rcases ht.at j q h1 with ⟨k, i, p, g1, g2, g3, g4, g5, g6, _⟩ | ⟨k, g1, g2⟩
    · rw [g1]; simp only [absV]
    · rw [g1]; simp only [absV]; exact ⟨q, g2, h2, rfl⟩
  | .ptr j i' x, r, hr => by
    simp only [absV] at hr
    obtain ⟨q, h1, h2, rfl⟩ := hr
    simp only [decS]
    rcases ht.at j q h1 with ⟨k, i, p, g1, g2, g3, g4, g5, g6, _⟩ | ⟨k, g1, g2⟩
    · rw [g1]; simp only [absV]
      exact ⟨p, g2, by omega, by rw [g3, g4, g5, Nat.add_mul, Nat.add_assoc p.o]⟩
    · rw [g1]; simp only [absV]; exact ⟨q, g2, h2, rfl⟩
  | .sl j s i' n c, r, hr => by
    simp only [absV] at hr
    obtain ⟨q, h1, h2, h3, h4⟩ := hr
    simp only [decS]
    rcases ht.at j q h1 with ⟨k, i, p, g1, g2, g3, g4, g5, g6, g7⟩ | ⟨k, g1, g2⟩
    · rw [g1]; simp only [absV]
      refine ⟨p, g2, g4.symm.trans h2, by omega, h4.imp (fun ⟨e1, e2⟩ => ⟨g7.symm.trans e1, ?_⟩) id⟩
      rw [e2, g3, g5, ← g4, h2, Nat.add_mul, Nat.add_assoc p.o]
    · rw [g1]; simp only [absV]; exact ⟨q, g2, h2, h3, h4⟩
  | .ap j m l, r, hr => by
    simp only [absV] at hr
    obtain ⟨q, h1, h2⟩ := hr
    simp only [decS]
    rcases ht.at j q h1 with ⟨k, i, p, g1, _⟩ | ⟨k, g1, g2⟩
    · rw [g1]; simp only [absV]
    · rw [g1]; simp only [absV]; exact ⟨q, g2, h2⟩
  | .fn f cs, r, hr => by
    simp only [absV, decS] at *
    obtain ⟨xs, h1, h2⟩ := hr
    exact ⟨xs, h1, decL_abs ht cs xs h2⟩
  | .ifc t x, r, hr => by
    simp only [absV, decS] at *
    obtain ⟨y, h1, h2⟩ := hr
    exact ⟨y, h1, dec_abs ht x y h2⟩
  | .agg cs, r, hr => by
    simp only [absV, decS] at *
    obtain ⟨xs, h1, h2⟩ := hr
    exact ⟨xs, h1, decL_abs ht cs xs h2⟩
  | .tup cs, r, hr => by
    simp only [absV, decS] at *
    obtain ⟨xs, h1, h2⟩ := hr
    exact ⟨xs, h1, decL_abs ht cs xs h2⟩
theorem decL_abs (ht : Turn h δ δ' δ'' es base) : ∀ (xs : List SV) (rs : List Value), absL δ' xs rs → absL δ'' (decL es base xs) rs
  | [], rs, hr => by cases rs <;> simp only [absL, decL] at *
  | x :: xs, rs, hr => by
    cases rs with
    | nil => simp only [absL] at hr
    | cons r rs =>
      simp only [absL, decL] at *
      exact ⟨dec_abs ht x r hr.1, decL_abs ht xs rs hr.2⟩
end
theorem decB_live (ht : Turn h δ δ' δ'' es base) {b : Blk} {q : Loc} (hl : Live δ' b w q) : Live δ'' (decB es base b) w q := by
  refine ⟨hl.s, hl.n, hl.no, fun hno => ?_⟩
  obtain ⟨c, e, fz, c1, c2, c3, c4, c5, c6, c7⟩ := hl.rep hno
  cases hf : b.flat with
  | true =>
    have hrow : (decB es base b).row = b.row := by simp only [decB, hf]
    refine ⟨c, e, fz, c1, c2, fun _ y hy => by rw [hrow]; exact c3 hf y hy, c4, c5, c6, fun y hy => ?_⟩
    rw [hrow]
    obtain ⟨a1, a2⟩ := c7 y hy
    exact ⟨a1, fun z v hz => (a2 z v hz).imp fun r ⟨a3, a4⟩ => ⟨a3, absV_nameless _ _ (namelessL_mem (c3 hf y hy) v (List.mem_of_getElem? hz)) a4⟩⟩
  | false =>
    have hrow : ∀ i, (decB es base b).row i = decL es base (b.row i) := fun i => by simp only [decB, hf]
    refine ⟨c, e, fz, c1, c2, fun hh => (by have : b.flat = true := hh; rw [hf] at this; cases this), c4, c5, c6, fun y hy => ?_⟩
    rw [hrow]
    obtain ⟨a1, a2⟩ := c7 y hy
    obtain ⟨xs, x1, x2⟩ := exists_list (δ := δ') (c := c) (b.row y) (q.o + y * b.size) (fun j x hx => a2 j x hx)
    have x3 := decL_abs ht _ _ x1
    have l1 := absL_length x1
    have l2 := absL_length x3
    refine ⟨by show _ = b.size; omega, fun z v hz => ?_⟩
    obtain ⟨r, y1, y2⟩ := absL_get x3 hz
    exact ⟨r, x2 z r y1, y2⟩
theorem happ_dec {u : List (Nat × Blk)} : (∀ j j' k, inNames j u = true → inNames j' u = true → backOf es base j = .whole k → backOf es base j' = .whole k → j = j') → ∀ (H hc : Heap) (j k : Nat), inNames j u = true → backOf es base j = .whole k →
    happ H (decU es base u) k = (happ hc u j).map (decB es base) := by
  induction u with
  | nil => intro _ H hc j k hj; simp [inNames] at hj
  | cons q rest ih =>
    obtain ⟨j0, b⟩ := q
    intro hinj H hc j k hj hk
    have hinj' : ∀ j j' k, inNames j rest = true → inNames j' rest = true → backOf es base j = .whole k → backOf es base j' = .whole k → j = j' := fun j j' k h1 h2 => hinj j j' k (by simp [inNames, h1]) (by simp [inNames, h2])
    cases hr : inNames j rest with
    | true =>
      simp only [happ]
      have h1 := ih hinj' (match backOf es base j0 with | .whole k0 => hset H k0 (decB es base b) | _ => H) (hset hc j0 b) j k hr hk
      rw [← h1]
      simp only [decU]
      cases backOf es base j0 <;> rfl
    | false =>
      simp only [inNames, hr, Bool.or_false] at hj
      have e0 : j = j0 := Nat.eq_of_beq_eq_true hj
      subst e0
      have hnot : inNames k (decU es base rest) = false := by
        cases hin : inNames k (decU es base rest) with
        | false => rfl
        | true =>
          exfalso
          have : ∀ (l : List (Nat × Blk)), inNames k (decU es base l) = true → ∃ j', inNames j' l = true ∧ backOf es base j' = .whole k := by
            intro l
            induction l with
            | nil => intro h0; simp [decU, inNames] at h0
            | cons q l ihl =>
              obtain ⟨j1, b1⟩ := q
              intro h0
              simp only [decU] at h0
              cases hb : backOf es base j1 with
              | whole k1 =>
                rw [hb] at h0
                simp only [inNames, Bool.or_eq_true] at h0
                rcases h0 with h0 | h0
                · exact ⟨j1, by simp [inNames], by rw [hb, Nat.eq_of_beq_eq_true h0]⟩
                · obtain ⟨j', e1, e2⟩ := ihl h0; exact ⟨j', by simp [inNames, e1], e2⟩
              | win k1 i1 => rw [hb] at h0; obtain ⟨j', e1, e2⟩ := ihl h0; exact ⟨j', by simp [inNames, e1], e2⟩
              | no => rw [hb] at h0; obtain ⟨j', e1, e2⟩ := ihl h0; exact ⟨j', by simp [inNames, e1], e2⟩
          obtain ⟨j', e1, e2⟩ := this rest hin
          have := hinj j j' k (by simp [inNames]) (by simp [inNames, e1]) hk e2
          subst this
          rw [hr] at e1; cases e1
      simp only [decU, hk, happ]
      rw [happ_other _ _ hnot, happ_other _ _ hr]
      simp [hset]
theorem decU_names {u : List (Nat × Blk)} {k : Nat} : inNames k (decU es base u) = true ↔ ∃ j, inNames j u = true ∧ backOf es base j = .whole k := by
  induction u with
  | nil => simp [decU, inNames]
  | cons q l ihl =>
    obtain ⟨j1, b1⟩ := q
    simp only [decU]
    constructor
    · intro h0
      cases hb : backOf es base j1 with
      | whole k1 =>
        rw [hb] at h0
        simp only [inNames, Bool.or_eq_true] at h0
        rcases h0 with h0 | h0
        · exact ⟨j1, by simp [inNames], by rw [hb, Nat.eq_of_beq_eq_true h0]⟩
        · obtain ⟨j', e1, e2⟩ := ihl.1 h0; exact ⟨j', by simp [inNames, e1], e2⟩
      | win k1 i1 => rw [hb] at h0; obtain ⟨j', e1, e2⟩ := ihl.1 h0; exact ⟨j', by simp [inNames, e1], e2⟩
      | no => rw [hb] at h0; obtain ⟨j', e1, e2⟩ := ihl.1 h0; exact ⟨j', by simp [inNames, e1], e2⟩
    · rintro ⟨j, e1, e2⟩
      simp only [inNames, Bool.or_eq_true] at e1
      rcases e1 with e1 | e1
      · rw [Nat.eq_of_beq_eq_true e1] at e2
        rw [e2]
        simp [inNames]
      · have := ihl.2 ⟨j, e1, e2⟩
        cases hb : backOf es base j1 <;> simp [inNames, this]
end
end Go.SE
end
