/-
  The symbolic executor: rows as lists; loops' specifications.
-/
import Derived.Test.YtjdldadmaaeimaaSeFn
namespace Go.SE

/-- The rows of a slice, as a list. -/
def rowsOf (n : Nat) (row : Nat → List SV) : List (List SV) := (List.range' 0 n).map row

theorem rowsOf_get {n : Nat} {row : Nat → List SV} (i : Nat) : (rowsOf n row)[i]? = if i < n then some (row i) else none := by
  unfold rowsOf
  rw [List.getElem?_map]
  split
  · rw [List.getElem?_range' (by omega)]; simp
  · rw [List.getElem?_eq_none (by simp; omega)]; rfl
theorem rowsOf_succ (n : Nat) (row : Nat → List SV) : rowsOf (n + 1) row = rowsOf n row ++ [row n] := by
  unfold rowsOf
  rw [List.range'_concat]; simp
theorem rowsOf_congr {n : Nat} {row row' : Nat → List SV} (h : ∀ i, i < n → row i = row' i) : rowsOf n row = rowsOf n row' := by
  unfold rowsOf
  refine List.map_congr_left fun i hi => h i ?_
  have := (List.mem_range'_1.1 hi).2
  omega
def okAll (ok : List SV → Prop) : List (List SV) → Prop
  | [] => True
  | r :: t => ok r ∧ okAll ok t
theorem okAll_iff {ok : List SV → Prop} : ∀ {l : List (List SV)}, okAll ok l ↔ ∀ r ∈ l, ok r
  | [] => by simp [okAll]
  | a :: t => by simp [okAll, okAll_iff (l := t)]
theorem okAll_rows {ok : List SV → Prop} {n : Nat} {row : Nat → List SV} : okAll ok (rowsOf n row) ↔ ∀ i, i < n → ok (row i) := by
  rw [okAll_iff]
  constructor
  · intro h i hi
    exact h _ (List.mem_of_getElem? (i := i) (by rw [rowsOf_get, if_pos hi]))
  · intro h r hr
    obtain ⟨i, hi⟩ := List.getElem?_of_mem hr
    rw [rowsOf_get] at hi
    split at hi
    · cases hi; rename_i h'; exact h i h'
    · cases hi

/-! ### loops -/
def loopIn (i : Nat) : Code → Nat → Option Code
  | .loop c, e => bif Nat.beq e i then some c else loopIn i c e
  | .seq a b, e => match loopIn i a e with
    | some c => some c
    | none => loopIn i b e
  | .cond _ a b, e => match loopIn i a e with
    | some c => some c
    | none => loopIn i b e
  | .block id c, _ => loopIn i c id
  | .scope c, e => loopIn i c e
  | .rangeFunc _ _ _ c, e => loopIn i c e
  | _, _ => none

/-- What a loop writes and its specification does not name. -/
def deadOf (fn : Func) (i : Nat) (keep : List Nat) : List Nat := match fn.body with
  | some c => match loopIn i c 0 with
    | some b => (dsts b).filter fun t => !keep.elem t
    | none => []
  | none => []

def addLoop (Λ : Nat → Option LoopSpec) (fn : Func) (id : Nat) (X : Type) (inv : X → Prop) (mu : X → Nat) (slots : List (Nat × (X → SV))) (blks : List (Nat × (X → Blk))) : Nat → Option LoopSpec := fun i =>
  bif Nat.beq i id then some { X, inv, mu, slots, blks, dead := deadOf fn id (slots.map (·.1)) } else Λ i

/-- A loop whose head has new names. -/
def addLoopN (Λ : Nat → Option LoopSpec) (fn : Func) (id : Nat) (X : Type) (inv : X → Prop) (mu : X → Nat) (slots : List (Nat × (X → SV))) (blks : List (Nat × (X → Blk))) (news : List (Nat × (X → Blk) × (St → SV))) : Nat → Option LoopSpec := fun i =>
  bif Nat.beq i id then some { X, inv, mu, slots, blks, news, dead := deadOf fn id (slots.map (·.1)) } else Λ i

/-- A loop whose head knows the state before it. -/
def addLoopR (Λ : Nat → Option LoopSpec) (fn : Func) (id : Nat) (X : Type) (inv : X → Prop) (rel : St → X → Prop) (mu : X → Nat) (slots : List (Nat × (X → SV))) (blks : List (Nat × (X → Blk))) : Nat → Option LoopSpec := fun i =>
  bif Nat.beq i id then some { X, inv, mu, slots, blks, dead := deadOf fn id (slots.map (·.1)), rel := some rel } else Λ i

/-- A cut behind the piece of code that begins with region rid and has m operations: what holds there. What the code writes and the cut does not name is forgotten ('dead' is found by the code itself). -/
def pieceOf (rid m : Nat) : Code → Option Code
  | .seq a b => bif Nat.beq (cnt a) m && Nat.beq (firstRid a) rid then some a else match pieceOf rid m a with
    | some c => some c
    | none => pieceOf rid m b
  | .cond _ a b => match pieceOf rid m a with
    | some c => some c
    | none => pieceOf rid m b
  | .block _ c => pieceOf rid m c
  | .loop c => pieceOf rid m c
  | .scope c => pieceOf rid m c
  | .rangeFunc _ _ _ c => pieceOf rid m c
  | _ => none
def deadCut (fn : Func) (rid m : Nat) (keep : List Nat) : List Nat := match fn.body with
  | some c => match pieceOf rid m c with
    | some b => (dsts b).filter fun t => !keep.elem t
    | none => []
  | none => []
def addCut (Λ : Nat → Option LoopSpec) (fn : Func) (rid m : Nat) (X : Type) (inv : X → Prop) (slots : List (Nat × (X → SV))) (blks : List (Nat × (X → Blk))) : Nat → Option LoopSpec := fun i =>
  bif Nat.beq i (2000000 + 1000 * m + rid) then some { X, inv, mu := fun _ => 0, slots, blks, dead := deadCut fn rid m (slots.map (·.1)) } else Λ i
def addCutR (Λ : Nat → Option LoopSpec) (fn : Func) (rid m : Nat) (X : Type) (inv : X → Prop) (rel : St → X → Prop) (slots : List (Nat × (X → SV))) (blks : List (Nat × (X → Blk))) : Nat → Option LoopSpec := fun i =>
  bif Nat.beq i (2000000 + 1000 * m + rid) then some { X, inv, mu := fun _ => 0, slots, blks, dead := deadCut fn rid m (slots.map (·.1)), rel := some rel } else Λ i

/-- A range over a function: the iterator; how many rounds are over. -/
def addIter (Λ : Nat → Option LoopSpec) (id : Nat) (it : It) (X : Type) (inv : X → Prop) (ix : X → Nat) (blks : List (Nat × (X → Blk))) (news : List (Nat × (X → Blk) × (St → SV)) := []) : Nat → Option LoopSpec := fun i =>
  bif Nat.beq i id then some { X, inv, mu := fun _ => 0, slots := [], blks, dead := [], news, it := some it, ix } else Λ i

/-- A region's promises. -/
def addPr (Λ : Nat → Option LoopSpec) (rid : Nat) (pr : List (Nat × (Nat → Nat))) : Nat → Option LoopSpec := fun i =>
  bif Nat.beq i (1000000 + rid) then some { X := Unit, inv := fun _ => True, mu := fun _ => 0, slots := [], blks := [], dead := [], pr := pr.map fun p => (p.1, fun nx => [p.2 nx]) } else Λ i
def addPrs (Λ : Nat → Option LoopSpec) (rid : Nat) (pr : List (Nat × (Nat → List Nat))) : Nat → Option LoopSpec := fun i =>
  bif Nat.beq i (1000000 + rid) then some { X := Unit, inv := fun _ => True, mu := fun _ => 0, slots := [], blks := [], dead := [], pr } else Λ i

/-- What slot t holds; cell j of variable k. -/
def inSlot (t : Nat) (s : St) : SV := s.tmps.getD t .unk
def inVar (k j : Nat) (s : St) : SV := match s.heap k with
  | some b => (b.row 0).getD j .unk
  | none => .unk
end Go.SE
