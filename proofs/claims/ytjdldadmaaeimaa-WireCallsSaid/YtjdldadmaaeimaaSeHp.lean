/-
  The symbolic executor: contracts of functions that read slices, write what pointers point at, and hand back new blocks. The arguments' blocks get the names 0, 1, ..; what is new has the names 1000, 1001, ...
-/
import Derived.Test.YtjdldadmaaeimaaSeRows
namespace Go.SE
open Go.RowKit

/-- Where a contract's name comes from: elements i.. of block k (to be read), or the whole block k. -/
inductive Ent where
  | win (k s i n : Nat)
  | whole (k : Nat)

def entIx (k : Nat) : List Ent → Nat → Option Nat
  | [], _ => none
  | .whole k' :: rest, j => bif Nat.beq k k' then some j else entIx k rest (j + 1)
  | .win _ _ _ _ :: rest, j => entIx k rest (j + 1)

/-- Entries, and the blocks with the contract's names (in order). -/
structure Can where
  es : List Ent
  bs : List Blk

def winBlk (b : Blk) (s i n : Nat) : Blk := { elem := b.elem, size := s, rw := false, lock := false, lit := false, flat := true, n, row := fun y => b.row (i + y), ext := 0 }

def Can.push (c : Can) (e : Ent) (b : Blk) : Can := ⟨c.es ++ [e], c.bs ++ [b]⟩
def Can.setRow (c : Can) (j : Nat) (cs : List SV) : Can := ⟨c.es, match c.bs[j]? with | some b => c.bs.set j { b with row := fun _ => cs } | none => c.bs⟩

mutual
/-- A value with the contract's names. 'deep': inside a block that a pointer points at (its slices may be written). -/
def canS : Nat → Heap → Bool → SV → Can → Option (SV × Can)
  | 0, _, _, _, _ => none
  | d + 1, h, deep, x, c => match x with
    | .v y => some (.v y, c)
    | .unk => some (.unk, c)
    | .agg cs => match canL d h deep cs c with
      | some (l, c') => some (.agg l, c')
      | none => none
    | .sl k s i n cap => match h k with
      | some b => bif b.dead || !b.flat || !Nat.beq b.size s then none else bif deep && b.rw then (match entIx k c.es 0 with
          | some j => some (.sl j s i n cap, c)
          | none => some (.sl c.es.length s i n cap, c.push (.whole k) { b with lock := false }))
        else some (.sl c.es.length s 0 n cap, c.push (.win k s i n) (winBlk b s i n))
      | none => none
    | .vp k 0 => match entIx k c.es 0 with
      | some j => some (.vp j 0, c)
      | none => match h k with
        | some b => bif b.dead || !b.rw || !Nat.beq b.n 1 then none else
            match canL d h true (b.row 0) (c.push (.whole k) { b with lock := false }) with
            | some (l, c') => some (.vp c.es.length 0, c'.setRow c.es.length l)
            | none => none
        | none => none
    | .fn f [] => some (.fn f [], c)
    | _ => none
def canL : Nat → Heap → Bool → List SV → Can → Option (List SV × Can)
  | 0, _, _, _, _ => none
  | d + 1, h, deep, xs, c => match xs with
    | [] => some ([], c)
    | x :: rest => match canS d h deep x c with
      | some (y, c') => match canL d h deep rest c' with
        | some (l, c'') => some (y :: l, c'')
        | none => none
      | none => none
end

/-- A contract's name, turned back. -/
inductive Back where
  | win (k i : Nat)
  | whole (k : Nat)
  | no

def backOf (es : List Ent) (base j : Nat) : Back :=
  match es[j]? with
  | some (.win k _ i _) => .win k i
  | some (.whole k) => .whole k
  | none => bif Nat.ble 1000 j && Nat.blt j 1008 then .whole (base + (j - 1000)) else .no

mutual
def decS (es : List Ent) (base : Nat) : SV → SV
  | .unk => .unk
  | .v x => .v x
  | .vp j x => match backOf es base j with | .whole k => .vp k x | _ => .unk
  | .ptr j i x => match backOf es base j with | .whole k => .ptr k i x | .win k i0 => .ptr k (i0 + i) x | .no => .unk
  | .sl j s i n c => match backOf es base j with | .whole k => .sl k s i n c | .win k i0 => .sl k s (i0 + i) n c | .no => .unk
  | .ap j m l => match backOf es base j with | .whole k => .ap k m l | _ => .unk
  | .fn f cs => .fn f (decL es base cs)
  | .agg cs => .agg (decL es base cs)
  | .tup cs => .tup (decL es base cs)
def decL (es : List Ent) (base : Nat) : List SV → List SV
  | [] => []
  | x :: xs => decS es base x :: decL es base xs
end

def decB (es : List Ent) (base : Nat) (b : Blk) : Blk := { b with row := match b.flat with | true => b.row | false => fun i => decL es base (b.row i) }

def decU (es : List Ent) (base : Nat) : List (Nat × Blk) → List (Nat × Blk)
  | [] => []
  | (j, b) :: rest => match backOf es base j with
    | .whole k => (k, decB es base b) :: decU es base rest
    | _ => decU es base rest

def decE (es : List Ent) (base : Nat) : Eff → Eff
  | .det p x u => .det p (decS es base x) (decU es base u)
  | .nd p C c0 x u => .nd p C c0 (fun c => decS es base (x c)) (fun c => decU es base (u c))

def isWhole (k : Nat) : Ent → Bool
  | .whole k' => Nat.beq k k'
  | .win k' _ _ _ => Nat.beq k k'

/-- No block is named twice where it may be written. -/
def entsOk (h : Heap) : List Ent → Bool
  | [] => true
  | .whole k :: rest => rest.all (fun e => !isWhole k e) && entsOk h rest
  | .win k _ _ _ :: rest => rest.all (fun e => match e with | .whole k' => !Nat.beq k k' | .win _ _ _ _ => true) && entsOk h rest

def freshOk (h : Heap) (base : Nat) : Nat → Bool
  | 0 => true
  | n + 1 => (h (base + n)).isNone && freshOk h base n

def hpCtr (w : Bool) (spec : List SV → List Blk → Option Eff) : Ctr :=
  { writes := w, run := fun args h base => match canL 400 h false args ⟨[], []⟩ with
      | some (l, c) => bif entsOk h c.es && freshOk h base 8 && Nat.ble c.es.length 1000 then match spec l c.bs with
        | some e => some (decE c.es base e)
        | none => none
        else none
      | none => none }

def heapOf (bs : List Blk) : Heap := fun k => bs[k]?

/-! ### what a call comes to -/
/-- The names that are written: all that may be, and new ones. -/
def namesFin (bs : List Blk) : List (Nat × Blk) → Bool
  | [] => true
  | (k, p) :: rest => (match bs[k]? with | some b => b.rw && !b.dead | none => Nat.ble 1000 k && Nat.blt k 1008 && p.rw && !p.dead) && namesFin bs rest

def allFin (u : List (Nat × Blk)) : List Blk → Nat → Bool
  | [], _ => true
  | b :: rest, j => (!b.rw || b.dead || inNames j u) && allFin u rest (j + 1)

def finOk (bs : List Blk) (u : List (Nat × Blk)) : Bool := namesFin bs u && allFin u bs 0

def HpSpec (P : Program) (f : FuncId) (spec : List SV → List Blk → Option Eff) : Prop :=
  ∀ args bs e, spec args bs = some e → e.asks → ∀ δ w vals, absL δ args vals → HRep δ (heapOf bs) w → (∀ k, heapOf bs k = none → δ k = none) → bs.length ≤ 1000 →
    Calls P f vals.toArray w fun ed w' => ∃ r x u δ', ed = .returned r ∧ EffOut e x u ∧ finOk bs u = true ∧ absV δ' x r ∧ Upd δ (heapOf bs) w δ' u w'

/-- How a call ends, at the value r. -/
def endOf (b : Bool) (r : Value) : Ending := match b with
  | true => .panicked [{ v := r, recovered := false }]
  | false => .returned r

/-- The same of a function that may panic ('stop': does it?). -/
def HpSpecS (P : Program) (f : FuncId) (spec : List SV → List Blk → Option Eff) (stop : List SV → List Blk → Bool) : Prop :=
  ∀ args bs e, spec args bs = some e → e.asks → ∀ δ w vals, absL δ args vals → HRep δ (heapOf bs) w → (∀ k, heapOf bs k = none → δ k = none) → bs.length ≤ 1000 →
    Calls P f vals.toArray w fun ed w' => ∃ r x u δ', ed = endOf (stop args bs) r ∧ EffOut e x u ∧ finOk bs u = true ∧ absV δ' x r ∧ Upd δ (heapOf bs) w δ' u w'

def hpCtrS (w : Bool) (spec : List SV → List Blk → Option Eff) (stop : List SV → List Blk → Bool) : Ctr :=
  { writes := w
    stops := true
    run := fun args h base => match canL 400 h false args ⟨[], []⟩ with
      | some (l, c) => bif entsOk h c.es && freshOk h base 8 && Nat.ble c.es.length 1000 then match spec l c.bs with
        | some e => some (decE c.es base e)
        | none => none
        else none
      | none => none
    stop := fun args h => match canL 400 h false args ⟨[], []⟩ with
      | some (l, c) => stop l c.bs
      | none => false }

def addCur (j s : Nat) (y : SV) (m : List (Nat × Cur)) : List (Nat × Cur) :=
  match curOf m j with
  | some _ => m
  | none => match nameOf y with
    | some k => m ++ [(j, .at k)]
    | none => m ++ [(j, .nil s)]

mutual
/-- Names of new values: what a result's new names stand for. -/
def uniS : SV → SV → List (Nat × Cur) → List (Nat × Cur)
  | .sl j s _ _ _, y, m => bif Nat.ble 1000 j then addCur j s y m else m
  | .vp j _, y, m => bif Nat.ble 1000 j then addCur j 0 y m else m
  | .ptr j _ _, y, m => bif Nat.ble 1000 j then addCur j 0 y m else m
  | .ap j s _, y, m => bif Nat.ble 1000 j then addCur j s y m else m
  | .agg xs, .agg ys, m => uniL xs ys m
  | .tup xs, .tup ys, m => uniL xs ys m
  | .fn _ xs, .fn _ ys, m => uniL xs ys m
  | _, _, m => m
def uniL : List SV → List SV → List (Nat × Cur) → List (Nat × Cur)
  | x :: xs, y :: ys, m => uniL xs ys (uniS x y m)
  | _, _, m => m
end

def uniU (h' : Heap) : List (Nat × Blk) → List (Nat × Cur) → List (Nat × Cur)
  | [], m => m
  | (k, p) :: rest, m => match p.dead, p.flat with
    | false, false => match (match Nat.ble 1000 k with
        | false => some k
        | true => match curOf m k with
          | some (.at k') => some k'
          | _ => none) with
      | some j => match h' j with
        | some b => uniU h' rest (uniL (p.row 0) (b.row 0) m)
        | none => uniU h' rest m
      | none => uniU h' rest m
    | _, _ => uniU h' rest m

def finBlks (m : List (Nat × Cur)) (h h' : Heap) : List (Nat × Blk) → Prop
  | [] => True
  | (k, p) :: rest => match p.dead with
    | true => finBlks m h h' rest
    | false => match curOf m k with
      | some (.at k') => match h' k' with
        | some b => match rest with
          | [] => blkEq m h b p
          | _ => blkEq m h b p ∧ finBlks m h h' rest
        | none => False
      | some (.nil sz) => (p.n = 0 ∧ p.ext = 0 ∧ reqP (Nat.beq sz p.size) True) ∧ finBlks m h h' rest
      | none => reqP (Nat.blt k 1000) (match h' k with
        | some b => match rest with
          | [] => blkEq m h b p
          | _ => blkEq m h b p ∧ finBlks m h h' rest
        | none => False)

def curNames (u : List (Nat × Blk)) : List (Nat × Cur) → Bool
  | [] => true
  | (j, _) :: rest => inNames j u && Nat.ble 1000 j && curNames u rest

def fin (bs : List Blk) (x : SV) (u : List (Nat × Blk)) (y : SV) (h' : Heap) : Prop :=
  let m := uniU h' u (uniS x y [])
  reqP (finOk bs u && cursOk (heapOf bs) [] m && curNames u m) (mtS m (heapOf bs) x y ∧ finBlks m (heapOf bs) h' u)

def FinE (bs : List Blk) (e : Eff) (y : SV) (h' : Heap) : Prop :=
  match e with
  | .det _ x u => fin bs x u y h'
  | .nd _ C _ x u => ∃ c : C, fin bs (x c) (u c) y h'

/-- Blocks with the same rows, as far as they go. -/
structure BlkSame (a b : Blk) : Prop where
  size : a.size = b.size
  rw : a.rw = b.rw
  flat : a.flat = b.flat
  n : a.n = b.n
  ext : a.ext = b.ext
  dead : a.dead = b.dead
  elem : a.elem = b.elem
  whole : a.whole = b.whole
  row : ∀ i, i < a.n → a.row i = b.row i

def blksSame : List Blk → List Blk → Prop
  | [], [] => True
  | a :: as, b :: bs => BlkSame a b ∧ blksSame as bs
  | _, _ => False

theorem BlkSame.refl (b : Blk) : BlkSame b b := ⟨rfl, rfl, rfl, rfl, rfl, rfl, rfl, rfl, fun _ _ => rfl⟩
theorem BlkSame.symm {a b : Blk} (h : BlkSame a b) : BlkSame b a := ⟨h.size.symm, h.rw.symm, h.flat.symm, h.n.symm, h.ext.symm, h.dead.symm, h.elem.symm, h.whole.symm, fun i hi => (h.row i (by rw [h.n]; exact hi)).symm⟩
theorem blksSame_refl : ∀ bs : List Blk, blksSame bs bs
  | [] => trivial
  | b :: bs => ⟨BlkSame.refl b, blksSame_refl bs⟩
theorem blksSame_symm : ∀ {as bs : List Blk}, blksSame as bs → blksSame bs as
  | [], [], _ => trivial
  | _ :: _, _ :: _, h => ⟨h.1.symm, blksSame_symm h.2⟩
  | [], _ :: _, h => h.elim
  | _ :: _, [], h => h.elim
theorem blksSame_len : ∀ {as bs : List Blk}, blksSame as bs → as.length = bs.length
  | [], [], _ => rfl
  | _ :: _, _ :: _, h => by simp [blksSame_len h.2]
  | [], _ :: _, h => h.elim
  | _ :: _, [], h => h.elim
theorem blksSame_get : ∀ {as bs : List Blk}, blksSame as bs → ∀ (k : Nat), (as[k]? = none ∧ bs[k]? = none) ∨ ∃ a b, as[k]? = some a ∧ bs[k]? = some b ∧ BlkSame a b
  | [], [], _, k => .inl ⟨by simp, by simp⟩
  | a :: as, b :: bs, h, 0 => .inr ⟨a, b, by simp, by simp, h.1⟩
  | a :: as, b :: bs, h, k + 1 => by simpa using blksSame_get h.2 k
  | [], _ :: _, h, _ => h.elim
  | _ :: _, [], h, _ => h.elim

theorem Live.same {δ : Dict} {a b : Blk} {w : World} {p : Loc} (h : BlkSame a b) (hl : Live δ a w p) : Live δ b w p := by
  refine ⟨hl.s.trans h.size, hl.n.trans h.n, fun hno => by rw [← h.n, ← h.ext]; exact hl.no hno, fun hno => ?_⟩
  obtain ⟨c, e, fz, c1, c2, c3, c4, c5, c6, c7⟩ := hl.rep hno
  refine ⟨c, e, fz, c1, fun hh => c2 (h.rw.trans hh), fun hh i hi => ?_, fun hh => ?_, ?_, fun hh => ?_, fun i hi => ?_⟩
  · rw [← h.row i (by rw [h.n]; exact hi)]; exact c3 (h.flat.trans hh) i (by rw [h.n]; exact hi)
  · rw [← h.elem]; exact c4 (by rw [h.elem]; exact hh)
  · rw [← h.ext, ← h.size]; exact c5
  · rw [← h.size]; exact c6 (h.whole.trans hh)
  · rw [← h.row i (by rw [h.n]; exact hi), ← h.size]; exact c7 i (by rw [h.n]; exact hi)

theorem heapOf_same {as bs : List Blk} {δ : Dict} {w : World} (h : blksSame as bs) (hr : HRep δ (heapOf as) w) : HRep δ (heapOf bs) w := by
  have hl : ∀ k r, lies δ (heapOf bs) k r → lies δ (heapOf as) k r := fun k r ⟨b, p, h1, h2, h3⟩ => by
    rcases blksSame_get h k with ⟨_, g⟩ | ⟨a, b', g1, g2, g3⟩
    · unfold heapOf at h1; rw [g] at h1; cases h1
    · unfold heapOf at h1; rw [g2] at h1; cases h1
      exact ⟨a, p, g1, g3.dead.trans h2, h3⟩
  refine ⟨fun k b hk => ?_, fun k k' r b h1 h2 hk hb => ?_⟩
  · rcases blksSame_get h k with ⟨_, g⟩ | ⟨a, b', g1, g2, g3⟩
    · unfold heapOf at hk; rw [g] at hk; cases hk
    · unfold heapOf at hk; rw [g2] at hk; cases hk
      obtain ⟨p, d1, d2⟩ := hr.blk k a g1
      exact ⟨p, d1, fun hd => (d2 (g3.dead.trans hd)).same g3⟩
  · rcases blksSame_get h k with ⟨_, g⟩ | ⟨a, b', g1, g2, g3⟩
    · unfold heapOf at hk; rw [g] at hk; cases hk
    · unfold heapOf at hk; rw [g2] at hk; cases hk
      exact hr.inj k k' r a (hl _ _ h1) (hl _ _ h2) g1 (g3.rw.trans hb)

theorem heapOf_none {as bs : List Blk} (h : blksSame as bs) (k : Nat) (hk : heapOf bs k = none) : heapOf as k = none := by
  rcases blksSame_get h k with ⟨g, _⟩ | ⟨a, b', g1, g2, _⟩
  · exact g
  · unfold heapOf at hk; rw [g2] at hk; cases hk

theorem namesFin_spec {bs : List Blk} : ∀ {u : List (Nat × Blk)}, namesFin bs u = true → ∀ (k : Nat) (p : Blk), (k, p) ∈ u → (∃ b, bs[k]? = some b ∧ b.rw = true ∧ b.dead = false) ∨ (bs[k]? = none ∧ 1000 ≤ k ∧ k < 1008 ∧ p.rw = true ∧ p.dead = false)
  | [], _, k, p, h => by cases h
  | (k', p') :: u, ho, k, p, h => by
    simp only [namesFin, Bool.and_eq_true] at ho
    rcases List.mem_cons.1 h with e | h
    · have e1 : k = k' := congrArg Prod.fst e
      have e2 : p = p' := congrArg Prod.snd e
      subst e1
      subst e2
      have h1 := ho.1
      cases hb : bs[k]? with
      | some b =>
        rw [hb] at h1
        simp only [Bool.and_eq_true, Bool.not_eq_true'] at h1
        exact .inl ⟨b, rfl, h1.1, h1.2⟩
      | none =>
        rw [hb] at h1
        simp only [Bool.and_eq_true, Bool.not_eq_true'] at h1
        exact .inr ⟨rfl, Nat.le_of_ble_eq_true h1.1.1.1, Nat.le_of_ble_eq_true h1.1.1.2, h1.1.2, h1.2⟩
    · exact namesFin_spec ho.2 k p h

theorem allFin_spec {u : List (Nat × Blk)} : ∀ {bs : List Blk} {j : Nat}, allFin u bs j = true → ∀ (k : Nat) (b : Blk), bs[k]? = some b → b.rw = true → b.dead = false → inNames (j + k) u = true
  | [], _, _, k, b, h, _, _ => by simp at h
  | b' :: bs, j, ho, 0, b, h, h1, h2 => by
    simp at h
    subst h
    simp only [allFin, Bool.and_eq_true, Bool.or_eq_true, Bool.not_eq_true'] at ho
    rcases ho.1 with (g | g) | g
    · rw [h1] at g; cases g
    · rw [h2] at g; cases g
    · exact g
  | b' :: bs, j, ho, k + 1, b, h, h1, h2 => by
    simp at h
    simp only [allFin, Bool.and_eq_true] at ho
    have := allFin_spec ho.2 k b h h1 h2
    rw [show j + (k + 1) = j + 1 + k by omega]
    exact this

theorem finBlks_spec {m : List (Nat × Cur)} {h h' : Heap} : ∀ {u : List (Nat × Blk)}, finBlks m h h' u → ∀ k p, (k, p) ∈ u → p.dead = false →
    (∃ k' b, curOf m k = some (.at k') ∧ h' k' = some b ∧ BlkFits m h b p) ∨ (∃ sz, curOf m k = some (.nil sz) ∧ p.n = 0 ∧ p.ext = 0 ∧ sz = p.size) ∨ (∃ b, curOf m k = none ∧ k < 1000 ∧ h' k = some b ∧ BlkFits m h b p)
  | [], _, k, p, hm, _ => by cases hm
  | (k', p') :: rest, he, k, p, hm, hd => by
    simp only [finBlks] at he
    cases hpd : p'.dead with
    | true =>
      rw [hpd] at he
      rcases List.mem_cons.1 hm with e | hm
      · cases e; rw [hd] at hpd; cases hpd
      · exact finBlks_spec he k p hm hd
    | false =>
      rw [hpd] at he
      simp only at he
      have both : ((∃ k'' b, curOf m k' = some (.at k'') ∧ h' k'' = some b ∧ BlkFits m h b p') ∨ (∃ sz, curOf m k' = some (.nil sz) ∧ p'.n = 0 ∧ p'.ext = 0 ∧ sz = p'.size) ∨ (∃ b, curOf m k' = none ∧ k' < 1000 ∧ h' k' = some b ∧ BlkFits m h b p')) ∧ finBlks m h h' rest := by
        cases hc : curOf m k' with
        | none =>
          rw [hc] at he
          simp only [reqP_iff] at he
          obtain ⟨hlt, he⟩ := he
          have hlt : k' < 1000 := Nat.le_of_ble_eq_true hlt
          cases hs : h' k' with
          | none => rw [hs] at he; exact he.elim
          | some b =>
            rw [hs] at he
            cases rest with
            | nil => exact ⟨.inr (.inr ⟨b, rfl, hlt, rfl, blkEq_spec he⟩), trivial⟩
            | cons q rest => exact ⟨.inr (.inr ⟨b, rfl, hlt, rfl, blkEq_spec he.1⟩), he.2⟩
        | some cu =>
          rw [hc] at he
          cases cu with
          | «at» k'' =>
            simp only at he
            cases hs : h' k'' with
            | none => rw [hs] at he; exact he.elim
            | some b =>
              rw [hs] at he
              cases rest with
              | nil => exact ⟨.inl ⟨k'', b, rfl, hs, blkEq_spec he⟩, trivial⟩
              | cons q rest => exact ⟨.inl ⟨k'', b, rfl, hs, blkEq_spec he.1⟩, he.2⟩
          | nil sz =>
            simp only [reqP_iff] at he
            exact ⟨.inr (.inl ⟨sz, rfl, he.1.1, he.1.2.1, Nat.eq_of_beq_eq_true he.1.2.2.1⟩), he.2⟩
      rcases List.mem_cons.1 hm with e | hm
      · cases e; exact both.1
      · exact finBlks_spec both.2 k p hm hd

theorem curNames_spec {u : List (Nat × Blk)} : ∀ {m : List (Nat × Cur)}, curNames u m = true → ∀ k, curOf m k ≠ none → inNames k u = true ∧ 1000 ≤ k
  | [], _, k, h => absurd rfl h
  | (j, c) :: m, ho, k, h => by
    simp only [curNames, Bool.and_eq_true] at ho
    simp only [curOf] at h
    cases hb : Nat.beq k j with
    | true =>
      rw [Nat.eq_of_beq_eq_true hb]
      exact ⟨ho.1.1, Nat.le_of_ble_eq_true ho.1.2⟩
    | false => rw [hb, cond_false] at h; exact curNames_spec ho.2 k h

/-- A block that fits, seen with other names. -/
theorem fits_live {m : List (Nat × Cur)} {h : Heap} {δ' δ'' : Dict} (hat : ∀ N k, curOf m N = some (.at k) → ∀ p, δ' k = some p → δ'' N = some p) (hnil : ∀ N sz, curOf m N = some (.nil sz) → δ'' N = some ⟨0, sz, 0, 0, true⟩)
    (hold : ∀ k, curOf m k = none → (h k).isSome = true → ∀ p, δ' k = some p → δ'' k = some p) {b p : Blk} {q : Loc} {w' : World} (hf : BlkFits m h b p) (hl : Live δ' b w' q) : Live δ'' p w' q := by
  refine ⟨hl.s.trans hf.size, hl.n.trans hf.n, fun hno => ?_, fun hno => ?_⟩
  · have := hl.no hno
    have h1 := hf.n
    have h2 := hf.ext
    omega
  · obtain ⟨c, e, fz, c1, c2, c3, c4, c5, c6, c7⟩ := hl.rep hno
    have hrows : ∀ i, i < p.n → ∀ (rs : List Value), absL δ' (b.row i) rs → absL δ'' (p.row i) rs := fun i hi rs hrs => by
      rcases hf.row i hi with ⟨g1, g2⟩ | ⟨_, g1⟩
      · rw [← g2]
        exact absL_nameless _ _ (c3 (hf.flat g1) i (by rw [hf.n]; exact hi)) hrs
      · exact mtL_abs hat hnil hold _ _ _ g1 hrs
    refine ⟨c, e, fz, c1, fun h => c2 (hf.rw.trans h), fun h i hi => ?_, fun h => ?_, ?_, fun h => ?_, fun i hi => ?_⟩
    · rcases hf.row i hi with ⟨g1, g2⟩ | ⟨g1, _⟩
      · rw [← g2]; exact c3 (hf.flat h) i (by rw [hf.n]; exact hi)
      · rw [h] at g1; cases g1
    · rw [← hf.elem h]; exact c4 (by rw [hf.elem h]; exact h)
    · rw [← hf.size]
      have := Nat.mul_le_mul_right b.size hf.ext
      omega
    · rw [← hf.size]; exact c6 (hf.whole h)
    · obtain ⟨d1, d2⟩ := c7 i (by rw [hf.n]; exact hi)
      obtain ⟨xs, e1, e2⟩ := exists_list (δ := δ') (c := c) (b.row i) (q.o + i * b.size) (fun j y hy => d2 j y hy)
      have e3 := hrows i hi xs e1
      have hlen' := absL_length e1
      have hlen'' := absL_length e3
      rw [hf.size] at d1 e2
      refine ⟨by omega, fun j y hy => ?_⟩
      obtain ⟨r, f1, f2⟩ := absL_get e3 hy
      exact ⟨r, e2 j r f1, f2⟩

section
variable {P : Program} {Γ : Ctrs}

theorem fin_upd {bs : List Blk} {δ δ' : Dict} {h' : Heap} {w w' : World} {x y : SV} {u : List (Nat × Blk)} {r : Value} (hr : HRep δ (heapOf bs) w) (ht : ∀ k, heapOf bs k = none → δ k = none) (hlen : bs.length ≤ 1000) (hf : fin bs x u y h') (hy : absV δ' y r) (hr' : HRep δ' h' w') (hle : δ.le δ')
    (hw : WRel (rwOf δ (heapOf bs)) w w') (hmine : ∀ q, rwOf δ' h' q → w.heap.size ≤ q ∨ rwOf δ (heapOf bs) q) : finOk bs u = true ∧ ∃ δ'', absV δ'' x r ∧ Upd δ (heapOf bs) w δ'' u w' := by
  unfold fin at hf
  simp only [reqP_iff, Bool.and_eq_true] at hf
  obtain ⟨⟨⟨hfo, hco⟩, hcn⟩, hmx, hfb⟩ := hf
  generalize uniU h' u (uniS x y []) = m at hco hcn hmx hfb
  refine ⟨hfo, ?_⟩
  unfold finOk at hfo
  rw [Bool.and_eq_true] at hfo
  obtain ⟨hco1, hco2⟩ := cursOk_spec hco
  have hnew : ∀ k, curOf m k ≠ none → heapOf bs k = none ∧ inNames k u = true := fun k hk => by
    obtain ⟨h1, h2⟩ := curNames_spec hcn k hk
    refine ⟨?_, h1⟩
    unfold heapOf
    rw [List.getElem?_eq_none]
    omega
  have hold0 : ∀ k, heapOf bs k ≠ none → curOf m k = none := fun k hk => by
    cases hc : curOf m k with
    | none => rfl
    | some c => exact absurd (hnew k (by rw [hc]; simp)).1 hk
  let δ'' : Dict := fun k => match curOf m k with
    | some (.at k') => δ' k'
    | some (.nil sz) => some ⟨0, sz, 0, 0, true⟩
    | none => δ k
  have dat : ∀ N k, curOf m N = some (.at k) → δ'' N = δ' k := fun N k h => by simp only [δ'', h]
  have dnil : ∀ N sz, curOf m N = some (.nil sz) → δ'' N = some ⟨0, sz, 0, 0, true⟩ := fun N sz h => by simp only [δ'', h]
  have dold : ∀ k, curOf m k = none → δ'' k = δ k := fun k h => by simp only [δ'', h]
  have hdom : ∀ k, heapOf bs k ≠ none → ∃ p, δ k = some p := fun k hk => by
    cases hh : heapOf bs k with
    | none => exact absurd hh hk
    | some b => obtain ⟨p, h1, _⟩ := hr.blk k b hh; exact ⟨p, h1⟩
  have dsame : ∀ k, heapOf bs k ≠ none → ∀ p, δ' k = some p → δ k = some p := fun k hk p hp => by
    obtain ⟨q, h0⟩ := hdom k hk
    have := hle _ _ h0; rw [hp] at this; cases this; exact h0
  have hle'' : δ.le δ'' := fun k p hp => by
    have : heapOf bs k ≠ none := fun e => by rw [ht k e] at hp; cases hp
    rw [dold k (hold0 k this)]; exact hp
  have hat : ∀ N k, curOf m N = some (.at k) → ∀ p, δ' k = some p → δ'' N = some p := fun N k h p hp => by rw [dat N k h, hp]
  have hold : ∀ k, curOf m k = none → (heapOf bs k).isSome = true → ∀ p, δ' k = some p → δ'' k = some p := fun k h hh p hp => by
    rw [dold k h]
    exact dsame k (by intro e; rw [e] at hh; cases hh) p hp
  -- a block that is written
  have orig : ∀ k p, (k, p) ∈ u → ∃ q, δ'' k = some q ∧ (p.dead = false → Live δ'' p w' q ∧ (q.no = false → ∃ k' b, h' k' = some b ∧ b.dead = false ∧ b.rw = p.rw ∧ δ' k' = some q ∧ (curOf m k = some (.at k') ∨ (curOf m k = none ∧ k' = k ∧ heapOf bs k ≠ none)))) := fun k p hp => by
    have holdOr := namesFin_spec hfo.1 k p hp
    cases hd : p.dead with
    | true =>
      rcases holdOr with ⟨b, h1, _⟩ | ⟨_, _, _, _, h2⟩
      · obtain ⟨q, hq⟩ := hdom k (by unfold heapOf; rw [h1]; simp)
        exact ⟨q, hle'' _ _ hq, fun hh => (by cases hh)⟩
      · rw [hd] at h2; cases h2
    | false =>
      rcases finBlks_spec hfb k p hp hd with ⟨k', b, g1, g2, g3⟩ | ⟨sz, g1, g2, g3, g4⟩ | ⟨b, g1, g0, g2, g3⟩
      · obtain ⟨q, d1, d2⟩ := hr'.blk k' b g2
        exact ⟨q, (dat k k' g1).trans d1, fun _ => ⟨fits_live hat dnil hold g3 (d2 g3.dead), fun _ => ⟨k', b, g2, g3.dead, g3.rw, d1, .inl g1⟩⟩⟩
      · subst g4
        exact ⟨_, dnil k _ g1, fun _ => ⟨⟨rfl, g2.symm, fun _ => ⟨g2, g3⟩, fun hh => (by cases hh)⟩, fun hh => (by cases hh)⟩⟩
      · have hk : heapOf bs k ≠ none := by
          rcases holdOr with ⟨b, h1, _⟩ | ⟨_, h1, _⟩
          · unfold heapOf; rw [h1]; simp
          · omega
        obtain ⟨q, d1, d2⟩ := hr'.blk k b g2
        exact ⟨q, (dold k g1).trans (dsame k hk q d1), fun _ => ⟨fits_live hat dnil hold g3 (d2 g3.dead), fun _ => ⟨k, b, g2, g3.dead, g3.rw, d1, .inr ⟨g1, rfl, hk⟩⟩⟩⟩
  -- what is not written may not be
  have ro : ∀ k b, inNames k u = false → heapOf bs k = some b → b.dead = false → b.rw = false := fun k b hi hk hd => by
    cases hb : b.rw with
    | false => rfl
    | true =>
      have := allFin_spec hfo.2 k b hk hb hd
      rw [Nat.zero_add, hi] at this; cases this
  -- a name behind
  have cls : ∀ k r, lies δ'' (happ (heapOf bs) u) k r → (∃ k' b p, (k, p) ∈ u ∧ happ (heapOf bs) u k = some p ∧ h' k' = some b ∧ b.rw = p.rw ∧ lies δ' h' k' r ∧ (curOf m k = some (.at k') ∨ (curOf m k = none ∧ k' = k ∧ heapOf bs k ≠ none))) ∨ (inNames k u = false ∧ lies δ (heapOf bs) k r) := fun k r ⟨p, q, h1, h2, h3, h4, h5⟩ => by
    cases hi : inNames k u with
    | true =>
      obtain ⟨p', g1, g2⟩ := happ_mem u (heapOf bs) hi
      rw [h1] at g2; cases g2
      obtain ⟨q', d1, d2⟩ := orig k p g1
      rw [h3] at d1; cases d1
      obtain ⟨k', b, e1, e2, e3, e4, e5⟩ := (d2 h2).2 h4
      exact .inl ⟨k', b, p, g1, h1, e1, e3, ⟨b, q, e1, e2, e4, h4, h5⟩, e5⟩
    | false =>
      rw [happ_other u _ hi] at h1
      have hk : heapOf bs k ≠ none := by rw [h1]; simp
      rw [dold k (hold0 k hk)] at h3
      exact .inr ⟨rfl, p, q, h1, h2, h3, h4, h5⟩
  refine ⟨δ'', mtS_abs hat dnil hold x y r hmx hy, hle'', ⟨fun k p hp => ?_, fun k1 k2 r p hl1 hl2 hp hrw => ?_⟩, fun k h0 h1 => ?_, fun k q h0 h1 hno => ?_, hw⟩
  · cases hi : inNames k u with
    | true =>
      obtain ⟨p', g1, g2⟩ := happ_mem u (heapOf bs) hi
      rw [hp] at g2; cases g2
      obtain ⟨q, d1, d2⟩ := orig k p g1
      exact ⟨q, d1, fun hd => (d2 hd).1⟩
    | false =>
      rw [happ_other u _ hi] at hp
      obtain ⟨q, d1, d2⟩ := hr.blk k p hp
      refine ⟨q, hle'' _ _ d1, fun hd => (d2 hd).mono hle'' fun hno => hw.block q.r (blkRep_lt ((d2 hd).rep hno)) ?_⟩
      rintro ⟨k0, b0, e1, e2, e3⟩
      have := hr.inj k0 k q.r b0 e3 ⟨p, q, hp, hd, d1, hno, rfl⟩ e1 e2
      subst this
      rw [hp] at e1; cases e1
      rw [ro k0 p hi hp hd] at e2; cases e2
  · rcases cls k1 r hl1 with ⟨k1', b1, p1, e1, e2, e3, e4, e5, e6⟩ | ⟨e1, e2⟩
    · have : p1 = p := by
        have h : some p1 = some p := e2.symm.trans hp
        cases h; rfl
      subst this
      rcases cls k2 r hl2 with ⟨k2', b2, p2, f1, f2, f3, f4, f5, f6⟩ | ⟨f1, f2⟩
      · have := hr'.inj k1' k2' r b1 e5 f5 e3 (e4.trans hrw)
        subst this
        rcases e6 with e6 | ⟨e6, rfl, e7⟩ <;> rcases f6 with f6 | ⟨f6, rfl, f7⟩
        · exact hco2 k1 k2 _ e6 f6
        · rcases hco1 k1 _ e6 with g | g
          · exact absurd g f7
          · cases g
        · rcases hco1 k2 _ f6 with g | g
          · exact absurd g e7
          · cases g
        · rfl
      · -- one that is written against one that is only read
        exfalso
        rcases hmine r ⟨k1', b1, e3, e4.trans hrw, e5⟩ with g | ⟨k0, b0, g1, g2, g3⟩
        · have := lies_lt hr f2; omega
        · have := hr.inj k0 k2 r b0 g3 f2 g1 g2
          subst this
          obtain ⟨b2, q2, h1, h2, _⟩ := f2
          rw [h1] at g1; cases g1
          rw [ro k0 _ f1 h1 h2] at g2; cases g2
    · exfalso
      rw [happ_other u _ e1] at hp
      obtain ⟨b2, q2, h1, h2, _⟩ := e2
      rw [hp] at h1; cases h1
      rw [ro k1 _ e1 hp h2] at hrw; cases hrw
  · cases hi : inNames k u with
    | true => rfl
    | false =>
      exfalso
      have hc : curOf m k = none := by
        cases hc : curOf m k with
        | none => rfl
        | some c => rw [(hnew k (by rw [hc]; simp)).2] at hi; cases hi
      rw [dold k hc] at h1
      exact h1 h0
  · have hc : curOf m k ≠ none := fun hc => by rw [dold k hc, h0] at h1; cases h1
    obtain ⟨_, hi⟩ := hnew k hc
    obtain ⟨p, g1, _⟩ := happ_mem u (heapOf bs) hi
    have hp : p.rw = true ∧ p.dead = false := by
      rcases namesFin_spec hfo.1 k p g1 with ⟨b, e1, _⟩ | ⟨_, _, _, e1, e2⟩
      · have : heapOf bs k = some b := e1
        rw [(hnew k hc).1] at this; cases this
      · exact ⟨e1, e2⟩
    obtain ⟨q', d1, d2⟩ := orig k p g1
    rw [h1] at d1; cases d1
    obtain ⟨k', b, e1, e2, e3, e4, _⟩ := (d2 hp.2).2 hno
    exact hmine q.r ⟨k', b, e1, e3.trans hp.1, b, q, e1, e2, e4, hno, rfl⟩

theorem hp_spec (hm : P.follows .mixedOrders = true) (hΓ : ∀ f g, Γ f = some g → g.ok P f) {f : FuncId} {fn : Func} (hf : P.funcs[f]? = some fn) {spec : List SV → List Blk → Option Eff} {Λ : List SV → List Blk → Nat → Option LoopSpec}
    (h : ∀ args bs e, spec args bs = some e → e.asks → ∃ bs', blksSame bs bs' ∧ vcFn P Γ (Λ args bs) fn args (heapOf bs') 64 (fun y h' => FinE bs' e y h')) : HpSpec P f spec := fun args bs e hs hp δ w vals ha hr ht hlen => by
  obtain ⟨bs', hsm, hvc⟩ := h args bs e hs hp
  have hr1 := heapOf_same hsm hr
  have ht1 : ∀ k, heapOf bs' k = none → δ k = none := fun k hk => ht k (heapOf_none hsm k hk)
  refine (fn_calls hm hΓ hf ha hr1 ht1 hvc).mono fun ed w' ⟨r, y, δ', h', h1, h2, h3, h4, h5, h6, h7⟩ => ?_
  obtain ⟨x, u, hout, hfin⟩ : ∃ x u, EffOut e x u ∧ fin bs' x u y h' := by
    cases e with
    | det p x u => exact ⟨x, u, ⟨rfl, rfl⟩, h2⟩
    | nd p C c0 x u => obtain ⟨c, hc⟩ := h2; exact ⟨x c, u c, ⟨c, rfl, rfl⟩, hc⟩
  obtain ⟨g1, δ'', g2, g3⟩ := fin_upd hr1 ht1 (by rw [← blksSame_len hsm]; exact hlen) hfin h3 h4 h5 h6 h7
  refine ⟨r, x, u, δ'', h1, hout, ?_, g2, ?_⟩
  · -- the same names
    unfold finOk at g1 ⊢
    rw [Bool.and_eq_true] at g1 ⊢
    constructor
    · have : ∀ u : List (Nat × Blk), namesFin bs' u = namesFin bs u := by
        intro u
        induction u with
        | nil => rfl
        | cons q u ih =>
          obtain ⟨k, p⟩ := q
          simp only [namesFin, ih]
          rcases blksSame_get hsm k with ⟨e1, e2⟩ | ⟨a, b, e1, e2, e3⟩
          · rw [e1, e2]
          · rw [e1, e2]; simp only [e3.rw, e3.dead]
      rw [← this]; exact g1.1
    · have : ∀ (as bs : List Blk) j, blksSame as bs → allFin u as j = allFin u bs j := by
        intro as
        induction as with
        | nil => intro bs j h; cases bs with | nil => rfl | cons _ _ => exact h.elim
        | cons a as ih =>
          intro bs j h
          cases bs with
          | nil => exact h.elim
          | cons b bs => simp only [allFin, h.1.rw, h.1.dead, ih bs (j + 1) h.2]
      rw [this bs bs' 0 hsm]; exact g1.2
  · -- the same effect
    have hrwOf : ∀ r, rwOf δ (heapOf bs') r → rwOf δ (heapOf bs) r := fun r ⟨k, b, e1, e2, b', p, e3, e4, e5⟩ => by
      rcases blksSame_get hsm k with ⟨_, g⟩ | ⟨a, b0, f1, f2, f3⟩
      · unfold heapOf at e1; rw [g] at e1; cases e1
      · unfold heapOf at e1 e3; rw [f2] at e1 e3; cases e1; cases e3
        exact ⟨k, a, f1, f3.rw.trans e2, a, p, f1, f3.dead.trans e4, e5⟩
    have hget : ∀ k, (happ (heapOf bs) u k = none ∧ happ (heapOf bs') u k = none) ∨ ∃ a b, happ (heapOf bs) u k = some a ∧ happ (heapOf bs') u k = some b ∧ BlkSame b a := fun k => by
      cases hi : inNames k u with
      | true =>
        rw [happ_same u (heapOf bs) (heapOf bs') hi]
        cases hh : happ (heapOf bs') u k with
        | none => exact .inl ⟨rfl, rfl⟩
        | some b => exact .inr ⟨b, b, rfl, rfl, BlkSame.refl b⟩
      | false =>
        rw [happ_other u _ hi, happ_other u _ hi]
        rcases blksSame_get hsm k with ⟨e1, e2⟩ | ⟨a, b, e1, e2, e3⟩
        · exact .inl ⟨e1, e2⟩
        · exact .inr ⟨a, b, e1, e2, e3.symm⟩
    have hlies : ∀ k r, lies δ'' (happ (heapOf bs) u) k r → lies δ'' (happ (heapOf bs') u) k r := fun k r ⟨b, p, e1, e2, e3⟩ => by
      rcases hget k with ⟨g, _⟩ | ⟨a, b', f1, f2, f3⟩
      · rw [g] at e1; cases e1
      · rw [f1] at e1; cases e1
        exact ⟨b', p, f2, f3.dead.trans e2, e3⟩
    refine ⟨g3.le, ⟨fun k b hk => ?_, fun k k' r b l1 l2 hk hb => ?_⟩, g3.fresh, fun k p e1 e2 e3 => (g3.place k p e1 e2 e3).imp id (hrwOf _), g3.wrel.mono fun r _ => hrwOf r⟩
    · rcases hget k with ⟨g, _⟩ | ⟨a, b', f1, f2, f3⟩
      · rw [g] at hk; cases hk
      · rw [f1] at hk; cases hk
        obtain ⟨p, d1, d2⟩ := g3.rep.blk k b' f2
        exact ⟨p, d1, fun hd => (d2 (f3.dead.trans hd)).same f3⟩
    · rcases hget k with ⟨g, _⟩ | ⟨a, b', f1, f2, f3⟩
      · rw [g] at hk; cases hk
      · rw [f1] at hk; cases hk
        exact g3.rep.inj k k' r b' (hlies _ _ l1) (hlies _ _ l2) f2 (f3.rw.trans hb)
/-- The same of a function that may panic. -/
theorem hp_specS (hm : P.follows .mixedOrders = true) (hΓ : ∀ f g, Γ f = some g → g.ok P f) {f : FuncId} {fn : Func} (hf : P.funcs[f]? = some fn) {spec : List SV → List Blk → Option Eff} {stop : List SV → List Blk → Bool} {Λ : List SV → List Blk → Nat → Option LoopSpec}
    (h : ∀ args bs e, spec args bs = some e → e.asks → ∃ bs', blksSame bs bs' ∧ vcFnP P Γ (Λ args bs) fn args (heapOf bs') 64 (fun y h' => stop args bs = false ∧ FinE bs' e y h') (fun y h' => stop args bs = true ∧ FinE bs' e y h')) : HpSpecS P f spec stop := fun args bs e hs hp δ w vals ha hr ht hlen => by
  obtain ⟨bs', hsm, hvc⟩ := h args bs e hs hp
  have hr1 := heapOf_same hsm hr
  have ht1 : ∀ k, heapOf bs' k = none → δ k = none := fun k hk => ht k (heapOf_none hsm k hk)
  refine (fn_callsP hm hΓ hf ha hr1 ht1 hvc).mono fun ed w' ⟨r, y, δ', h', h12, h3, h4, h5, h6, h7⟩ => ?_
  obtain ⟨h1, h2⟩ : ed = endOf (stop args bs) r ∧ FinE bs' e y h' := by
    rcases h12 with ⟨rfl, g1, g2⟩ | ⟨rfl, g1, g2⟩
    · rw [g1]; exact ⟨rfl, g2⟩
    · rw [g1]; exact ⟨rfl, g2⟩
  obtain ⟨x, u, hout, hfin⟩ : ∃ x u, EffOut e x u ∧ fin bs' x u y h' := by
    cases e with
    | det p x u => exact ⟨x, u, ⟨rfl, rfl⟩, h2⟩
    | nd p C c0 x u => obtain ⟨c, hc⟩ := h2; exact ⟨x c, u c, ⟨c, rfl, rfl⟩, hc⟩
  obtain ⟨g1, δ'', g2, g3⟩ := fin_upd hr1 ht1 (by rw [← blksSame_len hsm]; exact hlen) hfin h3 h4 h5 h6 h7
  refine ⟨r, x, u, δ'', h1, hout, ?_, g2, ?_⟩
  · -- the same names
    unfold finOk at g1 ⊢
    rw [Bool.and_eq_true] at g1 ⊢
    constructor
    · have : ∀ u : List (Nat × Blk), namesFin bs' u = namesFin bs u := by
        intro u
        induction u with
        | nil => rfl
        | cons q u ih =>
          obtain ⟨k, p⟩ := q
          simp only [namesFin, ih]
          rcases blksSame_get hsm k with ⟨e1, e2⟩ | ⟨a, b, e1, e2, e3⟩
          · rw [e1, e2]
          · rw [e1, e2]; simp only [e3.rw, e3.dead]
      rw [← this]; exact g1.1
    · have : ∀ (as bs : List Blk) j, blksSame as bs → allFin u as j = allFin u bs j := by
        intro as
        induction as with
        | nil => intro bs j h; cases bs with | nil => rfl | cons _ _ => exact h.elim
        | cons a as ih =>
          intro bs j h
          cases bs with
          | nil => exact h.elim
          | cons b bs => simp only [allFin, h.1.rw, h.1.dead, ih bs (j + 1) h.2]
      rw [this bs bs' 0 hsm]; exact g1.2
  · -- the same effect
    have hrwOf : ∀ r, rwOf δ (heapOf bs') r → rwOf δ (heapOf bs) r := fun r ⟨k, b, e1, e2, b', p, e3, e4, e5⟩ => by
      rcases blksSame_get hsm k with ⟨_, g⟩ | ⟨a, b0, f1, f2, f3⟩
      · unfold heapOf at e1; rw [g] at e1; cases e1
      · unfold heapOf at e1 e3; rw [f2] at e1 e3; cases e1; cases e3
        exact ⟨k, a, f1, f3.rw.trans e2, a, p, f1, f3.dead.trans e4, e5⟩
    have hget : ∀ k, (happ (heapOf bs) u k = none ∧ happ (heapOf bs') u k = none) ∨ ∃ a b, happ (heapOf bs) u k = some a ∧ happ (heapOf bs') u k = some b ∧ BlkSame b a := fun k => by
      cases hi : inNames k u with
      | true =>
        rw [happ_same u (heapOf bs) (heapOf bs') hi]
        cases hh : happ (heapOf bs') u k with
        | none => exact .inl ⟨rfl, rfl⟩
        | some b => exact .inr ⟨b, b, rfl, rfl, BlkSame.refl b⟩
      | false =>
        rw [happ_other u _ hi, happ_other u _ hi]
        rcases blksSame_get hsm k with ⟨e1, e2⟩ | ⟨a, b, e1, e2, e3⟩
        · exact .inl ⟨e1, e2⟩
        · exact .inr ⟨a, b, e1, e2, e3.symm⟩
    have hlies : ∀ k r, lies δ'' (happ (heapOf bs) u) k r → lies δ'' (happ (heapOf bs') u) k r := fun k r ⟨b, p, e1, e2, e3⟩ => by
      rcases hget k with ⟨g, _⟩ | ⟨a, b', f1, f2, f3⟩
      · rw [g] at e1; cases e1
      · rw [f1] at e1; cases e1
        exact ⟨b', p, f2, f3.dead.trans e2, e3⟩
    refine ⟨g3.le, ⟨fun k b hk => ?_, fun k k' r b l1 l2 hk hb => ?_⟩, g3.fresh, fun k p e1 e2 e3 => (g3.place k p e1 e2 e3).imp id (hrwOf _), g3.wrel.mono fun r _ => hrwOf r⟩
    · rcases hget k with ⟨g, _⟩ | ⟨a, b', f1, f2, f3⟩
      · rw [g] at hk; cases hk
      · rw [f1] at hk; cases hk
        obtain ⟨p, d1, d2⟩ := g3.rep.blk k b' f2
        exact ⟨p, d1, fun hd => (d2 (f3.dead.trans hd)).same f3⟩
    · rcases hget k with ⟨g, _⟩ | ⟨a, b', f1, f2, f3⟩
      · rw [g] at hk; cases hk
      · rw [f1] at hk; cases hk
        exact g3.rep.inj k k' r b' (hlies _ _ l1) (hlies _ _ l2) f2 (f3.rw.trans hb)
end
end Go.SE
