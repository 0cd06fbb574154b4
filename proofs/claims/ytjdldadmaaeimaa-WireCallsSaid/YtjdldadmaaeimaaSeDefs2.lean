/-
  A symbolic executor for Go functions: loops, ranges over a function, code: the definitions of their conditions.
-/
import Derived.Test.YtjdldadmaaeimaaSeIter
namespace Go.SE

/-- The blocks ks of h, as they lay. -/
def Keeps (δ : Dict) (h : Heap) (ks : List Nat) (w : World) : Prop := ∃ δ', δ.le δ' ∧ ∀ k, k ∈ ks → ∀ b p, h k = some b → δ k = some p → b.dead = false → Live δ' b w p

/-- What an iterator's code comes to: at these captured values, in this heap: a condition; how many items; the item of a round (as many values as loop variables); the blocks that it looks at. -/
def ItOk (P : Program) (g : FuncId) (run : List SV → Heap → Option (Prop × Nat × Nat × (Nat → List SV) × List Nat)) : Prop :=
  ∀ caps h p N m item ks, run caps h = some (p, N, m, item, ks) → p → ∀ δ w lb, absL δ caps lb → HRep δ h w →
    (∀ args w, (callFunc g args).run P w = .ok (.enter g args) w) ∧ ∃ encs : Nat → Array Value, (∀ i, i < N → absL δ (item i) (encs i).toList ∧ (encs i).size = m) ∧ SeqIn P g lb.toArray encs N (Keeps δ h ks) w

structure It where
  P : Program
  f : FuncId
  run : List SV → Heap → Option (Prop × Nat × Nat × (Nat → List SV) × List Nat)
  ok : ItOk P f run

/-- No range over a function. -/
def noRF : Code → Bool
  | .rangeFunc _ _ _ _ => false
  | .seq a b => noRF a && noRF b
  | .cond _ a b => noRF a && noRF b
  | .block _ c => noRF c
  | .loop c => noRF c
  | .scope c => noRF c
  | _ => true

def putAll (l : List SV) : List Nat → List SV → List SV
  | t :: ts, x :: xs => putAll (l.set t x) ts xs
  | _, _ => l

/-- A loop: what holds at the head of a round. 'X': the round's letters; 'slots', 'blks': what turns; 'news': names that the head alone has, each with its block and a way to what holds the name that it has elsewhere; (there, that name is no more at the head); 'dead': slots that hold nothing that is read later. -/
structure LoopSpec where
  X : Type
  inv : X → Prop
  mu : X → Nat
  slots : List (Nat × (X → SV))
  blks : List (Nat × (X → Blk))
  dead : List Nat
  pr : List (Nat × (Nat → List Nat)) := []
  news : List (Nat × (X → Blk) × (St → SV)) := []
  it : Option It := none
  ix : X → Nat := fun _ => 0
  rel : Option (St → X → Prop) := none

/-- The loop, met in the state s: what holds at its head may speak of s. -/
def LoopSpec.at (s : St) (L : LoopSpec) : LoopSpec :=
  match L.rel with
  | none => L
  | some r => { L with inv := fun x => L.inv x ∧ r s x }
def atL (s : St) : Option LoopSpec → Option LoopSpec
  | none => none
  | some L => some (L.at s)

/-- The promises of region rid. -/
def prOf (Λ : Nat → Option LoopSpec) (rid : Nat) : List (Nat × (Nat → List Nat)) := match Λ (1000000 + rid) with
  | some L => L.pr
  | none => []

def setSlots (l : List SV) : List (Nat × SV) → List SV
  | [] => l
  | (t, x) :: rest => setSlots (l.set t x) rest

def killSlots (l : List SV) : List Nat → List SV
  | [] => l
  | t :: rest => killSlots (l.set t .unk) rest

def atX {X α : Type} (x : X) : List (Nat × (X → α)) → List (Nat × α)
  | [] => []
  | (k, f) :: rest => (k, f x) :: atX x rest

/-- The slots that a piece of code writes. -/
def dstsOps : List Oper → List Nat
  | [] => []
  | o :: rest => match o.dst with
    | some t => t :: dstsOps rest
    | none => dstsOps rest

def dsts : Code → List Nat
  | .region _ ops _ => dstsOps ops.toList
  | .seq a b => dsts a ++ dsts b
  | .cond _ a b => dsts a ++ dsts b
  | .block _ c => dsts c
  | .loop c => dsts c
  | .scope c => dsts c
  | _ => []

/-- Where a new name's value is found: under which name, or nil (of so many cells an element). -/
inductive Cur where
  | at (k : Nat)
  | nil (size : Nat)

def nameOf : SV → Option Nat
  | .sl k _ _ _ _ => some k
  | .vp k _ => some k
  | .ap k _ _ => some k
  | .ptr k _ _ => some k
  | _ => none

def atNews {X : Type} (x : X) : List (Nat × (X → Blk) × (St → SV)) → List (Nat × Blk)
  | [] => []
  | (k, f, _) :: rest => (k, f x) :: atNews x rest

def curs {X : Type} (s : St) (x : X) : List (Nat × (X → Blk) × (St → SV)) → List (Nat × Cur)
  | [] => []
  | (k, p, f) :: rest => (k, match nameOf (f s) with | some k' => .at k' | none => .nil (p x).size) :: curs s x rest

def curOf : List (Nat × Cur) → Nat → Option Cur
  | [], _ => none
  | (k', c) :: rest, k => bif Nat.beq k k' then some c else curOf rest k

def killsOf {X : Type} (s : St) : List (Nat × (X → Blk) × (St → SV)) → List Nat
  | [] => []
  | (_, _, f) :: rest => match nameOf (f s) with
    | some k => k :: killsOf s rest
    | none => killsOf s rest

def LoopSpec.kills (L : LoopSpec) (s : St) : List Nat := killsOf s L.news

def LoopSpec.head (L : LoopSpec) (s : St) (x : L.X) : St :=
  { s with
    tmps := setSlots (killSlots s.tmps (L.dead ++ L.slots.map (·.1))) (atX x L.slots)
    heap := happ (fun k => match s.heap k with | some b => some (bif (L.kills s).elem k then killed { b with lock := true } else bif inNames k L.blks then b else { b with lock := true }) | none => none) (atX x L.blks ++ atNews x L.news) }

def LoopSpec.covers (L : LoopSpec) (l : List Nat) : Bool := l.all fun t => inNames t L.slots || L.dead.elem t

def reqP (b : Bool) (p : Prop) : Prop := match b with
  | true => p
  | false => False

mutual
/-- Is y what x stands for, the names at the head being those of m? -/
def mtS (m : List (Nat × Cur)) (h : Heap) : SV → SV → Prop
  | .unk, _ => True
  | .v x, y => y = .v x
  | .sl k s i l c, y => match curOf m k with
    | some (.at k') => y = .sl k' s i l c
    | some (.nil sz) => reqP (Nat.beq sz s) (y = .v (.slice none 0 0) ∧ i = 0 ∧ l = 0 ∧ c = 0)
    | none => reqP (h k).isSome (y = .sl k s i l c)
  | .vp k j, y => match curOf m k with
    | some (.at k') => y = .vp k' j
    | some (.nil _) => False
    | none => reqP (h k).isSome (y = .vp k j)
  | .ptr k i j, y => match curOf m k with
    | some (.at k') => y = .ptr k' i j
    | some (.nil _) => False
    | none => reqP (h k).isSome (y = .ptr k i j)
  | .ap k n l, y => match curOf m k with
    | some (.at k') => y = .ap k' n l
    | some (.nil _) => False
    | none => reqP (h k).isSome (y = .ap k n l)
  | .fn f cs, y => match y with
    | .fn f' ds => f' = f ∧ mtL m h cs ds
    | _ => False
  | .agg cs, y => match y with
    | .agg ds => mtL m h cs ds
    | _ => False
  | .tup cs, y => match y with
    | .tup ds => mtL m h cs ds
    | _ => False
def mtL (m : List (Nat × Cur)) (h : Heap) : List SV → List SV → Prop
  | [], ys => match ys with
    | [] => True
    | _ => False
  | x :: xs, ys => match ys with
    | y :: ys' => match xs with
      | [] => match ys' with
        | [] => mtS m h x y
        | _ => False
      | _ => mtS m h x y ∧ mtL m h xs ys'
    | [] => False
end

def slotsEq (m : List (Nat × Cur)) (h : Heap) (s : St) : List (Nat × SV) → Prop
  | [] => True
  | [(t, x)] => mtS m h x (s.tmps.getD t .unk)
  | (t, x) :: rest => mtS m h x (s.tmps.getD t .unk) ∧ slotsEq m h s rest

/-- b is the head's block p. -/
def blkEq (m : List (Nat × Cur)) (h : Heap) (b p : Blk) : Prop :=
  reqP (Nat.beq b.size p.size && b.rw == p.rw && !b.lock && !p.lock && (b.flat || !p.flat) && !b.dead && !p.dead && (Nat.beq p.elem 0 || Nat.beq b.elem p.elem) && (!p.whole || b.whole))
    (b.n = p.n ∧ p.ext ≤ b.ext ∧ match p.flat with
      | true => ∀ i, i < p.n → b.row i = p.row i
      | false => match p.lit with
        | true => reqP (Nat.beq p.n 1) (mtL m h (p.row 0) (b.row 0))
        | false => ∀ i, i < p.n → mtL m h (p.row i) (b.row i))

def blksEq (m : List (Nat × Cur)) (h : Heap) (s : St) : List (Nat × Blk) → Prop
  | [] => True
  | (k, p) :: rest => match curOf m k with
    | some (.at k') => match s.heap k' with
      | some b => match rest with
        | [] => blkEq m h b p
        | _ => blkEq m h b p ∧ blksEq m h s rest
      | none => False
    | some (.nil sz) => (p.n = 0 ∧ p.ext = 0 ∧ reqP (!p.lock && !p.dead && Nat.beq sz p.size) True) ∧ blksEq m h s rest
    | none => match s.heap k with
      | some b => match rest with
        | [] => blkEq m h b p
        | _ => blkEq m h b p ∧ blksEq m h s rest
      | none => False

/-- The names that the head's new names stand for are new, or no more at the head; no two are the same. -/
def cursOk (h : Heap) (kills : List Nat) : List (Nat × Cur) → Bool
  | [] => true
  | (_, .at k) :: rest => ((h k).isNone || kills.elem k) && rest.all (fun p => match p.2 with | .at k' => !Nat.beq k k' | .nil _ => true) && cursOk h kills rest
  | (_, .nil _) :: rest => cursOk h kills rest

/-- The state s is one of the round's head, at x; h: the heap before the loop. -/
def fits (L : LoopSpec) (h : Heap) (ks : List Nat) (s : St) (x : L.X) : Prop :=
  let m := curs s x L.news
  reqP (cursOk h ks m) (L.inv x ∧ slotsEq m h s (atX x L.slots) ∧ blksEq m h s (atX x L.blks ++ atNews x L.news))

/-- The loop's names: those that turn are there, and are not killed; the new ones are not there; those that are killed are there and unlocked. -/
def namesAll (L : LoopSpec) (h : Heap) (ks : List Nat) : Bool :=
  L.blks.all (fun p => (h p.1).isSome && !ks.elem p.1) && L.news.all (fun p => (h p.1).isNone) && ks.all (fun k => match h k with | some b => !b.lock | none => false)

/-- The heap behind a loop: its locks as they were. -/
def unlock (h0 h : Heap) : Heap := fun k => match h k with
  | some b => match h0 k with
    | some b0 => some { b with lock := b0.lock }
    | none => some b
  | none => none

/-- How many operations a piece of code has. -/
def cnt : Code → Nat
  | .region _ ops _ => ops.size
  | .seq a b => cnt a + cnt b
  | .cond _ a b => cnt a + cnt b
  | .block _ c => cnt c
  | .loop c => cnt c
  | .scope c => cnt c
  | .rangeFunc _ _ a c => cnt a + cnt c
  | _ => 0

/-- The first region of a piece of code. -/
def firstRid : Code → Nat
  | .region rid _ _ => rid
  | .seq a _ => firstRid a
  | .cond _ a _ => firstRid a
  | .block _ c => firstRid c
  | .loop c => firstRid c
  | .scope c => firstRid c
  | _ => 0
/-- Where the cut behind a piece of code is found. -/
def cutKey (c : Code) : Nat := 2000000 + 1000 * cnt c + firstRid c
/-- Ahead of a piece of code with a cut behind it: what it may not write is locked. -/
def LoopSpec.shut (L : LoopSpec) (s : St) : St := { s with heap := unlock (fun k => match s.heap k with | some b => some (bif inNames k L.blks then b else { b with lock := true }) | none => none) s.heap }
/-- Behind the cut. -/
def LoopSpec.opn (L : LoopSpec) (s : St) (n : Nat) (x : L.X) : St := { L.head s x with heap := unlock s.heap (L.head s x).heap, nx := s.nx + 8 * n }

/-- Behind a piece of code the names go on from one place, whatever way was taken. -/
def atNx (n : Nat) (K : Exit → St → Prop) (e : Exit) (s : St) : Prop := K e { s with nx := n }

/-- What is asked of a panic out of a region that was entered in s. -/
def panicK (K : Exit → St → Prop) (s : St) (ops : Array Oper) (x : SV) (h : Heap) : Prop := match x with
  | .v v => K (.panic [{ v := v, recovered := false }]) { tmps := killSlots s.tmps (dstsOps ops.toList), heap := h, nx := s.nx + 8 * ops.size }
  | _ => False

def vcCode (P : Program) (Γ : Ctrs) (Λ : Nat → Option LoopSpec) : Code → Nat → St → (Exit → St → Prop) → Prop
  | .skip, _, s, K => K .normal s
  | .region rid ops draw, _, s, K =>
    let bs : Vw := ⟨beforeL ops.toList [], prOf Λ rid⟩
    bif !draw || regionOk P Γ ops bs then vcOps P Γ ops.toList bs draw (panicK K s ops) (fun s => K .normal { s with nx := s.nx + 8 * ops.size }) ops.toList 0 s else False
  | .seq a b, id, s, K => match atL s (Λ (cutKey a)) with
    | none => vcCode P Γ Λ a id s fun e s => match e with
      | .normal => vcCode P Γ Λ b id s K
      | e => K e s
    | some L => bif L.news.isEmpty && L.covers (dsts a) && namesAll L s.heap (L.kills s) then
        vcCode P Γ Λ a id (L.shut s) (fun e s' => match e with
          | .normal => ∃ x, fits L s.heap (L.kills s) s' x
          | e => K e { s' with heap := unlock s.heap s'.heap }) ∧ ∀ x, L.inv x → vcCode P Γ Λ b id (L.opn s (cnt a) x) K
      else False
  | .cond c a b, id, s, K => match s.eval c with
    | .v (.bool t) => match c with
      | .tmp i => sel t (vcCode P Γ Λ a id { s with tmps := s.tmps.set i (.v (.bool true)) } (atNx (s.nx + 8 * (cnt a + cnt b)) K)) (vcCode P Γ Λ b id { s with tmps := s.tmps.set i (.v (.bool false)) } (atNx (s.nx + 8 * (cnt a + cnt b)) K))
      | _ => sel t (vcCode P Γ Λ a id s (atNx (s.nx + 8 * (cnt a + cnt b)) K)) (vcCode P Γ Λ b id s (atNx (s.nx + 8 * (cnt a + cnt b)) K))
    | _ => False
  | .block id c, _, s, K => vcCode P Γ Λ c id s (atNx (s.nx + 8 * cnt c) fun e s => match e with
    | .exit i => bif Nat.beq i id then K .normal s else K (.exit i) s
    | e => K e s)
  | .exit i, _, s, K => K (.exit i) s
  | .ret, _, s, K => K .ret s
  | .loop c, id, s, K => match atL s (Λ id) with
    | none => False
    | some L => bif L.covers (dsts c) && namesAll L s.heap (L.kills s) then (∃ x, fits L s.heap (L.kills s) s x) ∧ ∀ x, L.inv x → vcCode P Γ Λ c id (L.head s x) fun e s' => match e with
      | .normal => ∃ x', fits L s.heap (L.kills s) s' x' ∧ L.mu x' < L.mu x
      | e => K e { s' with heap := unlock s.heap s'.heap }
      else False
  | .rangeFunc f ps (.region rid ops draw) c, id, s, K => match atL s (Λ id) with
    | none => False
    | some L => match L.it, s.eval f with
      | some it, .fn g caps => bif Nat.beq g it.f && L.slots.isEmpty && noRF c && namesAll L s.heap (L.kills s) then match it.run caps s.heap with
        | some (p, N, m, item, ks) => bif Nat.beq m ps.size && ks.all (fun k => !inNames k L.blks && !(L.kills s).elem k) then
            (it.P = P ∧ p) ∧ (∃ x, L.ix x = 0 ∧ fits L s.heap (L.kills s) s x) ∧ (∀ x, L.inv x → L.ix x < N → vcCode P Γ Λ (.region rid ops draw) id { L.head s x with tmps := putAll (L.head s x).tmps ps.toList (item (L.ix x)) } fun e s1 => match e with
              | .normal => vcCode P Γ Λ c id s1 fun e s' => match e with
                | .normal => ∃ x', L.ix x' = L.ix x + 1 ∧ fits L s.heap (L.kills s) { s' with tmps := s.tmps } x'
                | .ret => K .ret { s with heap := unlock s.heap s'.heap }
                | .exit i => K (.exit i) { s with heap := unlock s.heap s'.heap }
                | _ => False
              | _ => False) ∧ ∀ x, L.inv x → L.ix x = N → K .normal { s with heap := unlock s.heap (L.head s x).heap }
          else False
        | none => False
        else False
      | _, _ => False
  | _, _, _, _ => False

def resultsS (P : Program) (s : St) : List ResultVar → Option (List SV)
  | [] => some []
  | .tmp t :: rest => match resultsS P s rest with
    | some l => some (s.tmps.getD t undefS :: l)
    | none => none
  | .cell a t :: rest => match resultsS P s rest, loadS P s.heap t (s.tmps.getD a undefS) with
    | some l, some x => some (x :: l)
    | _, _ => none

def retS (P : Program) (fn : Func) (s : St) : Option SV :=
  match resultsS P s fn.results.toList with
  | some [x] => some x
  | some l => some (.tup l)
  | none => none

/-- The conditions of a function's body at these arguments. -/
def vcFn (P : Program) (Γ : Ctrs) (Λ : Nat → Option LoopSpec) (fn : Func) (args : List SV) (h : Heap) (nx : Nat) (R : SV → Heap → Prop) : Prop :=
  match fn.body with
  | none => False
  | some c => vcCode P Γ Λ c 0 { tmps := args ++ List.replicate (fn.ntmps - args.length) undefS, heap := h, nx } fun e s => match e with
    | .normal => match retS P fn s with | some x => R x s.heap | none => False
    | .ret => match retS P fn s with | some x => R x s.heap | none => False
    | _ => False

/-- The same of a function that may panic: RP: what is asked of the panic's value, and of the heap then. -/
def vcFnP (P : Program) (Γ : Ctrs) (Λ : Nat → Option LoopSpec) (fn : Func) (args : List SV) (h : Heap) (nx : Nat) (R RP : SV → Heap → Prop) : Prop :=
  match fn.body with
  | none => False
  | some c => vcCode P Γ Λ c 0 { tmps := args ++ List.replicate (fn.ntmps - args.length) undefS, heap := h, nx } fun e s => match e with
    | .normal => match retS P fn s with | some x => R x s.heap | none => False
    | .ret => match retS P fn s with | some x => R x s.heap | none => False
    | .panic ch => match ch with
      | [e] => bif e.recovered || e.goexit then False else RP (.v e.v) s.heap
      | _ => False
    | _ => False

end Go.SE
