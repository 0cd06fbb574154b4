/-
  Contracts: equal shapes, copies.
-/
import Derived.Test.YtjdldadmaaeimaaWiSh
set_option maxRecDepth 100000
set_option linter.unusedSimpArgs false
set_option linter.unusedVariables false
namespace Go.Proofs.Ytjdldadmaaeimaa
open Go.SE Go.RowKit

structure ShB where
  k : Int
  r : Int
  w : Int
  h : Int
def shS (s : ShB) (x : SV) : SV := .agg [.v (.int .i64 s.k), .v (.int .i64 s.r), .v (.int .i64 s.w), .v (.int .i64 s.h), x]
def isPI : List SV → Prop
  | [.v (.int .i64 a), .v (.int .i64 b)] => I64 a ∧ I64 b
  | _ => False
def rowsP (g : Nat → Int × Int) : Nat → List SV := fun i => [.v (.int .i64 (g i).1), .v (.int .i64 (g i).2)]
def gi : List SV → Int × Int
  | [.v (.int _ x), .v (.int _ y)] => (x, y)
  | _ => (0, 0)

def roS (el : Nat) (lo li fl wh : Bool) (n ext : Nat) (row : Nat → List SV) : Blk := { elem := el, size := 2, rw := false, lock := lo, lit := li, flat := fl, n := n, row := row, ext := ext, dead := false, whole := wh }
def okB (b : Blk) : Bool := !b.rw && !b.dead && Nat.beq b.size 2 && b.flat
def rowG (b : Blk) : Nat → Int × Int := fun i => gi (b.row i)
def spPre (n : Nat) (b : Blk) : Prop := okAll isPI (rowsOf b.n b.row) ∧ b.n = n ∧ n < 1099511627776
def spW (n c : Nat) (g : Nat → Int × Int) : Blk := { elem := 47, size := 2, rw := true, lock := false, lit := false, flat := true, n := n, row := rowsP g, ext := c }
def rdS (b : Blk) (n : Nat) (g : Nat → Int × Int) : Blk := roS b.elem b.lock b.lit true b.whole n b.ext (rowsP g)
/-- One contract, else the other. -/
def orRo (s1 s2 : List SV → List Ro → Option (Option Prop × SV)) : List SV → List Ro → Option (Option Prop × SV) := fun a b => match s1 a b with
  | some e => some e
  | none => s2 a b
def orHp (s1 s2 : List SV → List Blk → Option Eff) : List SV → List Blk → Option Eff := fun a b => match s1 a b with
  | some e => some e
  | none => s2 a b
def eqP (p q : Int × Int) : Bool := p.1 == q.1 && p.2 == q.2
def sameP (n : Nat) (g : Nat → Int × Int) (m : Nat) (h : Nat → Int × Int) : Bool := Nat.beq n m && (List.range n).all (fun i => eqP (g i) (h i))
def eqSh (a b : ShB) : Bool := a.k == b.k && (a.r == b.r && (a.w == b.w && a.h == b.h))
def sameS (a : ShB) (n : Nat) (g : Nat → Int × Int) (b : ShB) (m : Nat) (h : Nat → Int × Int) : Bool := eqSh a b && sameP n g m h
def rowsPre (n n' : Nat) (row : Nat → List SV) : Prop := okAll isPI (rowsOf n' row) ∧ n' = n ∧ n < 1099511627776
def sEqual : List SV → List Ro → Option (Option Prop × SV)
  | [.sl 0 2 0 n _, .sl 1 2 0 m _], [⟨2, n', row⟩, ⟨2, m', row'⟩] => some (some (rowsPre n n' row ∧ rowsPre m m' row'), .v (.bool (sameP n (fun i => gi (row i)) m fun i => gi (row' i))))
  | _, _ => none
def sSameS : List SV → List Ro → Option (Option Prop × SV)
  | [.agg [.v (.int .i64 k), .v (.int .i64 r), .v (.int .i64 w), .v (.int .i64 h), .sl 0 2 0 n _], .agg [.v (.int .i64 k2), .v (.int .i64 r2), .v (.int .i64 w2), .v (.int .i64 h2), .sl 1 2 0 m _]], [⟨2, n', row⟩, ⟨2, m', row'⟩] => some (some (rowsPre n n' row ∧ rowsPre m m' row'), .v (.bool (sameS ⟨k, r, w, h⟩ n (fun i => gi (row i)) ⟨k2, r2, w2, h2⟩ m fun i => gi (row' i))))
  | _, _ => none
noncomputable def ΛEqual (fn : Func) (t : Nat) (n : Nat) (g h : Nat → Int × Int) : Nat → Option LoopSpec := addLoop noΛ fn 0 Nat (fun i => i ≤ n ∧ ∀ j, j < i → eqP (g j) (h j) = true) (fun i => n - i) [(t, fun i => .v (.int .i64 i))] []
theorem vcEqual (n n' c m m' d : Nat) (g h : Nat → Int × Int) (R : SV → Prop) : (vcFn Try.prog noCtrs (ΛEqual Try.f106 13 n g h) Try.f106 [.sl 0 2 0 n c, .sl 1 2 0 m d] (roHeap [⟨2, n', rowsP g⟩, ⟨2, m', rowsP h⟩]) 64 (fun y _ => R y)) =

(sel ((↑n : Int) != (↑m : Int)) (R (SV.v (Value.bool false))) ((∃ x : Nat, ((((x : Nat) ≤ n) ∧ (∀ j : Nat, (((j : Nat) < x) → (eqP (g j) (h j) = true)))) ∧ (((SV.v (Value.int IntKind.i64 0)) = (SV.v (Value.int IntKind.i64 ((↑x : Int))))) ∧ True))) ∧ (∀ x : Nat, ((((x : Nat) ≤ n) ∧ (∀ j : Nat, (((j : Nat) < x) → (eqP (g j) (h j) = true)))) → 
(sel (decide ((↑x : Int) < (↑n : Int))) ((((0 : Int) ≤ ((↑x : Int))) ∧ ((((↑x : Int)) : Int) < ((↑n : Int)))) ∧ ((((0 : Int) ≤ ((↑x : Int))) ∧ ((((↑x : Int)) : Int) < ((↑m : Int)))) ∧ 
(sel (!(Prod.fst (g (0 + Int.toNat (↑x : Int))) == Prod.fst (h (0 + Int.toNat (↑x : Int))) && Prod.snd (g (0 + Int.toNat (↑x : Int))) == Prod.snd (h (0 + Int.toNat (↑x : Int))))) (R (SV.v (Value.bool false))) (∃ x' : Nat, (((((x' : Nat) ≤ n) ∧ (∀ j : Nat, (((j : Nat) < x') → (eqP (g j) (h j) = true)))) ∧ (((SV.v (Value.int IntKind.i64 (IntKind.wrap IntKind.i64 ((↑x : Int) + 1)))) = (SV.v (Value.int IntKind.i64 ((↑x' : Int))))) ∧ True)) ∧ (((n - x') : Nat) < (n - x))))))) (R (SV.v (Value.bool true)))))))) := by kernel_rfl
def ΓM0 : Ctrs := addCtr noCtrs 106 (roCtr sEqual)
theorem vcSameS (a b : ShB) (n n' c m m' d : Nat) (g h : Nat → Int × Int) (R : SV → Prop) : (vcFn Try.prog ΓM0 noΛ Try.f72 [shS a (.sl 0 2 0 n c), shS b (.sl 1 2 0 m d)] (roHeap [⟨2, n', rowsP g⟩, ⟨2, m', rowsP h⟩]) 64 (fun y _ => R y)) =

(sel (ShB.k a == ShB.k b && (ShB.r a == ShB.r b && (ShB.w a == ShB.w b && ShB.h a == ShB.h b))) (((rowsPre n n fun y => [SV.v (Value.int IntKind.i64 (Prod.fst (g (0 + y)))), SV.v (Value.int IntKind.i64 (Prod.snd (g (0 + y))))]) ∧ (rowsPre m m fun y => [SV.v (Value.int IntKind.i64 (Prod.fst (h (0 + y)))), SV.v (Value.int IntKind.i64 (Prod.snd (h (0 + y))))])) ∧ (R (SV.v (Value.bool (sameP n (fun i => gi [SV.v (Value.int IntKind.i64 (Prod.fst (g (0 + i)))), SV.v (Value.int IntKind.i64 (Prod.snd (g (0 + i))))]) m fun i => gi [SV.v (Value.int IntKind.i64 (Prod.fst (h (0 + i)))), SV.v (Value.int IntKind.i64 (Prod.snd (h (0 + i))))]))))) (R (SV.v (Value.bool false)))) := by kernel_rfl
theorem vcRSameS (a b : ShB) (n n' c m m' d : Nat) (g h : Nat → Int × Int) (R : SV → Prop) : (vcFn Try.prog noCtrs (ΛEqual Try.f76 5 n g h) Try.f76 [shS a (.sl 0 2 0 n c), shS b (.sl 1 2 0 m d)] (roHeap [⟨2, n', rowsP g⟩, ⟨2, m', rowsP h⟩]) 64 (fun y _ => R y)) =

(sel (ShB.k a != ShB.k b) (R (SV.v (Value.bool false))) 
(sel (ShB.r a != ShB.r b) (R (SV.v (Value.bool false))) 
(sel (ShB.w a != ShB.w b) (R (SV.v (Value.bool false))) 
(sel (ShB.h a != ShB.h b) (R (SV.v (Value.bool false))) 
(sel ((↑n : Int) != (↑m : Int)) (R (SV.v (Value.bool false))) ((∃ x : Nat, ((((x : Nat) ≤ n) ∧ (∀ j : Nat, (((j : Nat) < x) → (eqP (g j) (h j) = true)))) ∧ (((SV.v (Value.int IntKind.i64 0)) = (SV.v (Value.int IntKind.i64 ((↑x : Int))))) ∧ True))) ∧ (∀ x : Nat, ((((x : Nat) ≤ n) ∧ (∀ j : Nat, (((j : Nat) < x) → (eqP (g j) (h j) = true)))) → 
(sel (decide ((↑x : Int) < (↑n : Int))) ((((0 : Int) ≤ ((↑x : Int))) ∧ ((((↑x : Int)) : Int) < ((↑n : Int)))) ∧ ((((0 : Int) ≤ ((↑x : Int))) ∧ ((((↑x : Int)) : Int) < ((↑m : Int)))) ∧ 
(sel (!(Prod.fst (g (0 + Int.toNat (↑x : Int))) == Prod.fst (h (0 + Int.toNat (↑x : Int))) && Prod.snd (g (0 + Int.toNat (↑x : Int))) == Prod.snd (h (0 + Int.toNat (↑x : Int))))) (R (SV.v (Value.bool false))) (∃ x' : Nat, (((((x' : Nat) ≤ n) ∧ (∀ j : Nat, (((j : Nat) < x') → (eqP (g j) (h j) = true)))) ∧ (((SV.v (Value.int IntKind.i64 (IntKind.wrap IntKind.i64 ((↑x : Int) + 1)))) = (SV.v (Value.int IntKind.i64 ((↑x' : Int))))) ∧ True)) ∧ (((n - x') : Nat) < (n - x))))))) (R (SV.v (Value.bool true)))))))))))) := by kernel_rfl
def cpyE (s : ShB) (n : Nat) (g : Nat → Int × Int) : Eff := .nd True Nat 0 (fun c => shS s (.sl 1000 2 0 n (n + c))) fun c => [(1000, spW n (n + c) g)]
def sCopyS (args : List SV) (bs : List Blk) : Option Eff := match args, bs with
  | [.agg [.v (.int .i64 k), .v (.int .i64 r), .v (.int .i64 w), .v (.int .i64 h), .sl 0 2 0 n c]], [b] => bif okB b then some (.nd (spPre n b) Nat 0 (fun c => shS ⟨k, r, w, h⟩ (.sl 1000 2 0 n (n + c))) fun c => [(1000, spW n (n + c) (rowG b))]) else none
  | _, _ => none
theorem vcOwnS (s : ShB) (b : Blk) (n c : Nat) (g : Nat → Int × Int) : (vcFn Try.prog noCtrs noΛ Try.f73 [shS s (.sl 0 2 0 n c)] (heapOf [rdS b n g]) 64 (fun y h' => FinE [rdS b n g] (cpyE s n g) y h')) =
((((((0 + n) * 16) : Nat) ≤ 140737488355328) ∧ (((0 : Nat) ≤ 0) ∧ (∀ y : Nat, (((y : Nat) < n) → True)))) ∧ (∀ c_1 : Nat, (∃ c_2 : Nat, ((((SV.v (Value.int IntKind.i64 (ShB.k s))) = (SV.v (Value.int IntKind.i64 (ShB.k s)))) ∧ (((SV.v (Value.int IntKind.i64 (ShB.r s))) = (SV.v (Value.int IntKind.i64 (ShB.r s)))) ∧ (((SV.v (Value.int IntKind.i64 (ShB.w s))) = (SV.v (Value.int IntKind.i64 (ShB.w s)))) ∧ (((SV.v (Value.int IntKind.i64 (ShB.h s))) = (SV.v (Value.int IntKind.i64 (ShB.h s)))) ∧ ((SV.sl 104 2 0 (0 + n) (0 + n + c_1)) = (SV.sl 104 2 0 n (n + c_2))))))) ∧ ((((0 + n) : Nat) = n) ∧ ((((n + c_2) : Nat) ≤ (0 + n + c_1)) ∧ (∀ i : Nat, (((i : Nat) < n) → ([(SV.v (Value.int IntKind.i64 (Prod.fst (g (0 + (i - 0)))))), (SV.v (Value.int IntKind.i64 (Prod.snd (g (0 + (i - 0))))))] = [(SV.v (Value.int IntKind.i64 (Prod.fst (g i)))), (SV.v (Value.int IntKind.i64 (Prod.snd (g i))))]))))))))) := by kernel_rfl
section
variable {P : Program} {f : FuncId}
theorem ro_or {s1 s2 : List SV → List Ro → Option (Option Prop × SV)} (h1 : RoSpec P f s1) (h2 : RoSpec P f s2) : RoSpec P f (orRo s1 s2) := fun args bs e hs => by
  unfold roSpec at hs
  cases hr : roOf bs with
  | none => rw [hr] at hs; cases hs
  | some rs =>
    rw [hr] at hs
    simp only [orRo] at hs
    cases h : s1 args rs with
    | some px =>
      rw [h] at hs
      exact h1 args bs e (by unfold roSpec; rw [hr]; simp only [h]; exact hs)
    | none =>
      rw [h] at hs
      exact h2 args bs e (by unfold roSpec; rw [hr]; exact hs)
theorem hp_orE {s1 s2 : List SV → List Blk → Option Eff} (h1 : HpSpec P f s1) (h2 : HpSpec P f s2) : HpSpec P f (orHp s1 s2) := fun args bs e hs => by
  unfold orHp at hs
  cases h : s1 args bs with
  | some px =>
    rw [h] at hs
    exact h1 args bs e (h.trans hs)
  | none =>
    rw [h] at hs
    exact h2 args bs e hs
/-- Where nil lies. -/
def nilD (s : Nat) : Dict := fun k => bif Nat.beq k 0 then some ⟨0, s, 0, 0, true⟩ else none
theorem nil_rep {W : World} (s : Nat) (row : Nat → List SV) : HRep (nilD s) (heapOf [Ro.blk ⟨s, 0, row⟩]) W := by
  refine ⟨fun k b' hk => ?_, fun k k' r b' h1 h2 hk hrw => ?_⟩
  · match k, hk with
    | 0, hk =>
      have hk : some (Ro.blk ⟨s, 0, row⟩) = some b' := hk
      cases hk
      exact ⟨⟨0, s, 0, 0, true⟩, rfl, fun _ => ⟨rfl, rfl, fun _ => ⟨rfl, rfl⟩, fun hh => by cases hh⟩⟩
    | k + 1, hk => simp [heapOf] at hk
  · match k, hk with
    | 0, hk =>
      have hk : some (Ro.blk ⟨s, 0, row⟩) = some b' := hk
      cases hk
      cases hrw
    | k + 1, hk => simp [heapOf] at hk
/-- What holds of an empty slice holds of nil. -/
theorem ro_nil {spec spec' : List SV → List Ro → Option (Option Prop × SV)} (s : Nat) (h : RoSpec P f spec)
    (hs : ∀ args bs p x, spec' args bs = some (p, x) → bs = [] ∧ plain x = true ∧ ∃ args' row p', spec args' [⟨s, 0, row⟩] = some (p', x) ∧ ((∀ q, p = some q → q) → ∀ q, p' = some q → q) ∧ ∀ vals, absL noDict args vals → absL (nilD s) args' vals) : RoSpec P f spec' := by
  intro args bs e he hask δ w vals ha hr ht hl
  unfold roSpec at he
  cases hro : roOf bs with
  | none => rw [hro] at he; cases he
  | some rs =>
    rw [hro] at he
    simp only at he
    cases hsp : spec' args rs with
    | none => rw [hsp] at he; cases he
    | some px =>
      obtain ⟨p, x⟩ := px
      rw [hsp] at he
      cases he
      obtain ⟨rfl, hx, args', row, p', h1, h2, h3⟩ := hs args rs p x hsp
      obtain rfl : bs = [] := by
        cases bs with
        | nil => rfl
        | cons b bs =>
          simp only [roOf] at hro
          cases hb : (b.rw || b.dead || !b.flat) with
          | true => rw [hb] at hro; cases hro
          | false =>
            rw [hb] at hro
            cases hr2 : roOf bs with
            | none => rw [hr2] at hro; cases hro
            | some l => rw [hr2] at hro; cases hro
      obtain rfl : δ = noDict := funext fun k => ht k rfl
      have e1 : roSpec spec args' [Ro.blk ⟨s, 0, row⟩] = some (.det p' x []) := by
        show (match spec args' [⟨s, 0, row⟩] with | some (p, x) => some (Eff.det p x []) | none => none) = _
        rw [h1]
      refine (h _ _ _ e1 (h2 hask) (nilD s) w vals (h3 vals ha) (nil_rep s row) (fun k hk => ?_) (by simp)).mono fun ed w' ⟨r, y, u, δ', g1, g2, _, g4, g5⟩ => ?_
      · match k, hk with
        | 0, hk => cases hk
        | k + 1, _ => rfl
      · obtain ⟨rfl, rfl⟩ := g2
        refine ⟨r, _, [], noDict, g1, ⟨rfl, rfl⟩, rfl, (absV_plain _ _ hx).2 ((absV_plain _ _ hx).1 g4), upd_below hr ⟨g5.wrel.os, g5.wrel.tape, g5.wrel.output, g5.wrel.size, fun k hk => g5.wrel.block k hk ?_⟩⟩
        rintro ⟨k', b, hb, hrw, _⟩
        match k', hb with
        | 0, hb =>
          have hb : some (Ro.blk ⟨s, 0, row⟩) = some b := hb
          cases hb
          cases hrw
        | k + 1, hb => simp [heapOf] at hb
end
theorem all_lt {n : Nat} {f : Nat → Bool} (h : ∀ j, j < n → f j = true) : (List.range n).all f = true := by
  rw [List.all_eq_true]
  intro i hi
  exact h i (List.mem_range.1 hi)
theorem not_all {n : Nat} {f : Nat → Bool} {k : Nat} (hk : k < n) (h : f k = false) : (List.range n).all f = false := by
  rw [List.all_eq_false]
  exact ⟨k, List.mem_range.2 hk, by simp [h]⟩
theorem isPI_row {r : List SV} (h : isPI r) : r = [.v (.int .i64 (gi r).1), .v (.int .i64 (gi r).2)] ∧ I64 (gi r).1 ∧ I64 (gi r).2 := by
  unfold isPI at h
  split at h
  · exact ⟨rfl, h.1, h.2⟩
  · exact h.elim
theorem gi_rows (g : Nat → Int × Int) : (fun i => gi [SV.v (.int .i64 (g (0 + i)).1), SV.v (.int .i64 (g (0 + i)).2)]) = g := funext fun i => by rw [Nat.zero_add]; rfl
theorem pre_of {n : Nat} {b : Blk} (h : spPre n b) : n < 1099511627776 ∧ ∀ i, i < n → I64 (rowG b i).1 ∧ I64 (rowG b i).2 := by
  obtain ⟨h0, rfl, hn⟩ := h
  exact ⟨hn, fun i hi => (isPI_row (okAll_rows.1 h0 i hi)).2⟩
theorem same_rdS {b : Blk} {n : Nat} (h : okB b = true) (hp : spPre n b) : BlkSame b (rdS b n (rowG b)) := by
  simp only [okB, Bool.and_eq_true, Bool.not_eq_true'] at h
  obtain ⟨⟨⟨a1, a2⟩, a3⟩, a4⟩ := h
  obtain ⟨h0, rfl, hn⟩ := hp
  exact ⟨Nat.eq_of_beq_eq_true a3, a1, a4, rfl, rfl, a2, rfl, rfl, fun i hi => (isPI_row (okAll_rows.1 h0 i hi)).1⟩
theorem eqP_no {n m : Nat} {g h : Nat → Int × Int} {i : Nat} (hi : i < n) (e : eqP (g i) (h i) = false) : sameP n g m h = false := by
  unfold sameP
  rw [not_all (f := fun i => eqP (g i) (h i)) hi e, Bool.and_false]
theorem sameP_len {n m : Nat} {g h : Nat → Int × Int} (e : ((n : Int) != (m : Int)) = true) : sameP n g m h = false := by
  have : n ≠ m := fun h => by rw [h] at e; simp at e
  unfold sameP
  rw [Go.SE.beq_false this]; rfl
theorem sameP_all {n m : Nat} {g h : Nat → Int × Int} (e : ((n : Int) != (m : Int)) = false) (hd : ∀ j, j < n → eqP (g j) (h j) = true) : sameP n g m h = true := by
  have e : (n : Int) = (m : Int) := by simpa using e
  obtain rfl : n = m := by omega
  unfold sameP
  rw [Nat.beq_refl, all_lt hd]; rfl
theorem equal_tail {n m : Nat} {g h : Nat → Int × Int} (hn : n < 1099511627776) (hm' : m < 1099511627776) :
    sel ((n : Int) != (m : Int)) (SV.v (.bool false) = .v (.bool (sameP n g m h))) ((∃ x : Nat, (x ≤ n ∧ ∀ j : Nat, j < x → eqP (g j) (h j) = true) ∧ SV.v (.int .i64 0) = .v (.int .i64 x) ∧ True) ∧ ∀ x : Nat, (x ≤ n ∧ ∀ j : Nat, j < x → eqP (g j) (h j) = true) →
      sel (decide ((x : Int) < (n : Int))) ((0 ≤ (x : Int) ∧ (x : Int) < (n : Int)) ∧ (0 ≤ (x : Int) ∧ (x : Int) < (m : Int)) ∧ sel (!((g (0 + Int.toNat (x : Int))).1 == (h (0 + Int.toNat (x : Int))).1 && (g (0 + Int.toNat (x : Int))).2 == (h (0 + Int.toNat (x : Int))).2)) (SV.v (.bool false) = .v (.bool (sameP n g m h)))
        (∃ x' : Nat, ((x' ≤ n ∧ ∀ j : Nat, j < x' → eqP (g j) (h j) = true) ∧ SV.v (.int .i64 (IntKind.i64.wrap ((x : Int) + 1))) = .v (.int .i64 x') ∧ True) ∧ n - x' < n - x)) (SV.v (.bool true) = .v (.bool (sameP n g m h)))) := by
  refine sel_of (fun e => by rw [sameP_len e]) fun e => ⟨⟨0, ⟨Nat.zero_le _, fun j hj => absurd hj (Nat.not_lt_zero _)⟩, rfl, trivial⟩, fun x ⟨hx, hd⟩ => sel_of (fun hlt => ?_) fun hge => ?_⟩
  · have hlt : x < n := by simpa using hlt
    have e' : (n : Int) = (m : Int) := by simpa using e
    rw [Int.toNat_natCast, Nat.zero_add]
    refine ⟨⟨by omega, by omega⟩, ⟨by omega, by omega⟩, sel_of (fun hne => ?_) fun heq => ?_⟩
    · have hne : (!eqP (g x) (h x)) = true := hne
      rw [eqP_no hlt (by simpa using hne)]
    · have heq : (!eqP (g x) (h x)) = false := heq
      refine ⟨x + 1, ⟨⟨hlt, fun j hj => ?_⟩, int_mk (by rw [wrap_i64 ⟨by omega, by omega⟩]; rfl), trivial⟩, by omega⟩
      by_cases e2 : j = x
      · rw [e2]; simpa using heq
      · exact hd j (by omega)
  · have hge : ¬ x < n := by simpa using hge
    obtain rfl : x = n := by omega
    rw [sameP_all e hd]
theorem Equal_spec : RoSpec Try.prog 106 sEqual := ro_spec hm noCtrs_ok Try.func106 (Λ := fun args bs => match args, bs with | [.sl 0 2 0 n _, .sl 1 2 0 m _], [⟨2, _, row⟩, ⟨2, _, row'⟩] => ΛEqual Try.f106 13 n (fun i => gi (row i)) (fun i => gi (row' i)) | _, _ => noΛ) fun args bs p x h hp => by
  unfold sEqual at h
  split at h <;> try (cases h; done)
  rename_i n c m d n' row m' row'
  cases h
  obtain ⟨⟨h0, rfl, hn⟩, k0, rfl, hm'⟩ := hp _ rfl
  have h0 := okAll_rows.1 h0
  have k0 := okAll_rows.1 k0
  refine ⟨rfl, [⟨2, n', rowsP fun i => gi (row i)⟩, ⟨2, m', rowsP fun i => gi (row' i)⟩], ⟨⟨rfl, rfl, fun i hi => (isPI_row (h0 i hi)).1⟩, ⟨rfl, rfl, fun i hi => (isPI_row (k0 i hi)).1⟩, trivial⟩, ?_⟩
  refine Eq.mpr (vcEqual n' n' c m' m' d (fun i => gi (row i)) (fun i => gi (row' i)) _) ?_
  exact equal_tail hn hm'
theorem ΓM0_ok : ∀ f g, ΓM0 f = some g → g.ok Try.prog f := addCtr_ok noCtrs_ok (ro_ok Try.func106 (by kernel_rfl) (by kernel_rfl) Equal_spec)
theorem SameS_spec : RoSpec Try.prog 72 sSameS := ro_spec hm ΓM0_ok Try.func72 (Λ := fun _ _ => noΛ) fun args bs p x h hp => by
  unfold sSameS at h
  split at h <;> try (cases h; done)
  rename_i k r w hh n c k2 r2 w2 h2 m d n' row m' row'
  cases h
  obtain ⟨⟨h0, rfl, hn⟩, k0, rfl, hm'⟩ := hp _ rfl
  have h0 := okAll_rows.1 h0
  have k0 := okAll_rows.1 k0
  refine ⟨rfl, [⟨2, n', rowsP fun i => gi (row i)⟩, ⟨2, m', rowsP fun i => gi (row' i)⟩], ⟨⟨rfl, rfl, fun i hi => (isPI_row (h0 i hi)).1⟩, ⟨rfl, rfl, fun i hi => (isPI_row (k0 i hi)).1⟩, trivial⟩, ?_⟩
  have hg : ∀ i, i < n' → I64 ((fun i => gi (row i)) i).1 ∧ I64 ((fun i => gi (row i)) i).2 := fun i hi => (isPI_row (h0 i hi)).2
  have hh' : ∀ i, i < m' → I64 ((fun i => gi (row' i)) i).1 ∧ I64 ((fun i => gi (row' i)) i).2 := fun i hi => (isPI_row (k0 i hi)).2
  generalize (fun i => gi (row i)) = g at hg ⊢
  generalize (fun i => gi (row' i)) = g' at hh' ⊢
  refine Eq.mpr (vcSameS ⟨k, r, w, hh⟩ ⟨k2, r2, w2, h2⟩ n' n' c m' m' d g g' _) ?_
  rw [gi_rows, gi_rows]
  refine sel_of (fun e => ⟨⟨⟨okAll_rows.2 fun i hi => ?_, rfl, hn⟩, okAll_rows.2 fun i hi => ?_, rfl, hm'⟩, bool_mk ?_⟩) fun e => bool_mk ?_
  · rw [Nat.zero_add]; exact hg i hi
  · rw [Nat.zero_add]; exact hh' i hi
  · unfold sameS eqSh; rw [e]; rfl
  · unfold sameS eqSh; rw [e]; rfl
theorem RSameS_spec : RoSpec Try.prog 76 sSameS := ro_spec hm noCtrs_ok Try.func76 (Λ := fun args bs => match args, bs with | [.agg [_, _, _, _, .sl 0 2 0 n _], .agg [_, _, _, _, .sl 1 2 0 m _]], [⟨2, _, row⟩, ⟨2, _, row'⟩] => ΛEqual Try.f76 5 n (fun i => gi (row i)) (fun i => gi (row' i)) | _, _ => noΛ) fun args bs p x h hp => by
  unfold sSameS at h
  split at h <;> try (cases h; done)
  rename_i k r w hh n c k2 r2 w2 h2 m d n' row m' row'
  cases h
  obtain ⟨⟨h0, rfl, hn⟩, k0, rfl, hm'⟩ := hp _ rfl
  have h0 := okAll_rows.1 h0
  have k0 := okAll_rows.1 k0
  refine ⟨rfl, [⟨2, n', rowsP fun i => gi (row i)⟩, ⟨2, m', rowsP fun i => gi (row' i)⟩], ⟨⟨rfl, rfl, fun i hi => (isPI_row (h0 i hi)).1⟩, ⟨rfl, rfl, fun i hi => (isPI_row (k0 i hi)).1⟩, trivial⟩, ?_⟩
  refine Eq.mpr (vcRSameS ⟨k, r, w, hh⟩ ⟨k2, r2, w2, h2⟩ n' n' c m' m' d (fun i => gi (row i)) (fun i => gi (row' i)) _) ?_
  have bn : ∀ {a b : Int}, (a != b) = true → (a == b) = false := fun {a b} h => by unfold bne at h; simpa using h
  have by' : ∀ {a b : Int}, (a != b) = false → (a == b) = true := fun {a b} h => by unfold bne at h; simpa using h
  refine sel_of (fun e => bool_mk ?_) fun e1 => sel_of (fun e => bool_mk ?_) fun e2 => sel_of (fun e => bool_mk ?_) fun e3 => sel_of (fun e => bool_mk ?_) fun e4 => ?_
  · unfold sameS eqSh; rw [bn e]; rfl
  · unfold sameS eqSh; rw [by' e1, bn e]; rfl
  · unfold sameS eqSh; rw [by' e1, by' e2, bn e]; rfl
  · unfold sameS eqSh; rw [by' e1, by' e2, by' e3, bn e]; rfl
  · have : sameS ⟨k, r, w, hh⟩ n' (fun i => gi (row i)) ⟨k2, r2, w2, h2⟩ m' (fun i => gi (row' i)) = sameP n' (fun i => gi (row i)) m' (fun i => gi (row' i)) := by unfold sameS eqSh; rw [by' e1, by' e2, by' e3, by' e4]; rfl
    rw [this]
    exact equal_tail hn hm'
theorem OwnS_spec : HpSpec Try.prog 73 sCopyS := hp_spec hm noCtrs_ok Try.func73 (Λ := fun _ _ => noΛ) fun args bs e hs hp => by
  unfold sCopyS at hs
  split at hs <;> try (cases hs; done)
  rename_i k r w hh n c b
  cases hb : okB b with
  | false => rw [hb] at hs; cases hs
  | true =>
  rw [hb] at hs
  cases hs
  have hpre : spPre n b := hp
  obtain ⟨hn, hg⟩ := pre_of hpre
  refine ⟨[rdS b n (rowG b)], ⟨same_rdS hb hpre, trivial⟩, ?_⟩
  refine Eq.mpr (vcOwnS ⟨k, r, w, hh⟩ b n c (rowG b)) ?_
  rw [Nat.zero_add]
  exact ⟨⟨by omega, Nat.le_refl _, fun _ _ => trivial⟩, fun c1 => ⟨c1, ⟨rfl, rfl, rfl, rfl, rfl⟩, rfl, Nat.le_refl _, fun i _ => by show [SV.v (.int .i64 (rowG b (0 + i)).1), SV.v (.int .i64 (rowG b (0 + i)).2)] = _; rw [Nat.zero_add]⟩⟩
end Go.Proofs.Ytjdldadmaaeimaa
