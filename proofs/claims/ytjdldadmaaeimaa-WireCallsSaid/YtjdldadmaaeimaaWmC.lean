import Derived.Test.YtjdldadmaaeimaaWmB
import Derived.Test.YtjdldadmaaeimaaWiW

section
/-
  The reference's CheckCall and Call; OwnCall; WireCalls: the condition.
-/
set_option maxRecDepth 100000
set_option linter.unusedSimpArgs false
set_option linter.unusedVariables false
namespace Go.Proofs.Ytjdldadmaaeimaa
open Go.SE Go.RowKit

def sOwnC (args : List SV) (bs : List Blk) : Option Eff := match args, bs with
  | [.agg l], [b] => match cellsOf l with
    | some (k, c, .sl 0 2 0 n _) => bif okB b then some (ownE (spPre n b) k c n (rowG b)) else none
    | _ => none
  | _, _ => none
def sCheckPart (w : Bool) : List SV → List Ro → Option (Option Prop × SV)
  | [.agg l], rs => match cellsOf l, rs with
    | some (k, c, .sl 0 2 0 n _), [⟨2, n', row⟩] => bif (kindOk k == w) then some (some (calPre k c n n' row), iV (callE k c n fun i => gi (row i))) else none
    | _, _ => none
  | _, _ => none
def ΓWC : Ctrs := addCtr (addCtr (addCtr (addCtr (addCtr (addCtr (addCtr (addCtr noCtrs 26 (hpCtr false sOwnC)) 24 (roCtr sCallG)) 27 (roCtr sCallG)) 28 (roCtr sCheckG)) 29 (roCtr sCheckG)) 25 (roCtr sSameC)) 30 (roCtr sRSameC)) 20 (pureCtr sAwake)
def sCallsL : List SV → List Ro → Option (Option Prop × SV)
  | [.agg l, .agg l'], rs => match cellsOf l, cellsOf l', rs with
    | some (k, c, .sl 0 2 0 n _), some (k', o, .sl 1 2 0 m _), [⟨2, n', row⟩, ⟨2, m', row'⟩] => some (some (((okAll isPI (rowsOf n' row) ∧ n' = n) ∧ cvOk c ∧ I64 k) ∧ (okAll isPI (rowsOf m' row') ∧ m' = m) ∧ cvOk o ∧ I64 k'), bV true)
    | _, _, _ => none
  | _, _ => none
theorem vcCallsL (k k' : Int) (c o : CV) (n cap m cap' : Nat) (g g' : Nat → Int × Int) (R : SV → Prop) : (vcFn Try.prog ΓWC (addPr noΛ 3 [(6, fun nx => nx + 32), (7, fun nx => nx + 40)]) Try.f6 [caS k c (.sl 0 2 0 n cap), caS k' o (.sl 1 2 0 m cap')] (roHeap [⟨2, n, rowsP g⟩, ⟨2, m, rowsP g'⟩]) 64 (fun y _ => R y)) =

(sel (decide ((↑n : Int) > 20)) (R (SV.v (Value.bool true))) 
(sel (decide ((↑m : Int) > 20)) (R (SV.v (Value.bool true))) ((spPre n (winBlk (Ro.blk { s := 2, n := n, row := fun i => [SV.v (Value.int IntKind.i64 (Prod.fst (g i))), SV.v (Value.int IntKind.i64 (Prod.snd (g i)))] }) 2 0 n)) ∧ (∀ c_1 : Nat, ((spPre m (winBlk (Ro.blk { s := 2, n := m, row := fun i => [SV.v (Value.int IntKind.i64 (Prod.fst (g' i))), SV.v (Value.int IntKind.i64 (Prod.snd (g' i)))] }) 2 0 m)) ∧ (∀ c_2 : Nat, ((calPre k c n n fun y => [SV.v (Value.int IntKind.i64 (Prod.fst (rowG (winBlk (Ro.blk { s := 2, n := n, row := fun i => [SV.v (Value.int IntKind.i64 (Prod.fst (g i))), SV.v (Value.int IntKind.i64 (Prod.snd (g i)))] }) 2 0 n) (0 + y)))), SV.v (Value.int IntKind.i64 (Prod.snd (rowG (winBlk (Ro.blk { s := 2, n := n, row := fun i => [SV.v (Value.int IntKind.i64 (Prod.fst (g i))), SV.v (Value.int IntKind.i64 (Prod.snd (g i)))] }) 2 0 n) (0 + y))))]) ∧ ((calPre k c n n fun y => [SV.v (Value.int IntKind.i64 (Prod.fst (g (0 + y)))), SV.v (Value.int IntKind.i64 (Prod.snd (g (0 + y))))]) ∧ 
(sel ((callT k c n fun i => gi [SV.v (Value.int IntKind.i64 (Prod.fst (rowG (winBlk (Ro.blk { s := 2, n := n, row := fun i => [SV.v (Value.int IntKind.i64 (Prod.fst (g i))), SV.v (Value.int IntKind.i64 (Prod.snd (g i)))] }) 2 0 n) (0 + i)))), SV.v (Value.int IntKind.i64 (Prod.snd (rowG (winBlk (Ro.blk { s := 2, n := n, row := fun i => [SV.v (Value.int IntKind.i64 (Prod.fst (g i))), SV.v (Value.int IntKind.i64 (Prod.snd (g i)))] }) 2 0 n) (0 + i))))]) == callT k c n fun i => gi [SV.v (Value.int IntKind.i64 (Prod.fst (g (0 + i)))), SV.v (Value.int IntKind.i64 (Prod.snd (g (0 + i))))]) 
(sel ((callE k c n fun i => gi [SV.v (Value.int IntKind.i64 (Prod.fst (rowG (winBlk (Ro.blk { s := 2, n := n, row := fun i => [SV.v (Value.int IntKind.i64 (Prod.fst (g i))), SV.v (Value.int IntKind.i64 (Prod.snd (g i)))] }) 2 0 n) (0 + i)))), SV.v (Value.int IntKind.i64 (Prod.snd (rowG (winBlk (Ro.blk { s := 2, n := n, row := fun i => [SV.v (Value.int IntKind.i64 (Prod.fst (g i))), SV.v (Value.int IntKind.i64 (Prod.snd (g i)))] }) 2 0 n) (0 + i))))]) == callE k c n fun i => gi [SV.v (Value.int IntKind.i64 (Prod.fst (g (0 + i)))), SV.v (Value.int IntKind.i64 (Prod.snd (g (0 + i))))]) ((calPre k c n n fun y => [SV.v (Value.int IntKind.i64 (Prod.fst (rowG (winBlk (Ro.blk { s := 2, n := n, row := fun i => [SV.v (Value.int IntKind.i64 (Prod.fst (g i))), SV.v (Value.int IntKind.i64 (Prod.snd (g i)))] }) 2 0 n) (0 + y)))), SV.v (Value.int IntKind.i64 (Prod.snd (rowG (winBlk (Ro.blk { s := 2, n := n, row := fun i => [SV.v (Value.int IntKind.i64 (Prod.fst (g i))), SV.v (Value.int IntKind.i64 (Prod.snd (g i)))] }) 2 0 n) (0 + y))))]) ∧ ((calPre k c n n fun y => [SV.v (Value.int IntKind.i64 (Prod.fst (g (0 + y)))), SV.v (Value.int IntKind.i64 (Prod.snd (g (0 + y))))]) ∧ 
(sel ((callE k c n fun i => gi [SV.v (Value.int IntKind.i64 (Prod.fst (rowG (winBlk (Ro.blk { s := 2, n := n, row := fun i => [SV.v (Value.int IntKind.i64 (Prod.fst (g i))), SV.v (Value.int IntKind.i64 (Prod.snd (g i)))] }) 2 0 n) (0 + i)))), SV.v (Value.int IntKind.i64 (Prod.snd (rowG (winBlk (Ro.blk { s := 2, n := n, row := fun i => [SV.v (Value.int IntKind.i64 (Prod.fst (g i))), SV.v (Value.int IntKind.i64 (Prod.snd (g i)))] }) 2 0 n) (0 + i))))]) == callE k c n fun i => gi [SV.v (Value.int IntKind.i64 (Prod.fst (g (0 + i)))), SV.v (Value.int IntKind.i64 (Prod.snd (g (0 + i))))]) (((rowsPre n n fun y => [SV.v (Value.int IntKind.i64 (Prod.fst (rowG (winBlk (Ro.blk { s := 2, n := n, row := fun i => [SV.v (Value.int IntKind.i64 (Prod.fst (g i))), SV.v (Value.int IntKind.i64 (Prod.snd (g i)))] }) 2 0 n) (0 + y)))), SV.v (Value.int IntKind.i64 (Prod.snd (rowG (winBlk (Ro.blk { s := 2, n := n, row := fun i => [SV.v (Value.int IntKind.i64 (Prod.fst (g i))), SV.v (Value.int IntKind.i64 (Prod.snd (g i)))] }) 2 0 n) (0 + y))))]) ∧ (rowsPre m m fun y => [SV.v (Value.int IntKind.i64 (Prod.fst (rowG (winBlk (Ro.blk { s := 2, n := m, row := fun i => [SV.v (Value.int IntKind.i64 (Prod.fst (g' i))), SV.v (Value.int IntKind.i64 (Prod.snd (g' i)))] }) 2 0 m) (0 + y)))), SV.v (Value.int IntKind.i64 (Prod.snd (rowG (winBlk (Ro.blk { s := 2, n := m, row := fun i => [SV.v (Value.int IntKind.i64 (Prod.fst (g' i))), SV.v (Value.int IntKind.i64 (Prod.snd (g' i)))] }) 2 0 m) (0 + y))))])) ∧ (((rowsPre n n fun y => [SV.v (Value.int IntKind.i64 (Prod.fst (g (0 + y)))), SV.v (Value.int IntKind.i64 (Prod.snd (g (0 + y))))]) ∧ (rowsPre m m fun y => [SV.v (Value.int IntKind.i64 (Prod.fst (g' (0 + y)))), SV.v (Value.int IntKind.i64 (Prod.snd (g' (0 + y))))])) ∧ 
(sel (sameCB k k' c o (sameS (shOf c) n (fun i => gi [SV.v (Value.int IntKind.i64 (Prod.fst (rowG (winBlk (Ro.blk { s := 2, n := n, row := fun i => [SV.v (Value.int IntKind.i64 (Prod.fst (g i))), SV.v (Value.int IntKind.i64 (Prod.snd (g i)))] }) 2 0 n) (0 + i)))), SV.v (Value.int IntKind.i64 (Prod.snd (rowG (winBlk (Ro.blk { s := 2, n := n, row := fun i => [SV.v (Value.int IntKind.i64 (Prod.fst (g i))), SV.v (Value.int IntKind.i64 (Prod.snd (g i)))] }) 2 0 n) (0 + i))))]) (shOf o) m fun i => gi [SV.v (Value.int IntKind.i64 (Prod.fst (rowG (winBlk (Ro.blk { s := 2, n := m, row := fun i => [SV.v (Value.int IntKind.i64 (Prod.fst (g' i))), SV.v (Value.int IntKind.i64 (Prod.snd (g' i)))] }) 2 0 m) (0 + i)))), SV.v (Value.int IntKind.i64 (Prod.snd (rowG (winBlk (Ro.blk { s := 2, n := m, row := fun i => [SV.v (Value.int IntKind.i64 (Prod.fst (g' i))), SV.v (Value.int IntKind.i64 (Prod.snd (g' i)))] }) 2 0 m) (0 + i))))]) == sameCB k k' c o (sameS (shOf c) n (fun i => gi [SV.v (Value.int IntKind.i64 (Prod.fst (g (0 + i)))), SV.v (Value.int IntKind.i64 (Prod.snd (g (0 + i))))]) (shOf o) m fun i => gi [SV.v (Value.int IntKind.i64 (Prod.fst (g' (0 + i)))), SV.v (Value.int IntKind.i64 (Prod.snd (g' (0 + i))))])) (((rowsPre n n fun y => [SV.v (Value.int IntKind.i64 (Prod.fst (rowG (winBlk (Ro.blk { s := 2, n := n, row := fun i => [SV.v (Value.int IntKind.i64 (Prod.fst (g i))), SV.v (Value.int IntKind.i64 (Prod.snd (g i)))] }) 2 0 n) (0 + y)))), SV.v (Value.int IntKind.i64 (Prod.snd (rowG (winBlk (Ro.blk { s := 2, n := n, row := fun i => [SV.v (Value.int IntKind.i64 (Prod.fst (g i))), SV.v (Value.int IntKind.i64 (Prod.snd (g i)))] }) 2 0 n) (0 + y))))]) ∧ (rowsPre n n fun y => [SV.v (Value.int IntKind.i64 (Prod.fst (rowG (winBlk (Ro.blk { s := 2, n := n, row := fun i => [SV.v (Value.int IntKind.i64 (Prod.fst (g i))), SV.v (Value.int IntKind.i64 (Prod.snd (g i)))] }) 2 0 n) (0 + y)))), SV.v (Value.int IntKind.i64 (Prod.snd (rowG (winBlk (Ro.blk { s := 2, n := n, row := fun i => [SV.v (Value.int IntKind.i64 (Prod.fst (g i))), SV.v (Value.int IntKind.i64 (Prod.snd (g i)))] }) 2 0 n) (0 + y))))])) ∧ 
(sel (sameCB k k c c (sameS (shOf c) n (fun i => gi [SV.v (Value.int IntKind.i64 (Prod.fst (rowG (winBlk (Ro.blk { s := 2, n := n, row := fun i => [SV.v (Value.int IntKind.i64 (Prod.fst (g i))), SV.v (Value.int IntKind.i64 (Prod.snd (g i)))] }) 2 0 n) (0 + i)))), SV.v (Value.int IntKind.i64 (Prod.snd (rowG (winBlk (Ro.blk { s := 2, n := n, row := fun i => [SV.v (Value.int IntKind.i64 (Prod.fst (g i))), SV.v (Value.int IntKind.i64 (Prod.snd (g i)))] }) 2 0 n) (0 + i))))]) (shOf c) n fun i => gi [SV.v (Value.int IntKind.i64 (Prod.fst (rowG (winBlk (Ro.blk { s := 2, n := n, row := fun i => [SV.v (Value.int IntKind.i64 (Prod.fst (g i))), SV.v (Value.int IntKind.i64 (Prod.snd (g i)))] }) 2 0 n) (0 + i)))), SV.v (Value.int IntKind.i64 (Prod.snd (rowG (winBlk (Ro.blk { s := 2, n := n, row := fun i => [SV.v (Value.int IntKind.i64 (Prod.fst (g i))), SV.v (Value.int IntKind.i64 (Prod.snd (g i)))] }) 2 0 n) (0 + i))))])) (((rowsPre n n fun y => [SV.v (Value.int IntKind.i64 (Prod.fst (rowG (winBlk (Ro.blk { s := 2, n := n, row := fun i => [SV.v (Value.int IntKind.i64 (Prod.fst (g i))), SV.v (Value.int IntKind.i64 (Prod.snd (g i)))] }) 2 0 n) (0 + y)))), SV.v (Value.int IntKind.i64 (Prod.snd (rowG (winBlk (Ro.blk { s := 2, n := n, row := fun i => [SV.v (Value.int IntKind.i64 (Prod.fst (g i))), SV.v (Value.int IntKind.i64 (Prod.snd (g i)))] }) 2 0 n) (0 + y))))]) ∧ (rowsPre n n fun y => [SV.v (Value.int IntKind.i64 (Prod.fst (g (0 + y)))), SV.v (Value.int IntKind.i64 (Prod.snd (g (0 + y))))])) ∧ 
(sel (sameCB k k c c (sameS (shOf c) n (fun i => gi [SV.v (Value.int IntKind.i64 (Prod.fst (rowG (winBlk (Ro.blk { s := 2, n := n, row := fun i => [SV.v (Value.int IntKind.i64 (Prod.fst (g i))), SV.v (Value.int IntKind.i64 (Prod.snd (g i)))] }) 2 0 n) (0 + i)))), SV.v (Value.int IntKind.i64 (Prod.snd (rowG (winBlk (Ro.blk { s := 2, n := n, row := fun i => [SV.v (Value.int IntKind.i64 (Prod.fst (g i))), SV.v (Value.int IntKind.i64 (Prod.snd (g i)))] }) 2 0 n) (0 + i))))]) (shOf c) n fun i => gi [SV.v (Value.int IntKind.i64 (Prod.fst (g (0 + i)))), SV.v (Value.int IntKind.i64 (Prod.snd (g (0 + i))))])) (((rowsPre m m fun y => [SV.v (Value.int IntKind.i64 (Prod.fst (rowG (winBlk (Ro.blk { s := 2, n := m, row := fun i => [SV.v (Value.int IntKind.i64 (Prod.fst (g' i))), SV.v (Value.int IntKind.i64 (Prod.snd (g' i)))] }) 2 0 m) (0 + y)))), SV.v (Value.int IntKind.i64 (Prod.snd (rowG (winBlk (Ro.blk { s := 2, n := m, row := fun i => [SV.v (Value.int IntKind.i64 (Prod.fst (g' i))), SV.v (Value.int IntKind.i64 (Prod.snd (g' i)))] }) 2 0 m) (0 + y))))]) ∧ (rowsPre m m fun y => [SV.v (Value.int IntKind.i64 (Prod.fst (g' (0 + y)))), SV.v (Value.int IntKind.i64 (Prod.snd (g' (0 + y))))])) ∧ 
(sel (sameCB k' k' o o (sameS (shOf o) m (fun i => gi [SV.v (Value.int IntKind.i64 (Prod.fst (rowG (winBlk (Ro.blk { s := 2, n := m, row := fun i => [SV.v (Value.int IntKind.i64 (Prod.fst (g' i))), SV.v (Value.int IntKind.i64 (Prod.snd (g' i)))] }) 2 0 m) (0 + i)))), SV.v (Value.int IntKind.i64 (Prod.snd (rowG (winBlk (Ro.blk { s := 2, n := m, row := fun i => [SV.v (Value.int IntKind.i64 (Prod.fst (g' i))), SV.v (Value.int IntKind.i64 (Prod.snd (g' i)))] }) 2 0 m) (0 + i))))]) (shOf o) m fun i => gi [SV.v (Value.int IntKind.i64 (Prod.fst (g' (0 + i)))), SV.v (Value.int IntKind.i64 (Prod.snd (g' (0 + i))))])) (R (SV.v (Value.bool true))) (R (SV.v (Value.bool false))))) (R (SV.v (Value.bool false))))) (R (SV.v (Value.bool false))))) (R (SV.v (Value.bool false)))))) (R (SV.v (Value.bool false)))))) (R (SV.v (Value.bool false)))) (R (SV.v (Value.bool false)))))))))))) := by kernel_rfl
theorem rchk_O {k : Int} {c : CV} {n cap : Nat} {g : Nat → Int × Int} (hk : kindOk k = false) : vcFn Try.prog noCtrs noΛ Try.f29 [caS k c (.sl 0 2 0 n cap)] (roHeap [⟨2, n, rowsP g⟩]) 64 (fun y _ => y = iV (callE k c n g)) := by
  rw [vcRChkO]
  have e : callE k c n g = 8 := by unfold callE; rw [hk]; rfl
  rw [e]
  refine sel_of (fun _ => rfl) fun h1 => sel_of (fun _ => rfl) fun h2 => ?_
  unfold kindOk at hk
  rw [Bool.and_eq_false_iff] at hk
  have h1 := of_decide_eq_false h1
  have h2 := of_decide_eq_false h2
  rcases hk with h | h
  · have := of_decide_eq_false h; omega
  · have := of_decide_eq_false h; omega
theorem RCheckIn_spec : RoSpec Try.prog 29 (sCheckPart true) := ro_spec hm ΓRk_ok Try.func29 (Λ := fun _ _ => noΛ) fun args bs p x hs hp => by
  unfold sCheckPart at hs
  split at hs
  · rename_i l
    split at hs
    · rename_i k c n cap n' row hl
      obtain ⟨hk, hs⟩ := bif_some2' hs
      have hs := Option.some.inj hs
      obtain ⟨rfl, rfl⟩ := Prod.mk.inj hs
      obtain ⟨⟨h0, rfl, hn⟩, hc, hki, h100⟩ := hp _ rfl
      have h0 := okAll_rows.1 h0
      refine ⟨rfl, [⟨2, n', rowsP fun i => gi (row i)⟩], ⟨⟨rfl, rfl, fun i hi => (isPI_row (h0 i hi)).1⟩, trivial⟩, ?_⟩
      rw [cells_eq hl]
      have hg : ∀ i, i < n' → I64 ((fun i => gi (row i)) i).1 ∧ I64 ((fun i => gi (row i)) i).2 := fun i hi => (isPI_row (h0 i hi)).2
      have hk1 : kindOk k = true := by simpa using hk
      unfold kindOk at hk1
      rw [Bool.and_eq_true] at hk1
      rcases ten ⟨of_decide_eq_true hk1.1, of_decide_eq_true hk1.2⟩ with rfl | rfl | rfl | rfl | rfl | rfl | rfl | rfl | rfl | rfl
      · exact rchk_1 hc hn h100 hg
      · exact rchk_2 hc hn h100 hg
      · exact rchk_3 hc hn h100 hg
      · exact rchk_4 hc hn h100 hg
      · exact rchk_5 hc hn h100 hg
      · exact rchk_6 hc hn h100 hg
      · exact rchk_7 hc hn h100 hg
      · exact rchk_8 hc hn h100 hg
      · exact rchk_9 hc hn h100 hg
      · exact rchk_10 hc hn h100 hg
    · cases hs
  · cases hs
theorem RCheckOut_spec : RoSpec Try.prog 29 (sCheckPart false) := ro_spec hm noCtrs_ok Try.func29 (Λ := fun _ _ => noΛ) fun args bs p x hs hp => by
  unfold sCheckPart at hs
  split at hs
  · rename_i l
    split at hs
    · rename_i k c n cap n' row hl
      obtain ⟨hk, hs⟩ := bif_some2' hs
      have hs := Option.some.inj hs
      obtain ⟨rfl, rfl⟩ := Prod.mk.inj hs
      obtain ⟨⟨h0, rfl, hn⟩, hc, hki, h100⟩ := hp _ rfl
      have h0 := okAll_rows.1 h0
      refine ⟨rfl, [⟨2, n', rowsP fun i => gi (row i)⟩], ⟨⟨rfl, rfl, fun i hi => (isPI_row (h0 i hi)).1⟩, trivial⟩, ?_⟩
      rw [cells_eq hl]
      exact rchk_O (by simpa using hk)
    · cases hs
  · cases hs
theorem ro_split' {f : FuncId} {s : List SV → List Ro → Option (Option Prop × SV)} {s1 s2 : List SV → List Ro → Option (Option Prop × SV)} (h1 : RoSpec Try.prog f s1) (h2 : RoSpec Try.prog f s2) (h : ∀ args rs p, s args rs = some p → s1 args rs = some p ∨ s2 args rs = some p) : RoSpec Try.prog f s := fun args bs e hs => by
  unfold roSpec at hs
  cases hr : roOf bs with
  | none => rw [hr] at hs; cases hs
  | some rs =>
    rw [hr] at hs
    cases hq : s args rs with
    | none => simp only [hq] at hs; cases hs
    | some p =>
      rcases h args rs p hq with e1 | e1
      · exact h1 args bs e (by unfold roSpec; rw [hr]; simp only; rw [e1, ← hq]; exact hs)
      · exact h2 args bs e (by unfold roSpec; rw [hr]; simp only; rw [e1, ← hq]; exact hs)
theorem RCheckA_spec : RoSpec Try.prog 29 sCheckG := ro_split' RCheckIn_spec RCheckOut_spec fun args rs p hs => by
  unfold sCheckG at hs
  split at hs
  · split at hs
    · rename_i k c n cap n' row hl
      unfold sCheckPart
      simp only [hl]
      cases kindOk k
      · exact .inr hs
      · exact .inl hs
    · cases hs
  · cases hs
theorem ΓRl_ok : ∀ f g, ΓRl f = some g → g.ok Try.prog f := addCtr_ok (addCtr_ok noCtrs_ok (ro_ok Try.func29 (by kernel_rfl) (by kernel_rfl) RCheckA_spec)) (ro_ok Try.func74 (by kernel_rfl) (by kernel_rfl) RCallW_spec)
theorem callT_err {k : Int} {c : CV} {n : Nat} {g : Nat → Int × Int} (h : callE k c n g ≠ 0) : callT k c n g = emp := by
  unfold callE at h
  unfold callT
  cases h1 : kindOk k with
  | false => rfl
  | true =>
    rw [h1] at h
    cases h2 : formB k c n g with
    | false => rfl
    | true =>
      rw [h2] at h
      cases h3 : badB k c n with
      | true => rfl
      | false => rw [h3] at h; exact absurd rfl h
theorem callT_ok {k : Int} {c : CV} {n : Nat} {g : Nat → Int × Int} (h : callE k c n g = 0) : (1 ≤ k ∧ k ≤ 10) ∧ rcS k c n g = callT k c n g := by
  unfold callE at h
  unfold callT
  cases h1 : kindOk k with
  | false => rw [h1] at h; cases h
  | true =>
    rw [h1] at h
    cases h2 : formB k c n g with
    | false => rw [h2] at h; cases h
    | true =>
      rw [h2] at h
      cases h3 : badB k c n with
      | true => rw [h3] at h; cases h
      | false =>
        have hk : 1 ≤ k ∧ k ≤ 10 := by
          unfold kindOk at h1
          rw [Bool.and_eq_true] at h1
          exact ⟨of_decide_eq_true h1.1, of_decide_eq_true h1.2⟩
        exact ⟨hk, rcS_ok hk h3⟩
theorem gi_rows0 (g : Nat → Int × Int) : (fun i => gi [SV.v (.int .i64 (g (0 + i)).1), SV.v (.int .i64 (g (0 + i)).2)]) = g := by
  funext i
  rw [Nat.zero_add]
  rfl
theorem RCallA_spec : RoSpec Try.prog 27 sCallG := ro_spec hm ΓRl_ok Try.func27 (Λ := fun _ _ => noΛ) fun args bs p x hs hp => by
  unfold sCallG at hs
  split at hs
  · rename_i l
    split at hs
    · rename_i k c n cap n' row hl
      have hs := Option.some.inj hs
      obtain ⟨rfl, rfl⟩ := Prod.mk.inj hs
      obtain ⟨⟨h0, rfl, hn⟩, hc, hki, h100⟩ := hp _ rfl
      have h0 := okAll_rows.1 h0
      refine ⟨rfl, [⟨2, n', rowsP fun i => gi (row i)⟩], ⟨⟨rfl, rfl, fun i hi => (isPI_row (h0 i hi)).1⟩, trivial⟩, ?_⟩
      rw [cells_eq hl]
      have hp1 : calPre k c n' n' fun y => [SV.v (.int .i64 (gi (row (0 + y))).1), SV.v (.int .i64 (gi (row (0 + y))).2)] := ⟨pre_rows hn fun i hi => (isPI_row (h0 i hi)).2, hc, hki, h100⟩
      rw [vcRCall]
      have e0 := gi_rows0 fun i => gi (row i)
      refine ⟨hp1, ?_⟩
      rw [e0]
      refine sel_of (fun e => ?_) fun e => ?_
      · have e : callE k c n' (fun i => gi (row i)) ≠ 0 := by simpa using e
        show SV.tup [strS _, _] = SV.tup [strS _, _]
        rw [callT_err e]
        rfl
      · have e : callE k c n' (fun i => gi (row i)) = 0 := by simpa using e
        obtain ⟨hk, ht⟩ := callT_ok e
        refine ⟨⟨hp1, hk⟩, ?_⟩
        show SV.tup [strS _, iV 0] = SV.tup [strS _, iV _]
        rw [ht, e]
    · cases hs
  · cases hs
theorem ΓOw_ok : ∀ f g, ΓOw f = some g → g.ok Try.prog f := addCtr_ok noCtrs_ok (hp_ok Try.func73 (by kernel_rfl) (by kernel_rfl) OwnS_spec)
theorem rowG_rd {b : Blk} {n i : Nat} {g : Nat → Int × Int} : rowG (winBlk (rdS b n g) 2 0 n) i = g i := by
  show (gi [SV.v (.int .i64 (g (0 + i)).1), SV.v (.int .i64 (g (0 + i)).2)]) = _
  rw [Nat.zero_add]
  rfl
theorem OwnC_spec : HpSpec Try.prog 26 sOwnC := hp_spec hm ΓOw_ok Try.func26 (Λ := fun _ _ => noΛ) fun args bs e hs hp => by
  unfold sOwnC at hs
  split at hs
  · rename_i l b
    split at hs
    · rename_i k c n cap hl
      obtain ⟨hb, hs⟩ := bif_some2' hs
      have he := Option.some.inj hs
      subst he
      have hpre : spPre n b := hp
      obtain ⟨hn, hg⟩ := pre_of hpre
      refine ⟨[rdS b n (rowG b)], ⟨same_rdS hb hpre, trivial⟩, ?_⟩
      rw [cells_eq hl, vcOwnC]
      refine ⟨⟨okAll_rows.2 fun i hi => ?_, rfl, hn⟩, fun c1 => ⟨c1, ⟨rfl, rfl, rfl, rfl, rfl, rfl, rfl, rfl, rfl, rfl, rfl, rfl, rfl, rfl, rfl, rfl, rfl, rfl, rfl, rfl, rfl, rfl, rfl, rfl, rfl, rfl, rfl, rfl, rfl, rfl, rfl, rfl, rfl, rfl, rfl, rfl, rfl, rfl, rfl, rfl, rfl, rfl, rfl⟩, rfl, Nat.le_refl _, fun i _ => by rw [rowG_rd]⟩⟩
      show isPI [SV.v (.int .i64 (rowG b (0 + i)).1), SV.v (.int .i64 (rowG b (0 + i)).2)]
      rw [Nat.zero_add]
      exact hg i hi
    · cases hs
  · cases hs
theorem ΓWC_ok : ∀ f g, ΓWC f = some g → g.ok Try.prog f := addCtr_ok (addCtr_ok (addCtr_ok (addCtr_ok (addCtr_ok (addCtr_ok (addCtr_ok (addCtr_ok noCtrs_ok (hp_ok Try.func26 (by kernel_rfl) (by kernel_rfl) OwnC_spec)) (ro_ok Try.func24 (by kernel_rfl) (by kernel_rfl) CallA_spec)) (ro_ok Try.func27 (by kernel_rfl) (by kernel_rfl) RCallA_spec)) (ro_ok Try.func28 (by kernel_rfl) (by kernel_rfl) CheckA_spec)) (ro_ok Try.func29 (by kernel_rfl) (by kernel_rfl) RCheckA_spec)) (ro_ok Try.func25 (by kernel_rfl) (by kernel_rfl) SameC_spec)) (ro_ok Try.func30 (by kernel_rfl) (by kernel_rfl) RSameC_spec)) (pure_ok Try.func20 (by kernel_rfl) (by kernel_rfl) Awake0_spec)
end Go.Proofs.Ytjdldadmaaeimaa
end

section
/-
  WireCalls: the plain part.
-/
set_option maxRecDepth 100000
set_option linter.unusedSimpArgs false
set_option linter.unusedVariables false
namespace Go.Proofs.Ytjdldadmaaeimaa
open Go.SE Go.RowKit
theorem rowG_roh {n : Nat} {g : Nat → Int × Int} : rowG (winBlk (Ro.blk { s := 2, n := n, row := fun i => [SV.v (.int .i64 (g i).1), SV.v (.int .i64 (g i).2)] }) 2 0 n) = g := by
  funext i
  show (gi [SV.v (.int .i64 (g (0 + i)).1), SV.v (.int .i64 (g (0 + i)).2)]) = _
  rw [Nat.zero_add]
  rfl
theorem eqP_self (p : Int × Int) : eqP p p = true := by unfold eqP; rw [beq_self_eq_true, beq_self_eq_true]; rfl
theorem sameS_self (a : ShB) (n : Nat) (g : Nat → Int × Int) : sameS a n g a n g = true := by
  unfold sameS eqSh sameP
  simp only [beq_self_eq_true, Nat.beq_refl, Bool.true_and, Bool.and_true]
  exact List.all_eq_true.2 fun i _ => eqP_self _
theorem sameCB_self (k : Int) (c : CV) : sameCB k k c c true = true := by
  unfold sameCB
  simp only [beq_self_eq_true, Bool.and_true, Bool.true_and]
theorem bs_self (s : ByteArray) : (s == s) = true := by
  show (s.data == s.data) = true
  exact beq_self_eq_true _
theorem calls_holds {k k' : Int} {c o : CV} {n cap m cap' : Nat} {g g' : Nat → Int × Int} (hk : I64 k) (hk' : I64 k') (hc : cvOk c) (ho : cvOk o) (hg : ∀ i, i < n → I64 (g i).1 ∧ I64 (g i).2) (hg' : ∀ i, i < m → I64 (g' i).1 ∧ I64 (g' i).2) : vcFn Try.prog ΓWC (addPr noΛ 3 [(6, fun nx => nx + 32), (7, fun nx => nx + 40)]) Try.f6 [caS k c (.sl 0 2 0 n cap), caS k' o (.sl 1 2 0 m cap')] (roHeap [⟨2, n, rowsP g⟩, ⟨2, m, rowsP g'⟩]) 64 (fun y _ => y = bV true) := by
  rw [vcCallsL]
  rw [rowG_roh, rowG_roh, gi_rows0 g, gi_rows0 g']
  rw [show (callT k c n g == callT k c n g) = true from bs_self _]
  simp only [beq_self_eq_true, sameS_self, sameCB_self]
  refine sel_of (fun _ => rfl) fun h1 => sel_of (fun _ => rfl) fun h2 => ?_
  have h1 := of_decide_eq_false h1
  have h2 := of_decide_eq_false h2
  have hn : n < 1099511627776 := by omega
  have hm : m < 1099511627776 := by omega
  have pn := pre_rows hn hg
  have pm := pre_rows hm hg'
  have cp := (show calPre k c n n fun y => [SV.v (.int .i64 (g (0 + y)).1), SV.v (.int .i64 (g (0 + y)).2)] from ⟨pn, hc, hk, by omega⟩)
  exact ⟨win_sp hn hg, fun _ => ⟨win_sp hm hg', fun _ => ⟨cp, cp, cp, cp, ⟨pn, pm⟩, ⟨pn, pm⟩, ⟨pn, pn⟩, ⟨pn, pn⟩, ⟨pm, pm⟩, rfl⟩⟩⟩
theorem CallsL_spec : RoSpec Try.prog 6 sCallsL := ro_spec hm ΓWC_ok Try.func6 (Λ := fun _ _ => addPr noΛ 3 [(6, fun nx => nx + 32), (7, fun nx => nx + 40)]) fun args bs p x hs hp => by
  unfold sCallsL at hs
  split at hs
  · rename_i l l'
    split at hs
    · rename_i k c n cap k' o m cap' n' row m' row' hl hl'
      have hs := Option.some.inj hs
      obtain ⟨rfl, rfl⟩ := Prod.mk.inj hs
      obtain ⟨⟨⟨h0, rfl⟩, hc, hki⟩, ⟨k0, rfl⟩, ho, hki'⟩ := hp _ rfl
      have h0 := okAll_rows.1 h0
      have k0 := okAll_rows.1 k0
      refine ⟨rfl, [⟨2, n', rowsP fun i => gi (row i)⟩, ⟨2, m', rowsP fun i => gi (row' i)⟩], ⟨⟨rfl, rfl, fun i hi => (isPI_row (h0 i hi)).1⟩, ⟨rfl, rfl, fun i hi => (isPI_row (k0 i hi)).1⟩, trivial⟩, ?_⟩
      rw [cells_eq hl, cells_eq hl']
      exact calls_holds hki hki' hc ho (fun i hi => (isPI_row (h0 i hi)).2) fun i hi => (isPI_row (k0 i hi)).2
    · cases hs
  · cases hs
end Go.Proofs.Ytjdldadmaaeimaa
end
