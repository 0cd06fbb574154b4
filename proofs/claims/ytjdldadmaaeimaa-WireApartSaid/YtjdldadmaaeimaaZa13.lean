/-
  What the proof uses, part 13.
-/
import Derived.Test.YtjdldadmaaeimaaZa12

section
set_option maxRecDepth 100000
set_option linter.unusedSimpArgs false
set_option linter.unusedVariables false
namespace Go.Proofs.Ytjdldadmaaeimaa
open Go.SE Go.RowKit

def ucK (k : Int) (c : CV) : CV := bif decide (k = 1) then uc1 c else (bif decide (k = 2) then uc2 c else (bif decide (k = 3) then uc3 c else (bif decide (k = 4) then uc4 c else (bif decide (k = 5) then uc5 c else (bif decide (k = 6) then uc6 c else (bif decide (k = 7) then uc7 c else (bif decide (k = 8) then uc8 c else (bif decide (k = 9) then uc9 c else (bif decide (k = 10) then uc10 c else (zCV))))))))))
def kN (k : Int) (n : Nat) : Nat := bif decide (k = 1) then caN1 n else (bif decide (k = 2) then caN2 n else (bif decide (k = 3) then caN3 n else (bif decide (k = 4) then caN4 n else (bif decide (k = 5) then caN5 n else (bif decide (k = 6) then caN6 n else (bif decide (k = 7) then caN7 n else (bif decide (k = 8) then caN8 n else (bif decide (k = 9) then caN9 n else (bif decide (k = 10) then caN10 n else (0))))))))))
def kT (k : Int) (c : CV) (n : Nat) (x y : Nat → Int) : List Int := bif decide (k = 1) then caT1 c n x y else (bif decide (k = 2) then caT2 c n x y else (bif decide (k = 3) then caT3 c n x y else (bif decide (k = 4) then caT4 c n x y else (bif decide (k = 5) then caT5 c n x y else (bif decide (k = 6) then caT6 c n x y else (bif decide (k = 7) then caT7 c n x y else (bif decide (k = 8) then caT8 c n x y else (bif decide (k = 9) then caT9 c n x y else (bif decide (k = 10) then caT10 c n x y else ([]))))))))))
def kB (k : Int) (c : CV) (n : Nat) : Bool := bif decide (k = 1) then caB1 c n else (bif decide (k = 2) then caB2 c n else (bif decide (k = 3) then caB3 c n else (bif decide (k = 4) then caB4 c n else (bif decide (k = 5) then caB5 c n else (bif decide (k = 6) then caB6 c n else (bif decide (k = 7) then caB7 c n else (bif decide (k = 8) then caB8 c n else (bif decide (k = 9) then caB9 c n else (bif decide (k = 10) then caB10 c n else (false))))))))))
def gX (S : Blk) : Nat → Int := fun i => (rowG S i).1
def gY (S : Blk) : Nat → Int := fun i => (rowG S i).2
def sCallW (args : List SV) (bs : List Blk) : Option Eff := match args with
  | [.vp 0 0, .agg l] => match cellsOf l with
    | some (k, c, .sl 1 2 0 n _) => match bs with
      | [B, S] => match wrOf [B] with
        | some (.fresh (some b)) => bif okB S then some (apE (.fresh (some b)) 0 ((1 ≤ k ∧ k ≤ 10) ∧ cvOk c ∧ spPre n S ∧ n < 100) (5 + kN k n) (caL k c (kT k c n (gX S) (gY S))) (caB c (kB k c n))) else none
        | _ => none
      | _ => none
    | _ => none
  | _ => none
def sUsedC (args : List SV) (bs : List Blk) : Option Eff := match args with
  | [.agg l] => match cellsOf l with
    | some (k, c, .sl 0 2 0 n cap) => match bs with
      | [S] => bif okB S then (bif decide (k = 1) then some (.det (some (spPre n S)) (.tup [caS 1 (uc1 c) (.sl 0 2 0 n cap), bV true]) []) else bif decide (k = 2) then some (.det (some (spPre n S)) (.tup [caS 2 (uc2 c) nilS, bV true]) []) else bif decide (k = 3) then some (.det (some (spPre n S)) (.tup [caS 3 (uc3 c) nilS, bV true]) []) else bif decide (k = 4) then some (.det (some (spPre n S)) (.tup [caS 4 (uc4 c) nilS, bV true]) []) else bif decide (k = 5) then some (.det (some (spPre n S)) (.tup [caS 5 (uc5 c) nilS, bV true]) []) else bif decide (k = 6) then some (.det (some (spPre n S)) (.tup [caS 6 (uc6 c) nilS, bV true]) []) else bif decide (k = 7) then some (.det (some (spPre n S)) (.tup [caS 7 (uc7 c) nilS, bV true]) []) else bif decide (k = 8) then some (.det (some (spPre n S)) (.tup [caS 8 (uc8 c) nilS, bV true]) []) else bif decide (k = 9) then some (.det (some (spPre n S)) (.tup [caS 9 (uc9 c) nilS, bV true]) []) else bif decide (k = 10) then some (.det (some (spPre n S)) (.tup [caS 10 (uc10 c) nilS, bV true]) []) else none) else none
      | _ => none
    | _ => none
  | _ => none
def sDoneG (args : List SV) (bs : List Blk) : Option Eff := match args with
  | [.vp 0 0] => match wrOf bs with
    | some (.used (some b) n g c p) => some (.det (some p) (.tup [strS (bif b then emp else strOf n fun i => [.v (.int .u8 (g i))]), iV (bif b then 3 else 0)]) [(0, wB (some b) false (.sl 1 1 0 n c)), (1, bG n g c)])
    | _ => none
  | _ => none
def ΓCc : Ctrs := addCtr (addCtr (addCtr (addCtr noCtrs 69 (hpCtr true sUsedC)) 25 (roCtr sSameC)) 70 (hpCtr true sCallW)) 71 (hpCtr true sDoneG)
def sUsedO (args : List SV) (bs : List Blk) : Option Eff := match args with
  | [.agg l] => match cellsOf l with
    | some (k, c, .sl 0 2 0 n cap) => match bs with
      | [S] => bif okB S then some (.det (some (spPre n S ∧ (k < 1 ∨ 10 < k))) (.tup [caS 0 zCV nilS, bV false]) []) else none
      | _ => none
    | _ => none
  | _ => none
def ΓCo : Ctrs := addCtr ΓCc 69 (hpCtr true sUsedO)
theorem vcCallGO (k : Int) (c : CV) (n m cap : Nat) (g : Nat → Int × Int) (R : SV → Prop) : (vcFn Try.prog ΓCo noΛ Try.f24 [caS k c (.sl 0 2 0 n cap)] (roHeap [⟨2, m, rowsP g⟩]) 64 (fun y _ => R y)) =
(((spPre n (winBlk (Ro.blk { s := 2, n := m, row := fun i => [SV.v (Value.int IntKind.i64 (Prod.fst (g i))), SV.v (Value.int IntKind.i64 (Prod.snd (g i)))] }) 2 0 n)) ∧ (k < 1 ∨ 10 < k)) ∧ (R (SV.tup [(SV.v (Value.string ({ data := #[] }))), (SV.v (Value.int IntKind.i64 8))]))) := by kernel_rfl
theorem vcDoneG0 (q : Option Prop) (n : Nat) (g : Nat → Int) (c : Nat) : (vcFn Try.prog noCtrs noΛ Try.f71 [.vp 0 0] (heapOf (uB (some false) n g c)) 64 (fun y h' => FinE (uB (some false) n g c) (.det q (.tup [strS (bif false then emp else strOf n fun i => [.v (.int .u8 (g i))]), iV (bif false then 3 else 0)]) [(0, wB (some false) false (.sl 1 1 0 n c)), (1, bG n g c)]) y h')) =
((∀ y : Nat, (((y : Nat) < n) → True)) ∧ ((((SV.v (Value.string (strOf n fun y => [SV.v (Value.int IntKind.u8 (g (0 + y)))]))) = (SV.v (Value.string (bif false then emp else strOf n fun i => [SV.v (Value.int IntKind.u8 (g i))])))) ∧ ((SV.v (Value.int IntKind.i64 0)) = (SV.v (Value.int IntKind.i64 0)))) ∧ ((((1 : Nat) = 1) ∧ (((1 : Nat) ≤ 1) ∧ (((SV.sl 1 1 0 n c) = (SV.sl 1 1 0 n c)) ∧ ((SV.v (Value.bool false)) = (SV.v (Value.bool false)))))) ∧ (((n : Nat) = n) ∧ (((c : Nat) ≤ c) ∧ (∀ i : Nat, (((i : Nat) < n) → ([(SV.v (Value.int IntKind.u8 (g i)))] = [(SV.v (Value.int IntKind.u8 (g i)))])))))))) := by kernel_rfl
theorem vcDoneG1 (q : Option Prop) (n : Nat) (g : Nat → Int) (c : Nat) : (vcFn Try.prog noCtrs noΛ Try.f71 [.vp 0 0] (heapOf (uB (some true) n g c)) 64 (fun y h' => FinE (uB (some true) n g c) (.det q (.tup [strS (bif true then emp else strOf n fun i => [.v (.int .u8 (g i))]), iV (bif true then 3 else 0)]) [(0, wB (some true) false (.sl 1 1 0 n c)), (1, bG n g c)]) y h')) =
((((SV.v (Value.string ({ data := #[] }))) = (SV.v (Value.string (bif true then emp else strOf n fun i => [SV.v (Value.int IntKind.u8 (g i))])))) ∧ ((SV.v (Value.int IntKind.i64 3)) = (SV.v (Value.int IntKind.i64 3)))) ∧ ((((1 : Nat) = 1) ∧ (((1 : Nat) ≤ 1) ∧ (((SV.sl 1 1 0 n c) = (SV.sl 1 1 0 n c)) ∧ ((SV.v (Value.bool true)) = (SV.v (Value.bool true)))))) ∧ (((n : Nat) = n) ∧ (((c : Nat) ≤ c) ∧ (∀ i : Nat, (((i : Nat) < n) → ([(SV.v (Value.int IntKind.u8 (g i)))] = [(SV.v (Value.int IntKind.u8 (g i)))]))))))) := by kernel_rfl
theorem vcCallG1 (c : CV) (n m cap : Nat) (g : Nat → Int × Int) (R : SV → Prop) : (vcFn Try.prog ΓCc noΛ Try.f24 [caS 1 c (.sl 0 2 0 n cap)] (roHeap [⟨2, m, rowsP g⟩]) 64 (fun y _ => R y)) =
((spPre n (winBlk (Ro.blk { s := 2, n := m, row := fun i => [SV.v (Value.int IntKind.i64 (Prod.fst (g i))), SV.v (Value.int IntKind.i64 (Prod.snd (g i)))] }) 2 0 n)) ∧ (((rowsPre n n fun y => [SV.v (Value.int IntKind.i64 (Prod.fst (g (0 + y)))), SV.v (Value.int IntKind.i64 (Prod.snd (g (0 + y))))]) ∧ (rowsPre n n fun y => [SV.v (Value.int IntKind.i64 (Prod.fst (g (0 + y)))), SV.v (Value.int IntKind.i64 (Prod.snd (g (0 + y))))])) ∧ 
(sel (!sameCB 1 1 (uc1 c) c (sameS (shOf (uc1 c)) n (fun i => gi [SV.v (Value.int IntKind.i64 (Prod.fst (g (0 + i)))), SV.v (Value.int IntKind.i64 (Prod.snd (g (0 + i))))]) (shOf c) n fun i => gi [SV.v (Value.int IntKind.i64 (Prod.fst (g (0 + i)))), SV.v (Value.int IntKind.i64 (Prod.snd (g (0 + i))))])) (R (SV.tup [(SV.v (Value.string ({ data := #[] }))), (SV.v (Value.int IntKind.i64 4))])) (((((1 : Int) ≤ 1) ∧ ((1 : Int) ≤ 10)) ∧ ((cvOk c) ∧ ((spPre n (winBlk (Ro.blk { s := 2, n := m, row := fun i => [SV.v (Value.int IntKind.i64 (Prod.fst (g i))), SV.v (Value.int IntKind.i64 (Prod.snd (g i)))] }) 2 0 n)) ∧ ((n : Nat) < 100)))) ∧ (∀ c_1 : Nat, ((bytesOk (5 + kN 1 n) (5 + kN 1 n + c_1) { elem := 5, size := 1, rw := true, lock := false, lit := false, flat := true, n := 5 + kN 1 n, row := fun i => [SV.v (Value.int IntKind.u8 ((fun i => List.getD (caL 1 c (kT 1 c n (gX (winBlk (Ro.blk { s := 2, n := m, row := fun i => [SV.v (Value.int IntKind.i64 (Prod.fst (g i))), SV.v (Value.int IntKind.i64 (Prod.snd (g i)))] }) 2 0 n)) (gY (winBlk (Ro.blk { s := 2, n := m, row := fun i => [SV.v (Value.int IntKind.i64 (Prod.fst (g i))), SV.v (Value.int IntKind.i64 (Prod.snd (g i)))] }) 2 0 n)))) i 0) i))], ext := 5 + kN 1 n + c_1 }) ∧ (R (SV.tup [(SV.v (Value.string (bif false || caB c (kB 1 c n) then emp else strOf (5 + kN 1 n) fun i => [SV.v (Value.int IntKind.u8 (SE.byteOf [SV.v (Value.int IntKind.u8 ((fun i => List.getD (caL 1 c (kT 1 c n (gX (winBlk (Ro.blk { s := 2, n := m, row := fun i => [SV.v (Value.int IntKind.i64 (Prod.fst (g i))), SV.v (Value.int IntKind.i64 (Prod.snd (g i)))] }) 2 0 n)) (gY (winBlk (Ro.blk { s := 2, n := m, row := fun i => [SV.v (Value.int IntKind.i64 (Prod.fst (g i))), SV.v (Value.int IntKind.i64 (Prod.snd (g i)))] }) 2 0 n)))) i 0) i))]))]))), (SV.v (Value.int IntKind.i64 (bif false || caB c (kB 1 c n) then 3 else 0)))])))))))) := by kernel_rfl
theorem vcCallG2 (c : CV) (n m cap : Nat) (g : Nat → Int × Int) (R : SV → Prop) : (vcFn Try.prog ΓCc noΛ Try.f24 [caS 2 c (.sl 0 2 0 n cap)] (roHeap [⟨2, m, rowsP g⟩]) 64 (fun y _ => R y)) =
((spPre n (winBlk (Ro.blk { s := 2, n := m, row := fun i => [SV.v (Value.int IntKind.i64 (Prod.fst (g i))), SV.v (Value.int IntKind.i64 (Prod.snd (g i)))] }) 2 0 n)) ∧ ((rowsPre n n fun y => [SV.v (Value.int IntKind.i64 (Prod.fst (g (0 + y)))), SV.v (Value.int IntKind.i64 (Prod.snd (g (0 + y))))]) ∧ 
(sel (!sameCB 2 2 (uc2 c) c (eqSh (shOf (uc2 c)) (shOf c) && Nat.beq n 0)) (R (SV.tup [(SV.v (Value.string ({ data := #[] }))), (SV.v (Value.int IntKind.i64 4))])) (((((1 : Int) ≤ 2) ∧ ((2 : Int) ≤ 10)) ∧ ((cvOk c) ∧ ((spPre n (winBlk (Ro.blk { s := 2, n := m, row := fun i => [SV.v (Value.int IntKind.i64 (Prod.fst (g i))), SV.v (Value.int IntKind.i64 (Prod.snd (g i)))] }) 2 0 n)) ∧ ((n : Nat) < 100)))) ∧ (∀ c_1 : Nat, ((bytesOk (5 + kN 2 n) (5 + kN 2 n + c_1) { elem := 5, size := 1, rw := true, lock := false, lit := false, flat := true, n := 5 + kN 2 n, row := fun i => [SV.v (Value.int IntKind.u8 ((fun i => List.getD (caL 2 c (kT 2 c n (gX (winBlk (Ro.blk { s := 2, n := m, row := fun i => [SV.v (Value.int IntKind.i64 (Prod.fst (g i))), SV.v (Value.int IntKind.i64 (Prod.snd (g i)))] }) 2 0 n)) (gY (winBlk (Ro.blk { s := 2, n := m, row := fun i => [SV.v (Value.int IntKind.i64 (Prod.fst (g i))), SV.v (Value.int IntKind.i64 (Prod.snd (g i)))] }) 2 0 n)))) i 0) i))], ext := 5 + kN 2 n + c_1 }) ∧ (R (SV.tup [(SV.v (Value.string (bif false || caB c (kB 2 c n) then emp else strOf (5 + kN 2 n) fun i => [SV.v (Value.int IntKind.u8 (SE.byteOf [SV.v (Value.int IntKind.u8 ((fun i => List.getD (caL 2 c (kT 2 c n (gX (winBlk (Ro.blk { s := 2, n := m, row := fun i => [SV.v (Value.int IntKind.i64 (Prod.fst (g i))), SV.v (Value.int IntKind.i64 (Prod.snd (g i)))] }) 2 0 n)) (gY (winBlk (Ro.blk { s := 2, n := m, row := fun i => [SV.v (Value.int IntKind.i64 (Prod.fst (g i))), SV.v (Value.int IntKind.i64 (Prod.snd (g i)))] }) 2 0 n)))) i 0) i))]))]))), (SV.v (Value.int IntKind.i64 (bif false || caB c (kB 2 c n) then 3 else 0)))])))))))) := by kernel_rfl
theorem vcCallG3 (c : CV) (n m cap : Nat) (g : Nat → Int × Int) (R : SV → Prop) : (vcFn Try.prog ΓCc noΛ Try.f24 [caS 3 c (.sl 0 2 0 n cap)] (roHeap [⟨2, m, rowsP g⟩]) 64 (fun y _ => R y)) =
((spPre n (winBlk (Ro.blk { s := 2, n := m, row := fun i => [SV.v (Value.int IntKind.i64 (Prod.fst (g i))), SV.v (Value.int IntKind.i64 (Prod.snd (g i)))] }) 2 0 n)) ∧ ((rowsPre n n fun y => [SV.v (Value.int IntKind.i64 (Prod.fst (g (0 + y)))), SV.v (Value.int IntKind.i64 (Prod.snd (g (0 + y))))]) ∧ 
(sel (!sameCB 3 3 (uc3 c) c (eqSh (shOf (uc3 c)) (shOf c) && Nat.beq n 0)) (R (SV.tup [(SV.v (Value.string ({ data := #[] }))), (SV.v (Value.int IntKind.i64 4))])) (((((1 : Int) ≤ 3) ∧ ((3 : Int) ≤ 10)) ∧ ((cvOk c) ∧ ((spPre n (winBlk (Ro.blk { s := 2, n := m, row := fun i => [SV.v (Value.int IntKind.i64 (Prod.fst (g i))), SV.v (Value.int IntKind.i64 (Prod.snd (g i)))] }) 2 0 n)) ∧ ((n : Nat) < 100)))) ∧ (∀ c_1 : Nat, ((bytesOk (5 + kN 3 n) (5 + kN 3 n + c_1) { elem := 5, size := 1, rw := true, lock := false, lit := false, flat := true, n := 5 + kN 3 n, row := fun i => [SV.v (Value.int IntKind.u8 ((fun i => List.getD (caL 3 c (kT 3 c n (gX (winBlk (Ro.blk { s := 2, n := m, row := fun i => [SV.v (Value.int IntKind.i64 (Prod.fst (g i))), SV.v (Value.int IntKind.i64 (Prod.snd (g i)))] }) 2 0 n)) (gY (winBlk (Ro.blk { s := 2, n := m, row := fun i => [SV.v (Value.int IntKind.i64 (Prod.fst (g i))), SV.v (Value.int IntKind.i64 (Prod.snd (g i)))] }) 2 0 n)))) i 0) i))], ext := 5 + kN 3 n + c_1 }) ∧ (R (SV.tup [(SV.v (Value.string (bif false || caB c (kB 3 c n) then emp else strOf (5 + kN 3 n) fun i => [SV.v (Value.int IntKind.u8 (SE.byteOf [SV.v (Value.int IntKind.u8 ((fun i => List.getD (caL 3 c (kT 3 c n (gX (winBlk (Ro.blk { s := 2, n := m, row := fun i => [SV.v (Value.int IntKind.i64 (Prod.fst (g i))), SV.v (Value.int IntKind.i64 (Prod.snd (g i)))] }) 2 0 n)) (gY (winBlk (Ro.blk { s := 2, n := m, row := fun i => [SV.v (Value.int IntKind.i64 (Prod.fst (g i))), SV.v (Value.int IntKind.i64 (Prod.snd (g i)))] }) 2 0 n)))) i 0) i))]))]))), (SV.v (Value.int IntKind.i64 (bif false || caB c (kB 3 c n) then 3 else 0)))])))))))) := by kernel_rfl
theorem vcCallG4 (c : CV) (n m cap : Nat) (g : Nat → Int × Int) (R : SV → Prop) : (vcFn Try.prog ΓCc noΛ Try.f24 [caS 4 c (.sl 0 2 0 n cap)] (roHeap [⟨2, m, rowsP g⟩]) 64 (fun y _ => R y)) =
((spPre n (winBlk (Ro.blk { s := 2, n := m, row := fun i => [SV.v (Value.int IntKind.i64 (Prod.fst (g i))), SV.v (Value.int IntKind.i64 (Prod.snd (g i)))] }) 2 0 n)) ∧ ((rowsPre n n fun y => [SV.v (Value.int IntKind.i64 (Prod.fst (g (0 + y)))), SV.v (Value.int IntKind.i64 (Prod.snd (g (0 + y))))]) ∧ 
(sel (!sameCB 4 4 (uc4 c) c (eqSh (shOf (uc4 c)) (shOf c) && Nat.beq n 0)) (R (SV.tup [(SV.v (Value.string ({ data := #[] }))), (SV.v (Value.int IntKind.i64 4))])) (((((1 : Int) ≤ 4) ∧ ((4 : Int) ≤ 10)) ∧ ((cvOk c) ∧ ((spPre n (winBlk (Ro.blk { s := 2, n := m, row := fun i => [SV.v (Value.int IntKind.i64 (Prod.fst (g i))), SV.v (Value.int IntKind.i64 (Prod.snd (g i)))] }) 2 0 n)) ∧ ((n : Nat) < 100)))) ∧ (∀ c_1 : Nat, ((bytesOk (5 + kN 4 n) (5 + kN 4 n + c_1) { elem := 5, size := 1, rw := true, lock := false, lit := false, flat := true, n := 5 + kN 4 n, row := fun i => [SV.v (Value.int IntKind.u8 ((fun i => List.getD (caL 4 c (kT 4 c n (gX (winBlk (Ro.blk { s := 2, n := m, row := fun i => [SV.v (Value.int IntKind.i64 (Prod.fst (g i))), SV.v (Value.int IntKind.i64 (Prod.snd (g i)))] }) 2 0 n)) (gY (winBlk (Ro.blk { s := 2, n := m, row := fun i => [SV.v (Value.int IntKind.i64 (Prod.fst (g i))), SV.v (Value.int IntKind.i64 (Prod.snd (g i)))] }) 2 0 n)))) i 0) i))], ext := 5 + kN 4 n + c_1 }) ∧ (R (SV.tup [(SV.v (Value.string (bif false || caB c (kB 4 c n) then emp else strOf (5 + kN 4 n) fun i => [SV.v (Value.int IntKind.u8 (SE.byteOf [SV.v (Value.int IntKind.u8 ((fun i => List.getD (caL 4 c (kT 4 c n (gX (winBlk (Ro.blk { s := 2, n := m, row := fun i => [SV.v (Value.int IntKind.i64 (Prod.fst (g i))), SV.v (Value.int IntKind.i64 (Prod.snd (g i)))] }) 2 0 n)) (gY (winBlk (Ro.blk { s := 2, n := m, row := fun i => [SV.v (Value.int IntKind.i64 (Prod.fst (g i))), SV.v (Value.int IntKind.i64 (Prod.snd (g i)))] }) 2 0 n)))) i 0) i))]))]))), (SV.v (Value.int IntKind.i64 (bif false || caB c (kB 4 c n) then 3 else 0)))])))))))) := by kernel_rfl
theorem vcCallG5 (c : CV) (n m cap : Nat) (g : Nat → Int × Int) (R : SV → Prop) : (vcFn Try.prog ΓCc noΛ Try.f24 [caS 5 c (.sl 0 2 0 n cap)] (roHeap [⟨2, m, rowsP g⟩]) 64 (fun y _ => R y)) =
((spPre n (winBlk (Ro.blk { s := 2, n := m, row := fun i => [SV.v (Value.int IntKind.i64 (Prod.fst (g i))), SV.v (Value.int IntKind.i64 (Prod.snd (g i)))] }) 2 0 n)) ∧ ((rowsPre n n fun y => [SV.v (Value.int IntKind.i64 (Prod.fst (g (0 + y)))), SV.v (Value.int IntKind.i64 (Prod.snd (g (0 + y))))]) ∧ 
(sel (!sameCB 5 5 (uc5 c) c (eqSh (shOf (uc5 c)) (shOf c) && Nat.beq n 0)) (R (SV.tup [(SV.v (Value.string ({ data := #[] }))), (SV.v (Value.int IntKind.i64 4))])) (((((1 : Int) ≤ 5) ∧ ((5 : Int) ≤ 10)) ∧ ((cvOk c) ∧ ((spPre n (winBlk (Ro.blk { s := 2, n := m, row := fun i => [SV.v (Value.int IntKind.i64 (Prod.fst (g i))), SV.v (Value.int IntKind.i64 (Prod.snd (g i)))] }) 2 0 n)) ∧ ((n : Nat) < 100)))) ∧ (∀ c_1 : Nat, ((bytesOk (5 + kN 5 n) (5 + kN 5 n + c_1) { elem := 5, size := 1, rw := true, lock := false, lit := false, flat := true, n := 5 + kN 5 n, row := fun i => [SV.v (Value.int IntKind.u8 ((fun i => List.getD (caL 5 c (kT 5 c n (gX (winBlk (Ro.blk { s := 2, n := m, row := fun i => [SV.v (Value.int IntKind.i64 (Prod.fst (g i))), SV.v (Value.int IntKind.i64 (Prod.snd (g i)))] }) 2 0 n)) (gY (winBlk (Ro.blk { s := 2, n := m, row := fun i => [SV.v (Value.int IntKind.i64 (Prod.fst (g i))), SV.v (Value.int IntKind.i64 (Prod.snd (g i)))] }) 2 0 n)))) i 0) i))], ext := 5 + kN 5 n + c_1 }) ∧ (R (SV.tup [(SV.v (Value.string (bif false || caB c (kB 5 c n) then emp else strOf (5 + kN 5 n) fun i => [SV.v (Value.int IntKind.u8 (SE.byteOf [SV.v (Value.int IntKind.u8 ((fun i => List.getD (caL 5 c (kT 5 c n (gX (winBlk (Ro.blk { s := 2, n := m, row := fun i => [SV.v (Value.int IntKind.i64 (Prod.fst (g i))), SV.v (Value.int IntKind.i64 (Prod.snd (g i)))] }) 2 0 n)) (gY (winBlk (Ro.blk { s := 2, n := m, row := fun i => [SV.v (Value.int IntKind.i64 (Prod.fst (g i))), SV.v (Value.int IntKind.i64 (Prod.snd (g i)))] }) 2 0 n)))) i 0) i))]))]))), (SV.v (Value.int IntKind.i64 (bif false || caB c (kB 5 c n) then 3 else 0)))])))))))) := by kernel_rfl
theorem vcCallG6 (c : CV) (n m cap : Nat) (g : Nat → Int × Int) (R : SV → Prop) : (vcFn Try.prog ΓCc noΛ Try.f24 [caS 6 c (.sl 0 2 0 n cap)] (roHeap [⟨2, m, rowsP g⟩]) 64 (fun y _ => R y)) =
((spPre n (winBlk (Ro.blk { s := 2, n := m, row := fun i => [SV.v (Value.int IntKind.i64 (Prod.fst (g i))), SV.v (Value.int IntKind.i64 (Prod.snd (g i)))] }) 2 0 n)) ∧ ((rowsPre n n fun y => [SV.v (Value.int IntKind.i64 (Prod.fst (g (0 + y)))), SV.v (Value.int IntKind.i64 (Prod.snd (g (0 + y))))]) ∧ 
(sel (!sameCB 6 6 (uc6 c) c (eqSh (shOf (uc6 c)) (shOf c) && Nat.beq n 0)) (R (SV.tup [(SV.v (Value.string ({ data := #[] }))), (SV.v (Value.int IntKind.i64 4))])) (((((1 : Int) ≤ 6) ∧ ((6 : Int) ≤ 10)) ∧ ((cvOk c) ∧ ((spPre n (winBlk (Ro.blk { s := 2, n := m, row := fun i => [SV.v (Value.int IntKind.i64 (Prod.fst (g i))), SV.v (Value.int IntKind.i64 (Prod.snd (g i)))] }) 2 0 n)) ∧ ((n : Nat) < 100)))) ∧ (∀ c_1 : Nat, ((bytesOk (5 + kN 6 n) (5 + kN 6 n + c_1) { elem := 5, size := 1, rw := true, lock := false, lit := false, flat := true, n := 5 + kN 6 n, row := fun i => [SV.v (Value.int IntKind.u8 ((fun i => List.getD (caL 6 c (kT 6 c n (gX (winBlk (Ro.blk { s := 2, n := m, row := fun i => [SV.v (Value.int IntKind.i64 (Prod.fst (g i))), SV.v (Value.int IntKind.i64 (Prod.snd (g i)))] }) 2 0 n)) (gY (winBlk (Ro.blk { s := 2, n := m, row := fun i => [SV.v (Value.int IntKind.i64 (Prod.fst (g i))), SV.v (Value.int IntKind.i64 (Prod.snd (g i)))] }) 2 0 n)))) i 0) i))], ext := 5 + kN 6 n + c_1 }) ∧ (R (SV.tup [(SV.v (Value.string (bif false || caB c (kB 6 c n) then emp else strOf (5 + kN 6 n) fun i => [SV.v (Value.int IntKind.u8 (SE.byteOf [SV.v (Value.int IntKind.u8 ((fun i => List.getD (caL 6 c (kT 6 c n (gX (winBlk (Ro.blk { s := 2, n := m, row := fun i => [SV.v (Value.int IntKind.i64 (Prod.fst (g i))), SV.v (Value.int IntKind.i64 (Prod.snd (g i)))] }) 2 0 n)) (gY (winBlk (Ro.blk { s := 2, n := m, row := fun i => [SV.v (Value.int IntKind.i64 (Prod.fst (g i))), SV.v (Value.int IntKind.i64 (Prod.snd (g i)))] }) 2 0 n)))) i 0) i))]))]))), (SV.v (Value.int IntKind.i64 (bif false || caB c (kB 6 c n) then 3 else 0)))])))))))) := by kernel_rfl
theorem vcCallG7 (c : CV) (n m cap : Nat) (g : Nat → Int × Int) (R : SV → Prop) : (vcFn Try.prog ΓCc noΛ Try.f24 [caS 7 c (.sl 0 2 0 n cap)] (roHeap [⟨2, m, rowsP g⟩]) 64 (fun y _ => R y)) =
((spPre n (winBlk (Ro.blk { s := 2, n := m, row := fun i => [SV.v (Value.int IntKind.i64 (Prod.fst (g i))), SV.v (Value.int IntKind.i64 (Prod.snd (g i)))] }) 2 0 n)) ∧ ((rowsPre n n fun y => [SV.v (Value.int IntKind.i64 (Prod.fst (g (0 + y)))), SV.v (Value.int IntKind.i64 (Prod.snd (g (0 + y))))]) ∧ 
(sel (!sameCB 7 7 (uc7 c) c (eqSh (shOf (uc7 c)) (shOf c) && Nat.beq n 0)) (R (SV.tup [(SV.v (Value.string ({ data := #[] }))), (SV.v (Value.int IntKind.i64 4))])) (((((1 : Int) ≤ 7) ∧ ((7 : Int) ≤ 10)) ∧ ((cvOk c) ∧ ((spPre n (winBlk (Ro.blk { s := 2, n := m, row := fun i => [SV.v (Value.int IntKind.i64 (Prod.fst (g i))), SV.v (Value.int IntKind.i64 (Prod.snd (g i)))] }) 2 0 n)) ∧ ((n : Nat) < 100)))) ∧ (∀ c_1 : Nat, ((bytesOk (5 + kN 7 n) (5 + kN 7 n + c_1) { elem := 5, size := 1, rw := true, lock := false, lit := false, flat := true, n := 5 + kN 7 n, row := fun i => [SV.v (Value.int IntKind.u8 ((fun i => List.getD (caL 7 c (kT 7 c n (gX (winBlk (Ro.blk { s := 2, n := m, row := fun i => [SV.v (Value.int IntKind.i64 (Prod.fst (g i))), SV.v (Value.int IntKind.i64 (Prod.snd (g i)))] }) 2 0 n)) (gY (winBlk (Ro.blk { s := 2, n := m, row := fun i => [SV.v (Value.int IntKind.i64 (Prod.fst (g i))), SV.v (Value.int IntKind.i64 (Prod.snd (g i)))] }) 2 0 n)))) i 0) i))], ext := 5 + kN 7 n + c_1 }) ∧ (R (SV.tup [(SV.v (Value.string (bif false || caB c (kB 7 c n) then emp else strOf (5 + kN 7 n) fun i => [SV.v (Value.int IntKind.u8 (SE.byteOf [SV.v (Value.int IntKind.u8 ((fun i => List.getD (caL 7 c (kT 7 c n (gX (winBlk (Ro.blk { s := 2, n := m, row := fun i => [SV.v (Value.int IntKind.i64 (Prod.fst (g i))), SV.v (Value.int IntKind.i64 (Prod.snd (g i)))] }) 2 0 n)) (gY (winBlk (Ro.blk { s := 2, n := m, row := fun i => [SV.v (Value.int IntKind.i64 (Prod.fst (g i))), SV.v (Value.int IntKind.i64 (Prod.snd (g i)))] }) 2 0 n)))) i 0) i))]))]))), (SV.v (Value.int IntKind.i64 (bif false || caB c (kB 7 c n) then 3 else 0)))])))))))) := by kernel_rfl
theorem vcCallG8 (c : CV) (n m cap : Nat) (g : Nat → Int × Int) (R : SV → Prop) : (vcFn Try.prog ΓCc noΛ Try.f24 [caS 8 c (.sl 0 2 0 n cap)] (roHeap [⟨2, m, rowsP g⟩]) 64 (fun y _ => R y)) =
((spPre n (winBlk (Ro.blk { s := 2, n := m, row := fun i => [SV.v (Value.int IntKind.i64 (Prod.fst (g i))), SV.v (Value.int IntKind.i64 (Prod.snd (g i)))] }) 2 0 n)) ∧ ((rowsPre n n fun y => [SV.v (Value.int IntKind.i64 (Prod.fst (g (0 + y)))), SV.v (Value.int IntKind.i64 (Prod.snd (g (0 + y))))]) ∧ 
(sel (!sameCB 8 8 (uc8 c) c (eqSh (shOf (uc8 c)) (shOf c) && Nat.beq n 0)) (R (SV.tup [(SV.v (Value.string ({ data := #[] }))), (SV.v (Value.int IntKind.i64 4))])) (((((1 : Int) ≤ 8) ∧ ((8 : Int) ≤ 10)) ∧ ((cvOk c) ∧ ((spPre n (winBlk (Ro.blk { s := 2, n := m, row := fun i => [SV.v (Value.int IntKind.i64 (Prod.fst (g i))), SV.v (Value.int IntKind.i64 (Prod.snd (g i)))] }) 2 0 n)) ∧ ((n : Nat) < 100)))) ∧ (∀ c_1 : Nat, ((bytesOk (5 + kN 8 n) (5 + kN 8 n + c_1) { elem := 5, size := 1, rw := true, lock := false, lit := false, flat := true, n := 5 + kN 8 n, row := fun i => [SV.v (Value.int IntKind.u8 ((fun i => List.getD (caL 8 c (kT 8 c n (gX (winBlk (Ro.blk { s := 2, n := m, row := fun i => [SV.v (Value.int IntKind.i64 (Prod.fst (g i))), SV.v (Value.int IntKind.i64 (Prod.snd (g i)))] }) 2 0 n)) (gY (winBlk (Ro.blk { s := 2, n := m, row := fun i => [SV.v (Value.int IntKind.i64 (Prod.fst (g i))), SV.v (Value.int IntKind.i64 (Prod.snd (g i)))] }) 2 0 n)))) i 0) i))], ext := 5 + kN 8 n + c_1 }) ∧ (R (SV.tup [(SV.v (Value.string (bif false || caB c (kB 8 c n) then emp else strOf (5 + kN 8 n) fun i => [SV.v (Value.int IntKind.u8 (SE.byteOf [SV.v (Value.int IntKind.u8 ((fun i => List.getD (caL 8 c (kT 8 c n (gX (winBlk (Ro.blk { s := 2, n := m, row := fun i => [SV.v (Value.int IntKind.i64 (Prod.fst (g i))), SV.v (Value.int IntKind.i64 (Prod.snd (g i)))] }) 2 0 n)) (gY (winBlk (Ro.blk { s := 2, n := m, row := fun i => [SV.v (Value.int IntKind.i64 (Prod.fst (g i))), SV.v (Value.int IntKind.i64 (Prod.snd (g i)))] }) 2 0 n)))) i 0) i))]))]))), (SV.v (Value.int IntKind.i64 (bif false || caB c (kB 8 c n) then 3 else 0)))])))))))) := by kernel_rfl
theorem vcCallG9 (c : CV) (n m cap : Nat) (g : Nat → Int × Int) (R : SV → Prop) : (vcFn Try.prog ΓCc noΛ Try.f24 [caS 9 c (.sl 0 2 0 n cap)] (roHeap [⟨2, m, rowsP g⟩]) 64 (fun y _ => R y)) =
((spPre n (winBlk (Ro.blk { s := 2, n := m, row := fun i => [SV.v (Value.int IntKind.i64 (Prod.fst (g i))), SV.v (Value.int IntKind.i64 (Prod.snd (g i)))] }) 2 0 n)) ∧ ((rowsPre n n fun y => [SV.v (Value.int IntKind.i64 (Prod.fst (g (0 + y)))), SV.v (Value.int IntKind.i64 (Prod.snd (g (0 + y))))]) ∧ 
(sel (!sameCB 9 9 (uc9 c) c (eqSh (shOf (uc9 c)) (shOf c) && Nat.beq n 0)) (R (SV.tup [(SV.v (Value.string ({ data := #[] }))), (SV.v (Value.int IntKind.i64 4))])) (((((1 : Int) ≤ 9) ∧ ((9 : Int) ≤ 10)) ∧ ((cvOk c) ∧ ((spPre n (winBlk (Ro.blk { s := 2, n := m, row := fun i => [SV.v (Value.int IntKind.i64 (Prod.fst (g i))), SV.v (Value.int IntKind.i64 (Prod.snd (g i)))] }) 2 0 n)) ∧ ((n : Nat) < 100)))) ∧ (∀ c_1 : Nat, ((bytesOk (5 + kN 9 n) (5 + kN 9 n + c_1) { elem := 5, size := 1, rw := true, lock := false, lit := false, flat := true, n := 5 + kN 9 n, row := fun i => [SV.v (Value.int IntKind.u8 ((fun i => List.getD (caL 9 c (kT 9 c n (gX (winBlk (Ro.blk { s := 2, n := m, row := fun i => [SV.v (Value.int IntKind.i64 (Prod.fst (g i))), SV.v (Value.int IntKind.i64 (Prod.snd (g i)))] }) 2 0 n)) (gY (winBlk (Ro.blk { s := 2, n := m, row := fun i => [SV.v (Value.int IntKind.i64 (Prod.fst (g i))), SV.v (Value.int IntKind.i64 (Prod.snd (g i)))] }) 2 0 n)))) i 0) i))], ext := 5 + kN 9 n + c_1 }) ∧ (R (SV.tup [(SV.v (Value.string (bif false || caB c (kB 9 c n) then emp else strOf (5 + kN 9 n) fun i => [SV.v (Value.int IntKind.u8 (SE.byteOf [SV.v (Value.int IntKind.u8 ((fun i => List.getD (caL 9 c (kT 9 c n (gX (winBlk (Ro.blk { s := 2, n := m, row := fun i => [SV.v (Value.int IntKind.i64 (Prod.fst (g i))), SV.v (Value.int IntKind.i64 (Prod.snd (g i)))] }) 2 0 n)) (gY (winBlk (Ro.blk { s := 2, n := m, row := fun i => [SV.v (Value.int IntKind.i64 (Prod.fst (g i))), SV.v (Value.int IntKind.i64 (Prod.snd (g i)))] }) 2 0 n)))) i 0) i))]))]))), (SV.v (Value.int IntKind.i64 (bif false || caB c (kB 9 c n) then 3 else 0)))])))))))) := by kernel_rfl
theorem vcCallG10 (c : CV) (n m cap : Nat) (g : Nat → Int × Int) (R : SV → Prop) : (vcFn Try.prog ΓCc noΛ Try.f24 [caS 10 c (.sl 0 2 0 n cap)] (roHeap [⟨2, m, rowsP g⟩]) 64 (fun y _ => R y)) =
((spPre n (winBlk (Ro.blk { s := 2, n := m, row := fun i => [SV.v (Value.int IntKind.i64 (Prod.fst (g i))), SV.v (Value.int IntKind.i64 (Prod.snd (g i)))] }) 2 0 n)) ∧ ((rowsPre n n fun y => [SV.v (Value.int IntKind.i64 (Prod.fst (g (0 + y)))), SV.v (Value.int IntKind.i64 (Prod.snd (g (0 + y))))]) ∧ 
(sel (!sameCB 10 10 (uc10 c) c (eqSh (shOf (uc10 c)) (shOf c) && Nat.beq n 0)) (R (SV.tup [(SV.v (Value.string ({ data := #[] }))), (SV.v (Value.int IntKind.i64 4))])) (((((1 : Int) ≤ 10) ∧ ((10 : Int) ≤ 10)) ∧ ((cvOk c) ∧ ((spPre n (winBlk (Ro.blk { s := 2, n := m, row := fun i => [SV.v (Value.int IntKind.i64 (Prod.fst (g i))), SV.v (Value.int IntKind.i64 (Prod.snd (g i)))] }) 2 0 n)) ∧ ((n : Nat) < 100)))) ∧ (∀ c_1 : Nat, ((bytesOk (5 + kN 10 n) (5 + kN 10 n + c_1) { elem := 5, size := 1, rw := true, lock := false, lit := false, flat := true, n := 5 + kN 10 n, row := fun i => [SV.v (Value.int IntKind.u8 ((fun i => List.getD (caL 10 c (kT 10 c n (gX (winBlk (Ro.blk { s := 2, n := m, row := fun i => [SV.v (Value.int IntKind.i64 (Prod.fst (g i))), SV.v (Value.int IntKind.i64 (Prod.snd (g i)))] }) 2 0 n)) (gY (winBlk (Ro.blk { s := 2, n := m, row := fun i => [SV.v (Value.int IntKind.i64 (Prod.fst (g i))), SV.v (Value.int IntKind.i64 (Prod.snd (g i)))] }) 2 0 n)))) i 0) i))], ext := 5 + kN 10 n + c_1 }) ∧ (R (SV.tup [(SV.v (Value.string (bif false || caB c (kB 10 c n) then emp else strOf (5 + kN 10 n) fun i => [SV.v (Value.int IntKind.u8 (SE.byteOf [SV.v (Value.int IntKind.u8 ((fun i => List.getD (caL 10 c (kT 10 c n (gX (winBlk (Ro.blk { s := 2, n := m, row := fun i => [SV.v (Value.int IntKind.i64 (Prod.fst (g i))), SV.v (Value.int IntKind.i64 (Prod.snd (g i)))] }) 2 0 n)) (gY (winBlk (Ro.blk { s := 2, n := m, row := fun i => [SV.v (Value.int IntKind.i64 (Prod.fst (g i))), SV.v (Value.int IntKind.i64 (Prod.snd (g i)))] }) 2 0 n)))) i 0) i))]))]))), (SV.v (Value.int IntKind.i64 (bif false || caB c (kB 10 c n) then 3 else 0)))])))))))) := by kernel_rfl
theorem bif_some2' {b : Bool} {α : Type _} {x : Option α} {y : α} (h : (bif b then x else none) = some y) : b = true ∧ x = some y := by
  cases b with
  | true => exact ⟨rfl, h⟩
  | false => cases h
theorem same_ptB {S : Blk} {n : Nat} (h1 : okB S = true) (h2 : spPre n S) : BlkSame S (ptB S.elem n (gX S) (gY S) S.ext S.whole) := by
  simp only [okB, Bool.and_eq_true, Bool.not_eq_true'] at h1
  obtain ⟨⟨⟨a1, a2⟩, a3⟩, a4⟩ := h1
  obtain ⟨b1, b2, _⟩ := h2
  have b1 := okAll_rows.1 b1
  exact ⟨Nat.eq_of_beq_eq_true a3, a1, a4, b2, rfl, a2, rfl, rfl, fun i hi => (isPI_row (b1 i hi)).1⟩
theorem DoneG_spec : HpSpec Try.prog 71 sDoneG := hp_spec hm noCtrs_ok Try.func71 (Λ := fun _ _ => noΛ) fun args bs e hs hp => by
  unfold sDoneG at hs
  split at hs
  · split at hs
    · rename_i b n g c p hw
      have he := Option.some.inj hs
      subst he
      refine ⟨uB (some b) n g c, (wrOf_used hw (hp p rfl)).1, ?_⟩
      cases b with
      | false =>
        rw [vcDoneG0]
        exact ⟨fun _ _ => trivial, ⟨congrArg (fun z => SV.v (.string z)) (done_plain n g), rfl⟩, ⟨rfl, Nat.le_refl _, rfl, rfl⟩, rfl, Nat.le_refl _, fun _ _ => rfl⟩
      | true =>
        rw [vcDoneG1]
        exact ⟨⟨rfl, rfl⟩, ⟨rfl, Nat.le_refl _, rfl, rfl⟩, rfl, Nat.le_refl _, fun _ _ => rfl⟩
    · cases hs
  · cases hs
theorem ΓCw_ok : ∀ f g, ΓCw f = some g → g.ok Try.prog f := addCtr_ok (addCtr_ok (addCtr_ok ΓG0_ok (hp_ok Try.func118 (by kernel_rfl) (by kernel_rfl) Small_spec)) (hp_ok Try.func105 (by kernel_rfl) (by kernel_rfl) Spots2_spec)) (hp_ok Try.func97 (by kernel_rfl) (by kernel_rfl) Shape_spec)
theorem ten {k : Int} (h : 1 ≤ k ∧ k ≤ 10) : k = 1 ∨ k = 2 ∨ k = 3 ∨ k = 4 ∨ k = 5 ∨ k = 6 ∨ k = 7 ∨ k = 8 ∨ k = 9 ∨ k = 10 := by omega
theorem CallW_spec : HpSpec Try.prog 70 sCallW := hp_spec hm ΓCw_ok Try.func70 (Λ := fun _ _ => noΛ) fun args bs e hs hp => by
  unfold sCallW at hs
  split at hs
  · rename_i l
    split at hs
    · rename_i k c n cap hl
      split at hs
      · rename_i B S
        split at hs
        · rename_i b hw
          obtain ⟨hS, he⟩ := bif_some hs
          subst he
          obtain ⟨hk, hc, hsp, hn⟩ := hp
          refine ⟨[wB (some b) true nilS, ptB S.elem n (gX S) (gY S) S.ext S.whole], ⟨(wrOf_fresh hw).1, same_ptB hS hsp, trivial⟩, ?_⟩
          rw [cells_eq hl]
          have hv : ∀ i, i < n → I64 (gX S i) ∧ I64 (gY S i) := (pre_of hsp).2
          rcases ten hk with rfl | rfl | rfl | rfl | rfl | rfl | rfl | rfl | rfl | rfl
          · exact call_1 hc hn hv
          · exact call_2 hc hn hv
          · exact call_3 hc hn hv
          · exact call_4 hc hn hv
          · exact call_5 hc hn hv
          · exact call_6 hc hn hv
          · exact call_7 hc hn hv
          · exact call_8 hc hn hv
          · exact call_9 hc hn hv
          · exact call_10 hc hn hv
        · cases hs
      · cases hs
    · cases hs
  · cases hs
theorem used_1 {q : Option Prop} {c : CV} {e n m cap xt : Nat} {x y : Nat → Int} {wh : Bool} : vcFn Try.prog noCtrs ΛUsed Try.f69 [caS 1 c (.sl 0 2 0 n cap)] (heapOf [ptB e m x y xt wh]) 64 (fun y' h' => FinE [ptB e m x y xt wh] (.det q (.tup [caS 1 (uc1 c) (.sl 0 2 0 n cap), bV true]) []) y' h') := by
  rw [vcUsed1]
  refine ⟨⟨?_, rfl⟩, trivial⟩
  repeat (first | exact rfl | refine ⟨rfl, ?_⟩)
theorem used_2 {q : Option Prop} {c : CV} {e n m cap xt : Nat} {x y : Nat → Int} {wh : Bool} : vcFn Try.prog noCtrs ΛUsed Try.f69 [caS 2 c (.sl 0 2 0 n cap)] (heapOf [ptB e m x y xt wh]) 64 (fun y' h' => FinE [ptB e m x y xt wh] (.det q (.tup [caS 2 (uc2 c) (nilS), bV true]) []) y' h') := by
  rw [vcUsed2]
  refine ⟨⟨?_, rfl⟩, trivial⟩
  repeat (first | exact rfl | refine ⟨rfl, ?_⟩)
theorem used_3 {q : Option Prop} {c : CV} {e n m cap xt : Nat} {x y : Nat → Int} {wh : Bool} : vcFn Try.prog noCtrs ΛUsed Try.f69 [caS 3 c (.sl 0 2 0 n cap)] (heapOf [ptB e m x y xt wh]) 64 (fun y' h' => FinE [ptB e m x y xt wh] (.det q (.tup [caS 3 (uc3 c) (nilS), bV true]) []) y' h') := by
  rw [vcUsed3]
  refine ⟨⟨?_, rfl⟩, trivial⟩
  repeat (first | exact rfl | refine ⟨rfl, ?_⟩)
theorem used_4 {q : Option Prop} {c : CV} {e n m cap xt : Nat} {x y : Nat → Int} {wh : Bool} : vcFn Try.prog noCtrs ΛUsed Try.f69 [caS 4 c (.sl 0 2 0 n cap)] (heapOf [ptB e m x y xt wh]) 64 (fun y' h' => FinE [ptB e m x y xt wh] (.det q (.tup [caS 4 (uc4 c) (nilS), bV true]) []) y' h') := by
  rw [vcUsed4]
  refine ⟨⟨?_, rfl⟩, trivial⟩
  repeat (first | exact rfl | refine ⟨rfl, ?_⟩)
theorem used_5 {q : Option Prop} {c : CV} {e n m cap xt : Nat} {x y : Nat → Int} {wh : Bool} : vcFn Try.prog noCtrs ΛUsed Try.f69 [caS 5 c (.sl 0 2 0 n cap)] (heapOf [ptB e m x y xt wh]) 64 (fun y' h' => FinE [ptB e m x y xt wh] (.det q (.tup [caS 5 (uc5 c) (nilS), bV true]) []) y' h') := by
  rw [vcUsed5]
  refine ⟨⟨?_, rfl⟩, trivial⟩
  repeat (first | exact rfl | refine ⟨rfl, ?_⟩)
theorem used_6 {q : Option Prop} {c : CV} {e n m cap xt : Nat} {x y : Nat → Int} {wh : Bool} : vcFn Try.prog noCtrs ΛUsed Try.f69 [caS 6 c (.sl 0 2 0 n cap)] (heapOf [ptB e m x y xt wh]) 64 (fun y' h' => FinE [ptB e m x y xt wh] (.det q (.tup [caS 6 (uc6 c) (nilS), bV true]) []) y' h') := by
  rw [vcUsed6]
  refine ⟨⟨?_, rfl⟩, trivial⟩
  repeat (first | exact rfl | refine ⟨rfl, ?_⟩)
theorem used_7 {q : Option Prop} {c : CV} {e n m cap xt : Nat} {x y : Nat → Int} {wh : Bool} : vcFn Try.prog noCtrs ΛUsed Try.f69 [caS 7 c (.sl 0 2 0 n cap)] (heapOf [ptB e m x y xt wh]) 64 (fun y' h' => FinE [ptB e m x y xt wh] (.det q (.tup [caS 7 (uc7 c) (nilS), bV true]) []) y' h') := by
  rw [vcUsed7]
  refine ⟨⟨?_, rfl⟩, trivial⟩
  repeat (first | exact rfl | refine ⟨rfl, ?_⟩)
theorem used_8 {q : Option Prop} {c : CV} {e n m cap xt : Nat} {x y : Nat → Int} {wh : Bool} : vcFn Try.prog noCtrs ΛUsed Try.f69 [caS 8 c (.sl 0 2 0 n cap)] (heapOf [ptB e m x y xt wh]) 64 (fun y' h' => FinE [ptB e m x y xt wh] (.det q (.tup [caS 8 (uc8 c) (nilS), bV true]) []) y' h') := by
  rw [vcUsed8]
  refine ⟨⟨?_, rfl⟩, trivial⟩
  repeat (first | exact rfl | refine ⟨rfl, ?_⟩)
theorem used_9 {q : Option Prop} {c : CV} {e n m cap xt : Nat} {x y : Nat → Int} {wh : Bool} : vcFn Try.prog noCtrs ΛUsed Try.f69 [caS 9 c (.sl 0 2 0 n cap)] (heapOf [ptB e m x y xt wh]) 64 (fun y' h' => FinE [ptB e m x y xt wh] (.det q (.tup [caS 9 (uc9 c) (nilS), bV true]) []) y' h') := by
  rw [vcUsed9]
  refine ⟨⟨?_, rfl⟩, trivial⟩
  repeat (first | exact rfl | refine ⟨rfl, ?_⟩)
theorem used_10 {q : Option Prop} {c : CV} {e n m cap xt : Nat} {x y : Nat → Int} {wh : Bool} : vcFn Try.prog noCtrs ΛUsed Try.f69 [caS 10 c (.sl 0 2 0 n cap)] (heapOf [ptB e m x y xt wh]) 64 (fun y' h' => FinE [ptB e m x y xt wh] (.det q (.tup [caS 10 (uc10 c) (nilS), bV true]) []) y' h') := by
  rw [vcUsed10]
  refine ⟨⟨?_, rfl⟩, trivial⟩
  repeat (first | exact rfl | refine ⟨rfl, ?_⟩)
theorem UsedC_spec : HpSpec Try.prog 69 sUsedC := hp_spec hm noCtrs_ok Try.func69 (Λ := fun _ _ => ΛUsed) fun args bs e hs hp => by
  unfold sUsedC at hs
  split at hs
  · rename_i l
    split at hs
    · rename_i k c n cap hl
      split at hs
      · rename_i S
        obtain ⟨hS, hs⟩ := bif_some2' hs
        by_cases hk : 1 ≤ k ∧ k ≤ 10
        · rcases ten hk with rfl | rfl | rfl | rfl | rfl | rfl | rfl | rfl | rfl | rfl
          · have he := Option.some.inj hs
            subst he
            have hsp := hp _ rfl
            refine ⟨[ptB S.elem n (gX S) (gY S) S.ext S.whole], ⟨same_ptB hS hsp, trivial⟩, ?_⟩
            rw [cells_eq hl]
            exact used_1
          · have he := Option.some.inj hs
            subst he
            have hsp := hp _ rfl
            refine ⟨[ptB S.elem n (gX S) (gY S) S.ext S.whole], ⟨same_ptB hS hsp, trivial⟩, ?_⟩
            rw [cells_eq hl]
            exact used_2
          · have he := Option.some.inj hs
            subst he
            have hsp := hp _ rfl
            refine ⟨[ptB S.elem n (gX S) (gY S) S.ext S.whole], ⟨same_ptB hS hsp, trivial⟩, ?_⟩
            rw [cells_eq hl]
            exact used_3
          · have he := Option.some.inj hs
            subst he
            have hsp := hp _ rfl
            refine ⟨[ptB S.elem n (gX S) (gY S) S.ext S.whole], ⟨same_ptB hS hsp, trivial⟩, ?_⟩
            rw [cells_eq hl]
            exact used_4
          · have he := Option.some.inj hs
            subst he
            have hsp := hp _ rfl
            refine ⟨[ptB S.elem n (gX S) (gY S) S.ext S.whole], ⟨same_ptB hS hsp, trivial⟩, ?_⟩
            rw [cells_eq hl]
            exact used_5
          · have he := Option.some.inj hs
            subst he
            have hsp := hp _ rfl
            refine ⟨[ptB S.elem n (gX S) (gY S) S.ext S.whole], ⟨same_ptB hS hsp, trivial⟩, ?_⟩
            rw [cells_eq hl]
            exact used_6
          · have he := Option.some.inj hs
            subst he
            have hsp := hp _ rfl
            refine ⟨[ptB S.elem n (gX S) (gY S) S.ext S.whole], ⟨same_ptB hS hsp, trivial⟩, ?_⟩
            rw [cells_eq hl]
            exact used_7
          · have he := Option.some.inj hs
            subst he
            have hsp := hp _ rfl
            refine ⟨[ptB S.elem n (gX S) (gY S) S.ext S.whole], ⟨same_ptB hS hsp, trivial⟩, ?_⟩
            rw [cells_eq hl]
            exact used_8
          · have he := Option.some.inj hs
            subst he
            have hsp := hp _ rfl
            refine ⟨[ptB S.elem n (gX S) (gY S) S.ext S.whole], ⟨same_ptB hS hsp, trivial⟩, ?_⟩
            rw [cells_eq hl]
            exact used_9
          · have he := Option.some.inj hs
            subst he
            have hsp := hp _ rfl
            refine ⟨[ptB S.elem n (gX S) (gY S) S.ext S.whole], ⟨same_ptB hS hsp, trivial⟩, ?_⟩
            rw [cells_eq hl]
            exact used_10
        · rw [show decide (k = 1) = false from decide_eq_false (by omega), show decide (k = 2) = false from decide_eq_false (by omega), show decide (k = 3) = false from decide_eq_false (by omega), show decide (k = 4) = false from decide_eq_false (by omega), show decide (k = 5) = false from decide_eq_false (by omega), show decide (k = 6) = false from decide_eq_false (by omega), show decide (k = 7) = false from decide_eq_false (by omega), show decide (k = 8) = false from decide_eq_false (by omega), show decide (k = 9) = false from decide_eq_false (by omega), show decide (k = 10) = false from decide_eq_false (by omega)] at hs
          cases hs
      · cases hs
    · cases hs
  · cases hs
end Go.Proofs.Ytjdldadmaaeimaa
end

section
set_option maxRecDepth 100000
set_option linter.unusedSimpArgs false
set_option linter.unusedVariables false
namespace Go.Proofs.Ytjdldadmaaeimaa
open Go.SE Go.RowKit

def kindOk (k : Int) : Bool := decide (1 ≤ k) && decide (k ≤ 10)
def formB (k : Int) (c : CV) (n : Nat) (g : Nat → Int × Int) : Bool := bif decide (k = 1) then sameCB 1 1 (uc1 c) c (sameS (shOf (uc1 c)) n g (shOf c) n g) else sameCB k k (ucK k c) c (eqSh (shOf (ucK k c)) (shOf c) && Nat.beq n 0)
def badB (k : Int) (c : CV) (n : Nat) : Bool := caB c (kB k c n)
def callBs (k : Int) (c : CV) (n : Nat) (g : Nat → Int × Int) : ByteArray := strOf (5 + kN k n) fun i => [.v (.int .u8 ((caL k c (kT k c n (fun i => (g i).1) (fun i => (g i).2))).getD i 0))]
def callT (k : Int) (c : CV) (n : Nat) (g : Nat → Int × Int) : ByteArray := bif kindOk k && (formB k c n g && !badB k c n) then callBs k c n g else emp
def callE (k : Int) (c : CV) (n : Nat) (g : Nat → Int × Int) : Int := bif kindOk k then (bif formB k c n g then (bif badB k c n then 3 else 0) else 4) else 8
def calPre (k : Int) (c : CV) (n n' : Nat) (row : Nat → List SV) : Prop := rowsPre n n' row ∧ cvOk c ∧ I64 k ∧ n < 100
def sCallG : List SV → List Ro → Option (Option Prop × SV)
  | [.agg l], rs => match cellsOf l, rs with
    | some (k, c, .sl 0 2 0 n _), [⟨2, n', row⟩] => some (some (calPre k c n n' row), .tup [strS (callT k c n fun i => gi (row i)), iV (callE k c n fun i => gi (row i))])
    | _, _ => none
  | _, _ => none
theorem ΓCc_ok : ∀ f g, ΓCc f = some g → g.ok Try.prog f := addCtr_ok (addCtr_ok (addCtr_ok (addCtr_ok noCtrs_ok (hp_ok Try.func69 (by kernel_rfl) (by kernel_rfl) UsedC_spec)) (ro_ok Try.func25 (by kernel_rfl) (by kernel_rfl) SameC_spec)) (hp_ok Try.func70 (by kernel_rfl) (by kernel_rfl) CallW_spec)) (hp_ok Try.func71 (by kernel_rfl) (by kernel_rfl) DoneG_spec)
theorem selFG {b : Bool} {x y : Prop} (h : b = false) (hy : y) : sel b x y := by subst h; exact hy
theorem UsedO_spec : HpSpec Try.prog 69 sUsedO := hp_spec hm noCtrs_ok Try.func69 (Λ := fun _ _ => ΛUsed) fun args bs e hs hp => by
  unfold sUsedO at hs
  split at hs
  · rename_i l
    split at hs
    · rename_i k c n cap hl
      split at hs
      · rename_i S
        obtain ⟨hS, hs⟩ := bif_some2' hs
        have he := Option.some.inj hs
        subst he
        obtain ⟨hsp, hk⟩ := hp _ rfl
        refine ⟨[ptB S.elem n (gX S) (gY S) S.ext S.whole], ⟨same_ptB hS hsp, trivial⟩, ?_⟩
        rw [cells_eq hl, vcUsedO]
        have ne : ∀ j : Int, 1 ≤ j → j ≤ 10 → (k == j) = false := fun j h1 h2 => by
          cases hc : k == j with
          | false => rfl
          | true => have := (beq_iff_eq ..).1 hc; omega
        refine selFG (ne 1 (by omega) (by omega)) (selFG (ne 3 (by omega) (by omega)) (selFG (ne 4 (by omega) (by omega)) (selFG (ne 2 (by omega) (by omega)) (selFG (ne 7 (by omega) (by omega)) (selFG (ne 5 (by omega) (by omega)) (selFG (ne 6 (by omega) (by omega)) (selFG (ne 8 (by omega) (by omega)) (selFG (ne 9 (by omega) (by omega)) (selFG (ne 10 (by omega) (by omega)) ?_)))))))))
        refine ⟨⟨?_, rfl⟩, trivial⟩
        repeat (first | exact rfl | refine ⟨rfl, ?_⟩)
      · cases hs
    · cases hs
  · cases hs
theorem ΓCo_ok : ∀ f g, ΓCo f = some g → g.ok Try.prog f := addCtr_ok ΓCc_ok (hp_ok Try.func69 (by kernel_rfl) (by kernel_rfl) UsedO_spec)
theorem win_sp {n : Nat} {g : Nat → Int × Int} (hn : n < 1099511627776) (hg : ∀ i, i < n → I64 (g i).1 ∧ I64 (g i).2) : spPre n (winBlk (Ro.blk { s := 2, n := n, row := fun i => [SV.v (.int .i64 (g i).1), SV.v (.int .i64 (g i).2)] }) 2 0 n) := ⟨okAll_rows.2 fun i hi => by
  show isPI [SV.v (.int .i64 (g (0 + i)).1), SV.v (.int .i64 (g (0 + i)).2)]
  rw [Nat.zero_add]; exact hg i hi, rfl, hn⟩
theorem win_gX {n m : Nat} (g : Nat → Int × Int) : gX (winBlk (Ro.blk { s := 2, n := m, row := fun i => [SV.v (.int .i64 (g i).1), SV.v (.int .i64 (g i).2)] }) 2 0 n) = fun i => (g i).1 := funext fun i => by
  show (g (0 + i)).1 = _
  rw [Nat.zero_add]
theorem win_gY {n m : Nat} (g : Nat → Int × Int) : gY (winBlk (Ro.blk { s := 2, n := m, row := fun i => [SV.v (.int .i64 (g i).1), SV.v (.int .i64 (g i).2)] }) 2 0 n) = fun i => (g i).2 := funext fun i => by
  show (g (0 + i)).2 = _
  rw [Nat.zero_add]
theorem kN_le (k : Int) (n : Nat) (hn : n < 100) : kN k n ≤ 2000 := by
  have := shN_le n
  unfold kN
  by_cases h1 : k = 1
  · rw [decide_eq_true h1, cond_true]
    first | (show shN n + 72 ≤ 2000; omega) | (show (_ : Nat) ≤ 2000; unfold caN1; omega)
  rw [decide_eq_false h1, cond_false]
  by_cases h2 : k = 2
  · rw [decide_eq_true h2, cond_true]
    first | (show shN n + 72 ≤ 2000; omega) | (show (_ : Nat) ≤ 2000; unfold caN2; omega)
  rw [decide_eq_false h2, cond_false]
  by_cases h3 : k = 3
  · rw [decide_eq_true h3, cond_true]
    first | (show shN n + 72 ≤ 2000; omega) | (show (_ : Nat) ≤ 2000; unfold caN3; omega)
  rw [decide_eq_false h3, cond_false]
  by_cases h4 : k = 4
  · rw [decide_eq_true h4, cond_true]
    first | (show shN n + 72 ≤ 2000; omega) | (show (_ : Nat) ≤ 2000; unfold caN4; omega)
  rw [decide_eq_false h4, cond_false]
  by_cases h5 : k = 5
  · rw [decide_eq_true h5, cond_true]
    first | (show shN n + 72 ≤ 2000; omega) | (show (_ : Nat) ≤ 2000; unfold caN5; omega)
  rw [decide_eq_false h5, cond_false]
  by_cases h6 : k = 6
  · rw [decide_eq_true h6, cond_true]
    first | (show shN n + 72 ≤ 2000; omega) | (show (_ : Nat) ≤ 2000; unfold caN6; omega)
  rw [decide_eq_false h6, cond_false]
  by_cases h7 : k = 7
  · rw [decide_eq_true h7, cond_true]
    first | (show shN n + 72 ≤ 2000; omega) | (show (_ : Nat) ≤ 2000; unfold caN7; omega)
  rw [decide_eq_false h7, cond_false]
  by_cases h8 : k = 8
  · rw [decide_eq_true h8, cond_true]
    first | (show shN n + 72 ≤ 2000; omega) | (show (_ : Nat) ≤ 2000; unfold caN8; omega)
  rw [decide_eq_false h8, cond_false]
  by_cases h9 : k = 9
  · rw [decide_eq_true h9, cond_true]
    first | (show shN n + 72 ≤ 2000; omega) | (show (_ : Nat) ≤ 2000; unfold caN9; omega)
  rw [decide_eq_false h9, cond_false]
  by_cases h10 : k = 10
  · rw [decide_eq_true h10, cond_true]
    first | (show shN n + 72 ≤ 2000; omega) | (show (_ : Nat) ≤ 2000; unfold caN10; omega)
  rw [decide_eq_false h10, cond_false]
  omega
theorem callG_1 {c : CV} {n cap : Nat} {g : Nat → Int × Int} (hc : cvOk c) (hn : n < 1099511627776) (h100 : n < 100) (hg : ∀ i, i < n → I64 (g i).1 ∧ I64 (g i).2) : vcFn Try.prog ΓCc noΛ Try.f24 [caS 1 c (.sl 0 2 0 n cap)] (roHeap [⟨2, n, rowsP g⟩]) 64 (fun y _ => y = .tup [strS (callT 1 c n g), iV (callE 1 c n g)]) := by
  refine Eq.mpr (vcCallG1 c n n cap g _) ⟨win_sp hn hg, ⟨pre_rows hn hg, pre_rows hn hg⟩, ?_⟩
  rw [win_gX, win_gY, gi_rows]
  have hk : kindOk 1 = true := rfl
  have hkn := kN_le 1 n h100
  unfold callT callE
  rw [hk, Bool.true_and, cond_true]
  have hf : formB 1 c n g = sameCB 1 1 (uc1 c) c (sameS (shOf (uc1 c)) n g (shOf c) n g) := rfl
  rw [hf]
  refine sel_of (fun e => ?_) fun e => ⟨⟨⟨by omega, by omega⟩, hc, win_sp hn hg, h100⟩, fun c1 => ⟨bytesOk_bG _ _ _ (by omega), ?_⟩⟩
  · rw [show sameCB 1 1 (uc1 c) c (sameS (shOf (uc1 c)) n g (shOf c) n g) = false by simpa using e]
    rfl
  · rw [show sameCB 1 1 (uc1 c) c (sameS (shOf (uc1 c)) n g (shOf c) n g) = true by simpa using e]
    rw [Bool.true_and, cond_true]
    show SV.tup [.v (.string (bif false || badB 1 c n then emp else callBs 1 c n g)), .v (.int .i64 (bif false || badB 1 c n then 3 else 0))] = _
    cases badB 1 c n <;> rfl
theorem callG_2 {c : CV} {n cap : Nat} {g : Nat → Int × Int} (hc : cvOk c) (hn : n < 1099511627776) (h100 : n < 100) (hg : ∀ i, i < n → I64 (g i).1 ∧ I64 (g i).2) : vcFn Try.prog ΓCc noΛ Try.f24 [caS 2 c (.sl 0 2 0 n cap)] (roHeap [⟨2, n, rowsP g⟩]) 64 (fun y _ => y = .tup [strS (callT 2 c n g), iV (callE 2 c n g)]) := by
  refine Eq.mpr (vcCallG2 c n n cap g _) ⟨win_sp hn hg, pre_rows hn hg, ?_⟩
  rw [win_gX, win_gY]
  have hk : kindOk 2 = true := rfl
  have hkn := kN_le 2 n h100
  unfold callT callE
  rw [hk, Bool.true_and, cond_true]
  have hf : formB 2 c n g = sameCB 2 2 (uc2 c) c (eqSh (shOf (uc2 c)) (shOf c) && Nat.beq n 0) := rfl
  rw [hf]
  refine sel_of (fun e => ?_) fun e => ⟨⟨⟨by omega, by omega⟩, hc, win_sp hn hg, h100⟩, fun c1 => ⟨bytesOk_bG _ _ _ (by omega), ?_⟩⟩
  · rw [show sameCB 2 2 (uc2 c) c (eqSh (shOf (uc2 c)) (shOf c) && Nat.beq n 0) = false by simpa using e]
    rfl
  · rw [show sameCB 2 2 (uc2 c) c (eqSh (shOf (uc2 c)) (shOf c) && Nat.beq n 0) = true by simpa using e]
    rw [Bool.true_and, cond_true]
    show SV.tup [.v (.string (bif false || badB 2 c n then emp else callBs 2 c n g)), .v (.int .i64 (bif false || badB 2 c n then 3 else 0))] = _
    cases badB 2 c n <;> rfl
theorem callG_3 {c : CV} {n cap : Nat} {g : Nat → Int × Int} (hc : cvOk c) (hn : n < 1099511627776) (h100 : n < 100) (hg : ∀ i, i < n → I64 (g i).1 ∧ I64 (g i).2) : vcFn Try.prog ΓCc noΛ Try.f24 [caS 3 c (.sl 0 2 0 n cap)] (roHeap [⟨2, n, rowsP g⟩]) 64 (fun y _ => y = .tup [strS (callT 3 c n g), iV (callE 3 c n g)]) := by
  refine Eq.mpr (vcCallG3 c n n cap g _) ⟨win_sp hn hg, pre_rows hn hg, ?_⟩
  rw [win_gX, win_gY]
  have hk : kindOk 3 = true := rfl
  have hkn := kN_le 3 n h100
  unfold callT callE
  rw [hk, Bool.true_and, cond_true]
  have hf : formB 3 c n g = sameCB 3 3 (uc3 c) c (eqSh (shOf (uc3 c)) (shOf c) && Nat.beq n 0) := rfl
  rw [hf]
  refine sel_of (fun e => ?_) fun e => ⟨⟨⟨by omega, by omega⟩, hc, win_sp hn hg, h100⟩, fun c1 => ⟨bytesOk_bG _ _ _ (by omega), ?_⟩⟩
  · rw [show sameCB 3 3 (uc3 c) c (eqSh (shOf (uc3 c)) (shOf c) && Nat.beq n 0) = false by simpa using e]
    rfl
  · rw [show sameCB 3 3 (uc3 c) c (eqSh (shOf (uc3 c)) (shOf c) && Nat.beq n 0) = true by simpa using e]
    rw [Bool.true_and, cond_true]
    show SV.tup [.v (.string (bif false || badB 3 c n then emp else callBs 3 c n g)), .v (.int .i64 (bif false || badB 3 c n then 3 else 0))] = _
    cases badB 3 c n <;> rfl
theorem callG_4 {c : CV} {n cap : Nat} {g : Nat → Int × Int} (hc : cvOk c) (hn : n < 1099511627776) (h100 : n < 100) (hg : ∀ i, i < n → I64 (g i).1 ∧ I64 (g i).2) : vcFn Try.prog ΓCc noΛ Try.f24 [caS 4 c (.sl 0 2 0 n cap)] (roHeap [⟨2, n, rowsP g⟩]) 64 (fun y _ => y = .tup [strS (callT 4 c n g), iV (callE 4 c n g)]) := by
  refine Eq.mpr (vcCallG4 c n n cap g _) ⟨win_sp hn hg, pre_rows hn hg, ?_⟩
  rw [win_gX, win_gY]
  have hk : kindOk 4 = true := rfl
  have hkn := kN_le 4 n h100
  unfold callT callE
  rw [hk, Bool.true_and, cond_true]
  have hf : formB 4 c n g = sameCB 4 4 (uc4 c) c (eqSh (shOf (uc4 c)) (shOf c) && Nat.beq n 0) := rfl
  rw [hf]
  refine sel_of (fun e => ?_) fun e => ⟨⟨⟨by omega, by omega⟩, hc, win_sp hn hg, h100⟩, fun c1 => ⟨bytesOk_bG _ _ _ (by omega), ?_⟩⟩
  · rw [show sameCB 4 4 (uc4 c) c (eqSh (shOf (uc4 c)) (shOf c) && Nat.beq n 0) = false by simpa using e]
    rfl
  · rw [show sameCB 4 4 (uc4 c) c (eqSh (shOf (uc4 c)) (shOf c) && Nat.beq n 0) = true by simpa using e]
    rw [Bool.true_and, cond_true]
    show SV.tup [.v (.string (bif false || badB 4 c n then emp else callBs 4 c n g)), .v (.int .i64 (bif false || badB 4 c n then 3 else 0))] = _
    cases badB 4 c n <;> rfl
theorem callG_5 {c : CV} {n cap : Nat} {g : Nat → Int × Int} (hc : cvOk c) (hn : n < 1099511627776) (h100 : n < 100) (hg : ∀ i, i < n → I64 (g i).1 ∧ I64 (g i).2) : vcFn Try.prog ΓCc noΛ Try.f24 [caS 5 c (.sl 0 2 0 n cap)] (roHeap [⟨2, n, rowsP g⟩]) 64 (fun y _ => y = .tup [strS (callT 5 c n g), iV (callE 5 c n g)]) := by
  refine Eq.mpr (vcCallG5 c n n cap g _) ⟨win_sp hn hg, pre_rows hn hg, ?_⟩
  rw [win_gX, win_gY]
  have hk : kindOk 5 = true := rfl
  have hkn := kN_le 5 n h100
  unfold callT callE
  rw [hk, Bool.true_and, cond_true]
  have hf : formB 5 c n g = sameCB 5 5 (uc5 c) c (eqSh (shOf (uc5 c)) (shOf c) && Nat.beq n 0) := rfl
  rw [hf]
  refine sel_of (fun e => ?_) fun e => ⟨⟨⟨by omega, by omega⟩, hc, win_sp hn hg, h100⟩, fun c1 => ⟨bytesOk_bG _ _ _ (by omega), ?_⟩⟩
  · rw [show sameCB 5 5 (uc5 c) c (eqSh (shOf (uc5 c)) (shOf c) && Nat.beq n 0) = false by simpa using e]
    rfl
  · rw [show sameCB 5 5 (uc5 c) c (eqSh (shOf (uc5 c)) (shOf c) && Nat.beq n 0) = true by simpa using e]
    rw [Bool.true_and, cond_true]
    show SV.tup [.v (.string (bif false || badB 5 c n then emp else callBs 5 c n g)), .v (.int .i64 (bif false || badB 5 c n then 3 else 0))] = _
    cases badB 5 c n <;> rfl
theorem callG_6 {c : CV} {n cap : Nat} {g : Nat → Int × Int} (hc : cvOk c) (hn : n < 1099511627776) (h100 : n < 100) (hg : ∀ i, i < n → I64 (g i).1 ∧ I64 (g i).2) : vcFn Try.prog ΓCc noΛ Try.f24 [caS 6 c (.sl 0 2 0 n cap)] (roHeap [⟨2, n, rowsP g⟩]) 64 (fun y _ => y = .tup [strS (callT 6 c n g), iV (callE 6 c n g)]) := by
  refine Eq.mpr (vcCallG6 c n n cap g _) ⟨win_sp hn hg, pre_rows hn hg, ?_⟩
  rw [win_gX, win_gY]
  have hk : kindOk 6 = true := rfl
  have hkn := kN_le 6 n h100
  unfold callT callE
  rw [hk, Bool.true_and, cond_true]
  have hf : formB 6 c n g = sameCB 6 6 (uc6 c) c (eqSh (shOf (uc6 c)) (shOf c) && Nat.beq n 0) := rfl
  rw [hf]
  refine sel_of (fun e => ?_) fun e => ⟨⟨⟨by omega, by omega⟩, hc, win_sp hn hg, h100⟩, fun c1 => ⟨bytesOk_bG _ _ _ (by omega), ?_⟩⟩
  · rw [show sameCB 6 6 (uc6 c) c (eqSh (shOf (uc6 c)) (shOf c) && Nat.beq n 0) = false by simpa using e]
    rfl
  · rw [show sameCB 6 6 (uc6 c) c (eqSh (shOf (uc6 c)) (shOf c) && Nat.beq n 0) = true by simpa using e]
    rw [Bool.true_and, cond_true]
    show SV.tup [.v (.string (bif false || badB 6 c n then emp else callBs 6 c n g)), .v (.int .i64 (bif false || badB 6 c n then 3 else 0))] = _
    cases badB 6 c n <;> rfl
theorem callG_7 {c : CV} {n cap : Nat} {g : Nat → Int × Int} (hc : cvOk c) (hn : n < 1099511627776) (h100 : n < 100) (hg : ∀ i, i < n → I64 (g i).1 ∧ I64 (g i).2) : vcFn Try.prog ΓCc noΛ Try.f24 [caS 7 c (.sl 0 2 0 n cap)] (roHeap [⟨2, n, rowsP g⟩]) 64 (fun y _ => y = .tup [strS (callT 7 c n g), iV (callE 7 c n g)]) := by
  refine Eq.mpr (vcCallG7 c n n cap g _) ⟨win_sp hn hg, pre_rows hn hg, ?_⟩
  rw [win_gX, win_gY]
  have hk : kindOk 7 = true := rfl
  have hkn := kN_le 7 n h100
  unfold callT callE
  rw [hk, Bool.true_and, cond_true]
  have hf : formB 7 c n g = sameCB 7 7 (uc7 c) c (eqSh (shOf (uc7 c)) (shOf c) && Nat.beq n 0) := rfl
  rw [hf]
  refine sel_of (fun e => ?_) fun e => ⟨⟨⟨by omega, by omega⟩, hc, win_sp hn hg, h100⟩, fun c1 => ⟨bytesOk_bG _ _ _ (by omega), ?_⟩⟩
  · rw [show sameCB 7 7 (uc7 c) c (eqSh (shOf (uc7 c)) (shOf c) && Nat.beq n 0) = false by simpa using e]
    rfl
  · rw [show sameCB 7 7 (uc7 c) c (eqSh (shOf (uc7 c)) (shOf c) && Nat.beq n 0) = true by simpa using e]
    rw [Bool.true_and, cond_true]
    show SV.tup [.v (.string (bif false || badB 7 c n then emp else callBs 7 c n g)), .v (.int .i64 (bif false || badB 7 c n then 3 else 0))] = _
    cases badB 7 c n <;> rfl
theorem callG_8 {c : CV} {n cap : Nat} {g : Nat → Int × Int} (hc : cvOk c) (hn : n < 1099511627776) (h100 : n < 100) (hg : ∀ i, i < n → I64 (g i).1 ∧ I64 (g i).2) : vcFn Try.prog ΓCc noΛ Try.f24 [caS 8 c (.sl 0 2 0 n cap)] (roHeap [⟨2, n, rowsP g⟩]) 64 (fun y _ => y = .tup [strS (callT 8 c n g), iV (callE 8 c n g)]) := by
  refine Eq.mpr (vcCallG8 c n n cap g _) ⟨win_sp hn hg, pre_rows hn hg, ?_⟩
  rw [win_gX, win_gY]
  have hk : kindOk 8 = true := rfl
  have hkn := kN_le 8 n h100
  unfold callT callE
  rw [hk, Bool.true_and, cond_true]
  have hf : formB 8 c n g = sameCB 8 8 (uc8 c) c (eqSh (shOf (uc8 c)) (shOf c) && Nat.beq n 0) := rfl
  rw [hf]
  refine sel_of (fun e => ?_) fun e => ⟨⟨⟨by omega, by omega⟩, hc, win_sp hn hg, h100⟩, fun c1 => ⟨bytesOk_bG _ _ _ (by omega), ?_⟩⟩
  · rw [show sameCB 8 8 (uc8 c) c (eqSh (shOf (uc8 c)) (shOf c) && Nat.beq n 0) = false by simpa using e]
    rfl
  · rw [show sameCB 8 8 (uc8 c) c (eqSh (shOf (uc8 c)) (shOf c) && Nat.beq n 0) = true by simpa using e]
    rw [Bool.true_and, cond_true]
    show SV.tup [.v (.string (bif false || badB 8 c n then emp else callBs 8 c n g)), .v (.int .i64 (bif false || badB 8 c n then 3 else 0))] = _
    cases badB 8 c n <;> rfl
theorem callG_9 {c : CV} {n cap : Nat} {g : Nat → Int × Int} (hc : cvOk c) (hn : n < 1099511627776) (h100 : n < 100) (hg : ∀ i, i < n → I64 (g i).1 ∧ I64 (g i).2) : vcFn Try.prog ΓCc noΛ Try.f24 [caS 9 c (.sl 0 2 0 n cap)] (roHeap [⟨2, n, rowsP g⟩]) 64 (fun y _ => y = .tup [strS (callT 9 c n g), iV (callE 9 c n g)]) := by
  refine Eq.mpr (vcCallG9 c n n cap g _) ⟨win_sp hn hg, pre_rows hn hg, ?_⟩
  rw [win_gX, win_gY]
  have hk : kindOk 9 = true := rfl
  have hkn := kN_le 9 n h100
  unfold callT callE
  rw [hk, Bool.true_and, cond_true]
  have hf : formB 9 c n g = sameCB 9 9 (uc9 c) c (eqSh (shOf (uc9 c)) (shOf c) && Nat.beq n 0) := rfl
  rw [hf]
  refine sel_of (fun e => ?_) fun e => ⟨⟨⟨by omega, by omega⟩, hc, win_sp hn hg, h100⟩, fun c1 => ⟨bytesOk_bG _ _ _ (by omega), ?_⟩⟩
  · rw [show sameCB 9 9 (uc9 c) c (eqSh (shOf (uc9 c)) (shOf c) && Nat.beq n 0) = false by simpa using e]
    rfl
  · rw [show sameCB 9 9 (uc9 c) c (eqSh (shOf (uc9 c)) (shOf c) && Nat.beq n 0) = true by simpa using e]
    rw [Bool.true_and, cond_true]
    show SV.tup [.v (.string (bif false || badB 9 c n then emp else callBs 9 c n g)), .v (.int .i64 (bif false || badB 9 c n then 3 else 0))] = _
    cases badB 9 c n <;> rfl
theorem callG_10 {c : CV} {n cap : Nat} {g : Nat → Int × Int} (hc : cvOk c) (hn : n < 1099511627776) (h100 : n < 100) (hg : ∀ i, i < n → I64 (g i).1 ∧ I64 (g i).2) : vcFn Try.prog ΓCc noΛ Try.f24 [caS 10 c (.sl 0 2 0 n cap)] (roHeap [⟨2, n, rowsP g⟩]) 64 (fun y _ => y = .tup [strS (callT 10 c n g), iV (callE 10 c n g)]) := by
  refine Eq.mpr (vcCallG10 c n n cap g _) ⟨win_sp hn hg, pre_rows hn hg, ?_⟩
  rw [win_gX, win_gY]
  have hk : kindOk 10 = true := rfl
  have hkn := kN_le 10 n h100
  unfold callT callE
  rw [hk, Bool.true_and, cond_true]
  have hf : formB 10 c n g = sameCB 10 10 (uc10 c) c (eqSh (shOf (uc10 c)) (shOf c) && Nat.beq n 0) := rfl
  rw [hf]
  refine sel_of (fun e => ?_) fun e => ⟨⟨⟨by omega, by omega⟩, hc, win_sp hn hg, h100⟩, fun c1 => ⟨bytesOk_bG _ _ _ (by omega), ?_⟩⟩
  · rw [show sameCB 10 10 (uc10 c) c (eqSh (shOf (uc10 c)) (shOf c) && Nat.beq n 0) = false by simpa using e]
    rfl
  · rw [show sameCB 10 10 (uc10 c) c (eqSh (shOf (uc10 c)) (shOf c) && Nat.beq n 0) = true by simpa using e]
    rw [Bool.true_and, cond_true]
    show SV.tup [.v (.string (bif false || badB 10 c n then emp else callBs 10 c n g)), .v (.int .i64 (bif false || badB 10 c n then 3 else 0))] = _
    cases badB 10 c n <;> rfl
theorem callG_O {k : Int} {c : CV} {n cap : Nat} {g : Nat → Int × Int} (hk : k < 1 ∨ 10 < k) (hn : n < 1099511627776) (hg : ∀ i, i < n → I64 (g i).1 ∧ I64 (g i).2) : vcFn Try.prog ΓCo noΛ Try.f24 [caS k c (.sl 0 2 0 n cap)] (roHeap [⟨2, n, rowsP g⟩]) 64 (fun y _ => y = .tup [strS (callT k c n g), iV (callE k c n g)]) := by
  refine Eq.mpr (vcCallGO k c n n cap g _) ⟨⟨win_sp hn hg, hk⟩, ?_⟩
  have h : kindOk k = false := by
    unfold kindOk
    rw [Bool.and_eq_false_iff]
    rcases hk with h | h
    · exact .inl (decide_eq_false (by omega))
    · exact .inr (decide_eq_false (by omega))
  unfold callT callE
  rw [h]
  rfl
def sCallPart (w : Bool) : List SV → List Ro → Option (Option Prop × SV)
  | [.agg l], rs => match cellsOf l, rs with
    | some (k, c, .sl 0 2 0 n _), [⟨2, n', row⟩] => bif (kindOk k == w) then some (some (calPre k c n n' row), .tup [strS (callT k c n fun i => gi (row i)), iV (callE k c n fun i => gi (row i))]) else none
    | _, _ => none
  | _, _ => none
theorem CallIn_spec : RoSpec Try.prog 24 (sCallPart true) := ro_spec hm ΓCc_ok Try.func24 (Λ := fun _ _ => noΛ) fun args bs p x hs hp => by
  unfold sCallPart at hs
  split at hs
  · rename_i l
    split at hs
    · rename_i k c n cap n' row hl
      obtain ⟨hk, hs⟩ := bif_some2' hs
      have hs := Option.some.inj hs
      obtain ⟨rfl, rfl⟩ := Prod.mk.inj hs
      obtain ⟨⟨h0, rfl, hn⟩, hc, hki, h100⟩ := hp _ rfl
      have h0 := okAll_rows.1 h0
      refine ⟨rfl, [⟨2, n', rowsP fun i => gi (row i)⟩], ⟨⟨rfl, rfl, fun i hi => (isPI_row (h0 i hi)).1⟩, trivial⟩, ?_⟩
      rw [cells_eq hl]
      have hg : ∀ i, i < n' → I64 ((fun i => gi (row i)) i).1 ∧ I64 ((fun i => gi (row i)) i).2 := fun i hi => (isPI_row (h0 i hi)).2
      have hk1 : kindOk k = true := by simpa using hk
      unfold kindOk at hk1
      rw [Bool.and_eq_true] at hk1
      rcases ten ⟨of_decide_eq_true hk1.1, of_decide_eq_true hk1.2⟩ with rfl | rfl | rfl | rfl | rfl | rfl | rfl | rfl | rfl | rfl
      · exact callG_1 hc hn h100 hg
      · exact callG_2 hc hn h100 hg
      · exact callG_3 hc hn h100 hg
      · exact callG_4 hc hn h100 hg
      · exact callG_5 hc hn h100 hg
      · exact callG_6 hc hn h100 hg
      · exact callG_7 hc hn h100 hg
      · exact callG_8 hc hn h100 hg
      · exact callG_9 hc hn h100 hg
      · exact callG_10 hc hn h100 hg
    · cases hs
  · cases hs
theorem CallOut_spec : RoSpec Try.prog 24 (sCallPart false) := ro_spec hm ΓCo_ok Try.func24 (Λ := fun _ _ => noΛ) fun args bs p x hs hp => by
  unfold sCallPart at hs
  split at hs
  · rename_i l
    split at hs
    · rename_i k c n cap n' row hl
      obtain ⟨hk, hs⟩ := bif_some2' hs
      have hs := Option.some.inj hs
      obtain ⟨rfl, rfl⟩ := Prod.mk.inj hs
      obtain ⟨⟨h0, rfl, hn⟩, hc, hki, h100⟩ := hp _ rfl
      have h0 := okAll_rows.1 h0
      refine ⟨rfl, [⟨2, n', rowsP fun i => gi (row i)⟩], ⟨⟨rfl, rfl, fun i hi => (isPI_row (h0 i hi)).1⟩, trivial⟩, ?_⟩
      rw [cells_eq hl]
      have hk1 : kindOk k = false := by simpa using hk
      unfold kindOk at hk1
      rw [Bool.and_eq_false_iff] at hk1
      refine callG_O ?_ hn fun i hi => (isPI_row (h0 i hi)).2
      rcases hk1 with h | h
      · exact .inl (by have := of_decide_eq_false h; omega)
      · exact .inr (by have := of_decide_eq_false h; omega)
    · cases hs
  · cases hs
theorem ro_split {f : FuncId} {s : List SV → List Ro → Option (Option Prop × SV)} {s1 s2 : List SV → List Ro → Option (Option Prop × SV)} (h1 : RoSpec Try.prog f s1) (h2 : RoSpec Try.prog f s2) (h : ∀ args rs, s args rs = s1 args rs ∨ s args rs = s2 args rs) : RoSpec Try.prog f s := fun args bs e hs => by
  unfold roSpec at hs
  cases hr : roOf bs with
  | none => rw [hr] at hs; cases hs
  | some rs =>
    rw [hr] at hs
    rcases h args rs with e1 | e1
    · exact h1 args bs e (by unfold roSpec; rw [hr]; simp only; rw [← e1]; exact hs)
    · exact h2 args bs e (by unfold roSpec; rw [hr]; simp only; rw [← e1]; exact hs)
theorem CallA_spec : RoSpec Try.prog 24 sCallG := ro_split CallIn_spec CallOut_spec fun args rs => by
  unfold sCallG sCallPart
  split
  · split
    · rename_i k c n cap n' row hl
      cases kindOk k
      · exact .inr rfl
      · exact .inl rfl
    · exact .inl rfl
  · exact .inl rfl
end Go.Proofs.Ytjdldadmaaeimaa
end
