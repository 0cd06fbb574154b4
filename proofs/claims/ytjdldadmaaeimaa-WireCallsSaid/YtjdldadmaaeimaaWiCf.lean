/-
  Contracts: used, writer.call, done: in general; wire.Call: the conditions.
-/
import Derived.Test.YtjdldadmaaeimaaWiCe
import Derived.Test.YtjdldadmaaeimaaWiCc
import Derived.Test.YtjdldadmaaeimaaWiJ
set_option maxRecDepth 100000
set_option linter.unusedSimpArgs false
set_option linter.unusedVariables false
namespace Go.Proofs.Ytjdldadmaaeimaa
open Go.SE Go.RowKit

def ucK (k : Int) (c : CV) : CV := bif decide (k = 1) then uc1 c else (bif decide (k = 2) then uc2 c else (bif decide (k = 3) then uc3 c else (bif decide (k = 4) then uc4 c else (bif decide (k = 5) then uc5 c else (bif decide (k = 6) then uc6 c else (bif decide (k = 7) then uc7 c else (bif decide (k = 8) then uc8 c else (bif decide (k = 9) then uc9 c else (bif decide (k = 10) then uc10 c else (zCV))))))))))
def kN (k : Int) (n : Nat) : Nat := bif decide (k = 1) then caN1 n else (bif decide (k = 2) then caN2 n else (bif decide (k = 3) then caN3 n else (bif decide (k = 4) then caN4 n else (bif decide (k = 5) then caN5 n else (bif decide (k = 6) then caN6 n else (bif decide (k = 7) then caN7 n else (bif decide (k = 8) then caN8 n else (bif decide (k = 9) then caN9 n else (bif decide (k = 10) then caN10 n else (0))))))))))
def kT (k : Int) (c : CV) (n : Nat) (x y : Nat → Int) : List Int := bif decide (k = 1) then caT1 c n x y else (bif decide (k = 2) then caT2 c n x y else (bif decide (k = 3) then caT3 c n x y else (bif decide (k = 4) then caT4 c n x y else (bif decide (k = 5) then caT5 c n x y else (bif decide (k = 6) then caT6 c n x y else (bif decide (k = 7) then caT7 c n x y else (bif decide (k = 8) then caT8 c n x y else (bif decide (k = 9) then caT9 c n x y else (bif decide (k = 10) then caT10 c n x y else ([]))))))))))
def kB (k : Int) (c : CV) (n : Nat) : Bool := bif decide (k = 1) then caB1 c n else (bif decide (k = 2) then caB2 c n else (bif decide (k = 3) then caB3 c n else (bif decide (k = 4) then caB4 c n else (bif decide (k = 5) then caB5 c n else (bif decide (k = 6) then caB6 c n else (bif decide (k = 7) then caB7 c n else (bif decide (k = 8) then caB8 c n else (bif decide (k = 9) then caB9 c n else (bif decide (k = 10) then caB10 c n else (false))))))))))
def gX (S : Blk) : Nat → Int := fun i => (rowG S i).1
def gY (S : Blk) : Nat → Int := fun i => (rowG S i).2
def sCallW (args : List SV) (bs : List Blk) : Option Eff := match args with
  | [.vp 0 0, .agg l] => match cellsOf l with
    | some (k, c, .sl 1 2 0 n _) => match bs with
      | [B, S] => match wrOf [B] with
        | some (.fresh (some b)) => bif okB S then some (apE (.fresh (some b)) 0 ((1 ≤ k ∧ k ≤ 10) ∧ cvOk c ∧ spPre n S ∧ n < 100) (5 + kN k n) (caL k c (kT k c n (gX S) (gY S))) (caB c (kB k c n))) else none
        | _ => none
      | _ => none
    | _ => none
  | _ => none
def sUsedC (args : List SV) (bs : List Blk) : Option Eff := match args with
  | [.agg l] => match cellsOf l with
    | some (k, c, .sl 0 2 0 n cap) => match bs with
      | [S] => bif okB S then (bif decide (k = 1) then some (.det (some (spPre n S)) (.tup [caS 1 (uc1 c) (.sl 0 2 0 n cap), bV true]) []) else bif decide (k = 2) then some (.det (some (spPre n S)) (.tup [caS 2 (uc2 c) nilS, bV true]) []) else bif decide (k = 3) then some (.det (some (spPre n S)) (.tup [caS 3 (uc3 c) nilS, bV true]) []) else bif decide (k = 4) then some (.det (some (spPre n S)) (.tup [caS 4 (uc4 c) nilS, bV true]) []) else bif decide (k = 5) then some (.det (some (spPre n S)) (.tup [caS 5 (uc5 c) nilS, bV true]) []) else bif decide (k = 6) then some (.det (some (spPre n S)) (.tup [caS 6 (uc6 c) nilS, bV true]) []) else bif decide (k = 7) then some (.det (some (spPre n S)) (.tup [caS 7 (uc7 c) nilS, bV true]) []) else bif decide (k = 8) then some (.det (some (spPre n S)) (.tup [caS 8 (uc8 c) nilS, bV true]) []) else bif decide (k = 9) then some (.det (some (spPre n S)) (.tup [caS 9 (uc9 c) nilS, bV true]) []) else bif decide (k = 10) then some (.det (some (spPre n S)) (.tup [caS 10 (uc10 c) nilS, bV true]) []) else none) else none
      | _ => none
    | _ => none
  | _ => none
def sDoneG (args : List SV) (bs : List Blk) : Option Eff := match args with
  | [.vp 0 0] => match wrOf bs with
    | some (.used (some b) n g c p) => some (.det (some p) (.tup [strS (bif b then emp else strOf n fun i => [.v (.int .u8 (g i))]), iV (bif b then 3 else 0)]) [(0, wB (some b) false (.sl 1 1 0 n c)), (1, bG n g c)])
    | _ => none
  | _ => none
def ΓCc : Ctrs := addCtr (addCtr (addCtr (addCtr noCtrs 69 (hpCtr true sUsedC)) 25 (roCtr sSameC)) 70 (hpCtr true sCallW)) 71 (hpCtr true sDoneG)
def sUsedO (args : List SV) (bs : List Blk) : Option Eff := match args with
  | [.agg l] => match cellsOf l with
    | some (k, c, .sl 0 2 0 n cap) => match bs with
      | [S] => bif okB S then some (.det (some (spPre n S ∧ (k < 1 ∨ 10 < k))) (.tup [caS 0 zCV nilS, bV false]) []) else none
      | _ => none
    | _ => none
  | _ => none
def ΓCo : Ctrs := addCtr ΓCc 69 (hpCtr true sUsedO)
theorem vcCallGO (k : Int) (c : CV) (n m cap : Nat) (g : Nat → Int × Int) (R : SV → Prop) : (vcFn Try.prog ΓCo noΛ Try.f24 [caS k c (.sl 0 2 0 n cap)] (roHeap [⟨2, m, rowsP g⟩]) 64 (fun y _ => R y)) =
(((spPre n (winBlk (Ro.blk { s := 2, n := m, row := fun i => [SV.v (Value.int IntKind.i64 (Prod.fst (g i))), SV.v (Value.int IntKind.i64 (Prod.snd (g i)))] }) 2 0 n)) ∧ (k < 1 ∨ 10 < k)) ∧ (R (SV.tup [(SV.v (Value.string ({ data := #[] }))), (SV.v (Value.int IntKind.i64 8))]))) := by kernel_rfl
theorem vcDoneG0 (q : Option Prop) (n : Nat) (g : Nat → Int) (c : Nat) : (vcFn Try.prog noCtrs noΛ Try.f71 [.vp 0 0] (heapOf (uB (some false) n g c)) 64 (fun y h' => FinE (uB (some false) n g c) (.det q (.tup [strS (bif false then emp else strOf n fun i => [.v (.int .u8 (g i))]), iV (bif false then 3 else 0)]) [(0, wB (some false) false (.sl 1 1 0 n c)), (1, bG n g c)]) y h')) =
((∀ y : Nat, (((y : Nat) < n) → True)) ∧ ((((SV.v (Value.string (strOf n fun y => [SV.v (Value.int IntKind.u8 (g (0 + y)))]))) = (SV.v (Value.string (bif false then emp else strOf n fun i => [SV.v (Value.int IntKind.u8 (g i))])))) ∧ ((SV.v (Value.int IntKind.i64 0)) = (SV.v (Value.int IntKind.i64 0)))) ∧ ((((1 : Nat) = 1) ∧ (((1 : Nat) ≤ 1) ∧ (((SV.sl 1 1 0 n c) = (SV.sl 1 1 0 n c)) ∧ ((SV.v (Value.bool false)) = (SV.v (Value.bool false)))))) ∧ (((n : Nat) = n) ∧ (((c : Nat) ≤ c) ∧ (∀ i : Nat, (((i : Nat) < n) → ([(SV.v (Value.int IntKind.u8 (g i)))] = [(SV.v (Value.int IntKind.u8 (g i)))])))))))) := by kernel_rfl
theorem vcDoneG1 (q : Option Prop) (n : Nat) (g : Nat → Int) (c : Nat) : (vcFn Try.prog noCtrs noΛ Try.f71 [.vp 0 0] (heapOf (uB (some true) n g c)) 64 (fun y h' => FinE (uB (some true) n g c) (.det q (.tup [strS (bif true then emp else strOf n fun i => [.v (.int .u8 (g i))]), iV (bif true then 3 else 0)]) [(0, wB (some true) false (.sl 1 1 0 n c)), (1, bG n g c)]) y h')) =
((((SV.v (Value.string ({ data := #[] }))) = (SV.v (Value.string (bif true then emp else strOf n fun i => [SV.v (Value.int IntKind.u8 (g i))])))) ∧ ((SV.v (Value.int IntKind.i64 3)) = (SV.v (Value.int IntKind.i64 3)))) ∧ ((((1 : Nat) = 1) ∧ (((1 : Nat) ≤ 1) ∧ (((SV.sl 1 1 0 n c) = (SV.sl 1 1 0 n c)) ∧ ((SV.v (Value.bool true)) = (SV.v (Value.bool true)))))) ∧ (((n : Nat) = n) ∧ (((c : Nat) ≤ c) ∧ (∀ i : Nat, (((i : Nat) < n) → ([(SV.v (Value.int IntKind.u8 (g i)))] = [(SV.v (Value.int IntKind.u8 (g i)))]))))))) := by kernel_rfl
theorem vcCallG1 (c : CV) (n m cap : Nat) (g : Nat → Int × Int) (R : SV → Prop) : (vcFn Try.prog ΓCc noΛ Try.f24 [caS 1 c (.sl 0 2 0 n cap)] (roHeap [⟨2, m, rowsP g⟩]) 64 (fun y _ => R y)) =
((spPre n (winBlk (Ro.blk { s := 2, n := m, row := fun i => [SV.v (Value.int IntKind.i64 (Prod.fst (g i))), SV.v (Value.int IntKind.i64 (Prod.snd (g i)))] }) 2 0 n)) ∧ (((rowsPre n n fun y => [SV.v (Value.int IntKind.i64 (Prod.fst (g (0 + y)))), SV.v (Value.int IntKind.i64 (Prod.snd (g (0 + y))))]) ∧ (rowsPre n n fun y => [SV.v (Value.int IntKind.i64 (Prod.fst (g (0 + y)))), SV.v (Value.int IntKind.i64 (Prod.snd (g (0 + y))))])) ∧ 
(sel (!sameCB 1 1 (uc1 c) c (sameS (shOf (uc1 c)) n (fun i => gi [SV.v (Value.int IntKind.i64 (Prod.fst (g (0 + i)))), SV.v (Value.int IntKind.i64 (Prod.snd (g (0 + i))))]) (shOf c) n fun i => gi [SV.v (Value.int IntKind.i64 (Prod.fst (g (0 + i)))), SV.v (Value.int IntKind.i64 (Prod.snd (g (0 + i))))])) (R (SV.tup [(SV.v (Value.string ({ data := #[] }))), (SV.v (Value.int IntKind.i64 4))])) (((((1 : Int) ≤ 1) ∧ ((1 : Int) ≤ 10)) ∧ ((cvOk c) ∧ ((spPre n (winBlk (Ro.blk { s := 2, n := m, row := fun i => [SV.v (Value.int IntKind.i64 (Prod.fst (g i))), SV.v (Value.int IntKind.i64 (Prod.snd (g i)))] }) 2 0 n)) ∧ ((n : Nat) < 100)))) ∧ (∀ c_1 : Nat, ((bytesOk (5 + kN 1 n) (5 + kN 1 n + c_1) { elem := 5, size := 1, rw := true, lock := false, lit := false, flat := true, n := 5 + kN 1 n, row := fun i => [SV.v (Value.int IntKind.u8 ((fun i => List.getD (caL 1 c (kT 1 c n (gX (winBlk (Ro.blk { s := 2, n := m, row := fun i => [SV.v (Value.int IntKind.i64 (Prod.fst (g i))), SV.v (Value.int IntKind.i64 (Prod.snd (g i)))] }) 2 0 n)) (gY (winBlk (Ro.blk { s := 2, n := m, row := fun i => [SV.v (Value.int IntKind.i64 (Prod.fst (g i))), SV.v (Value.int IntKind.i64 (Prod.snd (g i)))] }) 2 0 n)))) i 0) i))], ext := 5 + kN 1 n + c_1 }) ∧ (R (SV.tup [(SV.v (Value.string (bif false || caB c (kB 1 c n) then emp else strOf (5 + kN 1 n) fun i => [SV.v (Value.int IntKind.u8 (SE.byteOf [SV.v (Value.int IntKind.u8 ((fun i => List.getD (caL 1 c (kT 1 c n (gX (winBlk (Ro.blk { s := 2, n := m, row := fun i => [SV.v (Value.int IntKind.i64 (Prod.fst (g i))), SV.v (Value.int IntKind.i64 (Prod.snd (g i)))] }) 2 0 n)) (gY (winBlk (Ro.blk { s := 2, n := m, row := fun i => [SV.v (Value.int IntKind.i64 (Prod.fst (g i))), SV.v (Value.int IntKind.i64 (Prod.snd (g i)))] }) 2 0 n)))) i 0) i))]))]))), (SV.v (Value.int IntKind.i64 (bif false || caB c (kB 1 c n) then 3 else 0)))])))))))) := by kernel_rfl
theorem vcCallG2 (c : CV) (n m cap : Nat) (g : Nat → Int × Int) (R : SV → Prop) : (vcFn Try.prog ΓCc noΛ Try.f24 [caS 2 c (.sl 0 2 0 n cap)] (roHeap [⟨2, m, rowsP g⟩]) 64 (fun y _ => R y)) =
((spPre n (winBlk (Ro.blk { s := 2, n := m, row := fun i => [SV.v (Value.int IntKind.i64 (Prod.fst (g i))), SV.v (Value.int IntKind.i64 (Prod.snd (g i)))] }) 2 0 n)) ∧ ((rowsPre n n fun y => [SV.v (Value.int IntKind.i64 (Prod.fst (g (0 + y)))), SV.v (Value.int IntKind.i64 (Prod.snd (g (0 + y))))]) ∧ 
(sel (!sameCB 2 2 (uc2 c) c (eqSh (shOf (uc2 c)) (shOf c) && Nat.beq n 0)) (R (SV.tup [(SV.v (Value.string ({ data := #[] }))), (SV.v (Value.int IntKind.i64 4))])) (((((1 : Int) ≤ 2) ∧ ((2 : Int) ≤ 10)) ∧ ((cvOk c) ∧ ((spPre n (winBlk (Ro.blk { s := 2, n := m, row := fun i => [SV.v (Value.int IntKind.i64 (Prod.fst (g i))), SV.v (Value.int IntKind.i64 (Prod.snd (g i)))] }) 2 0 n)) ∧ ((n : Nat) < 100)))) ∧ (∀ c_1 : Nat, ((bytesOk (5 + kN 2 n) (5 + kN 2 n + c_1) { elem := 5, size := 1, rw := true, lock := false, lit := false, flat := true, n := 5 + kN 2 n, row := fun i => [SV.v (Value.int IntKind.u8 ((fun i => List.getD (caL 2 c (kT 2 c n (gX (winBlk (Ro.blk { s := 2, n := m, row := fun i => [SV.v (Value.int IntKind.i64 (Prod.fst (g i))), SV.v (Value.int IntKind.i64 (Prod.snd (g i)))] }) 2 0 n)) (gY (winBlk (Ro.blk { s := 2, n := m, row := fun i => [SV.v (Value.int IntKind.i64 (Prod.fst (g i))), SV.v (Value.int IntKind.i64 (Prod.snd (g i)))] }) 2 0 n)))) i 0) i))], ext := 5 + kN 2 n + c_1 }) ∧ (R (SV.tup [(SV.v (Value.string (bif false || caB c (kB 2 c n) then emp else strOf (5 + kN 2 n) fun i => [SV.v (Value.int IntKind.u8 (SE.byteOf [SV.v (Value.int IntKind.u8 ((fun i => List.getD (caL 2 c (kT 2 c n (gX (winBlk (Ro.blk { s := 2, n := m, row := fun i => [SV.v (Value.int IntKind.i64 (Prod.fst (g i))), SV.v (Value.int IntKind.i64 (Prod.snd (g i)))] }) 2 0 n)) (gY (winBlk (Ro.blk { s := 2, n := m, row := fun i => [SV.v (Value.int IntKind.i64 (Prod.fst (g i))), SV.v (Value.int IntKind.i64 (Prod.snd (g i)))] }) 2 0 n)))) i 0) i))]))]))), (SV.v (Value.int IntKind.i64 (bif false || caB c (kB 2 c n) then 3 else 0)))])))))))) := by kernel_rfl
theorem vcCallG3 (c : CV) (n m cap : Nat) (g : Nat → Int × Int) (R : SV → Prop) : (vcFn Try.prog ΓCc noΛ Try.f24 [caS 3 c (.sl 0 2 0 n cap)] (roHeap [⟨2, m, rowsP g⟩]) 64 (fun y _ => R y)) =
((spPre n (winBlk (Ro.blk { s := 2, n := m, row := fun i => [SV.v (Value.int IntKind.i64 (Prod.fst (g i))), SV.v (Value.int IntKind.i64 (Prod.snd (g i)))] }) 2 0 n)) ∧ ((rowsPre n n fun y => [SV.v (Value.int IntKind.i64 (Prod.fst (g (0 + y)))), SV.v (Value.int IntKind.i64 (Prod.snd (g (0 + y))))]) ∧ 
(sel (!sameCB 3 3 (uc3 c) c (eqSh (shOf (uc3 c)) (shOf c) && Nat.beq n 0)) (R (SV.tup [(SV.v (Value.string ({ data := #[] }))), (SV.v (Value.int IntKind.i64 4))])) (((((1 : Int) ≤ 3) ∧ ((3 : Int) ≤ 10)) ∧ ((cvOk c) ∧ ((spPre n (winBlk (Ro.blk { s := 2, n := m, row := fun i => [SV.v (Value.int IntKind.i64 (Prod.fst (g i))), SV.v (Value.int IntKind.i64 (Prod.snd (g i)))] }) 2 0 n)) ∧ ((n : Nat) < 100)))) ∧ (∀ c_1 : Nat, ((bytesOk (5 + kN 3 n) (5 + kN 3 n + c_1) { elem := 5, size := 1, rw := true, lock := false, lit := false, flat := true, n := 5 + kN 3 n, row := fun i => [SV.v (Value.int IntKind.u8 ((fun i => List.getD (caL 3 c (kT 3 c n (gX (winBlk (Ro.blk { s := 2, n := m, row := fun i => [SV.v (Value.int IntKind.i64 (Prod.fst (g i))), SV.v (Value.int IntKind.i64 (Prod.snd (g i)))] }) 2 0 n)) (gY (winBlk (Ro.blk { s := 2, n := m, row := fun i => [SV.v (Value.int IntKind.i64 (Prod.fst (g i))), SV.v (Value.int IntKind.i64 (Prod.snd (g i)))] }) 2 0 n)))) i 0) i))], ext := 5 + kN 3 n + c_1 }) ∧ (R (SV.tup [(SV.v (Value.string (bif false || caB c (kB 3 c n) then emp else strOf (5 + kN 3 n) fun i => [SV.v (Value.int IntKind.u8 (SE.byteOf [SV.v (Value.int IntKind.u8 ((fun i => List.getD (caL 3 c (kT 3 c n (gX (winBlk (Ro.blk { s := 2, n := m, row := fun i => [SV.v (Value.int IntKind.i64 (Prod.fst (g i))), SV.v (Value.int IntKind.i64 (Prod.snd (g i)))] }) 2 0 n)) (gY (winBlk (Ro.blk { s := 2, n := m, row := fun i => [SV.v (Value.int IntKind.i64 (Prod.fst (g i))), SV.v (Value.int IntKind.i64 (Prod.snd (g i)))] }) 2 0 n)))) i 0) i))]))]))), (SV.v (Value.int IntKind.i64 (bif false || caB c (kB 3 c n) then 3 else 0)))])))))))) := by kernel_rfl
theorem vcCallG4 (c : CV) (n m cap : Nat) (g : Nat → Int × Int) (R : SV → Prop) : (vcFn Try.prog ΓCc noΛ Try.f24 [caS 4 c (.sl 0 2 0 n cap)] (roHeap [⟨2, m, rowsP g⟩]) 64 (fun y _ => R y)) =
((spPre n (winBlk (Ro.blk { s := 2, n := m, row := fun i => [SV.v (Value.int IntKind.i64 (Prod.fst (g i))), SV.v (Value.int IntKind.i64 (Prod.snd (g i)))] }) 2 0 n)) ∧ ((rowsPre n n fun y => [SV.v (Value.int IntKind.i64 (Prod.fst (g (0 + y)))), SV.v (Value.int IntKind.i64 (Prod.snd (g (0 + y))))]) ∧ 
(sel (!sameCB 4 4 (uc4 c) c (eqSh (shOf (uc4 c)) (shOf c) && Nat.beq n 0)) (R (SV.tup [(SV.v (Value.string ({ data := #[] }))), (SV.v (Value.int IntKind.i64 4))])) (((((1 : Int) ≤ 4) ∧ ((4 : Int) ≤ 10)) ∧ ((cvOk c) ∧ ((spPre n (winBlk (Ro.blk { s := 2, n := m, row := fun i => [SV.v (Value.int IntKind.i64 (Prod.fst (g i))), SV.v (Value.int IntKind.i64 (Prod.snd (g i)))] }) 2 0 n)) ∧ ((n : Nat) < 100)))) ∧ (∀ c_1 : Nat, ((bytesOk (5 + kN 4 n) (5 + kN 4 n + c_1) { elem := 5, size := 1, rw := true, lock := false, lit := false, flat := true, n := 5 + kN 4 n, row := fun i => [SV.v (Value.int IntKind.u8 ((fun i => List.getD (caL 4 c (kT 4 c n (gX (winBlk (Ro.blk { s := 2, n := m, row := fun i => [SV.v (Value.int IntKind.i64 (Prod.fst (g i))), SV.v (Value.int IntKind.i64 (Prod.snd (g i)))] }) 2 0 n)) (gY (winBlk (Ro.blk { s := 2, n := m, row := fun i => [SV.v (Value.int IntKind.i64 (Prod.fst (g i))), SV.v (Value.int IntKind.i64 (Prod.snd (g i)))] }) 2 0 n)))) i 0) i))], ext := 5 + kN 4 n + c_1 }) ∧ (R (SV.tup [(SV.v (Value.string (bif false || caB c (kB 4 c n) then emp else strOf (5 + kN 4 n) fun i => [SV.v (Value.int IntKind.u8 (SE.byteOf [SV.v (Value.int IntKind.u8 ((fun i => List.getD (caL 4 c (kT 4 c n (gX (winBlk (Ro.blk { s := 2, n := m, row := fun i => [SV.v (Value.int IntKind.i64 (Prod.fst (g i))), SV.v (Value.int IntKind.i64 (Prod.snd (g i)))] }) 2 0 n)) (gY (winBlk (Ro.blk { s := 2, n := m, row := fun i => [SV.v (Value.int IntKind.i64 (Prod.fst (g i))), SV.v (Value.int IntKind.i64 (Prod.snd (g i)))] }) 2 0 n)))) i 0) i))]))]))), (SV.v (Value.int IntKind.i64 (bif false || caB c (kB 4 c n) then 3 else 0)))])))))))) := by kernel_rfl
theorem vcCallG5 (c : CV) (n m cap : Nat) (g : Nat → Int × Int) (R : SV → Prop) : (vcFn Try.prog ΓCc noΛ Try.f24 [caS 5 c (.sl 0 2 0 n cap)] (roHeap [⟨2, m, rowsP g⟩]) 64 (fun y _ => R y)) =
((spPre n (winBlk (Ro.blk { s := 2, n := m, row := fun i => [SV.v (Value.int IntKind.i64 (Prod.fst (g i))), SV.v (Value.int IntKind.i64 (Prod.snd (g i)))] }) 2 0 n)) ∧ ((rowsPre n n fun y => [SV.v (Value.int IntKind.i64 (Prod.fst (g (0 + y)))), SV.v (Value.int IntKind.i64 (Prod.snd (g (0 + y))))]) ∧ 
(sel (!sameCB 5 5 (uc5 c) c (eqSh (shOf (uc5 c)) (shOf c) && Nat.beq n 0)) (R (SV.tup [(SV.v (Value.string ({ data := #[] }))), (SV.v (Value.int IntKind.i64 4))])) (((((1 : Int) ≤ 5) ∧ ((5 : Int) ≤ 10)) ∧ ((cvOk c) ∧ ((spPre n (winBlk (Ro.blk { s := 2, n := m, row := fun i => [SV.v (Value.int IntKind.i64 (Prod.fst (g i))), SV.v (Value.int IntKind.i64 (Prod.snd (g i)))] }) 2 0 n)) ∧ ((n : Nat) < 100)))) ∧ (∀ c_1 : Nat, ((bytesOk (5 + kN 5 n) (5 + kN 5 n + c_1) { elem := 5, size := 1, rw := true, lock := false, lit := false, flat := true, n := 5 + kN 5 n, row := fun i => [SV.v (Value.int IntKind.u8 ((fun i => List.getD (caL 5 c (kT 5 c n (gX (winBlk (Ro.blk { s := 2, n := m, row := fun i => [SV.v (Value.int IntKind.i64 (Prod.fst (g i))), SV.v (Value.int IntKind.i64 (Prod.snd (g i)))] }) 2 0 n)) (gY (winBlk (Ro.blk { s := 2, n := m, row := fun i => [SV.v (Value.int IntKind.i64 (Prod.fst (g i))), SV.v (Value.int IntKind.i64 (Prod.snd (g i)))] }) 2 0 n)))) i 0) i))], ext := 5 + kN 5 n + c_1 }) ∧ (R (SV.tup [(SV.v (Value.string (bif false || caB c (kB 5 c n) then emp else strOf (5 + kN 5 n) fun i => [SV.v (Value.int IntKind.u8 (SE.byteOf [SV.v (Value.int IntKind.u8 ((fun i => List.getD (caL 5 c (kT 5 c n (gX (winBlk (Ro.blk { s := 2, n := m, row := fun i => [SV.v (Value.int IntKind.i64 (Prod.fst (g i))), SV.v (Value.int IntKind.i64 (Prod.snd (g i)))] }) 2 0 n)) (gY (winBlk (Ro.blk { s := 2, n := m, row := fun i => [SV.v (Value.int IntKind.i64 (Prod.fst (g i))), SV.v (Value.int IntKind.i64 (Prod.snd (g i)))] }) 2 0 n)))) i 0) i))]))]))), (SV.v (Value.int IntKind.i64 (bif false || caB c (kB 5 c n) then 3 else 0)))])))))))) := by kernel_rfl
theorem vcCallG6 (c : CV) (n m cap : Nat) (g : Nat → Int × Int) (R : SV → Prop) : (vcFn Try.prog ΓCc noΛ Try.f24 [caS 6 c (.sl 0 2 0 n cap)] (roHeap [⟨2, m, rowsP g⟩]) 64 (fun y _ => R y)) =
((spPre n (winBlk (Ro.blk { s := 2, n := m, row := fun i => [SV.v (Value.int IntKind.i64 (Prod.fst (g i))), SV.v (Value.int IntKind.i64 (Prod.snd (g i)))] }) 2 0 n)) ∧ ((rowsPre n n fun y => [SV.v (Value.int IntKind.i64 (Prod.fst (g (0 + y)))), SV.v (Value.int IntKind.i64 (Prod.snd (g (0 + y))))]) ∧ 
(sel (!sameCB 6 6 (uc6 c) c (eqSh (shOf (uc6 c)) (shOf c) && Nat.beq n 0)) (R (SV.tup [(SV.v (Value.string ({ data := #[] }))), (SV.v (Value.int IntKind.i64 4))])) (((((1 : Int) ≤ 6) ∧ ((6 : Int) ≤ 10)) ∧ ((cvOk c) ∧ ((spPre n (winBlk (Ro.blk { s := 2, n := m, row := fun i => [SV.v (Value.int IntKind.i64 (Prod.fst (g i))), SV.v (Value.int IntKind.i64 (Prod.snd (g i)))] }) 2 0 n)) ∧ ((n : Nat) < 100)))) ∧ (∀ c_1 : Nat, ((bytesOk (5 + kN 6 n) (5 + kN 6 n + c_1) { elem := 5, size := 1, rw := true, lock := false, lit := false, flat := true, n := 5 + kN 6 n, row := fun i => [SV.v (Value.int IntKind.u8 ((fun i => List.getD (caL 6 c (kT 6 c n (gX (winBlk (Ro.blk { s := 2, n := m, row := fun i => [SV.v (Value.int IntKind.i64 (Prod.fst (g i))), SV.v (Value.int IntKind.i64 (Prod.snd (g i)))] }) 2 0 n)) (gY (winBlk (Ro.blk { s := 2, n := m, row := fun i => [SV.v (Value.int IntKind.i64 (Prod.fst (g i))), SV.v (Value.int IntKind.i64 (Prod.snd (g i)))] }) 2 0 n)))) i 0) i))], ext := 5 + kN 6 n + c_1 }) ∧ (R (SV.tup [(SV.v (Value.string (bif false || caB c (kB 6 c n) then emp else strOf (5 + kN 6 n) fun i => [SV.v (Value.int IntKind.u8 (SE.byteOf [SV.v (Value.int IntKind.u8 ((fun i => List.getD (caL 6 c (kT 6 c n (gX (winBlk (Ro.blk { s := 2, n := m, row := fun i => [SV.v (Value.int IntKind.i64 (Prod.fst (g i))), SV.v (Value.int IntKind.i64 (Prod.snd (g i)))] }) 2 0 n)) (gY (winBlk (Ro.blk { s := 2, n := m, row := fun i => [SV.v (Value.int IntKind.i64 (Prod.fst (g i))), SV.v (Value.int IntKind.i64 (Prod.snd (g i)))] }) 2 0 n)))) i 0) i))]))]))), (SV.v (Value.int IntKind.i64 (bif false || caB c (kB 6 c n) then 3 else 0)))])))))))) := by kernel_rfl
theorem vcCallG7 (c : CV) (n m cap : Nat) (g : Nat → Int × Int) (R : SV → Prop) : (vcFn Try.prog ΓCc noΛ Try.f24 [caS 7 c (.sl 0 2 0 n cap)] (roHeap [⟨2, m, rowsP g⟩]) 64 (fun y _ => R y)) =
((spPre n (winBlk (Ro.blk { s := 2, n := m, row := fun i => [SV.v (Value.int IntKind.i64 (Prod.fst (g i))), SV.v (Value.int IntKind.i64 (Prod.snd (g i)))] }) 2 0 n)) ∧ ((rowsPre n n fun y => [SV.v (Value.int IntKind.i64 (Prod.fst (g (0 + y)))), SV.v (Value.int IntKind.i64 (Prod.snd (g (0 + y))))]) ∧ 
(sel (!sameCB 7 7 (uc7 c) c (eqSh (shOf (uc7 c)) (shOf c) && Nat.beq n 0)) (R (SV.tup [(SV.v (Value.string ({ data := #[] }))), (SV.v (Value.int IntKind.i64 4))])) (((((1 : Int) ≤ 7) ∧ ((7 : Int) ≤ 10)) ∧ ((cvOk c) ∧ ((spPre n (winBlk (Ro.blk { s := 2, n := m, row := fun i => [SV.v (Value.int IntKind.i64 (Prod.fst (g i))), SV.v (Value.int IntKind.i64 (Prod.snd (g i)))] }) 2 0 n)) ∧ ((n : Nat) < 100)))) ∧ (∀ c_1 : Nat, ((bytesOk (5 + kN 7 n) (5 + kN 7 n + c_1) { elem := 5, size := 1, rw := true, lock := false, lit := false, flat := true, n := 5 + kN 7 n, row := fun i => [SV.v (Value.int IntKind.u8 ((fun i => List.getD (caL 7 c (kT 7 c n (gX (winBlk (Ro.blk { s := 2, n := m, row := fun i => [SV.v (Value.int IntKind.i64 (Prod.fst (g i))), SV.v (Value.int IntKind.i64 (Prod.snd (g i)))] }) 2 0 n)) (gY (winBlk (Ro.blk { s := 2, n := m, row := fun i => [SV.v (Value.int IntKind.i64 (Prod.fst (g i))), SV.v (Value.int IntKind.i64 (Prod.snd (g i)))] }) 2 0 n)))) i 0) i))], ext := 5 + kN 7 n + c_1 }) ∧ (R (SV.tup [(SV.v (Value.string (bif false || caB c (kB 7 c n) then emp else strOf (5 + kN 7 n) fun i => [SV.v (Value.int IntKind.u8 (SE.byteOf [SV.v (Value.int IntKind.u8 ((fun i => List.getD (caL 7 c (kT 7 c n (gX (winBlk (Ro.blk { s := 2, n := m, row := fun i => [SV.v (Value.int IntKind.i64 (Prod.fst (g i))), SV.v (Value.int IntKind.i64 (Prod.snd (g i)))] }) 2 0 n)) (gY (winBlk (Ro.blk { s := 2, n := m, row := fun i => [SV.v (Value.int IntKind.i64 (Prod.fst (g i))), SV.v (Value.int IntKind.i64 (Prod.snd (g i)))] }) 2 0 n)))) i 0) i))]))]))), (SV.v (Value.int IntKind.i64 (bif false || caB c (kB 7 c n) then 3 else 0)))])))))))) := by kernel_rfl
theorem vcCallG8 (c : CV) (n m cap : Nat) (g : Nat → Int × Int) (R : SV → Prop) : (vcFn Try.prog ΓCc noΛ Try.f24 [caS 8 c (.sl 0 2 0 n cap)] (roHeap [⟨2, m, rowsP g⟩]) 64 (fun y _ => R y)) =
((spPre n (winBlk (Ro.blk { s := 2, n := m, row := fun i => [SV.v (Value.int IntKind.i64 (Prod.fst (g i))), SV.v (Value.int IntKind.i64 (Prod.snd (g i)))] }) 2 0 n)) ∧ ((rowsPre n n fun y => [SV.v (Value.int IntKind.i64 (Prod.fst (g (0 + y)))), SV.v (Value.int IntKind.i64 (Prod.snd (g (0 + y))))]) ∧ 
(sel (!sameCB 8 8 (uc8 c) c (eqSh (shOf (uc8 c)) (shOf c) && Nat.beq n 0)) (R (SV.tup [(SV.v (Value.string ({ data := #[] }))), (SV.v (Value.int IntKind.i64 4))])) (((((1 : Int) ≤ 8) ∧ ((8 : Int) ≤ 10)) ∧ ((cvOk c) ∧ ((spPre n (winBlk (Ro.blk { s := 2, n := m, row := fun i => [SV.v (Value.int IntKind.i64 (Prod.fst (g i))), SV.v (Value.int IntKind.i64 (Prod.snd (g i)))] }) 2 0 n)) ∧ ((n : Nat) < 100)))) ∧ (∀ c_1 : Nat, ((bytesOk (5 + kN 8 n) (5 + kN 8 n + c_1) { elem := 5, size := 1, rw := true, lock := false, lit := false, flat := true, n := 5 + kN 8 n, row := fun i => [SV.v (Value.int IntKind.u8 ((fun i => List.getD (caL 8 c (kT 8 c n (gX (winBlk (Ro.blk { s := 2, n := m, row := fun i => [SV.v (Value.int IntKind.i64 (Prod.fst (g i))), SV.v (Value.int IntKind.i64 (Prod.snd (g i)))] }) 2 0 n)) (gY (winBlk (Ro.blk { s := 2, n := m, row := fun i => [SV.v (Value.int IntKind.i64 (Prod.fst (g i))), SV.v (Value.int IntKind.i64 (Prod.snd (g i)))] }) 2 0 n)))) i 0) i))], ext := 5 + kN 8 n + c_1 }) ∧ (R (SV.tup [(SV.v (Value.string (bif false || caB c (kB 8 c n) then emp else strOf (5 + kN 8 n) fun i => [SV.v (Value.int IntKind.u8 (SE.byteOf [SV.v (Value.int IntKind.u8 ((fun i => List.getD (caL 8 c (kT 8 c n (gX (winBlk (Ro.blk { s := 2, n := m, row := fun i => [SV.v (Value.int IntKind.i64 (Prod.fst (g i))), SV.v (Value.int IntKind.i64 (Prod.snd (g i)))] }) 2 0 n)) (gY (winBlk (Ro.blk { s := 2, n := m, row := fun i => [SV.v (Value.int IntKind.i64 (Prod.fst (g i))), SV.v (Value.int IntKind.i64 (Prod.snd (g i)))] }) 2 0 n)))) i 0) i))]))]))), (SV.v (Value.int IntKind.i64 (bif false || caB c (kB 8 c n) then 3 else 0)))])))))))) := by kernel_rfl
theorem vcCallG9 (c : CV) (n m cap : Nat) (g : Nat → Int × Int) (R : SV → Prop) : (vcFn Try.prog ΓCc noΛ Try.f24 [caS 9 c (.sl 0 2 0 n cap)] (roHeap [⟨2, m, rowsP g⟩]) 64 (fun y _ => R y)) =
((spPre n (winBlk (Ro.blk { s := 2, n := m, row := fun i => [SV.v (Value.int IntKind.i64 (Prod.fst (g i))), SV.v (Value.int IntKind.i64 (Prod.snd (g i)))] }) 2 0 n)) ∧ ((rowsPre n n fun y => [SV.v (Value.int IntKind.i64 (Prod.fst (g (0 + y)))), SV.v (Value.int IntKind.i64 (Prod.snd (g (0 + y))))]) ∧ 
(sel (!sameCB 9 9 (uc9 c) c (eqSh (shOf (uc9 c)) (shOf c) && Nat.beq n 0)) (R (SV.tup [(SV.v (Value.string ({ data := #[] }))), (SV.v (Value.int IntKind.i64 4))])) (((((1 : Int) ≤ 9) ∧ ((9 : Int) ≤ 10)) ∧ ((cvOk c) ∧ ((spPre n (winBlk (Ro.blk { s := 2, n := m, row := fun i => [SV.v (Value.int IntKind.i64 (Prod.fst (g i))), SV.v (Value.int IntKind.i64 (Prod.snd (g i)))] }) 2 0 n)) ∧ ((n : Nat) < 100)))) ∧ (∀ c_1 : Nat, ((bytesOk (5 + kN 9 n) (5 + kN 9 n + c_1) { elem := 5, size := 1, rw := true, lock := false, lit := false, flat := true, n := 5 + kN 9 n, row := fun i => [SV.v (Value.int IntKind.u8 ((fun i => List.getD (caL 9 c (kT 9 c n (gX (winBlk (Ro.blk { s := 2, n := m, row := fun i => [SV.v (Value.int IntKind.i64 (Prod.fst (g i))), SV.v (Value.int IntKind.i64 (Prod.snd (g i)))] }) 2 0 n)) (gY (winBlk (Ro.blk { s := 2, n := m, row := fun i => [SV.v (Value.int IntKind.i64 (Prod.fst (g i))), SV.v (Value.int IntKind.i64 (Prod.snd (g i)))] }) 2 0 n)))) i 0) i))], ext := 5 + kN 9 n + c_1 }) ∧ (R (SV.tup [(SV.v (Value.string (bif false || caB c (kB 9 c n) then emp else strOf (5 + kN 9 n) fun i => [SV.v (Value.int IntKind.u8 (SE.byteOf [SV.v (Value.int IntKind.u8 ((fun i => List.getD (caL 9 c (kT 9 c n (gX (winBlk (Ro.blk { s := 2, n := m, row := fun i => [SV.v (Value.int IntKind.i64 (Prod.fst (g i))), SV.v (Value.int IntKind.i64 (Prod.snd (g i)))] }) 2 0 n)) (gY (winBlk (Ro.blk { s := 2, n := m, row := fun i => [SV.v (Value.int IntKind.i64 (Prod.fst (g i))), SV.v (Value.int IntKind.i64 (Prod.snd (g i)))] }) 2 0 n)))) i 0) i))]))]))), (SV.v (Value.int IntKind.i64 (bif false || caB c (kB 9 c n) then 3 else 0)))])))))))) := by kernel_rfl
theorem vcCallG10 (c : CV) (n m cap : Nat) (g : Nat → Int × Int) (R : SV → Prop) : (vcFn Try.prog ΓCc noΛ Try.f24 [caS 10 c (.sl 0 2 0 n cap)] (roHeap [⟨2, m, rowsP g⟩]) 64 (fun y _ => R y)) =
((spPre n (winBlk (Ro.blk { s := 2, n := m, row := fun i => [SV.v (Value.int IntKind.i64 (Prod.fst (g i))), SV.v (Value.int IntKind.i64 (Prod.snd (g i)))] }) 2 0 n)) ∧ ((rowsPre n n fun y => [SV.v (Value.int IntKind.i64 (Prod.fst (g (0 + y)))), SV.v (Value.int IntKind.i64 (Prod.snd (g (0 + y))))]) ∧ 
(sel (!sameCB 10 10 (uc10 c) c (eqSh (shOf (uc10 c)) (shOf c) && Nat.beq n 0)) (R (SV.tup [(SV.v (Value.string ({ data := #[] }))), (SV.v (Value.int IntKind.i64 4))])) (((((1 : Int) ≤ 10) ∧ ((10 : Int) ≤ 10)) ∧ ((cvOk c) ∧ ((spPre n (winBlk (Ro.blk { s := 2, n := m, row := fun i => [SV.v (Value.int IntKind.i64 (Prod.fst (g i))), SV.v (Value.int IntKind.i64 (Prod.snd (g i)))] }) 2 0 n)) ∧ ((n : Nat) < 100)))) ∧ (∀ c_1 : Nat, ((bytesOk (5 + kN 10 n) (5 + kN 10 n + c_1) { elem := 5, size := 1, rw := true, lock := false, lit := false, flat := true, n := 5 + kN 10 n, row := fun i => [SV.v (Value.int IntKind.u8 ((fun i => List.getD (caL 10 c (kT 10 c n (gX (winBlk (Ro.blk { s := 2, n := m, row := fun i => [SV.v (Value.int IntKind.i64 (Prod.fst (g i))), SV.v (Value.int IntKind.i64 (Prod.snd (g i)))] }) 2 0 n)) (gY (winBlk (Ro.blk { s := 2, n := m, row := fun i => [SV.v (Value.int IntKind.i64 (Prod.fst (g i))), SV.v (Value.int IntKind.i64 (Prod.snd (g i)))] }) 2 0 n)))) i 0) i))], ext := 5 + kN 10 n + c_1 }) ∧ (R (SV.tup [(SV.v (Value.string (bif false || caB c (kB 10 c n) then emp else strOf (5 + kN 10 n) fun i => [SV.v (Value.int IntKind.u8 (SE.byteOf [SV.v (Value.int IntKind.u8 ((fun i => List.getD (caL 10 c (kT 10 c n (gX (winBlk (Ro.blk { s := 2, n := m, row := fun i => [SV.v (Value.int IntKind.i64 (Prod.fst (g i))), SV.v (Value.int IntKind.i64 (Prod.snd (g i)))] }) 2 0 n)) (gY (winBlk (Ro.blk { s := 2, n := m, row := fun i => [SV.v (Value.int IntKind.i64 (Prod.fst (g i))), SV.v (Value.int IntKind.i64 (Prod.snd (g i)))] }) 2 0 n)))) i 0) i))]))]))), (SV.v (Value.int IntKind.i64 (bif false || caB c (kB 10 c n) then 3 else 0)))])))))))) := by kernel_rfl
theorem bif_some2' {b : Bool} {α : Type _} {x : Option α} {y : α} (h : (bif b then x else none) = some y) : b = true ∧ x = some y := by
  cases b with
  | true => exact ⟨rfl, h⟩
  | false => cases h
theorem same_ptB {S : Blk} {n : Nat} (h1 : okB S = true) (h2 : spPre n S) : BlkSame S (ptB S.elem n (gX S) (gY S) S.ext S.whole) := by
  simp only [okB, Bool.and_eq_true, Bool.not_eq_true'] at h1
  obtain ⟨⟨⟨a1, a2⟩, a3⟩, a4⟩ := h1
  obtain ⟨b1, b2, _⟩ := h2
  have b1 := okAll_rows.1 b1
  exact ⟨Nat.eq_of_beq_eq_true a3, a1, a4, b2, rfl, a2, rfl, rfl, fun i hi => (isPI_row (b1 i hi)).1⟩
theorem DoneG_spec : HpSpec Try.prog 71 sDoneG := hp_spec hm noCtrs_ok Try.func71 (Λ := fun _ _ => noΛ) fun args bs e hs hp => by
  unfold sDoneG at hs
  split at hs
  · split at hs
    · rename_i b n g c p hw
      have he := Option.some.inj hs
      subst he
      refine ⟨uB (some b) n g c, (wrOf_used hw (hp p rfl)).1, ?_⟩
      cases b with
      | false =>
        rw [vcDoneG0]
        exact ⟨fun _ _ => trivial, ⟨congrArg (fun z => SV.v (.string z)) (done_plain n g), rfl⟩, ⟨rfl, Nat.le_refl _, rfl, rfl⟩, rfl, Nat.le_refl _, fun _ _ => rfl⟩
      | true =>
        rw [vcDoneG1]
        exact ⟨⟨rfl, rfl⟩, ⟨rfl, Nat.le_refl _, rfl, rfl⟩, rfl, Nat.le_refl _, fun _ _ => rfl⟩
    · cases hs
  · cases hs
theorem ΓCw_ok : ∀ f g, ΓCw f = some g → g.ok Try.prog f := addCtr_ok (addCtr_ok (addCtr_ok ΓG0_ok (hp_ok Try.func118 (by kernel_rfl) (by kernel_rfl) Small_spec)) (hp_ok Try.func105 (by kernel_rfl) (by kernel_rfl) Spots2_spec)) (hp_ok Try.func97 (by kernel_rfl) (by kernel_rfl) Shape_spec)
theorem ten {k : Int} (h : 1 ≤ k ∧ k ≤ 10) : k = 1 ∨ k = 2 ∨ k = 3 ∨ k = 4 ∨ k = 5 ∨ k = 6 ∨ k = 7 ∨ k = 8 ∨ k = 9 ∨ k = 10 := by omega
theorem CallW_spec : HpSpec Try.prog 70 sCallW := hp_spec hm ΓCw_ok Try.func70 (Λ := fun _ _ => noΛ) fun args bs e hs hp => by
  unfold sCallW at hs
  split at hs
  · rename_i l
    split at hs
    · rename_i k c n cap hl
      split at hs
      · rename_i B S
        split at hs
        · rename_i b hw
          obtain ⟨hS, he⟩ := bif_some hs
          subst he
          obtain ⟨hk, hc, hsp, hn⟩ := hp
          refine ⟨[wB (some b) true nilS, ptB S.elem n (gX S) (gY S) S.ext S.whole], ⟨(wrOf_fresh hw).1, same_ptB hS hsp, trivial⟩, ?_⟩
          rw [cells_eq hl]
          have hv : ∀ i, i < n → I64 (gX S i) ∧ I64 (gY S i) := (pre_of hsp).2
          rcases ten hk with rfl | rfl | rfl | rfl | rfl | rfl | rfl | rfl | rfl | rfl
          · exact call_1 hc hn hv
          · exact call_2 hc hn hv
          · exact call_3 hc hn hv
          · exact call_4 hc hn hv
          · exact call_5 hc hn hv
          · exact call_6 hc hn hv
          · exact call_7 hc hn hv
          · exact call_8 hc hn hv
          · exact call_9 hc hn hv
          · exact call_10 hc hn hv
        · cases hs
      · cases hs
    · cases hs
  · cases hs
theorem used_1 {q : Option Prop} {c : CV} {e n m cap xt : Nat} {x y : Nat → Int} {wh : Bool} : vcFn Try.prog noCtrs ΛUsed Try.f69 [caS 1 c (.sl 0 2 0 n cap)] (heapOf [ptB e m x y xt wh]) 64 (fun y' h' => FinE [ptB e m x y xt wh] (.det q (.tup [caS 1 (uc1 c) (.sl 0 2 0 n cap), bV true]) []) y' h') := by
  rw [vcUsed1]
  refine ⟨⟨?_, rfl⟩, trivial⟩
  repeat (first | exact rfl | refine ⟨rfl, ?_⟩)
theorem used_2 {q : Option Prop} {c : CV} {e n m cap xt : Nat} {x y : Nat → Int} {wh : Bool} : vcFn Try.prog noCtrs ΛUsed Try.f69 [caS 2 c (.sl 0 2 0 n cap)] (heapOf [ptB e m x y xt wh]) 64 (fun y' h' => FinE [ptB e m x y xt wh] (.det q (.tup [caS 2 (uc2 c) (nilS), bV true]) []) y' h') := by
  rw [vcUsed2]
  refine ⟨⟨?_, rfl⟩, trivial⟩
  repeat (first | exact rfl | refine ⟨rfl, ?_⟩)
theorem used_3 {q : Option Prop} {c : CV} {e n m cap xt : Nat} {x y : Nat → Int} {wh : Bool} : vcFn Try.prog noCtrs ΛUsed Try.f69 [caS 3 c (.sl 0 2 0 n cap)] (heapOf [ptB e m x y xt wh]) 64 (fun y' h' => FinE [ptB e m x y xt wh] (.det q (.tup [caS 3 (uc3 c) (nilS), bV true]) []) y' h') := by
  rw [vcUsed3]
  refine ⟨⟨?_, rfl⟩, trivial⟩
  repeat (first | exact rfl | refine ⟨rfl, ?_⟩)
theorem used_4 {q : Option Prop} {c : CV} {e n m cap xt : Nat} {x y : Nat → Int} {wh : Bool} : vcFn Try.prog noCtrs ΛUsed Try.f69 [caS 4 c (.sl 0 2 0 n cap)] (heapOf [ptB e m x y xt wh]) 64 (fun y' h' => FinE [ptB e m x y xt wh] (.det q (.tup [caS 4 (uc4 c) (nilS), bV true]) []) y' h') := by
  rw [vcUsed4]
  refine ⟨⟨?_, rfl⟩, trivial⟩
  repeat (first | exact rfl | refine ⟨rfl, ?_⟩)
theorem used_5 {q : Option Prop} {c : CV} {e n m cap xt : Nat} {x y : Nat → Int} {wh : Bool} : vcFn Try.prog noCtrs ΛUsed Try.f69 [caS 5 c (.sl 0 2 0 n cap)] (heapOf [ptB e m x y xt wh]) 64 (fun y' h' => FinE [ptB e m x y xt wh] (.det q (.tup [caS 5 (uc5 c) (nilS), bV true]) []) y' h') := by
  rw [vcUsed5]
  refine ⟨⟨?_, rfl⟩, trivial⟩
  repeat (first | exact rfl | refine ⟨rfl, ?_⟩)
theorem used_6 {q : Option Prop} {c : CV} {e n m cap xt : Nat} {x y : Nat → Int} {wh : Bool} : vcFn Try.prog noCtrs ΛUsed Try.f69 [caS 6 c (.sl 0 2 0 n cap)] (heapOf [ptB e m x y xt wh]) 64 (fun y' h' => FinE [ptB e m x y xt wh] (.det q (.tup [caS 6 (uc6 c) (nilS), bV true]) []) y' h') := by
  rw [vcUsed6]
  refine ⟨⟨?_, rfl⟩, trivial⟩
  repeat (first | exact rfl | refine ⟨rfl, ?_⟩)
theorem used_7 {q : Option Prop} {c : CV} {e n m cap xt : Nat} {x y : Nat → Int} {wh : Bool} : vcFn Try.prog noCtrs ΛUsed Try.f69 [caS 7 c (.sl 0 2 0 n cap)] (heapOf [ptB e m x y xt wh]) 64 (fun y' h' => FinE [ptB e m x y xt wh] (.det q (.tup [caS 7 (uc7 c) (nilS), bV true]) []) y' h') := by
  rw [vcUsed7]
  refine ⟨⟨?_, rfl⟩, trivial⟩
  repeat (first | exact rfl | refine ⟨rfl, ?_⟩)
theorem used_8 {q : Option Prop} {c : CV} {e n m cap xt : Nat} {x y : Nat → Int} {wh : Bool} : vcFn Try.prog noCtrs ΛUsed Try.f69 [caS 8 c (.sl 0 2 0 n cap)] (heapOf [ptB e m x y xt wh]) 64 (fun y' h' => FinE [ptB e m x y xt wh] (.det q (.tup [caS 8 (uc8 c) (nilS), bV true]) []) y' h') := by
  rw [vcUsed8]
  refine ⟨⟨?_, rfl⟩, trivial⟩
  repeat (first | exact rfl | refine ⟨rfl, ?_⟩)
theorem used_9 {q : Option Prop} {c : CV} {e n m cap xt : Nat} {x y : Nat → Int} {wh : Bool} : vcFn Try.prog noCtrs ΛUsed Try.f69 [caS 9 c (.sl 0 2 0 n cap)] (heapOf [ptB e m x y xt wh]) 64 (fun y' h' => FinE [ptB e m x y xt wh] (.det q (.tup [caS 9 (uc9 c) (nilS), bV true]) []) y' h') := by
  rw [vcUsed9]
  refine ⟨⟨?_, rfl⟩, trivial⟩
  repeat (first | exact rfl | refine ⟨rfl, ?_⟩)
theorem used_10 {q : Option Prop} {c : CV} {e n m cap xt : Nat} {x y : Nat → Int} {wh : Bool} : vcFn Try.prog noCtrs ΛUsed Try.f69 [caS 10 c (.sl 0 2 0 n cap)] (heapOf [ptB e m x y xt wh]) 64 (fun y' h' => FinE [ptB e m x y xt wh] (.det q (.tup [caS 10 (uc10 c) (nilS), bV true]) []) y' h') := by
  rw [vcUsed10]
  refine ⟨⟨?_, rfl⟩, trivial⟩
  repeat (first | exact rfl | refine ⟨rfl, ?_⟩)
theorem used_det {b : Bool} {p : Prop} {x y : SV} {o : Option Eff} {e : Eff} (hb : b = true) (h : (bif b then some (Eff.det (some p) x []) else o) = some e) : e = .det (some p) x [] := by
  subst hb
  exact (Option.some.inj h).symm
theorem UsedC_spec : HpSpec Try.prog 69 sUsedC := hp_spec hm noCtrs_ok Try.func69 (Λ := fun _ _ => ΛUsed) fun args bs e hs hp => by
  unfold sUsedC at hs
  split at hs
  · rename_i l
    split at hs
    · rename_i k c n cap hl
      split at hs
      · rename_i S
        obtain ⟨hS, hs⟩ := bif_some2' hs
        by_cases hk : 1 ≤ k ∧ k ≤ 10
        · rcases ten hk with rfl | rfl | rfl | rfl | rfl | rfl | rfl | rfl | rfl | rfl
          · have he := Option.some.inj hs
            subst he
            have hsp := hp _ rfl
            refine ⟨[ptB S.elem n (gX S) (gY S) S.ext S.whole], ⟨same_ptB hS hsp, trivial⟩, ?_⟩
            rw [cells_eq hl]
            exact used_1
          · have he := Option.some.inj hs
            subst he
            have hsp := hp _ rfl
            refine ⟨[ptB S.elem n (gX S) (gY S) S.ext S.whole], ⟨same_ptB hS hsp, trivial⟩, ?_⟩
            rw [cells_eq hl]
            exact used_2
          · have he := Option.some.inj hs
            subst he
            have hsp := hp _ rfl
            refine ⟨[ptB S.elem n (gX S) (gY S) S.ext S.whole], ⟨same_ptB hS hsp, trivial⟩, ?_⟩
            rw [cells_eq hl]
            exact used_3
          · have he := Option.some.inj hs
            subst he
            have hsp := hp _ rfl
            refine ⟨[ptB S.elem n (gX S) (gY S) S.ext S.whole], ⟨same_ptB hS hsp, trivial⟩, ?_⟩
            rw [cells_eq hl]
            exact used_4
          · have he := Option.some.inj hs
            subst he
            have hsp := hp _ rfl
            refine ⟨[ptB S.elem n (gX S) (gY S) S.ext S.whole], ⟨same_ptB hS hsp, trivial⟩, ?_⟩
            rw [cells_eq hl]
            exact used_5
          · have he := Option.some.inj hs
            subst he
            have hsp := hp _ rfl
            refine ⟨[ptB S.elem n (gX S) (gY S) S.ext S.whole], ⟨same_ptB hS hsp, trivial⟩, ?_⟩
            rw [cells_eq hl]
            exact used_6
          · have he := Option.some.inj hs
            subst he
            have hsp := hp _ rfl
            refine ⟨[ptB S.elem n (gX S) (gY S) S.ext S.whole], ⟨same_ptB hS hsp, trivial⟩, ?_⟩
            rw [cells_eq hl]
            exact used_7
          · have he := Option.some.inj hs
            subst he
            have hsp := hp _ rfl
            refine ⟨[ptB S.elem n (gX S) (gY S) S.ext S.whole], ⟨same_ptB hS hsp, trivial⟩, ?_⟩
            rw [cells_eq hl]
            exact used_8
          · have he := Option.some.inj hs
            subst he
            have hsp := hp _ rfl
            refine ⟨[ptB S.elem n (gX S) (gY S) S.ext S.whole], ⟨same_ptB hS hsp, trivial⟩, ?_⟩
            rw [cells_eq hl]
            exact used_9
          · have he := Option.some.inj hs
            subst he
            have hsp := hp _ rfl
            refine ⟨[ptB S.elem n (gX S) (gY S) S.ext S.whole], ⟨same_ptB hS hsp, trivial⟩, ?_⟩
            rw [cells_eq hl]
            exact used_10
        · rw [show decide (k = 1) = false from decide_eq_false (by omega), show decide (k = 2) = false from decide_eq_false (by omega), show decide (k = 3) = false from decide_eq_false (by omega), show decide (k = 4) = false from decide_eq_false (by omega), show decide (k = 5) = false from decide_eq_false (by omega), show decide (k = 6) = false from decide_eq_false (by omega), show decide (k = 7) = false from decide_eq_false (by omega), show decide (k = 8) = false from decide_eq_false (by omega), show decide (k = 9) = false from decide_eq_false (by omega), show decide (k = 10) = false from decide_eq_false (by omega)] at hs
          cases hs
      · cases hs
    · cases hs
  · cases hs
end Go.Proofs.Ytjdldadmaaeimaa
