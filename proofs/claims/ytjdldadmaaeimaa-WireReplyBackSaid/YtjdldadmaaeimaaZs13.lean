/-
  What the proof uses, part 13.
-/
import Derived.Test.YtjdldadmaaeimaaZs12
set_option maxRecDepth 100000
set_option linter.unusedSimpArgs false
set_option linter.unusedVariables false

section
namespace Go.Proofs.Ytjdldadmaaeimaa
open Go.SE Go.RowKit
def srB (n cap : Nat) (a : Int) : Blk := { elem := 114, size := 2, rw := true, lock := false, lit := true, flat := false, n := 1, row := fun _ => [.sl 1 1 0 n cap, .v (.int .i64 a)], ext := 1, whole := true }
def srOk (b : Blk) : Bool := Nat.beq b.elem 114 && Nat.beq b.size 2 && b.rw && !b.dead && Nat.beq b.n 1 && Nat.beq b.ext 1 && b.whole && !b.flat
def niB (e m : Nat) (g : Nat → Int) (x : Nat) (wh : Bool) : Blk := { elem := e, size := 1, rw := false, lock := false, lit := false, flat := true, n := m, row := fun i => [.v (.int .i64 (g i))], ext := x, whole := wh }
def niOk (b : Blk) : Bool := Nat.beq b.size 1 && !b.rw && !b.dead && b.flat
def isI1 : List SV → Prop
  | [.v (.int .i64 a)] => I64 a
  | _ => False
def i1 : List SV → Int
  | [.v (.int _ a)] => a
  | _ => 0
def gI (D : Blk) : Nat → Int := fun i => i1 (D.row i)
def niPre (n : Nat) (D : Blk) : Prop := (D.n = n ∧ True) ∧ ∀ i, i < n → isI1 (D.row i)
def gOk (n : Nat) (g : Nat → Int) : Prop := True ∧ ∀ i, i < n → I64 (g i)
noncomputable def nxV (n : Nat) (g : Nat → Int) (a : Int) : Int := hide (bif decide (a < (n : Int)) then g a.toNat else 0)
noncomputable def frV (m x : Int) : Int := hide ((x.tmod (m + 1)).natAbs : Int)
noncomputable def nuV (x : Int) : Int := hide (bif decide (x = -9223372036854775808) then 0 else x)
noncomputable def nuF (x : Int) : Bool := hide (decide ((nuV x).tmod 7 = 3))
def sSr (F : List SV → Nat → (Nat → Int) → Int → Option (Prop × SV × Int)) (args : List SV) (bs : List Blk) : Option Eff := match args, bs with
  | .vp 0 0 :: rest, [S, D] => match S.row 0 with
    | [.sl 1 1 0 n cap, .v (.int .i64 a)] => match F rest n (gI D) a with
      | some (q, x, a') => bif srOk S && niOk D then some (.det (some ((niPre n D ∧ 0 ≤ a ∧ a' ≤ 4611686018427387904) ∧ q)) x [(0, srB n cap a')]) else none
      | none => none
    | _ => none
  | _, _ => none
def s0 (f : Nat → (Nat → Int) → Int → SV × Int) : List SV → Nat → (Nat → Int) → Int → Option (Prop × SV × Int)
  | [], n, g, a => some (True, (f n g a).1, (f n g a).2)
  | _, _, _, _ => none
noncomputable def sFrom : List SV → Nat → (Nat → Int) → Int → Option (Prop × SV × Int)
  | [.v (.int .i64 m)], n, g, a => some (0 ≤ m ∧ m ≤ 4611686018427387904, .v (.int .i64 (frV m (nxV n g a))), a + 1)
  | _, _, _, _ => none
noncomputable def yNext (n : Nat) (g : Nat → Int) (a : Int) : SV × Int := (.v (.int .i64 (nxV n g a)), a + 1)
noncomputable def nuC2 (n : Nat) (g : Nat → Int) (a : Int) : List SV := [.v (.int .i64 (nuV (nxV n g a))), .v (.bool (nuF (nxV n g a)))]
noncomputable def yNum (n : Nat) (g : Nat → Int) (a : Int) : SV × Int := (.agg (nuC2 n g a), a + 1)
noncomputable def yVec (n : Nat) (g : Nat → Int) (a : Int) : SV × Int := (.agg (nuC2 n g a ++ nuC2 n g (a + 1)), a + 1 + 1)
noncomputable def yPose (n : Nat) (g : Nat → Int) (a : Int) : SV × Int := (.agg (nuC2 n g a ++ (nuC2 n g (a + 1) ++ (nuC2 n g (a + 1 + 1) ++ nuC2 n g (a + 1 + 1 + 1)))), a + 1 + 1 + 1 + 1)
noncomputable def ySpot (n : Nat) (g : Nat → Int) (a : Int) : SV × Int := (.agg [.v (.int .i64 (nxV n g a)), .v (.int .i64 (nxV n g (a + 1)))], a + 1 + 1)
noncomputable def yHandle (n : Nat) (g : Nat → Int) (a : Int) : SV × Int := (.agg [.v (.int .i64 (frV 2147483647 (nxV n g a))), .v (.int .i64 (frV 2147483647 (nxV n g (a + 1))))], a + 1 + 1)
noncomputable def ΓSa : Ctrs := addCtr noCtrs 66 (hpCtr true (sSr (s0 yNext)))
noncomputable def ΓSb : Ctrs := addCtr (addCtr ΓSa 61 (hpCtr true (sSr sFrom))) 65 (hpCtr true (sSr (s0 yNum)))
noncomputable def ΓSc : Ctrs := addCtr ΓSb 64 (hpCtr true (sSr (s0 yVec)))
noncomputable def ΓSd : Ctrs := addCtr (addCtr (addCtr ΓSc 63 (hpCtr true (sSr (s0 yPose)))) 68 (hpCtr true (sSr (s0 ySpot)))) 67 (hpCtr true (sSr (s0 yHandle)))
noncomputable def srC (n : Nat) (g : Nat → Int) (a : Int) : Nat := hide (frV 8 (nxV n g (a + 1 + 1 + 1 + 1))).toNat
def srA (a : Int) : Int := a + 1 + 1 + 1 + 1 + 1
noncomputable def srEnd (n : Nat) (g : Nat → Int) (a : Int) : Int := srA a + 2 * (srC n g a : Int)
noncomputable def srSp (n : Nat) (g : Nat → Int) (a : Int) : Nat → Int × Int := fun i => (nxV n g (srA a + 2 * (i : Int)), nxV n g (srA a + 2 * (i : Int) + 1))
noncomputable def srS4 (n : Nat) (g : Nat → Int) (a : Int) : ShB := ⟨frV 255 (nxV n g a), nxV n g (a + 1), nxV n g (a + 1 + 1), nxV n g (a + 1 + 1 + 1)⟩
noncomputable def srShE (q : Prop) (n cap : Nat) (g : Nat → Int) (a : Int) : Eff := .nd q Nat 0 (fun c => shS (srS4 n g a) (.sl 1000 2 0 (srC n g a) (srC n g a + c))) fun c => [(0, srB n cap (srEnd n g a)), (1000, spW (srC n g a) (srC n g a + c) (srSp n g a))]
noncomputable def sSrSh (args : List SV) (bs : List Blk) : Option Eff := match args, bs with
  | [.vp 0 0], [S, D] => match S.row 0 with
    | [.sl 1 1 0 n cap, .v (.int .i64 a)] => bif srOk S && niOk D then some (srShE (niPre n D ∧ 0 ≤ a ∧ a ≤ 4611686018427387000) n cap (gI D) a) else none
    | _ => none
  | _, _ => none
noncomputable def ΛSrSh (n cap e m xt : Nat) (g : Nat → Int) (a : Int) (wh : Bool) : Nat → Option LoopSpec := addPrs (addLoopN noΛ Try.f62 0 SX (fun x => x.i ≤ srC n g a ∧ x.i ≤ x.c) (fun x => srC n g a - x.i) [(4, fun x => .v (.int .i64 ((srC n g a : Int) - (x.i : Int))))] [(0, fun x => srB n cap (srA a + 2 * (x.i : Int))), (1, fun _ => niB e m g xt wh), (112, fun x => varBlk 35 [.v (.int .i64 (srS4 n g a).k), .v (.int .i64 (srS4 n g a).r), .v (.int .i64 (srS4 n g a).w), .v (.int .i64 (srS4 n g a).h), .sl 40 2 0 x.i x.c])] [(40, fun x => spW x.i x.c (srSp n g a), inVar 112 4)]) 7 [(1, fun _ => [112]), (3, fun _ => [0, 1])]
noncomputable def md (a b : Int) : Int := hide (a % b)
noncomputable def sModH : List SV → Option (Option Prop × SV)
  | [.v (.int .i64 a), .v (.int .i64 b)] => some (some (I64 a ∧ 0 < b ∧ b < 4611686018427387904), .v (.int .i64 (md a b)))
  | _ => none
theorem vcNext (n cap e m x : Nat) (g : Nat→Int) (a : Int) (wh : Bool) : (vcFn Try.prog noCtrs noΛ Try.f66 [.vp 0 0] (heapOf [srB n cap a,niB e m g x wh]) 64 (fun y h' => FinE [srB n cap a,niB e m g x wh] (.det none (yNext n g a).1 [(0,srB n cap (yNext n g a).2)]) y h')) = (sel (decide (IntKind.wrap IntKind.i64 (a + 1) > (↑n : Int))) ((zI = (SV.v (.int .i64 (nxV n g a))))∧(((1 : Nat) = 1)∧(((1 : Nat) ≤ 1)∧(((SV.sl 1 1 0 n cap) = (SV.sl 1 1 0 n cap))∧((SV.v (.int .i64 (IntKind.wrap IntKind.i64 (a + 1)))) = (SV.v (.int .i64 (Prod.snd (yNext n g a))))))))) ((((0 : Int) ≤ (IntKind.wrap IntKind.i64 (IntKind.wrap IntKind.i64 (a + 1) - 1)))∧(((IntKind.wrap IntKind.i64 (IntKind.wrap IntKind.i64 (a + 1) - 1)) : Int) < ((↑n : Int))))∧(((SV.v (.int .i64 (g (0 + Int.toNat (IntKind.wrap IntKind.i64 (IntKind.wrap IntKind.i64 (a + 1) - 1)))))) = (SV.v (.int .i64 (nxV n g a))))∧(((1 : Nat) = 1)∧(((1 : Nat) ≤ 1)∧(((SV.sl 1 1 0 n cap) = (SV.sl 1 1 0 n cap))∧((SV.v (.int .i64 (IntKind.wrap IntKind.i64 (a + 1)))) = (SV.v (.int .i64 (Prod.snd (yNext n g a))))))))))):=by kernel_rfl
theorem vcFrom (n cap e m x : Nat) (g : Nat→Int) (a most : Int) (wh : Bool) : (vcFn Try.prog ΓSa noΛ Try.f61 [.vp 0 0,.v (.int .i64 most)] (heapOf [srB n cap a,niB e m g x wh]) 64 (fun y h' => FinE [srB n cap a,niB e m g x wh] (.det none (.v (.int .i64 (frV most (nxV n g a)))) [(0,srB n cap (a + 1))]) y h')) =
((((niPre n (winBlk (niB e m g x wh) 1 0 n))∧(((0 : Int) ≤ a)∧(((Prod.snd (yNext n (gI (winBlk (niB e m g x wh) 1 0 n)) a)) : Int) ≤ 4611686018427387904)))∧True)∧((((IntKind.wrap IntKind.i64 (most + 1)) : Int) ≠ 0)∧(sel (decide (Int.tmod (nxV n (gI (winBlk (niB e m g x wh) 1 0 n)) a) (IntKind.wrap IntKind.i64 (most + 1)) < 0)) (((SV.v (.int .i64 (IntKind.wrap IntKind.i64 (0 - Int.tmod (nxV n (gI (winBlk (niB e m g x wh) 1 0 n)) a) (IntKind.wrap IntKind.i64 (most + 1)))))) = (SV.v (.int .i64 (frV most (nxV n g a)))))∧(((1 : Nat) = 1)∧(((1 : Nat) ≤ 1)∧(((SV.sl 1 1 0 n cap) = (SV.sl 1 1 0 n cap))∧((SV.v (.int .i64 (Prod.snd (yNext n (gI (winBlk (niB e m g x wh) 1 0 n)) a)))) = (SV.v (.int .i64 (a + 1)))))))) (((SV.v (.int .i64 (Int.tmod (nxV n (gI (winBlk (niB e m g x wh) 1 0 n)) a) (IntKind.wrap IntKind.i64 (most + 1))))) = (SV.v (.int .i64 (frV most (nxV n g a)))))∧(((1 : Nat) = 1)∧(((1 : Nat) ≤ 1)∧(((SV.sl 1 1 0 n cap) = (SV.sl 1 1 0 n cap))∧((SV.v (.int .i64 (Prod.snd (yNext n (gI (winBlk (niB e m g x wh) 1 0 n)) a)))) = (SV.v (.int .i64 (a + 1))))))))))) := by kernel_rfl
theorem vcSNum (n cap e m x : Nat) (g : Nat→Int) (a : Int) (wh : Bool) : (vcFn Try.prog ΓSa noΛ Try.f65 [.vp 0 0] (heapOf [srB n cap a,niB e m g x wh]) 64 (fun y h' => FinE [srB n cap a,niB e m g x wh] (.det none (yNum n g a).1 [(0,srB n cap (yNum n g a).2)]) y h')) = ((((niPre n (winBlk (niB e m g x wh) 1 0 n))∧(((0 : Int) ≤ a)∧(((Prod.snd (yNext n (gI (winBlk (niB e m g x wh) 1 0 n)) a)) : Int) ≤ 4611686018427387904)))∧True)∧(sel (nxV n (gI (winBlk (niB e m g x wh) 1 0 n)) a == -9223372036854775808) (((zI = (SV.v (.int .i64 (nuV (nxV n g a)))))∧(zF = (SV.v (.bool (nuF (nxV n g a))))))∧(((1 : Nat) = 1)∧(((1 : Nat) ≤ 1)∧(((SV.sl 1 1 0 n cap) = (SV.sl 1 1 0 n cap))∧((SV.v (.int .i64 (Prod.snd (yNext n (gI (winBlk (niB e m g x wh) 1 0 n)) a)))) = (SV.v (.int .i64 (Prod.snd (yNum n g a))))))))) ((((SV.v (.int .i64 (nxV n (gI (winBlk (niB e m g x wh) 1 0 n)) a))) = (SV.v (.int .i64 (nuV (nxV n g a)))))∧((SV.v (.bool (Int.tmod (nxV n (gI (winBlk (niB e m g x wh) 1 0 n)) a) 7 == 3))) = (SV.v (.bool (nuF (nxV n g a))))))∧(((1 : Nat) = 1)∧(((1 : Nat) ≤ 1)∧(((SV.sl 1 1 0 n cap) = (SV.sl 1 1 0 n cap))∧((SV.v (.int .i64 (Prod.snd (yNext n (gI (winBlk (niB e m g x wh) 1 0 n)) a)))) = (SV.v (.int .i64 (Prod.snd (yNum n g a))))))))))):=by kernel_rfl
theorem vcSVec (n cap e m x : Nat) (g : Nat→Int) (a : Int) (wh : Bool) : (vcFn Try.prog ΓSb (addPrs noΛ 2 [(0,fun _ => [88]),(2,fun _ => [0,1])]) Try.f64 [.vp 0 0] (heapOf [srB n cap a,niB e m g x wh]) 64 (fun y h' => FinE [srB n cap a,niB e m g x wh] (.det none (yVec n g a).1 [(0,srB n cap (yVec n g a).2)]) y h')) =
((((niPre n (winBlk (niB e m g x wh) 1 0 n))∧(((0 : Int) ≤ a)∧(((Prod.snd (yNum n (gI (winBlk (niB e m g x wh) 1 0 n)) a)) : Int) ≤ 4611686018427387904)))∧True)∧((((niPre n (winBlk (niB e m g x wh) 1 0 n))∧(((0 : Int) ≤ (Prod.snd (yNum n (gI (winBlk (niB e m g x wh) 1 0 n)) a)))∧(((Prod.snd (yNum n (gI (winBlk (niB e m g x wh) 1 0 n)) (Prod.snd (yNum n (gI (winBlk (niB e m g x wh) 1 0 n)) a)))) : Int) ≤ 4611686018427387904)))∧True)∧((((SV.v (.int .i64 (nuV (nxV n (gI (winBlk (niB e m g x wh) 1 0 n)) a)))) = (SV.v (.int .i64 (nuV (nxV n g a)))))∧(((SV.v (.bool (nuF (nxV n (gI (winBlk (niB e m g x wh) 1 0 n)) a)))) = (SV.v (.bool (nuF (nxV n g a)))))∧(((SV.v (.int .i64 (nuV (nxV n (gI (winBlk (niB e m g x wh) 1 0 n)) (Prod.snd (yNum n (gI (winBlk (niB e m g x wh) 1 0 n)) a)))))) = (SV.v (.int .i64 (nuV (nxV n g (a + 1))))))∧((SV.v (.bool (nuF (nxV n (gI (winBlk (niB e m g x wh) 1 0 n)) (Prod.snd (yNum n (gI (winBlk (niB e m g x wh) 1 0 n)) a)))))) = (SV.v (.bool (nuF (nxV n g (a + 1)))))))))∧(((1 : Nat) = 1)∧(((1 : Nat) ≤ 1)∧(((SV.sl 1 1 0 n cap) = (SV.sl 1 1 0 n cap))∧((SV.v (.int .i64 (Prod.snd (yNum n (gI (winBlk (niB e m g x wh) 1 0 n)) (Prod.snd (yNum n (gI (winBlk (niB e m g x wh) 1 0 n)) a)))))) = (SV.v (.int .i64 (Prod.snd (yVec n g a))))))))))) := by kernel_rfl
@[reducible] noncomputable def vcSPose_1 (n : Nat) (e : Nat) (m : Nat) (x : Nat) (g : Nat→Int) (a : Int) (wh : Bool) := (Prod.snd (yNum n (gI (winBlk (niB e m g x wh) 1 0 n)) (Prod.snd (yVec n (gI (winBlk (niB e m g x wh) 1 0 n)) a))))
theorem vcSPose (n cap e m x : Nat) (g : Nat→Int) (a : Int) (wh : Bool) : (vcFn Try.prog ΓSc (addPrs noΛ 3 [(0,fun _ => [88]),(1,fun _ => [120]),(3,fun _ => [0,1])]) Try.f63 [.vp 0 0] (heapOf [srB n cap a,niB e m g x wh]) 64 (fun y h' => FinE [srB n cap a,niB e m g x wh] (.det none (yPose n g a).1 [(0,srB n cap (yPose n g a).2)]) y h')) =
((((niPre n (winBlk (niB e m g x wh) 1 0 n))∧(((0 : Int) ≤ a)∧(((Prod.snd (yVec n (gI (winBlk (niB e m g x wh) 1 0 n)) a)) : Int) ≤ 4611686018427387904)))∧True)∧((((niPre n (winBlk (niB e m g x wh) 1 0 n))∧(((0 : Int) ≤ (Prod.snd (yVec n (gI (winBlk (niB e m g x wh) 1 0 n)) a)))∧(((vcSPose_1 n e m x g a wh) : Int) ≤ 4611686018427387904)))∧True)∧((((niPre n (winBlk (niB e m g x wh) 1 0 n))∧(((0 : Int) ≤ (vcSPose_1 n e m x g a wh))∧(((Prod.snd (yNum n (gI (winBlk (niB e m g x wh) 1 0 n)) (vcSPose_1 n e m x g a wh))) : Int) ≤ 4611686018427387904)))∧True)∧((((SV.v (.int .i64 (nuV (nxV n (gI (winBlk (niB e m g x wh) 1 0 n)) a)))) = (SV.v (.int .i64 (nuV (nxV n g a)))))∧(((SV.v (.bool (nuF (nxV n (gI (winBlk (niB e m g x wh) 1 0 n)) a)))) = (SV.v (.bool (nuF (nxV n g a)))))∧(((SV.v (.int .i64 (nuV (nxV n (gI (winBlk (niB e m g x wh) 1 0 n)) (a + 1))))) = (SV.v (.int .i64 (nuV (nxV n g (a + 1))))))∧(((SV.v (.bool (nuF (nxV n (gI (winBlk (niB e m g x wh) 1 0 n)) (a + 1))))) = (SV.v (.bool (nuF (nxV n g (a + 1))))))∧(((SV.v (.int .i64 (nuV (nxV n (gI (winBlk (niB e m g x wh) 1 0 n)) (Prod.snd (yVec n (gI (winBlk (niB e m g x wh) 1 0 n)) a)))))) = (SV.v (.int .i64 (nuV (nxV n g (a + 1 + 1))))))∧(((SV.v (.bool (nuF (nxV n (gI (winBlk (niB e m g x wh) 1 0 n)) (Prod.snd (yVec n (gI (winBlk (niB e m g x wh) 1 0 n)) a)))))) = (SV.v (.bool (nuF (nxV n g (a + 1 + 1))))))∧(((SV.v (.int .i64 (nuV (nxV n (gI (winBlk (niB e m g x wh) 1 0 n)) (vcSPose_1 n e m x g a wh))))) = (SV.v (.int .i64 (nuV (nxV n g (a + 1 + 1 + 1))))))∧((SV.v (.bool (nuF (nxV n (gI (winBlk (niB e m g x wh) 1 0 n)) (vcSPose_1 n e m x g a wh))))) = (SV.v (.bool (nuF (nxV n g (a + 1 + 1 + 1)))))))))))))∧(((1 : Nat) = 1)∧(((1 : Nat) ≤ 1)∧(((SV.sl 1 1 0 n cap) = (SV.sl 1 1 0 n cap))∧((SV.v (.int .i64 (Prod.snd (yNum n (gI (winBlk (niB e m g x wh) 1 0 n)) (vcSPose_1 n e m x g a wh))))) = (SV.v (.int .i64 (Prod.snd (yPose n g a)))))))))))) := by kernel_rfl
theorem vcSSpot (n cap e m x : Nat) (g : Nat→Int) (a : Int) (wh : Bool) : (vcFn Try.prog ΓSa noΛ Try.f68 [.vp 0 0] (heapOf [srB n cap a,niB e m g x wh]) 64 (fun y h' => FinE [srB n cap a,niB e m g x wh] (.det none (ySpot n g a).1 [(0,srB n cap (ySpot n g a).2)]) y h')) = ((((niPre n (winBlk (niB e m g x wh) 1 0 n))∧(((0 : Int) ≤ a)∧(((Prod.snd (yNext n (gI (winBlk (niB e m g x wh) 1 0 n)) a)) : Int) ≤ 4611686018427387904)))∧True)∧((((niPre n (winBlk (niB e m g x wh) 1 0 n))∧(((0 : Int) ≤ (Prod.snd (yNext n (gI (winBlk (niB e m g x wh) 1 0 n)) a)))∧(((Prod.snd (yNext n (gI (winBlk (niB e m g x wh) 1 0 n)) (Prod.snd (yNext n (gI (winBlk (niB e m g x wh) 1 0 n)) a)))) : Int) ≤ 4611686018427387904)))∧True)∧((((SV.v (.int .i64 (nxV n (gI (winBlk (niB e m g x wh) 1 0 n)) a))) = (SV.v (.int .i64 (nxV n g a))))∧((SV.v (.int .i64 (nxV n (gI (winBlk (niB e m g x wh) 1 0 n)) (Prod.snd (yNext n (gI (winBlk (niB e m g x wh) 1 0 n)) a))))) = (SV.v (.int .i64 (nxV n g (a + 1))))))∧(((1 : Nat) = 1)∧(((1 : Nat) ≤ 1)∧(((SV.sl 1 1 0 n cap) = (SV.sl 1 1 0 n cap))∧((SV.v (.int .i64 (Prod.snd (yNext n (gI (winBlk (niB e m g x wh) 1 0 n)) (Prod.snd (yNext n (gI (winBlk (niB e m g x wh) 1 0 n)) a)))))) = (SV.v (.int .i64 (Prod.snd (ySpot n g a))))))))))):=by kernel_rfl
theorem vcSHandle (n cap e m x : Nat) (g : Nat→Int) (a : Int) (wh : Bool) : (vcFn Try.prog ΓSb noΛ Try.f67 [.vp 0 0] (heapOf [srB n cap a,niB e m g x wh]) 64 (fun y h' => FinE [srB n cap a,niB e m g x wh] (.det none (yHandle n g a).1 [(0,srB n cap (yHandle n g a).2)]) y h')) = ((((niPre n (winBlk (niB e m g x wh) 1 0 n))∧(((0 : Int) ≤ a)∧(((a + 1) : Int) ≤ 4611686018427387904)))∧(((0 : Int) ≤ 2147483647)∧((2147483647 : Int) ≤ 4611686018427387904)))∧((((niPre n (winBlk (niB e m g x wh) 1 0 n))∧(((0 : Int) ≤ (a + 1))∧(((a + 1 + 1) : Int) ≤ 4611686018427387904)))∧(((0 : Int) ≤ 2147483647)∧((2147483647 : Int) ≤ 4611686018427387904)))∧((((SV.v (.int .i64 (frV 2147483647 (nxV n (gI (winBlk (niB e m g x wh) 1 0 n)) a)))) = (SV.v (.int .i64 (frV 2147483647 (nxV n g a)))))∧((SV.v (.int .i64 (frV 2147483647 (nxV n (gI (winBlk (niB e m g x wh) 1 0 n)) (a + 1))))) = (SV.v (.int .i64 (frV 2147483647 (nxV n g (a + 1)))))))∧(((1 : Nat) = 1)∧(((1 : Nat) ≤ 1)∧(((SV.sl 1 1 0 n cap) = (SV.sl 1 1 0 n cap))∧((SV.v (.int .i64 (a + 1 + 1))) = (SV.v (.int .i64 (Prod.snd (yHandle n g a))))))))))):=by kernel_rfl
@[reducible] noncomputable def vcSShape_1 (n : Nat) (e : Nat) (m : Nat) (x : Nat) (g : Nat→Int) (a : Int) (wh : Bool) := (Prod.snd (yNext n (gI (winBlk (niB e m g x wh) 1 0 n)) (Prod.snd (yNext n (gI (winBlk (niB e m g x wh) 1 0 n)) (a + 1)))))
@[reducible] noncomputable def vcSShape_2 (n : Nat) (g : Nat→Int) (a : Int) (T_ : Prop) : Prop := ((SV.v (.int .i64 (ShB.k (srS4 n g a)))) = (SV.v (.int .i64 (ShB.k (srS4 n g a)))))∧(((SV.v (.int .i64 (ShB.r (srS4 n g a)))) = (SV.v (.int .i64 (ShB.r (srS4 n g a)))))∧(((SV.v (.int .i64 (ShB.w (srS4 n g a)))) = (SV.v (.int .i64 (ShB.w (srS4 n g a)))))∧(((SV.v (.int .i64 (ShB.h (srS4 n g a)))) = (SV.v (.int .i64 (ShB.h (srS4 n g a)))))∧(T_))))
theorem vcSShape (n cap e m x : Nat) (g : Nat→Int) (a : Int) (wh : Bool) : (vcFn Try.prog ΓSd (ΛSrSh n cap e m x g a wh) Try.f62 [.vp 0 0] (heapOf [srB n cap a,niB e m g x wh]) 64 (fun y h' => FinE [srB n cap a,niB e m g x wh] (srShE True n cap g a) y h')) =
((((niPre n (winBlk (niB e m g x wh) 1 0 n))∧(((0 : Int) ≤ a)∧(((a + 1) : Int) ≤ 4611686018427387904)))∧(((0 : Int) ≤ 255)∧((255 : Int) ≤ 4611686018427387904)))∧((((niPre n (winBlk (niB e m g x wh) 1 0 n))∧(((0 : Int) ≤ (a + 1))∧(((Prod.snd (yNext n (gI (winBlk (niB e m g x wh) 1 0 n)) (a + 1))) : Int) ≤ 4611686018427387904)))∧True)∧((((niPre n (winBlk (niB e m g x wh) 1 0 n))∧(((0 : Int) ≤ (Prod.snd (yNext n (gI (winBlk (niB e m g x wh) 1 0 n)) (a + 1))))∧(((vcSShape_1 n e m x g a wh) : Int) ≤ 4611686018427387904)))∧True)∧((((niPre n (winBlk (niB e m g x wh) 1 0 n))∧(((0 : Int) ≤ (vcSShape_1 n e m x g a wh))∧(((Prod.snd (yNext n (gI (winBlk (niB e m g x wh) 1 0 n)) (vcSShape_1 n e m x g a wh))) : Int) ≤ 4611686018427387904)))∧True)∧((((niPre n (winBlk (niB e m g x wh) 1 0 n))∧(((0 : Int) ≤ (Prod.snd (yNext n (gI (winBlk (niB e m g x wh) 1 0 n)) (vcSShape_1 n e m x g a wh))))∧(((Prod.snd (yNext n (gI (winBlk (niB e m g x wh) 1 0 n)) (vcSShape_1 n e m x g a wh)) + 1) : Int) ≤ 4611686018427387904)))∧(((0 : Int) ≤ 8)∧((8 : Int) ≤ 4611686018427387904)))∧((∃ x_1 : SX,(((((SX.i x_1) : Nat) ≤ (srC n g a))∧(((SX.i x_1) : Nat) ≤ (SX.c x_1)))∧(((SV.v (.int .i64 (frV 8 (nxV n (gI (winBlk (niB e m g x wh) 1 0 n)) (Prod.snd (yNext n (gI (winBlk (niB e m g x wh) 1 0 n)) (vcSShape_1 n e m x g a wh))))))) = (SV.v (.int .i64 ((↑(srC n g a) : Int) - (↑(SX.i x_1) : Int)))))∧((((1 : Nat) = 1)∧(((1 : Nat) ≤ 1)∧(((SV.sl 1 1 0 n cap) = (SV.sl 1 1 0 n cap))∧((SV.v (.int .i64 (Prod.snd (yNext n (gI (winBlk (niB e m g x wh) 1 0 n)) (vcSShape_1 n e m x g a wh)) + 1))) = (SV.v (.int .i64 (srA a + 2 * (↑(SX.i x_1) : Int))))))))∧( (sel (Nat.beq 1 1&&false == false&&!false&&!false&&(true||!true)&&!false&&!false&&(Nat.beq e 0||Nat.beq e e)&&(!wh||wh)) (((m : Nat) = m)∧(((x : Nat) ≤ x)∧(∀ i : Nat,(((i : Nat) < m)→([(SV.v (.int .i64 (g i)))] = [(SV.v (.int .i64 (g i)))]))))) False)∧((((1 : Nat) = 1)∧(((1 : Nat) ≤ 1)∧(((SV.v (.int .i64 (frV 255 (nxV n (gI (winBlk (niB e m g x wh) 1 0 n)) a)))) = (SV.v (.int .i64 (ShB.k (srS4 n g a)))))∧(((SV.v (.int .i64 (nxV n (gI (winBlk (niB e m g x wh) 1 0 n)) (a + 1)))) = (SV.v (.int .i64 (ShB.r (srS4 n g a)))))∧(((SV.v (.int .i64 (nxV n (gI (winBlk (niB e m g x wh) 1 0 n)) (Prod.snd (yNext n (gI (winBlk (niB e m g x wh) 1 0 n)) (a + 1)))))) = (SV.v (.int .i64 (ShB.w (srS4 n g a)))))∧(((SV.v (.int .i64 (nxV n (gI (winBlk (niB e m g x wh) 1 0 n)) (vcSShape_1 n e m x g a wh)))) = (SV.v (.int .i64 (ShB.h (srS4 n g a)))))∧((zS = zS)∧(((0 : Nat) = 0)∧((((SX.i x_1) : Nat) = 0)∧(((SX.c x_1) : Nat) = 0))))))))))∧(((((SX.i x_1) : Nat) = 0)∧((((SX.c x_1) : Nat) = 0)∧True))∧True)))))))∧(∀ x_1 : SX,(((((SX.i x_1) : Nat) ≤ (srC n g a))∧(((SX.i x_1) : Nat) ≤ (SX.c x_1)))→(sel (decide ((↑(srC n g a) : Int) - (↑(SX.i x_1) : Int) > 0)) ((((niPre n (winBlk (niB e m g x wh) 1 0 n))∧(((0 : Int) ≤ (srA a + 2 * (↑(SX.i x_1) : Int)))∧(((Prod.snd (ySpot n (gI (winBlk (niB e m g x wh) 1 0 n)) (srA a + 2 * (↑(SX.i x_1) : Int)))) : Int) ≤ 4611686018427387904)))∧True)∧((((((SX.i x_1 + 1) * 16) : Nat) ≤ 140737488355328)∧((((0 + SX.c x_1) : Nat) ≤ (SX.c x_1))∧(∀ y : Nat,(((y : Nat) < 1)→True))))∧(∀ c : Nat,(∃ x' : SX,((((((SX.i x') : Nat) ≤ (srC n g a))∧(((SX.i x') : Nat) ≤ (SX.c x')))∧(((SV.v (.int .i64 (IntKind.wrap IntKind.i64 ((↑(srC n g a) : Int) - (↑(SX.i x_1) : Int) - 1)))) = (SV.v (.int .i64 ((↑(srC n g a) : Int) - (↑(SX.i x') : Int)))))∧((((1 : Nat) = 1)∧(((1 : Nat) ≤ 1)∧(((SV.sl 1 1 0 n cap) = (SV.sl 1 1 0 n cap))∧((SV.v (.int .i64 (Prod.snd (ySpot n (gI (winBlk (niB e m g x wh) 1 0 n)) (srA a + 2 * (↑(SX.i x_1) : Int)))))) = (SV.v (.int .i64 (srA a + 2 * (↑(SX.i x') : Int))))))))∧( (sel (Nat.beq 1 1&&false == false&&!false&&!false&&(true||!true)&&!false&&!false&&(Nat.beq e 0||Nat.beq e e)&&(!wh||wh)) (((m : Nat) = m)∧(((x : Nat) ≤ x)∧(∀ i : Nat,(((i : Nat) < m)→([(SV.v (.int .i64 (g i)))] = [(SV.v (.int .i64 (g i)))]))))) False)∧((((1 : Nat) = 1)∧(((1 : Nat) ≤ 1)∧(vcSShape_2 n g a ((SV.sl 272 2 0 (SX.i x_1 + 1) (SX.i x_1 + 1 + c)) = (SV.sl 272 2 0 (SX.i x') (SX.c x'))))))∧((((SX.i x_1 + 1) : Nat) = (SX.i x'))∧((((SX.c x') : Nat) ≤ (SX.i x_1 + 1 + c))∧(∀ i : Nat,(((i : Nat) < (SX.i x'))→([(SV.v (.int .i64 (bop (Nat.blt i (SX.i x_1)) (Prod.fst (srSp n g a (0 + i))) (nxV n (gI (winBlk (niB e m g x wh) 1 0 n)) (srA a + 2 * (↑(SX.i x_1) : Int)))))),(SV.v (.int .i64 (bop (Nat.blt i (SX.i x_1)) (Prod.snd (srSp n g a (0 + i))) (nxV n (gI (winBlk (niB e m g x wh) 1 0 n)) (srA a + 2 * (↑(SX.i x_1) : Int) + 1)))))] = [(SV.v (.int .i64 (Prod.fst (srSp n g a i)))),(SV.v (.int .i64 (Prod.snd (srSp n g a i))))]))))))))))∧(((srC n g a - SX.i x') : Nat) < (srC n g a - SX.i x_1))))))) (∃ c : Nat,((vcSShape_2 n g a ((SV.sl 40 2 0 (SX.i x_1) (SX.c x_1)) = (SV.sl 40 2 0 (srC n g a) (srC n g a + c))))∧((((1 : Nat) = 1)∧(((1 : Nat) ≤ 1)∧(((SV.sl 1 1 0 n cap) = (SV.sl 1 1 0 n cap))∧((SV.v (.int .i64 (srA a + 2 * (↑(SX.i x_1) : Int)))) = (SV.v (.int .i64 (srEnd n g a)))))))∧((((SX.i x_1) : Nat) = (srC n g a))∧((((srC n g a + c) : Nat) ≤ (SX.c x_1))∧(∀ i : Nat,(((i : Nat) < (srC n g a))→([(SV.v (.int .i64 (Prod.fst (srSp n g a i)))),(SV.v (.int .i64 (Prod.snd (srSp n g a i))))] = [(SV.v (.int .i64 (Prod.fst (srSp n g a i)))),(SV.v (.int .i64 (Prod.snd (srSp n g a i))))]))))))))))))))))) := by kernel_rfl
theorem vcModH (a b : Int) (R : SV→Prop) : (vcPure Try.prog noCtrs noΛ Try.f39 [.v (.int .i64 a),.v (.int .i64 b)] R) = (((b : Int) ≠ 0)∧(sel (decide (Int.tmod a b < 0)) (R (SV.v (.int .i64 (IntKind.wrap IntKind.i64 (Int.tmod a b + b))))) (R (SV.v (.int .i64 (Int.tmod a b)))))):=by kernel_rfl
theorem gI_win {e m n x : Nat} {g : Nat → Int} {wh : Bool} : gI (winBlk (niB e m g x wh) 1 0 n) = g := funext fun i => by
  show i1 [SV.v (.int .i64 (g (0 + i)))] = g i
  rw [Nat.zero_add]; rfl
theorem niPre_win {e m n x : Nat} {g : Nat → Int} {wh : Bool} (h : gOk n g) : niPre n (winBlk (niB e m g x wh) 1 0 n) := ⟨⟨rfl, h.1⟩, fun i hi => by
  show I64 (g (0 + i))
  rw [Nat.zero_add]; exact h.2 i hi⟩
theorem isI1_row {r : List SV} (h : isI1 r) : r = [.v (.int .i64 (i1 r))] ∧ I64 (i1 r) := by
  unfold isI1 at h
  split at h
  · exact ⟨rfl, h⟩
  · exact h.elim
theorem same_srB {S : Blk} {n cap : Nat} {a : Int} (h1 : srOk S = true) (h2 : S.row 0 = [.sl 1 1 0 n cap, .v (.int .i64 a)]) : BlkSame S (srB n cap a) := by
  simp only [srOk, Bool.and_eq_true, Bool.not_eq_true'] at h1
  obtain ⟨⟨⟨⟨⟨⟨⟨a1, a2⟩, a3⟩, a4⟩, a5⟩, a6⟩, a7⟩, a8⟩ := h1
  have hn := Nat.eq_of_beq_eq_true a5
  exact ⟨Nat.eq_of_beq_eq_true a2, a3, a8, hn, Nat.eq_of_beq_eq_true a6, a4, Nat.eq_of_beq_eq_true a1, a7, fun i hi => by
    have : i = 0 := by omega
    subst this
    exact h2⟩
theorem same_niB {D : Blk} {n : Nat} (h1 : niOk D = true) (h2 : niPre n D) : BlkSame D (niB D.elem n (gI D) D.ext D.whole) := by
  simp only [niOk, Bool.and_eq_true, Bool.not_eq_true'] at h1
  obtain ⟨⟨⟨a1, a2⟩, a3⟩, a4⟩ := h1
  exact ⟨Nat.eq_of_beq_eq_true a1, a2, a4, h2.1.1, rfl, a3, rfl, rfl, fun i hi => (isI1_row (h2.2 i (by rw [h2.1.1] at hi; exact hi))).1⟩
theorem niPre_ok {D : Blk} {n : Nat} (h : niPre n D) : gOk n (gI D) := ⟨h.1.2, fun i hi => (isI1_row (h.2 i hi)).2⟩
theorem sr_spec {Γ : Ctrs} (hΓ : ∀ f g, Γ f = some g → g.ok Try.prog f) {f : FuncId} {fn : Func} (hf : Try.prog.funcs[f]? = some fn) {F : List SV → Nat → (Nat → Int) → Int → Option (Prop × SV × Int)} {Λ : List SV → List Blk → Nat → Option LoopSpec}
    (h : ∀ rest n cap e x g a wh q y a' bs, F rest n g a = some (q, y, a') → q → gOk n g → 0 ≤ a → a' ≤ 4611686018427387904 → vcFn Try.prog Γ (Λ rest bs) fn (.vp 0 0 :: rest) (heapOf [srB n cap a, niB e n g x wh]) 64 (fun y' h' => FinE [srB n cap a, niB e n g x wh] (.det none y [(0, srB n cap a')]) y' h')) :
    HpSpec Try.prog f (sSr F) := hp_spec hm hΓ hf (Λ := fun args bs => match args with
      | _ :: rest => Λ rest bs
      | _ => noΛ) fun args bs e hs hp => by
  unfold sSr at hs
  split at hs <;> try (cases hs; done)
  rename_i rest S D
  split at hs <;> try (cases hs; done)
  rename_i n cap a hS
  split at hs <;> try (cases hs; done)
  rename_i q y a' hF
  obtain ⟨ha, he⟩ := bif_some hs
  subst he
  rw [Bool.and_eq_true] at ha
  obtain ⟨⟨h1, h2, h3⟩, hq⟩ := hp _ rfl
  exact ⟨[srB n cap a, niB D.elem n (gI D) D.ext D.whole], ⟨same_srB ha.1 hS, same_niB ha.2 h1, trivial⟩, h rest n cap D.elem D.ext (gI D) a D.whole q y a' _ hF hq (niPre_ok h1) h2 h3⟩
theorem s0_spec {Γ : Ctrs} (hΓ : ∀ f g, Γ f = some g → g.ok Try.prog f) {f : FuncId} {fn : Func} (hf : Try.prog.funcs[f]? = some fn) {F : Nat → (Nat → Int) → Int → SV × Int} {Λ : Nat → Option LoopSpec}
    (h : ∀ n cap e x g a wh, gOk n g → 0 ≤ a → (F n g a).2 ≤ 4611686018427387904 → vcFn Try.prog Γ Λ fn [.vp 0 0] (heapOf [srB n cap a, niB e n g x wh]) 64 (fun y' h' => FinE [srB n cap a, niB e n g x wh] (.det none (F n g a).1 [(0, srB n cap (F n g a).2)]) y' h')) :
    HpSpec Try.prog f (sSr (s0 F)) := sr_spec hΓ hf (Λ := fun _ _ => Λ) fun rest n cap e x g a wh q y a' bs hF hq hg h0 h1 => by
  unfold s0 at hF
  split at hF <;> try (cases hF; done)
  have hF := Option.some.inj hF
  obtain ⟨_, hF⟩ := Prod.mk.inj hF
  obtain ⟨e1, e2⟩ := Prod.mk.inj hF
  subst e1 e2
  exact h n cap e x g a wh hg h0 h1
theorem nxV_in {n : Nat} {g : Nat → Int} {a : Int} (h : a < (n : Int)) : nxV n g a = g a.toNat := by
  unfold nxV; rw [hide_eq, decide_eq_true h]; rfl
theorem nxV_out {n : Nat} {g : Nat → Int} {a : Int} (h : ¬ a < (n : Int)) : nxV n g a = 0 := by
  unfold nxV; rw [hide_eq, decide_eq_false h]; rfl
theorem nx_rng {n : Nat} {g : Nat → Int} {a : Int} (hg : gOk n g) (h0 : 0 ≤ a) : I64 (nxV n g a) := by
  by_cases h : a < (n : Int)
  · rw [nxV_in h]; exact hg.2 _ (by omega)
  · rw [nxV_out h]; exact ⟨by omega, by omega⟩
theorem Next_spec : HpSpec Try.prog 66 (sSr (s0 yNext)) := s0_spec noCtrs_ok Try.func66 (Λ := noΛ) fun n cap e x g a wh hg h0 h1 => by
  have h1 : a + 1 ≤ 4611686018427387904 := h1
  have e1 : IntKind.i64.wrap (a + 1) = a + 1 := wrap_i64 ⟨by omega, by omega⟩
  have e2 : IntKind.i64.wrap (a + 1 - 1) = a := by rw [wrap_i64 ⟨by omega, by omega⟩]; omega
  rw [vcNext, e1, e2]
  refine sel_of (fun h => ?_) fun h => ?_
  · have h := of_decide_eq_true h
    exact ⟨int_mk (nxV_out (by omega)).symm, rfl, Nat.le_refl _, rfl, rfl⟩
  · have h := of_decide_eq_false h
    refine ⟨⟨h0, by omega⟩, int_mk ?_, rfl, Nat.le_refl _, rfl, rfl⟩
    rw [nxV_in (by omega), Nat.zero_add]
theorem ΓSa_ok : ∀ f g, ΓSa f = some g → g.ok Try.prog f := addCtr_ok noCtrs_ok (hp_ok Try.func66 (by kernel_rfl) (by kernel_rfl) Next_spec)
theorem tmod_rng (x : Int) {b : Int} (hb : 0 < b) : -b < x.tmod b ∧ x.tmod b < b := by
  have h1 := Int.tmod_lt_of_pos x hb
  have h2 := Int.tmod_lt_of_pos (-x) hb
  rw [Int.neg_tmod] at h2
  omega
theorem fr_rng {m : Int} (hm : 0 ≤ m) (x : Int) : 0 ≤ frV m x ∧ frV m x ≤ m := by
  unfold frV
  rw [hide_eq]
  have := tmod_rng x (b := m + 1) (by omega)
  omega
theorem From_spec : HpSpec Try.prog 61 (sSr sFrom) := sr_spec ΓSa_ok Try.func61 (Λ := fun _ _ => noΛ) fun rest n cap e x g a wh q y a' bs hF hq hg h0 h1 => by
  unfold sFrom at hF
  split at hF <;> try (cases hF; done)
  rename_i m
  have hF := Option.some.inj hF
  obtain ⟨eq, hF⟩ := Prod.mk.inj hF
  obtain ⟨e1, e2⟩ := Prod.mk.inj hF
  subst eq e1 e2
  have ew : IntKind.i64.wrap (m + 1) = m + 1 := wrap_i64 ⟨by omega, by omega⟩
  refine Eq.mpr (vcFrom n cap e n x g a m wh) ?_
  rw [gI_win, ew]
  have ht := tmod_rng (nxV n g a) (b := m + 1) (by omega)
  refine ⟨⟨⟨niPre_win hg, h0, h1⟩, trivial⟩, by omega, sel_of (fun h => ?_) fun h => ?_⟩
  · have h := of_decide_eq_true h
    refine ⟨int_mk ?_, rfl, Nat.le_refl _, rfl, rfl⟩
    unfold frV
    rw [hide_eq, wrap_i64 ⟨by omega, by omega⟩]
    omega
  · have h := of_decide_eq_false h
    refine ⟨int_mk ?_, rfl, Nat.le_refl _, rfl, rfl⟩
    unfold frV
    rw [hide_eq]
    omega
theorem SNum_spec : HpSpec Try.prog 65 (sSr (s0 yNum)) := s0_spec ΓSa_ok Try.func65 (Λ := noΛ) fun n cap e x g a wh hg h0 h1 => by
  refine Eq.mpr (vcSNum n cap e n x g a wh) ?_
  rw [gI_win]
  refine ⟨⟨⟨niPre_win hg, h0, h1⟩, trivial⟩, sel_of (fun h => ?_) fun h => ?_⟩
  · have h : nxV n g a = -9223372036854775808 := by simpa using h
    have e1 : nuV (nxV n g a) = 0 := by unfold nuV; rw [hide_eq, decide_eq_true h]; rfl
    have e2 : nuF (nxV n g a) = false := by unfold nuF; rw [hide_eq, e1]; rfl
    exact ⟨⟨int_mk e1.symm, bool_mk e2.symm⟩, rfl, Nat.le_refl _, rfl, rfl⟩
  · have h : ¬ nxV n g a = -9223372036854775808 := by simpa using h
    have e1 : nuV (nxV n g a) = nxV n g a := by unfold nuV; rw [hide_eq, decide_eq_false h]; rfl
    have e2 : nuF (nxV n g a) = (Int.tmod (nxV n g a) 7 == 3) := by unfold nuF; rw [hide_eq, e1]; rfl
    exact ⟨⟨int_mk e1.symm, bool_mk e2.symm⟩, rfl, Nat.le_refl _, rfl, rfl⟩
theorem ΓSb_ok : ∀ f g, ΓSb f = some g → g.ok Try.prog f := addCtr_ok (addCtr_ok ΓSa_ok (hp_ok Try.func61 (by kernel_rfl) (by kernel_rfl) From_spec)) (hp_ok Try.func65 (by kernel_rfl) (by kernel_rfl) SNum_spec)
theorem SVec_spec : HpSpec Try.prog 64 (sSr (s0 yVec)) := s0_spec ΓSb_ok Try.func64 (Λ := addPrs noΛ 2 [(0, fun _ => [88]), (2, fun _ => [0, 1])]) fun n cap e x g a wh hg h0 h1 => by
  have h1 : a + 1 + 1 ≤ 4611686018427387904 := h1
  refine Eq.mpr (vcSVec n cap e n x g a wh) ?_
  rw [gI_win]
  exact ⟨⟨⟨niPre_win hg, h0, by show a + 1 ≤ _; omega⟩, trivial⟩, ⟨⟨niPre_win hg, by show 0 ≤ a + 1; omega, h1⟩, trivial⟩, ⟨rfl, rfl, rfl, rfl⟩, rfl, Nat.le_refl _, rfl, rfl⟩
theorem ΓSc_ok : ∀ f g, ΓSc f = some g → g.ok Try.prog f := addCtr_ok ΓSb_ok (hp_ok Try.func64 (by kernel_rfl) (by kernel_rfl) SVec_spec)
theorem SPose_spec : HpSpec Try.prog 63 (sSr (s0 yPose)) := s0_spec ΓSc_ok Try.func63 (Λ := addPrs noΛ 3 [(0, fun _ => [88]), (1, fun _ => [120]), (3, fun _ => [0, 1])]) fun n cap e x g a wh hg h0 h1 => by
  have h1 : a + 1 + 1 + 1 + 1 ≤ 4611686018427387904 := h1
  have h_vc := vcSPose n cap e n x g a wh
  repeat (first | unfold vcSPose_1 at h_vc)
  refine Eq.mpr h_vc ?_
  rw [gI_win]
  exact ⟨⟨⟨niPre_win hg, h0, by show a + 1 + 1 ≤ _; omega⟩, trivial⟩, ⟨⟨niPre_win hg, by show 0 ≤ a + 1 + 1; omega, by show a + 1 + 1 + 1 ≤ _; omega⟩, trivial⟩, ⟨⟨niPre_win hg, by show 0 ≤ a + 1 + 1 + 1; omega, h1⟩, trivial⟩, ⟨rfl, rfl, rfl, rfl, rfl, rfl, rfl, rfl⟩, rfl, Nat.le_refl _, rfl, rfl⟩
theorem SSpot_spec : HpSpec Try.prog 68 (sSr (s0 ySpot)) := s0_spec ΓSa_ok Try.func68 (Λ := noΛ) fun n cap e x g a wh hg h0 h1 => by
  have h1 : a + 1 + 1 ≤ 4611686018427387904 := h1
  refine Eq.mpr (vcSSpot n cap e n x g a wh) ?_
  rw [gI_win]
  exact ⟨⟨⟨niPre_win hg, h0, by show a + 1 ≤ _; omega⟩, trivial⟩, ⟨⟨niPre_win hg, by show 0 ≤ a + 1; omega, h1⟩, trivial⟩, ⟨rfl, rfl⟩, rfl, Nat.le_refl _, rfl, rfl⟩
theorem SHandle_spec : HpSpec Try.prog 67 (sSr (s0 yHandle)) := s0_spec ΓSb_ok Try.func67 (Λ := noΛ) fun n cap e x g a wh hg h0 h1 => by
  have h1 : a + 1 + 1 ≤ 4611686018427387904 := h1
  refine Eq.mpr (vcSHandle n cap e n x g a wh) ?_
  rw [gI_win]
  exact ⟨⟨⟨niPre_win hg, h0, by omega⟩, by omega, by omega⟩, ⟨⟨niPre_win hg, by omega, h1⟩, by omega, by omega⟩, ⟨rfl, rfl⟩, rfl, Nat.le_refl _, rfl, rfl⟩
theorem ΓSd_ok : ∀ f g, ΓSd f = some g → g.ok Try.prog f := addCtr_ok (addCtr_ok (addCtr_ok ΓSc_ok (hp_ok Try.func63 (by kernel_rfl) (by kernel_rfl) SPose_spec)) (hp_ok Try.func68 (by kernel_rfl) (by kernel_rfl) SSpot_spec)) (hp_ok Try.func67 (by kernel_rfl) (by kernel_rfl) SHandle_spec)
theorem srC_int (n : Nat) (g : Nat → Int) (a : Int) : frV 8 (nxV n g (a + 1 + 1 + 1 + 1)) = (srC n g a : Int) := by
  have := fr_rng (m := 8) (by omega) (nxV n g (a + 1 + 1 + 1 + 1))
  unfold srC
  rw [hide_eq]
  omega
theorem srC_le (n : Nat) (g : Nat → Int) (a : Int) : srC n g a ≤ 8 := by
  have := fr_rng (m := 8) (by omega) (nxV n g (a + 1 + 1 + 1 + 1))
  have := srC_int n g a
  omega
theorem selT_of {b : Bool} {x y : Prop} (h : b = true) (hx : x) : sel b x y := by subst h; exact hx
theorem SShape_spec : HpSpec Try.prog 62 sSrSh := hp_spec hm ΓSd_ok Try.func62 (Λ := fun args bs => match bs with
    | [S, D] => match S.row 0 with
      | [.sl _ _ _ n cap, .v (.int _ a)] => ΛSrSh n cap D.elem n D.ext (gI D) a D.whole
      | _ => noΛ
    | _ => noΛ) fun args bs e hs hp => by
  unfold sSrSh at hs
  split at hs <;> try (cases hs; done)
  rename_i S D
  split at hs <;> try (cases hs; done)
  rename_i n cap a hS
  obtain ⟨ha, he⟩ := bif_some hs
  subst he
  rw [Bool.and_eq_true] at ha
  obtain ⟨h1, h2, h3⟩ := hp
  refine ⟨[srB n cap a, niB D.elem n (gI D) D.ext D.whole], ⟨same_srB ha.1 hS, same_niB ha.2 h1, trivial⟩, ?_⟩
  simp only [hS]
  have hg := niPre_ok h1
  generalize gI D = g at hg ⊢
  generalize D.elem = e
  generalize D.ext = x
  generalize D.whole = wh
  have h_vc := vcSShape n cap e n x g a wh
  repeat (first | unfold vcSShape_2 at h_vc | unfold vcSShape_1 at h_vc)
  refine Eq.mpr h_vc ?_
  rw [gI_win]
  have hC := srC_int n g a
  have hC8 := srC_le n g a
  have hc : ∀ (e : Nat) (wh : Bool), (Nat.beq 1 1 && false == false && !false && !false && (true || !true) && !false && !false && (Nat.beq e 0 || Nat.beq e e) && (!wh || wh)) = true := fun e wh => by
    rw [show Nat.beq e e = true from Nat.beq_refl e, Bool.or_true]; cases wh <;> rfl
  refine ⟨⟨⟨niPre_win hg, h2, by omega⟩, by omega, by omega⟩, ⟨⟨niPre_win hg, by omega, by show a + 1 + 1 ≤ _; omega⟩, trivial⟩, ⟨⟨niPre_win hg, by show 0 ≤ a + 1 + 1; omega, by show a + 1 + 1 + 1 ≤ _; omega⟩, trivial⟩, ⟨⟨niPre_win hg, by show 0 ≤ a + 1 + 1 + 1; omega, by show a + 1 + 1 + 1 + 1 ≤ _; omega⟩, trivial⟩, ⟨⟨niPre_win hg, by show 0 ≤ a + 1 + 1 + 1 + 1; omega, by show a + 1 + 1 + 1 + 1 + 1 ≤ _; omega⟩, by omega, by omega⟩,
    ⟨⟨0, 0⟩, ⟨Nat.zero_le _, Nat.le_refl _⟩, int_mk ?_, ⟨rfl, Nat.le_refl _, rfl, int_mk ?_⟩, selT_of (hc _ _) ⟨rfl, Nat.le_refl _, fun _ _ => rfl⟩, ⟨rfl, Nat.le_refl _, rfl, rfl, rfl, rfl, rfl, rfl, rfl, rfl⟩, ⟨rfl, rfl, trivial⟩, trivial⟩, fun x hx => sel_of (fun hlt => ?_) fun hge => ?_⟩
  · show frV 8 (nxV n g (a + 1 + 1 + 1 + 1)) = (srC n g a : Int) - ((0 : Nat) : Int)
    omega
  · show a + 1 + 1 + 1 + 1 + 1 = srA a + 2 * ((0 : Nat) : Int)
    unfold srA; omega
  · obtain ⟨hx1, hx2⟩ := hx
    have hlt := of_decide_eq_true hlt
    have hlt : x.i < srC n g a := by omega
    have eA : srA a = a + 1 + 1 + 1 + 1 + 1 := rfl
    refine ⟨⟨⟨niPre_win hg, by omega, by show srA a + 2 * (x.i : Int) + 1 + 1 ≤ _; omega⟩, trivial⟩, ⟨by omega, by omega, fun _ _ => trivial⟩, fun c => ⟨⟨x.i + 1, x.i + 1 + c⟩, ⟨⟨hlt, by show x.i + 1 ≤ x.i + 1 + c; omega⟩, int_mk ?_, ⟨rfl, Nat.le_refl _, rfl, int_mk ?_⟩, selT_of (hc _ _) ⟨rfl, Nat.le_refl _, fun _ _ => rfl⟩, ⟨rfl, Nat.le_refl _, rfl, rfl, rfl, rfl, rfl⟩, rfl, Nat.le_refl _, fun i hi => ?_⟩, by show srC n g a - (x.i + 1) < srC n g a - x.i; omega⟩⟩
    · show IntKind.i64.wrap _ = (srC n g a : Int) - ((x.i + 1 : Nat) : Int)
      rw [wrap_i64 ⟨by omega, by omega⟩]; omega
    · show srA a + 2 * (x.i : Int) + 1 + 1 = srA a + 2 * ((x.i + 1 : Nat) : Int)
      omega
    · have hi : i < x.i + 1 := hi
      by_cases hik : i < x.i
      · rw [blt_true hik, Nat.zero_add]
        rfl
      · have hik : i = x.i := by omega
        subst hik
        rw [blt_false (Nat.lt_irrefl _)]
        rfl
  · obtain ⟨hx1, hx2⟩ := hx
    have hge := of_decide_eq_false hge
    have hn : x.i = srC n g a := by omega
    rw [hn] at hx2 ⊢
    exact ⟨x.c - srC n g a, ⟨rfl, rfl, rfl, rfl, slT_eq rfl rfl (by omega)⟩, ⟨rfl, Nat.le_refl _, rfl, rfl⟩, rfl, by omega, fun _ _ => rfl⟩
theorem ModH_spec : PureSpec Try.prog 39 sModH := vc_spec hm noCtrs_ok Try.func39 (Λ := fun _ => noΛ) fun args p x h hp => by
  unfold sModH at h
  split at h
  · rename_i a b
    cases h
    obtain ⟨⟨ha1, ha2⟩, hb, hb2⟩ := hp _ rfl
    refine ⟨rfl, rfl, Eq.mpr (vcModH a b _) ?_⟩
    have e0 : md a b = a % b := hide_eq _
    rw [e0]
    have hb1 := Int.tmod_lt_of_pos a hb
    have hb3 : -b < Int.tmod a b := by
      have := Int.tmod_lt_of_pos (-a) hb
      rw [Int.neg_tmod] at this; omega
    refine ⟨by omega, sel_of (fun h => int_mk ?_) fun h => int_mk ?_⟩
    · have h := of_decide_eq_true h
      rw [wrap_i64 ⟨by omega, by omega⟩]
      have e := Int.tmod_add_tdiv_mul a b
      have : a = (Int.tmod a b + b) + (Int.tdiv a b - 1) * b := by rw [Int.sub_mul, Int.one_mul]; omega
      conv => rhs; rw [this]
      rw [Int.add_mul_emod_self_right, Int.emod_eq_of_lt (by omega) (by omega)]
    · have h := of_decide_eq_false h
      have e := Int.tmod_add_tdiv_mul a b
      conv => rhs; rw [← e]
      rw [Int.add_mul_emod_self_right, Int.emod_eq_of_lt (by omega) (by omega)]
  · cases h
end Go.Proofs.Ytjdldadmaaeimaa
end
section
namespace Go.Proofs.Ytjdldadmaaeimaa
open Go.SE Go.RowKit
def ptB (e n : Nat) (x y : Nat → Int) (xt : Nat) (wh : Bool) : Blk := { elem := e, size := 2, rw := false, lock := false, lit := false, flat := true, n := n, row := fun i => [.v (.int .i64 (x i)), .v (.int .i64 (y i))], ext := xt, whole := wh }
end Go.Proofs.Ytjdldadmaaeimaa
end
section
namespace Go.Proofs.Ytjdldadmaaeimaa
open Go.SE Go.RowKit
noncomputable def coK (kind : Int) : Int := 1 + md kind 10
theorem selF_of {b : Bool} {x y : Prop} (h : b = false) (hy : y) : sel b x y := by subst h; exact hy
theorem coK_rng (kind : Int) : 1 ≤ coK kind ∧ coK kind ≤ 10 := by
  have e : md kind 10 = kind % 10 := hide_eq _
  unfold coK
  omega
theorem coK_cases (kind : Int) : coK kind = 1 ∨ coK kind = 2 ∨ coK kind = 3 ∨ coK kind = 4 ∨ coK kind = 5 ∨ coK kind = 6 ∨ coK kind = 7 ∨ coK kind = 8 ∨ coK kind = 9 ∨ coK kind = 10 := by
  have := coK_rng kind
  omega
end Go.Proofs.Ytjdldadmaaeimaa
end
section
namespace Go.Proofs.Ytjdldadmaaeimaa
open Go.SE Go.RowKit
end Go.Proofs.Ytjdldadmaaeimaa
end
section
namespace Go.Proofs.Ytjdldadmaaeimaa
open Go.SE Go.RowKit
def cntStr : ByteArray := ⟨#[10, 0, 0, 0, 7]⟩
def cntC : SV := .agg ([iV 10, iV 7, iV 0, iV 0, iV 0] ++ zShape ++ (zN ++ zN ++ zN ++ zN) ++ (zN ++ zN) ++ zN ++ [iV 0, bV false] ++ (zN ++ zN) ++ (zN ++ zN) ++ [iV 0] ++ [iV 0, iV 0, iV 0, iV 0] ++ [iV 0, iV 0] ++ [iV 0, iV 0])
def fCall10 : List SV → ByteArray → Int → Option (Prop × SV × Int)
  | [], s, k => some (k = 0 ∧ s = cntStr, cntC, 5)
  | _, _, _ => none
def ΓQ0 : Ctrs := addCtr (addCtr (addCtr noCtrs 120 (hpCtr true (sRdG fKind10))) 121 (hpCtr true (sRdG fRdCount))) 131 (hpCtr true (sRdG fEnd))
theorem vcCall10 : (vcFn Try.prog ΓQ0 noΛ Try.f85 [.vp 0 0] (heapOf [rdB cntStr 0]) 64 (fun y h' => FinE [rdB cntStr 0] (.det none cntC [(0,rdB cntStr 5)]) y h')) = (((rdQ cntStr 0 1)∧(((10 : Int) = 10)∧((1 : Int) ≤ 10)))∧(((rdQ cntStr 1 4)∧((7 : Int) ≤ 2147483647))∧(((5 : Int) = 5)∧((((SV.v (.int .i64 10)) = (SV.v (.int .i64 10)))∧(((SV.v (.int .i64 7)) = (SV.v (.int .i64 7)))∧((zI = zI)∧((zI = zI)∧((zI = zI)∧((zI = zI)∧((zI = zI)∧((zI = zI)∧((zI = zI)∧((zS = zS)∧((zI = zI)∧((zF = zF)∧((zI = zI)∧((zF = zF)∧((zI = zI)∧((zF = zF)∧((zI = zI)∧((zF = zF)∧((zI = zI)∧((zF = zF)∧((zI = zI)∧((zF = zF)∧((zI = zI)∧((zF = zF)∧((zI = zI)∧((zF = zF)∧((zI = zI)∧((zF = zF)∧((zI = zI)∧((zF = zF)∧((zI = zI)∧((zF = zF)∧((zI = zI)∧((zF = zF)∧((zI = zI)∧((zI = zI)∧((zI = zI)∧((zI = zI)∧((zI = zI)∧((zI = zI)∧((zI = zI)∧((zI = zI)∧(zI = zI)))))))))))))))))))))))))))))))))))))))))))∧(((1 : Nat) = 1)∧(((1 : Nat) ≤ 1)∧(∀ i : Nat,(((i : Nat) < 1)→([(SV.v (.string cntStr)),(SV.v (.int .i64 5))] = [(SV.v (.string cntStr)),(SV.v (.int .i64 5))]))))))))):=by kernel_rfl
def ΓQ1 : Ctrs := addCtr noCtrs 85 (hpCtr true (sRdG fCall10))
def dA (fn : Func) : Code := match fn.body with
  | some (.seq a _) => a
  | _ => .skip
def dB (fn : Func) : Code := match fn.body with
  | some (.seq _ (.seq _ b)) => b
  | _ => .skip
def dC (fn : Func) : Code := match fn.body with
  | some (.seq _ b) => b
  | _ => .skip
def sReadC (args : List SV) (bs : List Blk) : Option Eff := match args, bs with
  | [.v (.string s)], [] => some (.det (some (s = cntStr)) (.tup [cntC, iV 0]) [])
  | _, _ => none
theorem vcReadC (q : Option Prop) : (vcFnD Try.prog ΓQ1 noΛ Try.f38 Try.f84 (dA Try.f38) (dB Try.f38) (dC Try.f84) 3 5 [.v (.string cntStr)] (heapOf []) 64 (fun y h' => FinE [] (.det q (.tup [cntC,iV 0]) []) y h')) = ((((0 : Int) = 0)∧(cntStr = cntStr))∧(((((SV.v (.int .i64 10)) = (SV.v (.int .i64 10)))∧(((SV.v (.int .i64 7)) = (SV.v (.int .i64 7)))∧((zI = zI)∧((zI = zI)∧((zI = zI)∧((zI = zI)∧((zI = zI)∧((zI = zI)∧((zI = zI)∧((zS = zS)∧((zI = zI)∧((zF = zF)∧((zI = zI)∧((zF = zF)∧((zI = zI)∧((zF = zF)∧((zI = zI)∧((zF = zF)∧((zI = zI)∧((zF = zF)∧((zI = zI)∧((zF = zF)∧((zI = zI)∧((zF = zF)∧((zI = zI)∧((zF = zF)∧((zI = zI)∧((zF = zF)∧((zI = zI)∧((zF = zF)∧((zI = zI)∧((zF = zF)∧((zI = zI)∧((zF = zF)∧((zI = zI)∧((zI = zI)∧((zI = zI)∧((zI = zI)∧((zI = zI)∧((zI = zI)∧((zI = zI)∧((zI = zI)∧(zI = zI)))))))))))))))))))))))))))))))))))))))))))∧(zI = zI))∧True)):=by kernel_rfl
theorem defer38 : ∃ o rid, Try.f38.body = some (.seq (dA Try.f38) (.seq (.region rid #[o] false) (dB Try.f38))) ∧ o.guard = none ∧ o.dst = none ∧ ∀ (a : Act) (w : World), (execOp a.eval o).run Try.prog w = .ok (.defer { target := .fn (.func 84) #[], args := #[a.eval (.tmp 3)] }) w :=
  ⟨_, _, rfl, rfl, rfl, fun a w => by simp [execOp, resolve, Act.eval, Deferred.ofValue]⟩
theorem caught84 : ∃ o rid, Try.f84.body = some (.seq (.region rid #[o] false) (dC Try.f84)) ∧ o.guard = none ∧ o.dst = some 5 ∧ ∀ (ρ : Operand → Value) (w : World), (execOp ρ o).run Try.prog w = .ok .recover w :=
  ⟨_, _, rfl, rfl, rfl, fun ρ w => rfl⟩
theorem cnt_size : cntStr.size = 5 := rfl
theorem ΓQ0_ok : ∀ f g, ΓQ0 f = some g → g.ok Try.prog f := addCtr_ok (addCtr_ok (addCtr_ok noCtrs_ok (hp_ok Try.func120 (by kernel_rfl) (by kernel_rfl) Kind10_spec)) (hp_ok Try.func121 (by kernel_rfl) (by kernel_rfl) RdCount_spec)) (hp_ok Try.func131 (by kernel_rfl) (by kernel_rfl) RdEnd_spec)
theorem Call10_spec : HpSpec Try.prog 85 (sRdG fCall10) := rd_spec ΓQ0_ok Try.func85 (Λ := fun _ _ _ => noΛ) fun rest s k q x k' h hq => by
  unfold fCall10 at h
  split at h <;> try (cases h; done)
  cases h
  obtain ⟨rfl, rfl⟩ := hq
  rw [vcCall10]
  refine ⟨⟨⟨⟨by omega, by omega⟩, ⟨by omega, by rw [cnt_size]; omega⟩, by rw [cnt_size]; omega⟩, rfl, by omega⟩, ⟨⟨⟨by omega, by omega⟩, ⟨by omega, by rw [cnt_size]; omega⟩, by rw [cnt_size]; omega⟩, by omega⟩, rfl, ?_, rfl, Nat.le_refl _, fun _ _ => rfl⟩
  repeat (first | exact rfl | refine ⟨rfl, ?_⟩)
theorem ΓQ1_ok : ∀ f g, ΓQ1 f = some g → g.ok Try.prog f := addCtr_ok noCtrs_ok (hp_ok Try.func85 (by kernel_rfl) (by kernel_rfl) Call10_spec)
theorem vcReadC_holds (q : Option Prop) : vcFnD Try.prog ΓQ1 noΛ Try.f38 Try.f84 (dA Try.f38) (dB Try.f38) (dC Try.f84) 3 5 [.v (.string cntStr)] (heapOf []) 64 (fun y h' => FinE [] (.det q (.tup [cntC, iV 0]) []) y h') := by
  rw [vcReadC]
  refine ⟨⟨rfl, rfl⟩, ⟨?_, rfl⟩, trivial⟩
  repeat (first | exact rfl | refine ⟨rfl, ?_⟩)
theorem ReadC_spec : HpSpec Try.prog 38 sReadC := hp_spec_of fun args bs e hs hp => by
  unfold sReadC at hs
  split at hs
  · rename_i s
    have he := Option.some.inj hs
    subst he
    have hx : s = cntStr := hp _ rfl
    subst hx
    obtain ⟨o, rid, b1, b2, b3, b4⟩ := defer38
    obtain ⟨o2, rid2, d1, d2, d3, d4⟩ := caught84
    exact ⟨[], trivial, fun δ w vals ha hr ht => fn_callsD hm ΓQ1_ok Try.func38 Try.func84 b1 b4 b2 b3 (by kernel_rfl) d1 d4 d2 d3 rfl (by kernel_rfl) (by kernel_rfl) ha hr ht (vcReadC_holds _)⟩
  · cases hs
end Go.Proofs.Ytjdldadmaaeimaa
end
section
namespace Go.Proofs.Ytjdldadmaaeimaa
open Go.SE Go.RowKit
end Go.Proofs.Ytjdldadmaaeimaa
end
section
namespace Go.Proofs.Ytjdldadmaaeimaa
open Go.SE Go.RowKit
def hL (a b : Int) : List Int := c4 a ++ c4 b
def hBad (a b : Int) : Bool := notIn a 2147483647 || notIn b 2147483647
end Go.Proofs.Ytjdldadmaaeimaa
end
section
namespace Go.Proofs.Ytjdldadmaaeimaa
open Go.SE Go.RowKit
theorem c4l (n : Int) : (c4 n).length = 4 := be_len _ _
theorem i8l (n : Int) : (i8 n).length = 8 := be_len _ _
theorem hLl (a b : Int) : (hL a b).length = 8 := by unfold hL; rw [List.length_append, c4l, c4l]
theorem numl (v : Int) (f : Bool) : (numL v f).length = 9 := by unfold numL; rw [List.length_append, i8l]; rfl
theorem vecl (a : Int) (f : Bool) (b : Int) (g : Bool) : (vecL a f b g).length = 18 := by unfold vecL; rw [List.length_append, numl, numl]
theorem shLl (k r w h : Int) (n : Nat) (x y : Nat → Int) : (shL k r w h n x y).length = shN n := by
  unfold shL shN
  cases Nat.ble n 8 with
  | true => simp only [cond_true, List.length_append, i8l, spotsL_len, List.length_cons, List.length_nil]; omega
  | false => simp only [cond_false, List.length_append, i8l, List.length_cons, List.length_nil]
theorem shN_le (n : Nat) : shN n ≤ 26 + 16 * n := by
  unfold shN
  cases Nat.ble n 8 with
  | true => exact Nat.le_refl _
  | false => show 26 ≤ _; omega
theorem apG_listQ (x : Int) (M : List Int) (i : Nat) : apG 1 (fun i => ([x] : List Int).getD i 0) M i = ([x] ++ M).getD i 0 := by
  by_cases h1 : i < 1
  · have : i = 0 := by omega
    subst this; rfl
  · obtain ⟨j, rfl⟩ : ∃ j, i = j + 1 := ⟨i - 1, by omega⟩
    rw [apG_new h1, Nat.add_sub_cancel]
    rfl
theorem add_ap {m n : Nat} {L : List Int} {k : Nat} (h : L.length = k) (e : m = n + k) : m = n + L.length := by rw [h]; exact e
end Go.Proofs.Ytjdldadmaaeimaa
end
section
namespace Go.Proofs.Ytjdldadmaaeimaa
open Go.SE Go.RowKit
def sEqualN : List SV → List Ro → Option (Option Prop × SV)
  | [.v (.slice none 0 0), .sl 0 2 0 m _], [⟨2, m', row⟩] => some (some (rowsPre m m' row), .v (.bool (Nat.beq m 0)))
  | _, _ => none
def sSameN : List SV → List Ro → Option (Option Prop × SV)
  | [.agg [.v (.int .i64 k), .v (.int .i64 r), .v (.int .i64 w), .v (.int .i64 h), .v (.slice none 0 0)], .agg [.v (.int .i64 k2), .v (.int .i64 r2), .v (.int .i64 w2), .v (.int .i64 h2), .sl 0 2 0 m _]], [⟨2, m', row⟩] => some (some (rowsPre m m' row), .v (.bool (eqSh ⟨k, r, w, h⟩ ⟨k2, r2, w2, h2⟩ && Nat.beq m 0)))
  | _, _ => none
theorem vcEqualN (m m' d : Nat) (g : Nat→Int × Int) (R : SV→Prop) : (vcFn Try.prog noCtrs (ΛZ Try.f106 13) Try.f106 [nilS,.sl 0 2 0 m d] (roHeap [⟨2,m',rowsP g⟩]) 64 (fun y _ => R y)) = (sel (0 != (↑m : Int)) (R zF) ((∃ x : Nat,(((x : Nat) = 0)∧((zI = (SV.v (.int .i64 ((↑x : Int)))))∧True)))∧(∀ x : Nat,(((x : Nat) = 0)→(R (SV.v (.bool true))))))):=by kernel_rfl
def ΓMN : Ctrs := addCtr noCtrs 106 (roCtr sEqualN)
theorem vcSameN (a b : ShB) (m m' d : Nat) (g : Nat→Int × Int) (R : SV→Prop) : (vcFn Try.prog ΓMN noΛ Try.f72 [shS a nilS,shS b (.sl 0 2 0 m d)] (roHeap [⟨2,m',rowsP g⟩]) 64 (fun y _ => R y)) = (sel (ShB.k a == ShB.k b&&(ShB.r a == ShB.r b&&(ShB.w a == ShB.w b&&ShB.h a == ShB.h b))) ((rowsPre m m fun y => [SV.v (.int .i64 (Prod.fst (g (0 + y)))),SV.v (.int .i64 (Prod.snd (g (0 + y))))])∧(R (SV.v (.bool (Nat.beq m 0))))) (R zF)):=by kernel_rfl
theorem EqualN_spec : RoSpec Try.prog 106 sEqualN := ro_spec hm noCtrs_ok Try.func106 (Λ := fun _ _ => ΛZ Try.f106 13) fun args bs p x h hp => by
  unfold sEqualN at h
  split at h <;> try (cases h; done)
  rename_i m d m' row
  cases h
  obtain ⟨h0, rfl, hn⟩ := hp _ rfl
  have h0 := okAll_rows.1 h0
  refine ⟨rfl, [⟨2, m', rowsP fun i => gi (row i)⟩], ⟨⟨rfl, rfl, fun i hi => (isPI_row (h0 i hi)).1⟩, trivial⟩, ?_⟩
  refine Eq.mpr (vcEqualN m' m' d (fun i => gi (row i)) _) (sel_of (fun e => bool_mk ?_) fun e => ⟨⟨0, rfl, rfl, trivial⟩, fun _ _ => bool_mk ?_⟩)
  · refine (Go.SE.beq_false fun e0 => ?_).symm
    rw [e0] at e; cases e
  · have : m' = 0 := by
      have : ((0 : Int) != (m' : Int)) = false := e
      simp at this; omega
    rw [this]; rfl
theorem ΓMN_ok : ∀ f g, ΓMN f = some g → g.ok Try.prog f := addCtr_ok noCtrs_ok (ro_ok Try.func106 (by kernel_rfl) (by kernel_rfl) EqualN_spec)
theorem SameN_spec : RoSpec Try.prog 72 sSameN := ro_spec hm ΓMN_ok Try.func72 (Λ := fun _ _ => noΛ) fun args bs p x h hp => by
  unfold sSameN at h
  split at h <;> try (cases h; done)
  rename_i k r w hh k2 r2 w2 h2 m d m' row
  cases h
  obtain ⟨h0, rfl, hn⟩ := hp _ rfl
  have h0 := okAll_rows.1 h0
  refine ⟨rfl, [⟨2, m', rowsP fun i => gi (row i)⟩], ⟨⟨rfl, rfl, fun i hi => (isPI_row (h0 i hi)).1⟩, trivial⟩, ?_⟩
  refine Eq.mpr (vcSameN ⟨k, r, w, hh⟩ ⟨k2, r2, w2, h2⟩ m' m' d (fun i => gi (row i)) _) (sel_of (fun e => ⟨⟨okAll_rows.2 fun i hi => ?_, rfl, hn⟩, bool_mk ?_⟩) fun e => bool_mk ?_)
  · rw [Nat.zero_add]; exact (isPI_row (h0 i hi)).2
  · unfold eqSh; rw [e]; rfl
  · unfold eqSh; rw [e]; rfl
end Go.Proofs.Ytjdldadmaaeimaa
end
section
namespace Go.Proofs.Ytjdldadmaaeimaa
open Go.SE Go.RowKit
end Go.Proofs.Ytjdldadmaaeimaa
end
section
namespace Go.Proofs.Ytjdldadmaaeimaa
open Go.SE Go.RowKit
def tkI {α : Type} (l : List SV) (K : Int → List SV → Option α) : Option α := match l with
  | .v (.int .i64 n) :: rest => K n rest
  | _ => none
def tkB {α : Type} (l : List SV) (K : Bool → List SV → Option α) : Option α := match l with
  | .v (.bool n) :: rest => K n rest
  | _ => none
def tkA {α : Type} (l : List SV) (K : SV → List SV → Option α) : Option α := match l with
  | x :: rest => K x rest
  | _ => none
def tkE {α : Type} (l : List SV) (r : α) : Option α := match l with
  | [] => some r
  | _ => none
theorem tkI_eq {α : Type} {l : List SV} {K : Int → List SV → Option α} {r : α} (h : tkI l K = some r) : ∃ n rest, l = .v (.int .i64 n) :: rest ∧ K n rest = some r := by
  unfold tkI at h
  split at h
  · exact ⟨_, _, rfl, h⟩
  · cases h
theorem tkB_eq {α : Type} {l : List SV} {K : Bool → List SV → Option α} {r : α} (h : tkB l K = some r) : ∃ n rest, l = .v (.bool n) :: rest ∧ K n rest = some r := by
  unfold tkB at h
  split at h
  · exact ⟨_, _, rfl, h⟩
  · cases h
theorem tkA_eq {α : Type} {l : List SV} {K : SV → List SV → Option α} {r : α} (h : tkA l K = some r) : ∃ x rest, l = x :: rest ∧ K x rest = some r := by
  unfold tkA at h
  split at h
  · exact ⟨_, _, rfl, h⟩
  · cases h
theorem tkE_eq {α : Type} {l : List SV} {x r : α} (h : tkE l x = some r) : l = [] ∧ x = r := by
  unfold tkE at h
  split at h
  · exact ⟨rfl, Option.some.inj h⟩
  · cases h
theorem pre_rows {n : Nat} {g : Nat → Int × Int} (hn : n < 1099511627776) (hg : ∀ i, i < n → I64 (g i).1 ∧ I64 (g i).2) : rowsPre n n fun y => [SV.v (.int .i64 (g (0 + y)).1), SV.v (.int .i64 (g (0 + y)).2)] := ⟨okAll_rows.2 fun i hi => by rw [Nat.zero_add]; exact hg i hi, rfl, hn⟩
end Go.Proofs.Ytjdldadmaaeimaa
end
section
namespace Go.Proofs.Ytjdldadmaaeimaa
open Go.SE Go.RowKit
theorem vcDone0 (q : Option Prop) (n : Nat) (g : Nat→Int) (c : Nat) : (vcFn Try.prog noCtrs noΛ Try.f71 [.vp 0 0] (heapOf (uB (some false) n g c)) 64 (fun y h' => FinE (uB (some false) n g c) (.det q (.tup [strS (strOf n fun i => [.v (.int .u8 (g i))]),iV 0]) [(0,wB (some false) false (.sl 1 1 0 n c)),(1,bG n g c)]) y h')) = ((∀ y : Nat,(((y : Nat) < n)→True))∧((((SV.v (.string (strOf n fun y => [SV.v (.int .u8 (g (0 + y)))]))) = (SV.v (.string (strOf n fun i => [SV.v (.int .u8 (g i))]))))∧(zI = zI))∧((((1 : Nat) = 1)∧(((1 : Nat) ≤ 1)∧(((SV.sl 1 1 0 n c) = (SV.sl 1 1 0 n c))∧(zF = zF))))∧(((n : Nat) = n)∧(((c : Nat) ≤ c)∧(∀ i : Nat,(((i : Nat) < n)→([(SV.v (.int .u8 (g i)))] = [(SV.v (.int .u8 (g i)))])))))))):=by kernel_rfl
theorem vcDone1 (q : Option Prop) (n : Nat) (g : Nat→Int) (c : Nat) : (vcFn Try.prog noCtrs noΛ Try.f71 [.vp 0 0] (heapOf (uB (some true) n g c)) 64 (fun y h' => FinE (uB (some true) n g c) (.det q (.tup [strS emp,iV 3]) [(0,wB (some true) false (.sl 1 1 0 n c)),(1,bG n g c)]) y h')) = ((((SV.v (.string ({data:=#[]}))) = (SV.v (.string emp)))∧((SV.v (.int .i64 3)) = (SV.v (.int .i64 3))))∧((((1 : Nat) = 1)∧(((1 : Nat) ≤ 1)∧(((SV.sl 1 1 0 n c) = (SV.sl 1 1 0 n c))∧((SV.v (.bool true)) = (SV.v (.bool true))))))∧(((n : Nat) = n)∧(((c : Nat) ≤ c)∧(∀ i : Nat,(((i : Nat) < n)→([(SV.v (.int .u8 (g i)))] = [(SV.v (.int .u8 (g i)))]))))))):=by kernel_rfl
def relLs : List Int := [6] ++ (c4 1 ++ c4 2)
theorem vcCallR (b : Bool) : (vcFn Try.prog ΓG0 noΛ Try.f70 [.vp 0 0,relC] (heapOf (fB (some b))) 64 (fun y h' => FinE (fB (some b)) (apE (.fresh (some b)) 0 True 9 relLs false) y h')) = ((I64 6)∧(∀ c : Nat,((((bytesOk 1 (1 + c) {elem:=5,size:=1,rw:=true,lock:=false,lit:=false,flat:=true,n:=1,row:=fun i => [SV.v (.int .u8 ((fun i => List.getD [6] i 0) i))],ext:=1 + c})∧((1 : Nat) ≤ M0))∧(I64 1))∧(∀ c_1 : Nat,((((bytesOk 5 (5 + c_1) {elem:=5,size:=1,rw:=true,lock:=false,lit:=false,flat:=true,n:=5,row:=fun i => [SV.v (.int .u8 (apG 1 (fun i => SE.byteOf [SV.v (.int .u8 ((fun i => List.getD [6] i 0) i))]) (be 1 4) i))],ext:=5 + c_1})∧((5 : Nat) ≤ M0))∧(I64 2))∧(∀ c_2 : Nat,(∃ c_3 : Nat,(True∧((((1 : Nat) = 1)∧(((1 : Nat) ≤ 1)∧(((SV.sl 288 1 0 9 (9 + c_2)) = (SV.sl 288 1 0 9 (9 + c_3)))∧((SV.v (.bool (b||false||false||false))) = (SV.v (.bool (b||false)))))))∧(((9 : Nat) = 9)∧((((9 + c_3) : Nat) ≤ (9 + c_2))∧(∀ i : Nat,(((i : Nat) < 9)→([(SV.v (.int .u8 (apG 5 (fun i => SE.byteOf [SV.v (.int .u8 (apG 1 (fun i => SE.byteOf [SV.v (.int .u8 ((fun i => List.getD [6] i 0) i))]) (be 1 4) i))]) (be 2 4) i)))] = [(SV.v (.int .u8 (List.getD relLs i 0)))])))))))))))))):=by kernel_rfl
def doneE : WrS → Option Eff
  | .used (some true) n g c p => some (.det (some p) (.tup [strS emp, iV 3]) [(0, wB (some true) false (.sl 1 1 0 n c)), (1, bG n g c)])
  | .used (some false) n g c p => some (.det (some p) (.tup [strS (strOf n fun i => [.v (.int .u8 (g i))]), iV 0]) [(0, wB (some false) false (.sl 1 1 0 n c)), (1, bG n g c)])
  | _ => none
def sDoneX (args : List SV) (bs : List Blk) : Option Eff := match args with
  | [.vp 0 0] => match wrOf bs with
    | some w => doneE w
    | none => none
  | _ => none
def ΓI0 : Ctrs := addCtr (addCtr (addCtr (addCtr noCtrs 69 (pureCtr (sAt [relC] (.tup [relC, bV true])))) 25 (pureCtr (sAt [relC, relC] (bV true)))) 70 (hpCtr true sCallR)) 71 (hpCtr true sDoneX)
@[reducible] noncomputable def vcCall_1  := (SV.agg [(SV.v (.int .i64 6)),(SV.v (.int .i64 1)),zI,zI,zI,zI,zI,zI,zI,zS,zI,zF,zI,zF,zI,zF,zI,zF,zI,zF,zI,zF,zI,zF,zI,zF,zI,zF,zI,zF,zI,zF,zI,zF,(SV.v (.int .i64 2)),zI,zI,zI,zI,zI,zI,zI,zI])
theorem vcCall (R : SV→Prop) : (vcPure Try.prog ΓI0 noΛ Try.f24 [relC] R) =
(([(vcCall_1)] = [(vcCall_1)])∧(([(vcCall_1),(vcCall_1)] = [(vcCall_1),(vcCall_1)])∧(((vcCall_1) = (vcCall_1))∧(∀ c : Nat,((bytesOk 9 (9 + c) {elem:=5,size:=1,rw:=true,lock:=false,lit:=false,flat:=true,n:=9,row:=fun i => [SV.v (.int .u8 ((fun i => List.getD relL i 0) i))],ext:=9 + c})∧(R (SV.tup [(SV.v (.string (strOf 9 fun i => [SV.v (.int .u8 (SE.byteOf [SV.v (.int .u8 ((fun i => List.getD relL i 0) i))]))]))),zI]))))))) := by kernel_rfl
theorem done_plain (n : Nat) (g : Nat → Int) : (strOf n fun i => [SV.v (.int .u8 (g (0 + i)))]) = strOf n fun i => [SV.v (.int .u8 (g i))] := by simp only [Nat.zero_add]
theorem ΓG0_ok : ∀ f g, ΓG0 f = some g → g.ok Try.prog f := addCtr_ok (addCtr_ok (addCtr_ok ΓF1_ok (hp_ok Try.func103 (by kernel_rfl) (by kernel_rfl) Handle_spec)) (hp_ok Try.func99 (by kernel_rfl) (by kernel_rfl) Vec_spec)) (hp_ok Try.func98 (by kernel_rfl) (by kernel_rfl) Pose_spec)
theorem rel_row (i : Nat) (hi : i < 9) : apG 5 (apG 1 (fun i => ([6] : List Int).getD i 0) (be 1 4)) (be 2 4) i = relLs.getD i 0 := by
  rw [apG_ap (by rw [be_len])]
  have h := lstG_ap 1 (fun i => ([6] : List Int).getD i 0) (be 1 4 ++ be 2 4)
  have e : relLs = [6] ++ (be 1 4 ++ be 2 4) := rfl
  rw [e]
  by_cases h1 : i < 1
  · have : i = 0 := by omega
    subst this; rfl
  · obtain ⟨j, rfl⟩ : ∃ j, i = j + 1 := ⟨i - 1, by omega⟩
    rw [apG_new h1, Nat.add_sub_cancel]
    rfl
theorem CallR_spec : HpSpec Try.prog 70 sCallR := hp_spec hm ΓG0_ok Try.func70 (Λ := fun _ _ => noΛ) fun args bs e hs hp => by
  unfold sCallR at hs
  split at hs <;> try (cases hs; done)
  rename_i x
  split at hs <;> try (cases hs; done)
  rename_i b hw
  cases hs
  have hx : x = relC := hp
  subst hx
  refine ⟨_, wrOf_fresh hw, Eq.mpr (vcCallR b) ⟨⟨by omega, by omega⟩, fun c => ⟨⟨⟨bytesOk_bG _ _ _ (by omega), by show 1 ≤ 1099511627776; omega⟩, ⟨by omega, by omega⟩⟩, fun c1 => ⟨⟨⟨bytesOk_bG _ _ _ (by omega), by show 5 ≤ 1099511627776; omega⟩, ⟨by omega, by omega⟩⟩, fun c2 => tailU rfl (by simp) fun i hi => rel_row i hi⟩⟩⟩⟩
theorem done_arm {w : WrS} {e : Eff} (h : doneE w = some e) (hp : e.asks) : ∃ (b : Bool) (n : Nat) (g : Nat → Int) (c : Nat) (p : Prop), w = .used (some b) n g c p ∧ p ∧ vcFn Try.prog noCtrs noΛ Try.f71 [.vp 0 0] (heapOf (uB (some b) n g c)) 64 (fun y h' => FinE (uB (some b) n g c) e y h') := by
  cases w with
  | fresh k => cases h
  | used k n g c p =>
    cases k with
    | none => cases h
    | some b =>
      cases b with
      | true =>
        have he := Option.some.inj h
        subst he
        refine ⟨true, n, g, c, p, rfl, hp p rfl, ?_⟩
        rw [vcDone1]
        exact ⟨⟨rfl, rfl⟩, ⟨rfl, Nat.le_refl _, rfl, rfl⟩, rfl, Nat.le_refl _, fun _ _ => rfl⟩
      | false =>
        have he := Option.some.inj h
        subst he
        refine ⟨false, n, g, c, p, rfl, hp p rfl, ?_⟩
        rw [vcDone0]
        exact ⟨fun _ _ => trivial, ⟨congrArg (fun z => SV.v (.string z)) (done_plain n g), rfl⟩, ⟨rfl, Nat.le_refl _, rfl, rfl⟩, rfl, Nat.le_refl _, fun _ _ => rfl⟩
theorem Done_spec : HpSpec Try.prog 71 sDoneX := hp_spec hm noCtrs_ok Try.func71 (Λ := fun _ _ => noΛ) fun args bs e hs hp => by
  unfold sDoneX at hs
  split at hs
  · split at hs
    · rename_i w hw
      obtain ⟨b, n, g, c, p, rfl, h1, h2⟩ := done_arm hs hp
      exact ⟨_, (wrOf_used hw h1).1, h2⟩
    · cases hs
  · cases hs
theorem ΓI0_ok : ∀ f g, ΓI0 f = some g → g.ok Try.prog f := addCtr_ok (addCtr_ok (addCtr_ok (addCtr_ok noCtrs_ok (pure_ok Try.func69 (by kernel_rfl) (by kernel_rfl) UsedR_spec)) (pure_ok Try.func25 (by kernel_rfl) (by kernel_rfl) SameR_spec)) (hp_ok Try.func70 (by kernel_rfl) (by kernel_rfl) CallR_spec)) (hp_ok Try.func71 (by kernel_rfl) (by kernel_rfl) Done_spec)
end Go.Proofs.Ytjdldadmaaeimaa
end
section
namespace Go.Proofs.Ytjdldadmaaeimaa
open Go.SE Go.RowKit
def gX (S : Blk) : Nat → Int := fun i => (rowG S i).1
def gY (S : Blk) : Nat → Int := fun i => (rowG S i).2
def sDoneG (args : List SV) (bs : List Blk) : Option Eff := match args with
  | [.vp 0 0] => match wrOf bs with
    | some (.used (some b) n g c p) => some (.det (some p) (.tup [strS (bif b then emp else strOf n fun i => [.v (.int .u8 (g i))]), iV (bif b then 3 else 0)]) [(0, wB (some b) false (.sl 1 1 0 n c)), (1, bG n g c)])
    | _ => none
  | _ => none
theorem vcDoneG0 (q : Option Prop) (n : Nat) (g : Nat→Int) (c : Nat) : (vcFn Try.prog noCtrs noΛ Try.f71 [.vp 0 0] (heapOf (uB (some false) n g c)) 64 (fun y h' => FinE (uB (some false) n g c) (.det q (.tup [strS (bif false then emp else strOf n fun i => [.v (.int .u8 (g i))]),iV (bif false then 3 else 0)]) [(0,wB (some false) false (.sl 1 1 0 n c)),(1,bG n g c)]) y h')) = ((∀ y : Nat,(((y : Nat) < n)→True))∧((((SV.v (.string (strOf n fun y => [SV.v (.int .u8 (g (0 + y)))]))) = (SV.v (.string (bif false then emp else strOf n fun i => [SV.v (.int .u8 (g i))]))))∧(zI = zI))∧((((1 : Nat) = 1)∧(((1 : Nat) ≤ 1)∧(((SV.sl 1 1 0 n c) = (SV.sl 1 1 0 n c))∧(zF = zF))))∧(((n : Nat) = n)∧(((c : Nat) ≤ c)∧(∀ i : Nat,(((i : Nat) < n)→([(SV.v (.int .u8 (g i)))] = [(SV.v (.int .u8 (g i)))])))))))):=by kernel_rfl
theorem vcDoneG1 (q : Option Prop) (n : Nat) (g : Nat→Int) (c : Nat) : (vcFn Try.prog noCtrs noΛ Try.f71 [.vp 0 0] (heapOf (uB (some true) n g c)) 64 (fun y h' => FinE (uB (some true) n g c) (.det q (.tup [strS (bif true then emp else strOf n fun i => [.v (.int .u8 (g i))]),iV (bif true then 3 else 0)]) [(0,wB (some true) false (.sl 1 1 0 n c)),(1,bG n g c)]) y h')) = ((((SV.v (.string ({data:=#[]}))) = (SV.v (.string (bif true then emp else strOf n fun i => [SV.v (.int .u8 (g i))]))))∧((SV.v (.int .i64 3)) = (SV.v (.int .i64 3))))∧((((1 : Nat) = 1)∧(((1 : Nat) ≤ 1)∧(((SV.sl 1 1 0 n c) = (SV.sl 1 1 0 n c))∧((SV.v (.bool true)) = (SV.v (.bool true))))))∧(((n : Nat) = n)∧(((c : Nat) ≤ c)∧(∀ i : Nat,(((i : Nat) < n)→([(SV.v (.int .u8 (g i)))] = [(SV.v (.int .u8 (g i)))]))))))):=by kernel_rfl
theorem bif_some2' {b : Bool} {α : Type _} {x : Option α} {y : α} (h : (bif b then x else none) = some y) : b = true ∧ x = some y := by
  cases b with
  | true => exact ⟨rfl, h⟩
  | false => cases h
theorem same_ptB {S : Blk} {n : Nat} (h1 : okB S = true) (h2 : spPre n S) : BlkSame S (ptB S.elem n (gX S) (gY S) S.ext S.whole) := by
  simp only [okB, Bool.and_eq_true, Bool.not_eq_true'] at h1
  obtain ⟨⟨⟨a1, a2⟩, a3⟩, a4⟩ := h1
  obtain ⟨b1, b2, _⟩ := h2
  have b1 := okAll_rows.1 b1
  exact ⟨Nat.eq_of_beq_eq_true a3, a1, a4, b2, rfl, a2, rfl, rfl, fun i hi => (isPI_row (b1 i hi)).1⟩
theorem DoneG_spec : HpSpec Try.prog 71 sDoneG := hp_spec hm noCtrs_ok Try.func71 (Λ := fun _ _ => noΛ) fun args bs e hs hp => by
  unfold sDoneG at hs
  split at hs
  · split at hs
    · rename_i b n g c p hw
      have he := Option.some.inj hs
      subst he
      refine ⟨uB (some b) n g c, (wrOf_used hw (hp p rfl)).1, ?_⟩
      cases b with
      | false =>
        rw [vcDoneG0]
        exact ⟨fun _ _ => trivial, ⟨congrArg (fun z => SV.v (.string z)) (done_plain n g), rfl⟩, ⟨rfl, Nat.le_refl _, rfl, rfl⟩, rfl, Nat.le_refl _, fun _ _ => rfl⟩
      | true =>
        rw [vcDoneG1]
        exact ⟨⟨rfl, rfl⟩, ⟨rfl, Nat.le_refl _, rfl, rfl⟩, rfl, Nat.le_refl _, fun _ _ => rfl⟩
    · cases hs
  · cases hs
end Go.Proofs.Ytjdldadmaaeimaa
end
section
namespace Go.Proofs.Ytjdldadmaaeimaa
open Go.SE Go.RowKit
theorem win_sp {n : Nat} {g : Nat → Int × Int} (hn : n < 1099511627776) (hg : ∀ i, i < n → I64 (g i).1 ∧ I64 (g i).2) : spPre n (winBlk (Ro.blk { s := 2, n := n, row := fun i => [SV.v (.int .i64 (g i).1), SV.v (.int .i64 (g i).2)] }) 2 0 n) := ⟨okAll_rows.2 fun i hi => by
  show isPI [SV.v (.int .i64 (g (0 + i)).1), SV.v (.int .i64 (g (0 + i)).2)]
  rw [Nat.zero_add]; exact hg i hi, rfl, hn⟩
theorem win_gX {n m : Nat} (g : Nat → Int × Int) : gX (winBlk (Ro.blk { s := 2, n := m, row := fun i => [SV.v (.int .i64 (g i).1), SV.v (.int .i64 (g i).2)] }) 2 0 n) = fun i => (g i).1 := funext fun i => by
  show (g (0 + i)).1 = _
  rw [Nat.zero_add]
theorem win_gY {n m : Nat} (g : Nat → Int × Int) : gY (winBlk (Ro.blk { s := 2, n := m, row := fun i => [SV.v (.int .i64 (g i).1), SV.v (.int .i64 (g i).2)] }) 2 0 n) = fun i => (g i).2 := funext fun i => by
  show (g (0 + i)).2 = _
  rw [Nat.zero_add]
end Go.Proofs.Ytjdldadmaaeimaa
end
section
namespace Go.Proofs.Ytjdldadmaaeimaa
open Go.SE Go.RowKit
theorem ro_split' {f : FuncId} {s : List SV → List Ro → Option (Option Prop × SV)} {s1 s2 : List SV → List Ro → Option (Option Prop × SV)} (h1 : RoSpec Try.prog f s1) (h2 : RoSpec Try.prog f s2) (h : ∀ args rs p, s args rs = some p → s1 args rs = some p ∨ s2 args rs = some p) : RoSpec Try.prog f s := fun args bs e hs => by
  unfold roSpec at hs
  cases hr : roOf bs with
  | none => rw [hr] at hs; cases hs
  | some rs =>
    rw [hr] at hs
    cases hq : s args rs with
    | none => simp only [hq] at hs; cases hs
    | some p =>
      rcases h args rs p hq with e1 | e1
      · exact h1 args bs e (by unfold roSpec; rw [hr]; simp only; rw [e1, ← hq]; exact hs)
      · exact h2 args bs e (by unfold roSpec; rw [hr]; simp only; rw [e1, ← hq]; exact hs)
theorem gi_rows0 (g : Nat → Int × Int) : (fun i => gi [SV.v (.int .i64 (g (0 + i)).1), SV.v (.int .i64 (g (0 + i)).2)]) = g := by
  funext i
  rw [Nat.zero_add]
  rfl
end Go.Proofs.Ytjdldadmaaeimaa
end
section
namespace Go.Proofs.Ytjdldadmaaeimaa
open Go.SE Go.RowKit
structure BV where
  sk : Int
  sr : Int
  sw : Int
  sh : Int
  p0v : Int
  p0f : Bool
  p1v : Int
  p1f : Bool
  p2v : Int
  p2f : Bool
  p3v : Int
  p3f : Bool
  v0v : Int
  v0f : Bool
  v1v : Int
  v1f : Bool
  w0v : Int
  w0f : Bool
  m0v : Int
  m0f : Bool
  m1v : Int
  m1f : Bool
  st : Int
  asl : Bool
  flt : Bool
  bv : Int
structure RV where
  id : Int
  bs : Int
  bg : Int
  ver : Int
  gr : Int
  o : BV
  hit : Bool
  htv : Int
  htf : Bool
  x0v : Int
  x0f : Bool
  x1v : Int
  x1f : Bool
  cnt : Int
def boS (b : BV) (P : SV) : SV := .agg [.v (.int .i64 b.sk), .v (.int .i64 b.sr), .v (.int .i64 b.sw), .v (.int .i64 b.sh), P, .v (.int .i64 b.p0v), .v (.bool b.p0f), .v (.int .i64 b.p1v), .v (.bool b.p1f), .v (.int .i64 b.p2v), .v (.bool b.p2f), .v (.int .i64 b.p3v), .v (.bool b.p3f), .v (.int .i64 b.v0v), .v (.bool b.v0f), .v (.int .i64 b.v1v), .v (.bool b.v1f), .v (.int .i64 b.w0v), .v (.bool b.w0f), .v (.int .i64 b.m0v), .v (.bool b.m0f), .v (.int .i64 b.m1v), .v (.bool b.m1f), .v (.int .i64 b.st), .v (.bool b.asl), .v (.bool b.flt), .v (.int .i64 b.bv)]
def reS (k e : Int) (c : RV) (P H : SV) : SV := .agg [.v (.int .i64 k), .v (.int .i64 c.id), .v (.int .i64 e), .v (.int .i64 c.bs), .v (.int .i64 c.bg), .v (.int .i64 c.ver), .v (.int .i64 c.gr), .v (.int .i64 c.o.sk), .v (.int .i64 c.o.sr), .v (.int .i64 c.o.sw), .v (.int .i64 c.o.sh), P, .v (.int .i64 c.o.p0v), .v (.bool c.o.p0f), .v (.int .i64 c.o.p1v), .v (.bool c.o.p1f), .v (.int .i64 c.o.p2v), .v (.bool c.o.p2f), .v (.int .i64 c.o.p3v), .v (.bool c.o.p3f), .v (.int .i64 c.o.v0v), .v (.bool c.o.v0f), .v (.int .i64 c.o.v1v), .v (.bool c.o.v1f), .v (.int .i64 c.o.w0v), .v (.bool c.o.w0f), .v (.int .i64 c.o.m0v), .v (.bool c.o.m0f), .v (.int .i64 c.o.m1v), .v (.bool c.o.m1f), .v (.int .i64 c.o.st), .v (.bool c.o.asl), .v (.bool c.o.flt), .v (.int .i64 c.o.bv), H, .v (.bool c.hit), .v (.int .i64 c.htv), .v (.bool c.htf), .v (.int .i64 c.x0v), .v (.bool c.x0f), .v (.int .i64 c.x1v), .v (.bool c.x1f), .v (.int .i64 c.cnt)]
def zBV : BV := ⟨0, 0, 0, 0, 0, false, 0, false, 0, false, 0, false, 0, false, 0, false, 0, false, 0, false, 0, false, 0, false, false, 0⟩
def uR0 (c : RV) : RV := ⟨c.id, 0, 0, 0, 0, zBV, false, 0, false, 0, false, 0, false, 0⟩
def uR1 (c : RV) : RV := ⟨c.id, c.bs, c.bg, c.ver, 0, zBV, false, 0, false, 0, false, 0, false, 0⟩
def uR2 (c : RV) : RV := ⟨c.id, c.bs, c.bg, 0, 0, zBV, false, 0, false, 0, false, 0, false, 0⟩
def uR3 (c : RV) : RV := ⟨c.id, c.bs, c.bg, c.ver, 0, zBV, false, 0, false, 0, false, 0, false, 0⟩
def uR4 (c : RV) : RV := ⟨c.id, c.bs, c.bg, c.ver, c.gr, zBV, false, 0, false, 0, false, 0, false, 0⟩
def uR5 (c : RV) : RV := ⟨c.id, 0, 0, 0, c.gr, zBV, false, 0, false, 0, false, 0, false, 0⟩
def uR6 (c : RV) : RV := ⟨c.id, 0, 0, 0, c.gr, zBV, false, 0, false, 0, false, 0, false, 0⟩
def uR7 (c : RV) : RV := ⟨c.id, c.bs, c.bg, 0, 0, c.o, false, 0, false, 0, false, 0, false, 0⟩
def uR8 (c : RV) : RV := ⟨c.id, 0, 0, 0, 0, zBV, false, 0, false, 0, false, 0, false, 0⟩
def uR9 (c : RV) : RV := ⟨c.id, bif c.hit then c.bs else 0, bif c.hit then c.bg else 0, 0, 0, zBV, c.hit, bif c.hit then c.htv else 0, bif c.hit then c.htf else false, bif c.hit then c.x0v else 0, bif c.hit then c.x0f else false, bif c.hit then c.x1v else 0, bif c.hit then c.x1f else false, 0⟩
def uR10 (c : RV) : RV := ⟨c.id, 0, 0, 0, 0, zBV, false, 0, false, 0, false, 0, false, c.cnt⟩
def uRN (e : Int) (c : RV) : RV := ⟨c.id, 0, 0, bif e == 14 then c.ver else 0, 0, zBV, false, 0, false, 0, false, 0, false, 0⟩
def uRK (k e : Int) (c : RV) : RV := bif e == 0 then (bif decide (k = 0) then uR0 c else (bif decide (k = 1) then uR1 c else (bif decide (k = 2) then uR2 c else (bif decide (k = 3) then uR3 c else (bif decide (k = 4) then uR4 c else (bif decide (k = 5) then uR5 c else (bif decide (k = 6) then uR6 c else (bif decide (k = 7) then uR7 c else (bif decide (k = 8) then uR8 c else (bif decide (k = 9) then uR9 c else (bif decide (k = 10) then uR10 c else (c)))))))))))) else uRN e c
def cellsOfB (l : List SV) : Option (BV × SV) := tkI l fun x_o_sk l => tkI l fun x_o_sr l => tkI l fun x_o_sw l => tkI l fun x_o_sh l => tkA l fun x_P l => tkI l fun x_o_p0v l => tkB l fun x_o_p0f l => tkI l fun x_o_p1v l => tkB l fun x_o_p1f l => tkI l fun x_o_p2v l => tkB l fun x_o_p2f l => tkI l fun x_o_p3v l => tkB l fun x_o_p3f l => tkI l fun x_o_v0v l => tkB l fun x_o_v0f l => tkI l fun x_o_v1v l => tkB l fun x_o_v1f l => tkI l fun x_o_w0v l => tkB l fun x_o_w0f l => tkI l fun x_o_m0v l => tkB l fun x_o_m0f l => tkI l fun x_o_m1v l => tkB l fun x_o_m1f l => tkI l fun x_o_st l => tkB l fun x_o_asl l => tkB l fun x_o_flt l => tkI l fun x_o_bv l => tkE l (⟨x_o_sk, x_o_sr, x_o_sw, x_o_sh, x_o_p0v, x_o_p0f, x_o_p1v, x_o_p1f, x_o_p2v, x_o_p2f, x_o_p3v, x_o_p3f, x_o_v0v, x_o_v0f, x_o_v1v, x_o_v1f, x_o_w0v, x_o_w0f, x_o_m0v, x_o_m0f, x_o_m1v, x_o_m1f, x_o_st, x_o_asl, x_o_flt, x_o_bv⟩, x_P)
def cellsOfR (l : List SV) : Option (Int × Int × RV × SV × SV) := tkI l fun x_k l => tkI l fun x_id l => tkI l fun x_e l => tkI l fun x_bs l => tkI l fun x_bg l => tkI l fun x_ver l => tkI l fun x_gr l => tkI l fun x_o_sk l => tkI l fun x_o_sr l => tkI l fun x_o_sw l => tkI l fun x_o_sh l => tkA l fun x_P l => tkI l fun x_o_p0v l => tkB l fun x_o_p0f l => tkI l fun x_o_p1v l => tkB l fun x_o_p1f l => tkI l fun x_o_p2v l => tkB l fun x_o_p2f l => tkI l fun x_o_p3v l => tkB l fun x_o_p3f l => tkI l fun x_o_v0v l => tkB l fun x_o_v0f l => tkI l fun x_o_v1v l => tkB l fun x_o_v1f l => tkI l fun x_o_w0v l => tkB l fun x_o_w0f l => tkI l fun x_o_m0v l => tkB l fun x_o_m0f l => tkI l fun x_o_m1v l => tkB l fun x_o_m1f l => tkI l fun x_o_st l => tkB l fun x_o_asl l => tkB l fun x_o_flt l => tkI l fun x_o_bv l => tkA l fun x_H l => tkB l fun x_hit l => tkI l fun x_htv l => tkB l fun x_htf l => tkI l fun x_x0v l => tkB l fun x_x0f l => tkI l fun x_x1v l => tkB l fun x_x1f l => tkI l fun x_cnt l => tkE l (x_k, x_e, ⟨x_id, x_bs, x_bg, x_ver, x_gr, ⟨x_o_sk, x_o_sr, x_o_sw, x_o_sh, x_o_p0v, x_o_p0f, x_o_p1v, x_o_p1f, x_o_p2v, x_o_p2f, x_o_p3v, x_o_p3f, x_o_v0v, x_o_v0f, x_o_v1v, x_o_v1f, x_o_w0v, x_o_w0f, x_o_m0v, x_o_m0f, x_o_m1v, x_o_m1f, x_o_st, x_o_asl, x_o_flt, x_o_bv⟩, x_hit, x_htv, x_htf, x_x0v, x_x0f, x_x1v, x_x1f, x_cnt⟩, x_P, x_H)
noncomputable def ΛShown : Nat → Option LoopSpec := (addPr (addPr noΛ 21 [(5, fun _ => 136), (7, fun _ => 136)]) 24 [(5, fun _ => 136), (7, fun _ => 136)])
theorem vcShown0 (c : RV) (e1 n cap xt : Nat) (x y : Nat→Int) (wh : Bool) (e2 m cp xt2 : Nat) (x2 y2 : Nat→Int) (wh2 : Bool) (R : SV→Prop) : (vcFn Try.prog noCtrs ΛShown Try.f77 [reS 0 0 c (.sl 0 2 0 n cap) (.sl 1 2 0 m cp)] (heapOf [ptB e1 n x y xt wh,ptB e2 m x2 y2 xt2 wh2]) 64 (fun y' _ => R y')) = (R (SV.agg [zI,(SV.v (.int .i64 (RV.id c))),zI,zI,zI,zI,zI,zI,zI,zI,zI,zS,zI,zF,zI,zF,zI,zF,zI,zF,zI,zF,zI,zF,zI,zF,zI,zF,zI,zF,zI,zF,zF,zI,zS,zF,zI,zF,zI,zF,zI,zF,zI])):=by kernel_rfl
theorem vcShown1 (c : RV) (e1 n cap xt : Nat) (x y : Nat→Int) (wh : Bool) (e2 m cp xt2 : Nat) (x2 y2 : Nat→Int) (wh2 : Bool) (R : SV→Prop) : (vcFn Try.prog noCtrs ΛShown Try.f77 [reS 1 0 c (.sl 0 2 0 n cap) (.sl 1 2 0 m cp)] (heapOf [ptB e1 n x y xt wh,ptB e2 m x2 y2 xt2 wh2]) 64 (fun y' _ => R y')) = (R (SV.agg [(SV.v (.int .i64 1)),(SV.v (.int .i64 (RV.id c))),zI,(SV.v (.int .i64 (RV.bs c))),(SV.v (.int .i64 (RV.bg c))),(SV.v (.int .i64 (RV.ver c))),zI,zI,zI,zI,zI,zS,zI,zF,zI,zF,zI,zF,zI,zF,zI,zF,zI,zF,zI,zF,zI,zF,zI,zF,zI,zF,zF,zI,zS,zF,zI,zF,zI,zF,zI,zF,zI])):=by kernel_rfl
theorem vcShown2 (c : RV) (e1 n cap xt : Nat) (x y : Nat→Int) (wh : Bool) (e2 m cp xt2 : Nat) (x2 y2 : Nat→Int) (wh2 : Bool) (R : SV→Prop) : (vcFn Try.prog noCtrs ΛShown Try.f77 [reS 2 0 c (.sl 0 2 0 n cap) (.sl 1 2 0 m cp)] (heapOf [ptB e1 n x y xt wh,ptB e2 m x2 y2 xt2 wh2]) 64 (fun y' _ => R y')) = (R (SV.agg [(SV.v (.int .i64 2)),(SV.v (.int .i64 (RV.id c))),zI,(SV.v (.int .i64 (RV.bs c))),(SV.v (.int .i64 (RV.bg c))),zI,zI,zI,zI,zI,zI,zS,zI,zF,zI,zF,zI,zF,zI,zF,zI,zF,zI,zF,zI,zF,zI,zF,zI,zF,zI,zF,zF,zI,zS,zF,zI,zF,zI,zF,zI,zF,zI])):=by kernel_rfl
theorem vcShown3 (c : RV) (e1 n cap xt : Nat) (x y : Nat→Int) (wh : Bool) (e2 m cp xt2 : Nat) (x2 y2 : Nat→Int) (wh2 : Bool) (R : SV→Prop) : (vcFn Try.prog noCtrs ΛShown Try.f77 [reS 3 0 c (.sl 0 2 0 n cap) (.sl 1 2 0 m cp)] (heapOf [ptB e1 n x y xt wh,ptB e2 m x2 y2 xt2 wh2]) 64 (fun y' _ => R y')) = (R (SV.agg [(SV.v (.int .i64 3)),(SV.v (.int .i64 (RV.id c))),zI,(SV.v (.int .i64 (RV.bs c))),(SV.v (.int .i64 (RV.bg c))),(SV.v (.int .i64 (RV.ver c))),zI,zI,zI,zI,zI,zS,zI,zF,zI,zF,zI,zF,zI,zF,zI,zF,zI,zF,zI,zF,zI,zF,zI,zF,zI,zF,zF,zI,zS,zF,zI,zF,zI,zF,zI,zF,zI])):=by kernel_rfl
theorem vcShown4 (c : RV) (e1 n cap xt : Nat) (x y : Nat→Int) (wh : Bool) (e2 m cp xt2 : Nat) (x2 y2 : Nat→Int) (wh2 : Bool) (R : SV→Prop) : (vcFn Try.prog noCtrs ΛShown Try.f77 [reS 4 0 c (.sl 0 2 0 n cap) (.sl 1 2 0 m cp)] (heapOf [ptB e1 n x y xt wh,ptB e2 m x2 y2 xt2 wh2]) 64 (fun y' _ => R y')) = (R (SV.agg [(SV.v (.int .i64 4)),(SV.v (.int .i64 (RV.id c))),zI,(SV.v (.int .i64 (RV.bs c))),(SV.v (.int .i64 (RV.bg c))),(SV.v (.int .i64 (RV.ver c))),(SV.v (.int .i64 (RV.gr c))),zI,zI,zI,zI,zS,zI,zF,zI,zF,zI,zF,zI,zF,zI,zF,zI,zF,zI,zF,zI,zF,zI,zF,zI,zF,zF,zI,zS,zF,zI,zF,zI,zF,zI,zF,zI])):=by kernel_rfl
theorem vcShown5 (c : RV) (e1 n cap xt : Nat) (x y : Nat→Int) (wh : Bool) (e2 m cp xt2 : Nat) (x2 y2 : Nat→Int) (wh2 : Bool) (R : SV→Prop) : (vcFn Try.prog noCtrs ΛShown Try.f77 [reS 5 0 c (.sl 0 2 0 n cap) (.sl 1 2 0 m cp)] (heapOf [ptB e1 n x y xt wh,ptB e2 m x2 y2 xt2 wh2]) 64 (fun y' _ => R y')) = (R (SV.agg [(SV.v (.int .i64 5)),(SV.v (.int .i64 (RV.id c))),zI,zI,zI,zI,(SV.v (.int .i64 (RV.gr c))),zI,zI,zI,zI,zS,zI,zF,zI,zF,zI,zF,zI,zF,zI,zF,zI,zF,zI,zF,zI,zF,zI,zF,zI,zF,zF,zI,zS,zF,zI,zF,zI,zF,zI,zF,zI])):=by kernel_rfl
theorem vcShown6 (c : RV) (e1 n cap xt : Nat) (x y : Nat→Int) (wh : Bool) (e2 m cp xt2 : Nat) (x2 y2 : Nat→Int) (wh2 : Bool) (R : SV→Prop) : (vcFn Try.prog noCtrs ΛShown Try.f77 [reS 6 0 c (.sl 0 2 0 n cap) (.sl 1 2 0 m cp)] (heapOf [ptB e1 n x y xt wh,ptB e2 m x2 y2 xt2 wh2]) 64 (fun y' _ => R y')) = (R (SV.agg [(SV.v (.int .i64 6)),(SV.v (.int .i64 (RV.id c))),zI,zI,zI,zI,(SV.v (.int .i64 (RV.gr c))),zI,zI,zI,zI,zS,zI,zF,zI,zF,zI,zF,zI,zF,zI,zF,zI,zF,zI,zF,zI,zF,zI,zF,zI,zF,zF,zI,zS,zF,zI,zF,zI,zF,zI,zF,zI])):=by kernel_rfl
theorem vcShown7 (c : RV) (e1 n cap xt : Nat) (x y : Nat→Int) (wh : Bool) (e2 m cp xt2 : Nat) (x2 y2 : Nat→Int) (wh2 : Bool) (R : SV→Prop) : (vcFn Try.prog noCtrs ΛShown Try.f77 [reS 7 0 c (.sl 0 2 0 n cap) (.sl 1 2 0 m cp)] (heapOf [ptB e1 n x y xt wh,ptB e2 m x2 y2 xt2 wh2]) 64 (fun y' _ => R y')) =
(R (SV.agg [(SV.v (.int .i64 7)),(SV.v (.int .i64 (RV.id c))),zI,(SV.v (.int .i64 (RV.bs c))),(SV.v (.int .i64 (RV.bg c))),zI,zI,(SV.v (.int .i64 (BV.sk (RV.o c)))),(SV.v (.int .i64 (BV.sr (RV.o c)))),(SV.v (.int .i64 (BV.sw (RV.o c)))),(SV.v (.int .i64 (BV.sh (RV.o c)))),(SV.sl 0 2 0 n cap),(SV.v (.int .i64 (BV.p0v (RV.o c)))),(SV.v (.bool (BV.p0f (RV.o c)))),(SV.v (.int .i64 (BV.p1v (RV.o c)))),(SV.v (.bool (BV.p1f (RV.o c)))),(SV.v (.int .i64 (BV.p2v (RV.o c)))),(SV.v (.bool (BV.p2f (RV.o c)))),(SV.v (.int .i64 (BV.p3v (RV.o c)))),(SV.v (.bool (BV.p3f (RV.o c)))),(SV.v (.int .i64 (BV.v0v (RV.o c)))),(SV.v (.bool (BV.v0f (RV.o c)))),(SV.v (.int .i64 (BV.v1v (RV.o c)))),(SV.v (.bool (BV.v1f (RV.o c)))),(SV.v (.int .i64 (BV.w0v (RV.o c)))),(SV.v (.bool (BV.w0f (RV.o c)))),(SV.v (.int .i64 (BV.m0v (RV.o c)))),(SV.v (.bool (BV.m0f (RV.o c)))),(SV.v (.int .i64 (BV.m1v (RV.o c)))),(SV.v (.bool (BV.m1f (RV.o c)))),(SV.v (.int .i64 (BV.st (RV.o c)))),(SV.v (.bool (BV.asl (RV.o c)))),(SV.v (.bool (BV.flt (RV.o c)))),(SV.v (.int .i64 (BV.bv (RV.o c)))),zS,zF,zI,zF,zI,zF,zI,zF,zI])) := by kernel_rfl
theorem vcShown8 (c : RV) (e1 n cap xt : Nat) (x y : Nat→Int) (wh : Bool) (e2 m cp xt2 : Nat) (x2 y2 : Nat→Int) (wh2 : Bool) (R : SV→Prop) : (vcFn Try.prog noCtrs ΛShown Try.f77 [reS 8 0 c (.sl 0 2 0 n cap) (.sl 1 2 0 m cp)] (heapOf [ptB e1 n x y xt wh,ptB e2 m x2 y2 xt2 wh2]) 64 (fun y' _ => R y')) = (R (SV.agg [(SV.v (.int .i64 8)),(SV.v (.int .i64 (RV.id c))),zI,zI,zI,zI,zI,zI,zI,zI,zI,zS,zI,zF,zI,zF,zI,zF,zI,zF,zI,zF,zI,zF,zI,zF,zI,zF,zI,zF,zI,zF,zF,zI,(SV.sl 1 2 0 m cp),zF,zI,zF,zI,zF,zI,zF,zI])):=by kernel_rfl
theorem vcShown9 (c : RV) (e1 n cap xt : Nat) (x y : Nat→Int) (wh : Bool) (e2 m cp xt2 : Nat) (x2 y2 : Nat→Int) (wh2 : Bool) (R : SV→Prop) : (vcFn Try.prog noCtrs ΛShown Try.f77 [reS 9 0 c (.sl 0 2 0 n cap) (.sl 1 2 0 m cp)] (heapOf [ptB e1 n x y xt wh,ptB e2 m x2 y2 xt2 wh2]) 64 (fun y' _ => R y')) = (sel (RV.hit c) (R (SV.agg [(SV.v (.int .i64 9)),(SV.v (.int .i64 (RV.id c))),zI,(SV.v (.int .i64 (RV.bs c))),(SV.v (.int .i64 (RV.bg c))),zI,zI,zI,zI,zI,zI,zS,zI,zF,zI,zF,zI,zF,zI,zF,zI,zF,zI,zF,zI,zF,zI,zF,zI,zF,zI,zF,zF,zI,zS,(SV.v (.bool (RV.hit c))),(SV.v (.int .i64 (RV.htv c))),(SV.v (.bool (RV.htf c))),(SV.v (.int .i64 (RV.x0v c))),(SV.v (.bool (RV.x0f c))),(SV.v (.int .i64 (RV.x1v c))),(SV.v (.bool (RV.x1f c))),zI])) (R (SV.agg [(SV.v (.int .i64 9)),(SV.v (.int .i64 (RV.id c))),zI,zI,zI,zI,zI,zI,zI,zI,zI,zS,zI,zF,zI,zF,zI,zF,zI,zF,zI,zF,zI,zF,zI,zF,zI,zF,zI,zF,zI,zF,zF,zI,zS,zF,zI,zF,zI,zF,zI,zF,zI]))):=by kernel_rfl
theorem vcShown10 (c : RV) (e1 n cap xt : Nat) (x y : Nat→Int) (wh : Bool) (e2 m cp xt2 : Nat) (x2 y2 : Nat→Int) (wh2 : Bool) (R : SV→Prop) : (vcFn Try.prog noCtrs ΛShown Try.f77 [reS 10 0 c (.sl 0 2 0 n cap) (.sl 1 2 0 m cp)] (heapOf [ptB e1 n x y xt wh,ptB e2 m x2 y2 xt2 wh2]) 64 (fun y' _ => R y')) = (R (SV.agg [(SV.v (.int .i64 10)),(SV.v (.int .i64 (RV.id c))),zI,zI,zI,zI,zI,zI,zI,zI,zI,zS,zI,zF,zI,zF,zI,zF,zI,zF,zI,zF,zI,zF,zI,zF,zI,zF,zI,zF,zI,zF,zF,zI,zS,zF,zI,zF,zI,zF,zI,zF,(SV.v (.int .i64 (RV.cnt c)))])):=by kernel_rfl
theorem vcShownP (k : Int) (a : Nat) (c : RV) (e1 n cap xt : Nat) (x y : Nat→Int) (wh : Bool) (e2 m cp xt2 : Nat) (x2 y2 : Nat→Int) (wh2 : Bool) (R : SV→Prop) : (vcFn Try.prog noCtrs ΛShown Try.f77 [reS k (Int.ofNat (a + 1)) c (.sl 0 2 0 n cap) (.sl 1 2 0 m cp)] (heapOf [ptB e1 n x y xt wh,ptB e2 m x2 y2 xt2 wh2]) 64 (fun y' _ => R y')) = (sel (Int.ofNat (a + 1) == 14) (R (SV.agg [(SV.v (.int .i64 k)),(SV.v (.int .i64 (RV.id c))),(SV.v (.int .i64 (Int.ofNat (a + 1)))),zI,zI,(SV.v (.int .i64 (RV.ver c))),zI,zI,zI,zI,zI,zS,zI,zF,zI,zF,zI,zF,zI,zF,zI,zF,zI,zF,zI,zF,zI,zF,zI,zF,zI,zF,zF,zI,zS,zF,zI,zF,zI,zF,zI,zF,zI])) (R (SV.agg [(SV.v (.int .i64 k)),(SV.v (.int .i64 (RV.id c))),(SV.v (.int .i64 (Int.ofNat (a + 1)))),zI,zI,zI,zI,zI,zI,zI,zI,zS,zI,zF,zI,zF,zI,zF,zI,zF,zI,zF,zI,zF,zI,zF,zI,zF,zI,zF,zI,zF,zF,zI,zS,zF,zI,zF,zI,zF,zI,zF,zI]))):=by kernel_rfl
theorem vcShownM (k : Int) (a : Nat) (c : RV) (e1 n cap xt : Nat) (x y : Nat→Int) (wh : Bool) (e2 m cp xt2 : Nat) (x2 y2 : Nat→Int) (wh2 : Bool) (R : SV→Prop) : (vcFn Try.prog noCtrs ΛShown Try.f77 [reS k (Int.negSucc a) c (.sl 0 2 0 n cap) (.sl 1 2 0 m cp)] (heapOf [ptB e1 n x y xt wh,ptB e2 m x2 y2 xt2 wh2]) 64 (fun y' _ => R y')) = (R (SV.agg [(SV.v (.int .i64 k)),(SV.v (.int .i64 (RV.id c))),(SV.v (.int .i64 (Int.negSucc a))),zI,zI,zI,zI,zI,zI,zI,zI,zS,zI,zF,zI,zF,zI,zF,zI,zF,zI,zF,zI,zF,zI,zF,zI,zF,zI,zF,zI,zF,zF,zI,zS,zF,zI,zF,zI,zF,zI,zF,zI])):=by kernel_rfl
def sShown (args : List SV) (bs : List Blk) : Option Eff := match args with
  | [.agg l] => match cellsOfR l with
    | some (k, e, c, .sl 0 2 0 n cap, .sl 1 2 0 m cp) => match bs with
      | [S, H] => bif okB S && okB H then (bif e == 0 then (bif decide (k = 0) then some (.det (some (spPre n S ∧ spPre m H)) (reS 0 0 (uR0 c) (nilS) (nilS)) []) else (bif decide (k = 1) then some (.det (some (spPre n S ∧ spPre m H)) (reS 1 0 (uR1 c) (nilS) (nilS)) []) else (bif decide (k = 2) then some (.det (some (spPre n S ∧ spPre m H)) (reS 2 0 (uR2 c) (nilS) (nilS)) []) else (bif decide (k = 3) then some (.det (some (spPre n S ∧ spPre m H)) (reS 3 0 (uR3 c) (nilS) (nilS)) []) else (bif decide (k = 4) then some (.det (some (spPre n S ∧ spPre m H)) (reS 4 0 (uR4 c) (nilS) (nilS)) []) else (bif decide (k = 5) then some (.det (some (spPre n S ∧ spPre m H)) (reS 5 0 (uR5 c) (nilS) (nilS)) []) else (bif decide (k = 6) then some (.det (some (spPre n S ∧ spPre m H)) (reS 6 0 (uR6 c) (nilS) (nilS)) []) else (bif decide (k = 7) then some (.det (some (spPre n S ∧ spPre m H)) (reS 7 0 (uR7 c) (.sl 0 2 0 n cap) (nilS)) []) else (bif decide (k = 8) then some (.det (some (spPre n S ∧ spPre m H)) (reS 8 0 (uR8 c) (nilS) (.sl 1 2 0 m cp)) []) else (bif decide (k = 9) then some (.det (some (spPre n S ∧ spPre m H)) (reS 9 0 (uR9 c) (nilS) (nilS)) []) else (bif decide (k = 10) then some (.det (some (spPre n S ∧ spPre m H)) (reS 10 0 (uR10 c) (nilS) (nilS)) []) else (none)))))))))))) else some (.det (some (spPre n S ∧ spPre m H)) (reS k e (uRN e c) nilS nilS) [])) else none
      | _ => none
    | _ => none
  | _ => none
theorem finE_post {bs : List Blk} {q : Option Prop} {x : SV} : (fun (y : SV) (h' : Heap) => FinE bs (.det q x []) y h') = fun y _ => FinE bs (.det q x []) y noHeap := rfl
theorem e_or {e : Int} (h : (e == 0) = false) : (∃ a : Nat, e = Int.ofNat (a + 1)) ∨ ∃ a : Nat, e = Int.negSucc a := by
  match e, h with
  | Int.ofNat 0, h => cases h
  | Int.ofNat (a + 1), _ => exact .inl ⟨a, rfl⟩
  | Int.negSucc a, _ => exact .inr ⟨a, rfl⟩
theorem reps_eq {l : List SV} {k e : Int} {c : RV} {P H : SV} (h : cellsOfR l = some (k, e, c, P, H)) : SV.agg l = reS k e c P H := by
  unfold cellsOfR at h
  obtain ⟨x_k, l_k, e_k, h_k⟩ := tkI_eq h
  subst e_k
  clear h
  obtain ⟨x_id, l_id, e_id, h_id⟩ := tkI_eq h_k
  subst e_id
  clear h_k
  obtain ⟨x_e, l_e, e_e, h_e⟩ := tkI_eq h_id
  subst e_e
  clear h_id
  obtain ⟨x_bs, l_bs, e_bs, h_bs⟩ := tkI_eq h_e
  subst e_bs
  clear h_e
  obtain ⟨x_bg, l_bg, e_bg, h_bg⟩ := tkI_eq h_bs
  subst e_bg
  clear h_bs
  obtain ⟨x_ver, l_ver, e_ver, h_ver⟩ := tkI_eq h_bg
  subst e_ver
  clear h_bg
  obtain ⟨x_gr, l_gr, e_gr, h_gr⟩ := tkI_eq h_ver
  subst e_gr
  clear h_ver
  obtain ⟨x_o_sk, l_o_sk, e_o_sk, h_o_sk⟩ := tkI_eq h_gr
  subst e_o_sk
  clear h_gr
  obtain ⟨x_o_sr, l_o_sr, e_o_sr, h_o_sr⟩ := tkI_eq h_o_sk
  subst e_o_sr
  clear h_o_sk
  obtain ⟨x_o_sw, l_o_sw, e_o_sw, h_o_sw⟩ := tkI_eq h_o_sr
  subst e_o_sw
  clear h_o_sr
  obtain ⟨x_o_sh, l_o_sh, e_o_sh, h_o_sh⟩ := tkI_eq h_o_sw
  subst e_o_sh
  clear h_o_sw
  obtain ⟨x_P, l_P, e_P, h_P⟩ := tkA_eq h_o_sh
  subst e_P
  clear h_o_sh
  obtain ⟨x_o_p0v, l_o_p0v, e_o_p0v, h_o_p0v⟩ := tkI_eq h_P
  subst e_o_p0v
  clear h_P
  obtain ⟨x_o_p0f, l_o_p0f, e_o_p0f, h_o_p0f⟩ := tkB_eq h_o_p0v
  subst e_o_p0f
  clear h_o_p0v
  obtain ⟨x_o_p1v, l_o_p1v, e_o_p1v, h_o_p1v⟩ := tkI_eq h_o_p0f
  subst e_o_p1v
  clear h_o_p0f
  obtain ⟨x_o_p1f, l_o_p1f, e_o_p1f, h_o_p1f⟩ := tkB_eq h_o_p1v
  subst e_o_p1f
  clear h_o_p1v
  obtain ⟨x_o_p2v, l_o_p2v, e_o_p2v, h_o_p2v⟩ := tkI_eq h_o_p1f
  subst e_o_p2v
  clear h_o_p1f
  obtain ⟨x_o_p2f, l_o_p2f, e_o_p2f, h_o_p2f⟩ := tkB_eq h_o_p2v
  subst e_o_p2f
  clear h_o_p2v
  obtain ⟨x_o_p3v, l_o_p3v, e_o_p3v, h_o_p3v⟩ := tkI_eq h_o_p2f
  subst e_o_p3v
  clear h_o_p2f
  obtain ⟨x_o_p3f, l_o_p3f, e_o_p3f, h_o_p3f⟩ := tkB_eq h_o_p3v
  subst e_o_p3f
  clear h_o_p3v
  obtain ⟨x_o_v0v, l_o_v0v, e_o_v0v, h_o_v0v⟩ := tkI_eq h_o_p3f
  subst e_o_v0v
  clear h_o_p3f
  obtain ⟨x_o_v0f, l_o_v0f, e_o_v0f, h_o_v0f⟩ := tkB_eq h_o_v0v
  subst e_o_v0f
  clear h_o_v0v
  obtain ⟨x_o_v1v, l_o_v1v, e_o_v1v, h_o_v1v⟩ := tkI_eq h_o_v0f
  subst e_o_v1v
  clear h_o_v0f
  obtain ⟨x_o_v1f, l_o_v1f, e_o_v1f, h_o_v1f⟩ := tkB_eq h_o_v1v
  subst e_o_v1f
  clear h_o_v1v
  obtain ⟨x_o_w0v, l_o_w0v, e_o_w0v, h_o_w0v⟩ := tkI_eq h_o_v1f
  subst e_o_w0v
  clear h_o_v1f
  obtain ⟨x_o_w0f, l_o_w0f, e_o_w0f, h_o_w0f⟩ := tkB_eq h_o_w0v
  subst e_o_w0f
  clear h_o_w0v
  obtain ⟨x_o_m0v, l_o_m0v, e_o_m0v, h_o_m0v⟩ := tkI_eq h_o_w0f
  subst e_o_m0v
  clear h_o_w0f
  obtain ⟨x_o_m0f, l_o_m0f, e_o_m0f, h_o_m0f⟩ := tkB_eq h_o_m0v
  subst e_o_m0f
  clear h_o_m0v
  obtain ⟨x_o_m1v, l_o_m1v, e_o_m1v, h_o_m1v⟩ := tkI_eq h_o_m0f
  subst e_o_m1v
  clear h_o_m0f
  obtain ⟨x_o_m1f, l_o_m1f, e_o_m1f, h_o_m1f⟩ := tkB_eq h_o_m1v
  subst e_o_m1f
  clear h_o_m1v
  obtain ⟨x_o_st, l_o_st, e_o_st, h_o_st⟩ := tkI_eq h_o_m1f
  subst e_o_st
  clear h_o_m1f
  obtain ⟨x_o_asl, l_o_asl, e_o_asl, h_o_asl⟩ := tkB_eq h_o_st
  subst e_o_asl
  clear h_o_st
  obtain ⟨x_o_flt, l_o_flt, e_o_flt, h_o_flt⟩ := tkB_eq h_o_asl
  subst e_o_flt
  clear h_o_asl
  obtain ⟨x_o_bv, l_o_bv, e_o_bv, h_o_bv⟩ := tkI_eq h_o_flt
  subst e_o_bv
  clear h_o_flt
  obtain ⟨x_H, l_H, e_H, h_H⟩ := tkA_eq h_o_bv
  subst e_H
  clear h_o_bv
  obtain ⟨x_hit, l_hit, e_hit, h_hit⟩ := tkB_eq h_H
  subst e_hit
  clear h_H
  obtain ⟨x_htv, l_htv, e_htv, h_htv⟩ := tkI_eq h_hit
  subst e_htv
  clear h_hit
  obtain ⟨x_htf, l_htf, e_htf, h_htf⟩ := tkB_eq h_htv
  subst e_htf
  clear h_htv
  obtain ⟨x_x0v, l_x0v, e_x0v, h_x0v⟩ := tkI_eq h_htf
  subst e_x0v
  clear h_htf
  obtain ⟨x_x0f, l_x0f, e_x0f, h_x0f⟩ := tkB_eq h_x0v
  subst e_x0f
  clear h_x0v
  obtain ⟨x_x1v, l_x1v, e_x1v, h_x1v⟩ := tkI_eq h_x0f
  subst e_x1v
  clear h_x0f
  obtain ⟨x_x1f, l_x1f, e_x1f, h_x1f⟩ := tkB_eq h_x1v
  subst e_x1f
  clear h_x1v
  obtain ⟨x_cnt, l_cnt, e_cnt, h_cnt⟩ := tkI_eq h_x1f
  subst e_cnt
  clear h_x1f
  obtain ⟨e0, h0⟩ := tkE_eq h_cnt
  subst e0
  obtain ⟨q0, h1⟩ := Prod.mk.inj h0
  clear h0
  obtain ⟨q1, h2⟩ := Prod.mk.inj h1
  clear h1
  obtain ⟨q2, h3⟩ := Prod.mk.inj h2
  clear h2
  obtain ⟨q3, h4⟩ := Prod.mk.inj h3
  clear h3
  subst q0 q1 q2 q3 h4
  rfl
theorem bods_eq {l : List SV} {c : BV} {P : SV} (h : cellsOfB l = some (c, P)) : SV.agg l = boS c P := by
  unfold cellsOfB at h
  obtain ⟨x_o_sk, l_o_sk, e_o_sk, h_o_sk⟩ := tkI_eq h
  subst e_o_sk
  clear h
  obtain ⟨x_o_sr, l_o_sr, e_o_sr, h_o_sr⟩ := tkI_eq h_o_sk
  subst e_o_sr
  clear h_o_sk
  obtain ⟨x_o_sw, l_o_sw, e_o_sw, h_o_sw⟩ := tkI_eq h_o_sr
  subst e_o_sw
  clear h_o_sr
  obtain ⟨x_o_sh, l_o_sh, e_o_sh, h_o_sh⟩ := tkI_eq h_o_sw
  subst e_o_sh
  clear h_o_sw
  obtain ⟨x_P, l_P, e_P, h_P⟩ := tkA_eq h_o_sh
  subst e_P
  clear h_o_sh
  obtain ⟨x_o_p0v, l_o_p0v, e_o_p0v, h_o_p0v⟩ := tkI_eq h_P
  subst e_o_p0v
  clear h_P
  obtain ⟨x_o_p0f, l_o_p0f, e_o_p0f, h_o_p0f⟩ := tkB_eq h_o_p0v
  subst e_o_p0f
  clear h_o_p0v
  obtain ⟨x_o_p1v, l_o_p1v, e_o_p1v, h_o_p1v⟩ := tkI_eq h_o_p0f
  subst e_o_p1v
  clear h_o_p0f
  obtain ⟨x_o_p1f, l_o_p1f, e_o_p1f, h_o_p1f⟩ := tkB_eq h_o_p1v
  subst e_o_p1f
  clear h_o_p1v
  obtain ⟨x_o_p2v, l_o_p2v, e_o_p2v, h_o_p2v⟩ := tkI_eq h_o_p1f
  subst e_o_p2v
  clear h_o_p1f
  obtain ⟨x_o_p2f, l_o_p2f, e_o_p2f, h_o_p2f⟩ := tkB_eq h_o_p2v
  subst e_o_p2f
  clear h_o_p2v
  obtain ⟨x_o_p3v, l_o_p3v, e_o_p3v, h_o_p3v⟩ := tkI_eq h_o_p2f
  subst e_o_p3v
  clear h_o_p2f
  obtain ⟨x_o_p3f, l_o_p3f, e_o_p3f, h_o_p3f⟩ := tkB_eq h_o_p3v
  subst e_o_p3f
  clear h_o_p3v
  obtain ⟨x_o_v0v, l_o_v0v, e_o_v0v, h_o_v0v⟩ := tkI_eq h_o_p3f
  subst e_o_v0v
  clear h_o_p3f
  obtain ⟨x_o_v0f, l_o_v0f, e_o_v0f, h_o_v0f⟩ := tkB_eq h_o_v0v
  subst e_o_v0f
  clear h_o_v0v
  obtain ⟨x_o_v1v, l_o_v1v, e_o_v1v, h_o_v1v⟩ := tkI_eq h_o_v0f
  subst e_o_v1v
  clear h_o_v0f
  obtain ⟨x_o_v1f, l_o_v1f, e_o_v1f, h_o_v1f⟩ := tkB_eq h_o_v1v
  subst e_o_v1f
  clear h_o_v1v
  obtain ⟨x_o_w0v, l_o_w0v, e_o_w0v, h_o_w0v⟩ := tkI_eq h_o_v1f
  subst e_o_w0v
  clear h_o_v1f
  obtain ⟨x_o_w0f, l_o_w0f, e_o_w0f, h_o_w0f⟩ := tkB_eq h_o_w0v
  subst e_o_w0f
  clear h_o_w0v
  obtain ⟨x_o_m0v, l_o_m0v, e_o_m0v, h_o_m0v⟩ := tkI_eq h_o_w0f
  subst e_o_m0v
  clear h_o_w0f
  obtain ⟨x_o_m0f, l_o_m0f, e_o_m0f, h_o_m0f⟩ := tkB_eq h_o_m0v
  subst e_o_m0f
  clear h_o_m0v
  obtain ⟨x_o_m1v, l_o_m1v, e_o_m1v, h_o_m1v⟩ := tkI_eq h_o_m0f
  subst e_o_m1v
  clear h_o_m0f
  obtain ⟨x_o_m1f, l_o_m1f, e_o_m1f, h_o_m1f⟩ := tkB_eq h_o_m1v
  subst e_o_m1f
  clear h_o_m1v
  obtain ⟨x_o_st, l_o_st, e_o_st, h_o_st⟩ := tkI_eq h_o_m1f
  subst e_o_st
  clear h_o_m1f
  obtain ⟨x_o_asl, l_o_asl, e_o_asl, h_o_asl⟩ := tkB_eq h_o_st
  subst e_o_asl
  clear h_o_st
  obtain ⟨x_o_flt, l_o_flt, e_o_flt, h_o_flt⟩ := tkB_eq h_o_asl
  subst e_o_flt
  clear h_o_asl
  obtain ⟨x_o_bv, l_o_bv, e_o_bv, h_o_bv⟩ := tkI_eq h_o_flt
  subst e_o_bv
  clear h_o_flt
  obtain ⟨e0, h0⟩ := tkE_eq h_o_bv
  subst e0
  obtain ⟨q0, h1⟩ := Prod.mk.inj h0
  clear h0
  subst q0 h1
  rfl
theorem shown_0 {q : Option Prop} {c : RV} {e1 n cap xt : Nat} {x y : Nat → Int} {wh : Bool} {e2 m cp xt2 : Nat} {x2 y2 : Nat → Int} {wh2 : Bool} : vcFn Try.prog noCtrs ΛShown Try.f77 [reS 0 0 c (.sl 0 2 0 n cap) (.sl 1 2 0 m cp)] (heapOf [ptB e1 n x y xt wh, ptB e2 m x2 y2 xt2 wh2]) 64 (fun y' h' => FinE [ptB e1 n x y xt wh, ptB e2 m x2 y2 xt2 wh2] (.det q (reS 0 0 (uR0 c) (nilS) (nilS)) []) y' h') := by
  rw [finE_post, vcShown0]
  (refine ⟨?_, trivial⟩; repeat (first | exact rfl | refine ⟨rfl, ?_⟩))
theorem shown_1 {q : Option Prop} {c : RV} {e1 n cap xt : Nat} {x y : Nat → Int} {wh : Bool} {e2 m cp xt2 : Nat} {x2 y2 : Nat → Int} {wh2 : Bool} : vcFn Try.prog noCtrs ΛShown Try.f77 [reS 1 0 c (.sl 0 2 0 n cap) (.sl 1 2 0 m cp)] (heapOf [ptB e1 n x y xt wh, ptB e2 m x2 y2 xt2 wh2]) 64 (fun y' h' => FinE [ptB e1 n x y xt wh, ptB e2 m x2 y2 xt2 wh2] (.det q (reS 1 0 (uR1 c) (nilS) (nilS)) []) y' h') := by
  rw [finE_post, vcShown1]
  (refine ⟨?_, trivial⟩; repeat (first | exact rfl | refine ⟨rfl, ?_⟩))
theorem shown_2 {q : Option Prop} {c : RV} {e1 n cap xt : Nat} {x y : Nat → Int} {wh : Bool} {e2 m cp xt2 : Nat} {x2 y2 : Nat → Int} {wh2 : Bool} : vcFn Try.prog noCtrs ΛShown Try.f77 [reS 2 0 c (.sl 0 2 0 n cap) (.sl 1 2 0 m cp)] (heapOf [ptB e1 n x y xt wh, ptB e2 m x2 y2 xt2 wh2]) 64 (fun y' h' => FinE [ptB e1 n x y xt wh, ptB e2 m x2 y2 xt2 wh2] (.det q (reS 2 0 (uR2 c) (nilS) (nilS)) []) y' h') := by
  rw [finE_post, vcShown2]
  (refine ⟨?_, trivial⟩; repeat (first | exact rfl | refine ⟨rfl, ?_⟩))
theorem shown_3 {q : Option Prop} {c : RV} {e1 n cap xt : Nat} {x y : Nat → Int} {wh : Bool} {e2 m cp xt2 : Nat} {x2 y2 : Nat → Int} {wh2 : Bool} : vcFn Try.prog noCtrs ΛShown Try.f77 [reS 3 0 c (.sl 0 2 0 n cap) (.sl 1 2 0 m cp)] (heapOf [ptB e1 n x y xt wh, ptB e2 m x2 y2 xt2 wh2]) 64 (fun y' h' => FinE [ptB e1 n x y xt wh, ptB e2 m x2 y2 xt2 wh2] (.det q (reS 3 0 (uR3 c) (nilS) (nilS)) []) y' h') := by
  rw [finE_post, vcShown3]
  (refine ⟨?_, trivial⟩; repeat (first | exact rfl | refine ⟨rfl, ?_⟩))
theorem shown_4 {q : Option Prop} {c : RV} {e1 n cap xt : Nat} {x y : Nat → Int} {wh : Bool} {e2 m cp xt2 : Nat} {x2 y2 : Nat → Int} {wh2 : Bool} : vcFn Try.prog noCtrs ΛShown Try.f77 [reS 4 0 c (.sl 0 2 0 n cap) (.sl 1 2 0 m cp)] (heapOf [ptB e1 n x y xt wh, ptB e2 m x2 y2 xt2 wh2]) 64 (fun y' h' => FinE [ptB e1 n x y xt wh, ptB e2 m x2 y2 xt2 wh2] (.det q (reS 4 0 (uR4 c) (nilS) (nilS)) []) y' h') := by
  rw [finE_post, vcShown4]
  (refine ⟨?_, trivial⟩; repeat (first | exact rfl | refine ⟨rfl, ?_⟩))
theorem shown_5 {q : Option Prop} {c : RV} {e1 n cap xt : Nat} {x y : Nat → Int} {wh : Bool} {e2 m cp xt2 : Nat} {x2 y2 : Nat → Int} {wh2 : Bool} : vcFn Try.prog noCtrs ΛShown Try.f77 [reS 5 0 c (.sl 0 2 0 n cap) (.sl 1 2 0 m cp)] (heapOf [ptB e1 n x y xt wh, ptB e2 m x2 y2 xt2 wh2]) 64 (fun y' h' => FinE [ptB e1 n x y xt wh, ptB e2 m x2 y2 xt2 wh2] (.det q (reS 5 0 (uR5 c) (nilS) (nilS)) []) y' h') := by
  rw [finE_post, vcShown5]
  (refine ⟨?_, trivial⟩; repeat (first | exact rfl | refine ⟨rfl, ?_⟩))
theorem shown_6 {q : Option Prop} {c : RV} {e1 n cap xt : Nat} {x y : Nat → Int} {wh : Bool} {e2 m cp xt2 : Nat} {x2 y2 : Nat → Int} {wh2 : Bool} : vcFn Try.prog noCtrs ΛShown Try.f77 [reS 6 0 c (.sl 0 2 0 n cap) (.sl 1 2 0 m cp)] (heapOf [ptB e1 n x y xt wh, ptB e2 m x2 y2 xt2 wh2]) 64 (fun y' h' => FinE [ptB e1 n x y xt wh, ptB e2 m x2 y2 xt2 wh2] (.det q (reS 6 0 (uR6 c) (nilS) (nilS)) []) y' h') := by
  rw [finE_post, vcShown6]
  (refine ⟨?_, trivial⟩; repeat (first | exact rfl | refine ⟨rfl, ?_⟩))
theorem shown_7 {q : Option Prop} {c : RV} {e1 n cap xt : Nat} {x y : Nat → Int} {wh : Bool} {e2 m cp xt2 : Nat} {x2 y2 : Nat → Int} {wh2 : Bool} : vcFn Try.prog noCtrs ΛShown Try.f77 [reS 7 0 c (.sl 0 2 0 n cap) (.sl 1 2 0 m cp)] (heapOf [ptB e1 n x y xt wh, ptB e2 m x2 y2 xt2 wh2]) 64 (fun y' h' => FinE [ptB e1 n x y xt wh, ptB e2 m x2 y2 xt2 wh2] (.det q (reS 7 0 (uR7 c) (.sl 0 2 0 n cap) (nilS)) []) y' h') := by
  rw [finE_post, vcShown7]
  (refine ⟨?_, trivial⟩; repeat (first | exact rfl | refine ⟨rfl, ?_⟩))
theorem shown_8 {q : Option Prop} {c : RV} {e1 n cap xt : Nat} {x y : Nat → Int} {wh : Bool} {e2 m cp xt2 : Nat} {x2 y2 : Nat → Int} {wh2 : Bool} : vcFn Try.prog noCtrs ΛShown Try.f77 [reS 8 0 c (.sl 0 2 0 n cap) (.sl 1 2 0 m cp)] (heapOf [ptB e1 n x y xt wh, ptB e2 m x2 y2 xt2 wh2]) 64 (fun y' h' => FinE [ptB e1 n x y xt wh, ptB e2 m x2 y2 xt2 wh2] (.det q (reS 8 0 (uR8 c) (nilS) (.sl 1 2 0 m cp)) []) y' h') := by
  rw [finE_post, vcShown8]
  (refine ⟨?_, trivial⟩; repeat (first | exact rfl | refine ⟨rfl, ?_⟩))
theorem shown_9 {q : Option Prop} {c : RV} {e1 n cap xt : Nat} {x y : Nat → Int} {wh : Bool} {e2 m cp xt2 : Nat} {x2 y2 : Nat → Int} {wh2 : Bool} : vcFn Try.prog noCtrs ΛShown Try.f77 [reS 9 0 c (.sl 0 2 0 n cap) (.sl 1 2 0 m cp)] (heapOf [ptB e1 n x y xt wh, ptB e2 m x2 y2 xt2 wh2]) 64 (fun y' h' => FinE [ptB e1 n x y xt wh, ptB e2 m x2 y2 xt2 wh2] (.det q (reS 9 0 (uR9 c) (nilS) (nilS)) []) y' h') := by
  rw [finE_post, vcShown9]
  refine sel_of (fun h => ?_) fun h => ?_
  · unfold uR9; rw [h]; (refine ⟨?_, trivial⟩; repeat (first | exact rfl | refine ⟨rfl, ?_⟩))
  · unfold uR9; rw [h]; (refine ⟨?_, trivial⟩; repeat (first | exact rfl | refine ⟨rfl, ?_⟩))
theorem shown_10 {q : Option Prop} {c : RV} {e1 n cap xt : Nat} {x y : Nat → Int} {wh : Bool} {e2 m cp xt2 : Nat} {x2 y2 : Nat → Int} {wh2 : Bool} : vcFn Try.prog noCtrs ΛShown Try.f77 [reS 10 0 c (.sl 0 2 0 n cap) (.sl 1 2 0 m cp)] (heapOf [ptB e1 n x y xt wh, ptB e2 m x2 y2 xt2 wh2]) 64 (fun y' h' => FinE [ptB e1 n x y xt wh, ptB e2 m x2 y2 xt2 wh2] (.det q (reS 10 0 (uR10 c) (nilS) (nilS)) []) y' h') := by
  rw [finE_post, vcShown10]
  (refine ⟨?_, trivial⟩; repeat (first | exact rfl | refine ⟨rfl, ?_⟩))
theorem shown_P {q : Option Prop} {k : Int} {a : Nat} {c : RV} {e1 n cap xt : Nat} {x y : Nat → Int} {wh : Bool} {e2 m cp xt2 : Nat} {x2 y2 : Nat → Int} {wh2 : Bool} : vcFn Try.prog noCtrs ΛShown Try.f77 [reS k (Int.ofNat (a + 1)) c (.sl 0 2 0 n cap) (.sl 1 2 0 m cp)] (heapOf [ptB e1 n x y xt wh, ptB e2 m x2 y2 xt2 wh2]) 64 (fun y' h' => FinE [ptB e1 n x y xt wh, ptB e2 m x2 y2 xt2 wh2] (.det q (reS k (Int.ofNat (a + 1)) (uRN (Int.ofNat (a + 1)) c) (nilS) (nilS)) []) y' h') := by
  rw [finE_post, vcShownP]
  refine sel_of (fun g => ?_) fun g => ?_
  · unfold uRN; rw [g]; (refine ⟨?_, trivial⟩; repeat (first | exact rfl | refine ⟨rfl, ?_⟩))
  · unfold uRN; rw [g]; (refine ⟨?_, trivial⟩; repeat (first | exact rfl | refine ⟨rfl, ?_⟩))
theorem shown_M {q : Option Prop} {k : Int} {a : Nat} {c : RV} {e1 n cap xt : Nat} {x y : Nat → Int} {wh : Bool} {e2 m cp xt2 : Nat} {x2 y2 : Nat → Int} {wh2 : Bool} : vcFn Try.prog noCtrs ΛShown Try.f77 [reS k (Int.negSucc a) c (.sl 0 2 0 n cap) (.sl 1 2 0 m cp)] (heapOf [ptB e1 n x y xt wh, ptB e2 m x2 y2 xt2 wh2]) 64 (fun y' h' => FinE [ptB e1 n x y xt wh, ptB e2 m x2 y2 xt2 wh2] (.det q (reS k (Int.negSucc a) (uRN (Int.negSucc a) c) (nilS) (nilS)) []) y' h') := by
  rw [finE_post, vcShownM]
  unfold uRN; (refine ⟨?_, trivial⟩; repeat (first | exact rfl | refine ⟨rfl, ?_⟩))
theorem Shown_spec : HpSpec Try.prog 77 sShown := hp_spec hm noCtrs_ok Try.func77 (Λ := fun _ _ => ΛShown) fun args bs e hs hp => by
  unfold sShown at hs
  split at hs
  · rename_i l
    split at hs
    · rename_i k e c n cap m cp hl
      split at hs
      · rename_i S H
        obtain ⟨hSH, ht⟩ := bif_some2' hs
        clear hs
        rw [Bool.and_eq_true] at hSH
        have hbs : ∀ hsp : spPre n S ∧ spPre m H, blksSame [S, H] [ptB S.elem n (gX S) (gY S) S.ext S.whole, ptB H.elem m (gX H) (gY H) H.ext H.whole] := fun hsp => ⟨same_ptB hSH.1 hsp.1, same_ptB hSH.2 hsp.2, trivial⟩
        cases he : e == 0 with
        | true =>
          rw [he, cond_true] at ht
          have hz : e = 0 := by simpa using he
          clear he
          subst hz
          by_cases h0 : k = 0
          · subst h0
            have hu := Option.some.inj ht
            clear ht
            subst hu
            refine ⟨[ptB S.elem n (gX S) (gY S) S.ext S.whole, ptB H.elem m (gX H) (gY H) H.ext H.whole], hbs (hp _ rfl), ?_⟩
            rw [reps_eq hl]
            exact shown_0
          rw [decide_eq_false h0, cond_false] at ht
          by_cases h1 : k = 1
          · subst h1
            have hu := Option.some.inj ht
            clear ht
            subst hu
            refine ⟨[ptB S.elem n (gX S) (gY S) S.ext S.whole, ptB H.elem m (gX H) (gY H) H.ext H.whole], hbs (hp _ rfl), ?_⟩
            rw [reps_eq hl]
            exact shown_1
          rw [decide_eq_false h1, cond_false] at ht
          by_cases h2 : k = 2
          · subst h2
            have hu := Option.some.inj ht
            clear ht
            subst hu
            refine ⟨[ptB S.elem n (gX S) (gY S) S.ext S.whole, ptB H.elem m (gX H) (gY H) H.ext H.whole], hbs (hp _ rfl), ?_⟩
            rw [reps_eq hl]
            exact shown_2
          rw [decide_eq_false h2, cond_false] at ht
          by_cases h3 : k = 3
          · subst h3
            have hu := Option.some.inj ht
            clear ht
            subst hu
            refine ⟨[ptB S.elem n (gX S) (gY S) S.ext S.whole, ptB H.elem m (gX H) (gY H) H.ext H.whole], hbs (hp _ rfl), ?_⟩
            rw [reps_eq hl]
            exact shown_3
          rw [decide_eq_false h3, cond_false] at ht
          by_cases h4 : k = 4
          · subst h4
            have hu := Option.some.inj ht
            clear ht
            subst hu
            refine ⟨[ptB S.elem n (gX S) (gY S) S.ext S.whole, ptB H.elem m (gX H) (gY H) H.ext H.whole], hbs (hp _ rfl), ?_⟩
            rw [reps_eq hl]
            exact shown_4
          rw [decide_eq_false h4, cond_false] at ht
          by_cases h5 : k = 5
          · subst h5
            have hu := Option.some.inj ht
            clear ht
            subst hu
            refine ⟨[ptB S.elem n (gX S) (gY S) S.ext S.whole, ptB H.elem m (gX H) (gY H) H.ext H.whole], hbs (hp _ rfl), ?_⟩
            rw [reps_eq hl]
            exact shown_5
          rw [decide_eq_false h5, cond_false] at ht
          by_cases h6 : k = 6
          · subst h6
            have hu := Option.some.inj ht
            clear ht
            subst hu
            refine ⟨[ptB S.elem n (gX S) (gY S) S.ext S.whole, ptB H.elem m (gX H) (gY H) H.ext H.whole], hbs (hp _ rfl), ?_⟩
            rw [reps_eq hl]
            exact shown_6
          rw [decide_eq_false h6, cond_false] at ht
          by_cases h7 : k = 7
          · subst h7
            have hu := Option.some.inj ht
            clear ht
            subst hu
            refine ⟨[ptB S.elem n (gX S) (gY S) S.ext S.whole, ptB H.elem m (gX H) (gY H) H.ext H.whole], hbs (hp _ rfl), ?_⟩
            rw [reps_eq hl]
            exact shown_7
          rw [decide_eq_false h7, cond_false] at ht
          by_cases h8 : k = 8
          · subst h8
            have hu := Option.some.inj ht
            clear ht
            subst hu
            refine ⟨[ptB S.elem n (gX S) (gY S) S.ext S.whole, ptB H.elem m (gX H) (gY H) H.ext H.whole], hbs (hp _ rfl), ?_⟩
            rw [reps_eq hl]
            exact shown_8
          rw [decide_eq_false h8, cond_false] at ht
          by_cases h9 : k = 9
          · subst h9
            have hu := Option.some.inj ht
            clear ht
            subst hu
            refine ⟨[ptB S.elem n (gX S) (gY S) S.ext S.whole, ptB H.elem m (gX H) (gY H) H.ext H.whole], hbs (hp _ rfl), ?_⟩
            rw [reps_eq hl]
            exact shown_9
          rw [decide_eq_false h9, cond_false] at ht
          by_cases h10 : k = 10
          · subst h10
            have hu := Option.some.inj ht
            clear ht
            subst hu
            refine ⟨[ptB S.elem n (gX S) (gY S) S.ext S.whole, ptB H.elem m (gX H) (gY H) H.ext H.whole], hbs (hp _ rfl), ?_⟩
            rw [reps_eq hl]
            exact shown_10
          rw [decide_eq_false h10, cond_false] at ht
          cases ht
        | false =>
          rw [he, cond_false] at ht
          have hu := Option.some.inj ht
          clear ht
          subst hu
          refine ⟨[ptB S.elem n (gX S) (gY S) S.ext S.whole, ptB H.elem m (gX H) (gY H) H.ext H.whole], hbs (hp _ rfl), ?_⟩
          rw [reps_eq hl]
          rcases e_or he with ⟨a, rfl⟩ | ⟨a, rfl⟩
          · exact shown_P
          · exact shown_M
      · cases hs
    · cases hs
  · cases hs
end Go.Proofs.Ytjdldadmaaeimaa
end
section
namespace Go.Proofs.Ytjdldadmaaeimaa
open Go.SE Go.RowKit
def mk1 (v : Int) : Bool := bits .and .i64 v 1 != 0
def mk2 (v : Int) : Bool := bits .and .i64 v 2 != 0
noncomputable def bdP (s : ByteArray) (k : Int) : Pz := (shP s (k)).seq ((psP s (shEnd s (k))).seq ((vcP s (shEnd s (k) + 8 + 1 + 8 + 1 + 8 + 1 + 8 + 1)).seq ((nuP s (shEnd s (k) + 8 + 1 + 8 + 1 + 8 + 1 + 8 + 1 + 8 + 1 + 8 + 1)).seq ((nuP s (shEnd s (k) + 8 + 1 + 8 + 1 + 8 + 1 + 8 + 1 + 8 + 1 + 8 + 1 + 8 + 1)).seq ((nuP s (shEnd s (k) + 8 + 1 + 8 + 1 + 8 + 1 + 8 + 1 + 8 + 1 + 8 + 1 + 8 + 1 + 8 + 1)).seq ((upP s (shEnd s (k) + 8 + 1 + 8 + 1 + 8 + 1 + 8 + 1 + 8 + 1 + 8 + 1 + 8 + 1 + 8 + 1 + 8 + 1) 2147483647 4).seq ((upP s (shEnd s (k) + 8 + 1 + 8 + 1 + 8 + 1 + 8 + 1 + 8 + 1 + 8 + 1 + 8 + 1 + 8 + 1 + 8 + 1 + 4) 3 1).seq (upP s (shEnd s (k) + 8 + 1 + 8 + 1 + 8 + 1 + 8 + 1 + 8 + 1 + 8 + 1 + 8 + 1 + 8 + 1 + 8 + 1 + 4 + 1) 1099511627776 8))))))))
noncomputable def bdEnd (s : ByteArray) (k : Int) : Int := shEnd s (k) + 8 + 1 + 8 + 1 + 8 + 1 + 8 + 1 + 8 + 1 + 8 + 1 + 8 + 1 + 8 + 1 + 8 + 1 + 4 + 1 + 8
noncomputable def bdV (s : ByteArray) (k : Int) : BV := ⟨(shB4 s (k)).k, (shB4 s (k)).r, (shB4 s (k)).w, (shB4 s (k)).h, rdI s (shEnd s (k)), rdF s (shEnd s (k) + 8), rdI s (shEnd s (k) + 8 + 1), rdF s (shEnd s (k) + 8 + 1 + 8), rdI s (shEnd s (k) + 8 + 1 + 8 + 1), rdF s (shEnd s (k) + 8 + 1 + 8 + 1 + 8), rdI s (shEnd s (k) + 8 + 1 + 8 + 1 + 8 + 1), rdF s (shEnd s (k) + 8 + 1 + 8 + 1 + 8 + 1 + 8), rdI s (shEnd s (k) + 8 + 1 + 8 + 1 + 8 + 1 + 8 + 1), rdF s (shEnd s (k) + 8 + 1 + 8 + 1 + 8 + 1 + 8 + 1 + 8), rdI s (shEnd s (k) + 8 + 1 + 8 + 1 + 8 + 1 + 8 + 1 + 8 + 1), rdF s (shEnd s (k) + 8 + 1 + 8 + 1 + 8 + 1 + 8 + 1 + 8 + 1 + 8), rdI s (shEnd s (k) + 8 + 1 + 8 + 1 + 8 + 1 + 8 + 1 + 8 + 1 + 8 + 1), rdF s (shEnd s (k) + 8 + 1 + 8 + 1 + 8 + 1 + 8 + 1 + 8 + 1 + 8 + 1 + 8), rdI s (shEnd s (k) + 8 + 1 + 8 + 1 + 8 + 1 + 8 + 1 + 8 + 1 + 8 + 1 + 8 + 1), rdF s (shEnd s (k) + 8 + 1 + 8 + 1 + 8 + 1 + 8 + 1 + 8 + 1 + 8 + 1 + 8 + 1 + 8), rdI s (shEnd s (k) + 8 + 1 + 8 + 1 + 8 + 1 + 8 + 1 + 8 + 1 + 8 + 1 + 8 + 1 + 8 + 1), rdF s (shEnd s (k) + 8 + 1 + 8 + 1 + 8 + 1 + 8 + 1 + 8 + 1 + 8 + 1 + 8 + 1 + 8 + 1 + 8), rdT s (shEnd s (k) + 8 + 1 + 8 + 1 + 8 + 1 + 8 + 1 + 8 + 1 + 8 + 1 + 8 + 1 + 8 + 1 + 8 + 1) 4, mk1 (rdT s (shEnd s (k) + 8 + 1 + 8 + 1 + 8 + 1 + 8 + 1 + 8 + 1 + 8 + 1 + 8 + 1 + 8 + 1 + 8 + 1 + 4) 1), mk2 (rdT s (shEnd s (k) + 8 + 1 + 8 + 1 + 8 + 1 + 8 + 1 + 8 + 1 + 8 + 1 + 8 + 1 + 8 + 1 + 8 + 1 + 4) 1), rdT s (shEnd s (k) + 8 + 1 + 8 + 1 + 8 + 1 + 8 + 1 + 8 + 1 + 8 + 1 + 8 + 1 + 8 + 1 + 8 + 1 + 4 + 1) 8⟩
noncomputable def bdE (s : ByteArray) (k : Int) : Eff := .nd (rdPre s k) Nat 0 (fun c => boS (bdV s k) (.sl 1000 2 0 (shC s k) (shC s k + c))) fun c => [(0, rdB s (bdEnd s k)), (1000, spW (shC s k) (shC s k + c) (rdSp s (shA k)))]
noncomputable def qP1 (s : ByteArray) (k : Int) : Pz := (haP s (k + 1 + 4 + 1)).seq ((upP s (k + 1 + 4 + 1 + 4 + 4) 1099511627776 8).seq (enP s (k + 1 + 4 + 1 + 4 + 4 + 8)))
noncomputable def qE1 (s : ByteArray) (k : Int) : Int := k + 1 + 4 + 1 + 4 + 4 + 8
noncomputable def qV1 (s : ByteArray) (k : Int) : RV := ⟨rdT s (k + 1) 4, rdT s (k + 1 + 4 + 1) 4, rdT s (k + 1 + 4 + 1 + 4) 4, rdT s (k + 1 + 4 + 1 + 4 + 4) 8, 0, zBV, false, 0, false, 0, false, 0, false, 0⟩
noncomputable def qP2 (s : ByteArray) (k : Int) : Pz := (haP s (k + 1 + 4 + 1)).seq (enP s (k + 1 + 4 + 1 + 4 + 4))
noncomputable def qE2 (s : ByteArray) (k : Int) : Int := k + 1 + 4 + 1 + 4 + 4
noncomputable def qV2 (s : ByteArray) (k : Int) : RV := ⟨rdT s (k + 1) 4, rdT s (k + 1 + 4 + 1) 4, rdT s (k + 1 + 4 + 1 + 4) 4, 0, 0, zBV, false, 0, false, 0, false, 0, false, 0⟩
noncomputable def qP3 (s : ByteArray) (k : Int) : Pz := (haP s (k + 1 + 4 + 1)).seq ((upP s (k + 1 + 4 + 1 + 4 + 4) 1099511627776 8).seq (enP s (k + 1 + 4 + 1 + 4 + 4 + 8)))
noncomputable def qE3 (s : ByteArray) (k : Int) : Int := k + 1 + 4 + 1 + 4 + 4 + 8
noncomputable def qV3 (s : ByteArray) (k : Int) : RV := ⟨rdT s (k + 1) 4, rdT s (k + 1 + 4 + 1) 4, rdT s (k + 1 + 4 + 1 + 4) 4, rdT s (k + 1 + 4 + 1 + 4 + 4) 8, 0, zBV, false, 0, false, 0, false, 0, false, 0⟩
noncomputable def qP4 (s : ByteArray) (k : Int) : Pz := (haP s (k + 1 + 4 + 1)).seq ((upP s (k + 1 + 4 + 1 + 4 + 4) 1099511627776 8).seq ((upP s (k + 1 + 4 + 1 + 4 + 4 + 8) 2147483647 4).seq (enP s (k + 1 + 4 + 1 + 4 + 4 + 8 + 4))))
noncomputable def qE4 (s : ByteArray) (k : Int) : Int := k + 1 + 4 + 1 + 4 + 4 + 8 + 4
noncomputable def qV4 (s : ByteArray) (k : Int) : RV := ⟨rdT s (k + 1) 4, rdT s (k + 1 + 4 + 1) 4, rdT s (k + 1 + 4 + 1 + 4) 4, rdT s (k + 1 + 4 + 1 + 4 + 4) 8, rdT s (k + 1 + 4 + 1 + 4 + 4 + 8) 4, zBV, false, 0, false, 0, false, 0, false, 0⟩
noncomputable def qP5 (s : ByteArray) (k : Int) : Pz := (upP s (k + 1 + 4 + 1) 2147483647 4).seq (enP s (k + 1 + 4 + 1 + 4))
noncomputable def qE5 (s : ByteArray) (k : Int) : Int := k + 1 + 4 + 1 + 4
noncomputable def qV5 (s : ByteArray) (k : Int) : RV := ⟨rdT s (k + 1) 4, 0, 0, 0, rdT s (k + 1 + 4 + 1) 4, zBV, false, 0, false, 0, false, 0, false, 0⟩
noncomputable def qP6 (s : ByteArray) (k : Int) : Pz := (upP s (k + 1 + 4 + 1) 2147483647 4).seq (enP s (k + 1 + 4 + 1 + 4))
noncomputable def qE6 (s : ByteArray) (k : Int) : Int := k + 1 + 4 + 1 + 4
noncomputable def qV6 (s : ByteArray) (k : Int) : RV := ⟨rdT s (k + 1) 4, 0, 0, 0, rdT s (k + 1 + 4 + 1) 4, zBV, false, 0, false, 0, false, 0, false, 0⟩
noncomputable def qP7 (s : ByteArray) (k : Int) : Pz := (haP s (k + 1 + 4 + 1)).seq ((bdP s (k + 1 + 4 + 1 + 4 + 4)).seq (enP s (bdEnd s (k + 1 + 4 + 1 + 4 + 4))))
noncomputable def qE7 (s : ByteArray) (k : Int) : Int := bdEnd s (k + 1 + 4 + 1 + 4 + 4)
noncomputable def qV7 (s : ByteArray) (k : Int) : RV := ⟨rdT s (k + 1) 4, rdT s (k + 1 + 4 + 1) 4, rdT s (k + 1 + 4 + 1 + 4) 4, 0, 0, bdV s (k + 1 + 4 + 1 + 4 + 4), false, 0, false, 0, false, 0, false, 0⟩
noncomputable def rayP (s : ByteArray) (k : Int) : Pz := ⟨!(rdF s (k + 1 + 4 + 1 + 4 + 4) || ((rdI s (k + 1 + 4 + 1 + 4 + 4 + 1) == 0 && rdF s (k + 1 + 4 + 1 + 4 + 4 + 1 + 8) == false && (rdI s (k + 1 + 4 + 1 + 4 + 4 + 1 + 8 + 1) == 0 && rdF s (k + 1 + 4 + 1 + 4 + 4 + 1 + 8 + 1 + 8) == false && (rdI s (k + 1 + 4 + 1 + 4 + 4 + 1 + 8 + 1 + 8 + 1) == 0 && rdF s (k + 1 + 4 + 1 + 4 + 4 + 1 + 8 + 1 + 8 + 1 + 8) == false))) && (rdT s (k + 1 + 4 + 1) 4 == 0 && rdT s (k + 1 + 4 + 1 + 4) 4 == 0))), 4⟩
noncomputable def qP9 (s : ByteArray) (k : Int) : Pz := (haP s (k + 1 + 4 + 1)).seq ((upP s (k + 1 + 4 + 1 + 4 + 4) 1 1).seq ((nuP s (k + 1 + 4 + 1 + 4 + 4 + 1)).seq ((vcP s (k + 1 + 4 + 1 + 4 + 4 + 1 + 8 + 1)).seq ((rayP s k).seq (enP s (k + 1 + 4 + 1 + 4 + 4 + 1 + 8 + 1 + 8 + 1 + 8 + 1))))))
noncomputable def qE9 (s : ByteArray) (k : Int) : Int := k + 1 + 4 + 1 + 4 + 4 + 1 + 8 + 1 + 8 + 1 + 8 + 1
noncomputable def qV9 (s : ByteArray) (k : Int) : RV := ⟨rdT s (k + 1) 4, rdT s (k + 1 + 4 + 1) 4, rdT s (k + 1 + 4 + 1 + 4) 4, 0, 0, zBV, rdF s (k + 1 + 4 + 1 + 4 + 4), rdI s (k + 1 + 4 + 1 + 4 + 4 + 1), rdF s (k + 1 + 4 + 1 + 4 + 4 + 1 + 8), rdI s (k + 1 + 4 + 1 + 4 + 4 + 1 + 8 + 1), rdF s (k + 1 + 4 + 1 + 4 + 4 + 1 + 8 + 1 + 8), rdI s (k + 1 + 4 + 1 + 4 + 4 + 1 + 8 + 1 + 8 + 1), rdF s (k + 1 + 4 + 1 + 4 + 4 + 1 + 8 + 1 + 8 + 1 + 8), 0⟩
noncomputable def qP10 (s : ByteArray) (k : Int) : Pz := (upP s (k + 1 + 4 + 1) 2147483647 4).seq (enP s (k + 1 + 4 + 1 + 4))
noncomputable def qE10 (s : ByteArray) (k : Int) : Int := k + 1 + 4 + 1 + 4
noncomputable def qV10 (s : ByteArray) (k : Int) : RV := ⟨rdT s (k + 1) 4, 0, 0, 0, 0, zBV, false, 0, false, 0, false, 0, false, rdT s (k + 1 + 4 + 1) 4⟩
def hdC (s : ByteArray) (k : Int) : Nat := (rdT s (k + 1 + 4 + 1) 1).toNat
def hdsP (s : ByteArray) (k : Int) : Nat → Pz
  | 0 => ⟨false, 0⟩
  | i + 1 => (hdsP s k i).seq (haP s (k + 8 * (i : Int)))
def rdHd (s : ByteArray) (k : Int) : Nat → Int × Int := fun i => (rdT s (k + 8 * (i : Int)) 4, rdT s (k + 8 * (i : Int) + 4) 4)
def hdW (n c : Nat) (g : Nat → Int × Int) : Blk := { elem := 32, size := 2, rw := true, lock := false, lit := false, flat := true, n := n, row := rowsP g, ext := c }
noncomputable def qP8 (s : ByteArray) (k : Int) : Pz := (upP s (k + 1 + 4 + 1) 64 1).seq ((hdsP s (k + 1 + 4 + 1 + 1) (hdC s k)).seq (enP s (k + 1 + 4 + 1 + 1 + 8 * (hdC s k : Int))))
noncomputable def qE8 (s : ByteArray) (k : Int) : Int := k + 1 + 4 + 1 + 1 + 8 * (hdC s k : Int)
noncomputable def qV8 (s : ByteArray) (k : Int) : RV := ⟨rdT s (k + 1) 4, 0, 0, 0, 0, zBV, false, 0, false, 0, false, 0, false, 0⟩
def rpA (s : ByteArray) (k : Int) : Int := bif rdT s (k + 1 + 4) 1 == 14 then k + 1 + 4 + 1 + 8 else k + 1 + 4 + 1
noncomputable def qPN (s : ByteArray) (k : Int) : Pz := bif rdT s (k + 1 + 4) 1 == 14 then (upP s (k + 1 + 4 + 1) 1099511627776 8).seq (enP s (k + 1 + 4 + 1 + 8)) else enP s (k + 1 + 4 + 1)
def vrN (s : ByteArray) (k : Int) : Int := bif rdT s (k + 1 + 4) 1 == 14 then rdT s (k + 1 + 4 + 1) 8 else 0
noncomputable def qVN (s : ByteArray) (k : Int) : RV := ⟨rdT s (k + 1) 4, 0, 0, vrN s k, 0, zBV, false, 0, false, 0, false, 0, false, 0⟩
noncomputable def rpR (s : ByteArray) (k : Int) : Pz := bif rdT s (k + 1 + 4) 1 == 0 then (bif rdT s k 1 == 1 then qP1 s k else (bif rdT s k 1 == 2 then qP2 s k else (bif rdT s k 1 == 3 then qP3 s k else (bif rdT s k 1 == 4 then qP4 s k else (bif rdT s k 1 == 5 then qP5 s k else (bif rdT s k 1 == 6 then qP6 s k else (bif rdT s k 1 == 7 then qP7 s k else (bif rdT s k 1 == 8 then qP8 s k else (bif rdT s k 1 == 9 then qP9 s k else (qP10 s k)))))))))) else qPN s k
noncomputable def rpV (s : ByteArray) (k : Int) : RV := bif rdT s (k + 1 + 4) 1 == 0 then (bif rdT s k 1 == 1 then qV1 s k else (bif rdT s k 1 == 2 then qV2 s k else (bif rdT s k 1 == 3 then qV3 s k else (bif rdT s k 1 == 4 then qV4 s k else (bif rdT s k 1 == 5 then qV5 s k else (bif rdT s k 1 == 6 then qV6 s k else (bif rdT s k 1 == 7 then qV7 s k else (bif rdT s k 1 == 8 then qV8 s k else (bif rdT s k 1 == 9 then qV9 s k else (qV10 s k)))))))))) else qVN s k
noncomputable def rpEnd (s : ByteArray) (k : Int) : Int := bif rdT s (k + 1 + 4) 1 == 0 then (bif rdT s k 1 == 1 then qE1 s k else (bif rdT s k 1 == 2 then qE2 s k else (bif rdT s k 1 == 3 then qE3 s k else (bif rdT s k 1 == 4 then qE4 s k else (bif rdT s k 1 == 5 then qE5 s k else (bif rdT s k 1 == 6 then qE6 s k else (bif rdT s k 1 == 7 then qE7 s k else (bif rdT s k 1 == 8 then qE8 s k else (bif rdT s k 1 == 9 then qE9 s k else (qE10 s k)))))))))) else rpA s k
def rpN (s : ByteArray) (k : Int) : Nat := bif rdT s (k + 1 + 4) 1 == 0 && rdT s k 1 == 7 then shC s (k + 1 + 4 + 1 + 4 + 4) else 0
def rpM (s : ByteArray) (k : Int) : Nat := bif rdT s (k + 1 + 4) 1 == 0 && rdT s k 1 == 8 then hdC s k else 0
noncomputable def rpSp (s : ByteArray) (k : Int) : Nat → Int × Int := rdSp s (shA (k + 1 + 4 + 1 + 4 + 4))
def rpHd (s : ByteArray) (k : Int) : Nat → Int × Int := rdHd s (k + 1 + 4 + 1 + 1)
def n1P (s : ByteArray) (k : Int) : Pz := ⟨!(rdT s k 1 != 0 || rdT s (k + 1) 4 == 0), 4⟩
def n2P (s : ByteArray) (k : Int) : Pz := ⟨!(rdT s k 1 != 0 || (rdT s (k + 1 + 4) 1 != 0 && rdT s (k + 1 + 4) 1 != 14)), 4⟩
noncomputable def rpP (s : ByteArray) (k : Int) : Pz := (kiP s k 0).seq ((upP s (k + 1) 2147483647 4).seq ((n1P s k).seq ((upP s (k + 1 + 4) 14 1).seq ((n2P s k).seq (rpR s k)))))
structure RC where
  a : Nat
  b : Nat
noncomputable def rpE (s : ByteArray) (k : Int) : Eff := .nd (rdPre s k) RC ⟨0, 0⟩ (fun c => reS (rdT s k 1) (rdT s (k + 1 + 4) 1) (rpV s k) (.sl 1000 2 0 (rpN s k) (rpN s k + c.a)) (.sl 1001 2 0 (rpM s k) (rpM s k + c.b))) fun c => [(0, rdB s (rpEnd s k)), (1000, spW (rpN s k) (rpN s k + c.a) (rpSp s k)), (1001, hdW (rpM s k) (rpM s k + c.b) (rpHd s k))]
def zRV : RV := ⟨0, 0, 0, 0, 0, zBV, false, 0, false, 0, false, 0, false, 0⟩
def aggL : SV → List SV
  | .agg l => l
  | _ => []
def rv1 (s : ByteArray) (k : Int) (v : Int) : RV := ⟨rdT s (k + 1) 4, 0, 0, v, 0, zBV, false, 0, false, 0, false, 0, false, 0⟩
def rep0 (s : ByteArray) (k : Int) (e : Int) (v : Int) (H : SV) : Blk := varBlk 64 (aggL (reS (rdT s k 1) e (rv1 s k v) nilS H))
noncomputable def ΛRp (s : ByteArray) (k : Int) : Nat → Option LoopSpec := addPr (addLoopN (addCut (addCut (addCut noΛ Try.f91 3 9 Nat (fun _ => (n1P s k).bad = false) [] [(0, fun _ => rdB s (k + 1 + 4)), (64, fun _ => rep0 s k 0 0 nilS)]) Try.f91 5 14 Nat (fun _ => (n2P s k).bad = false) [] [(0, fun _ => rdB s (k + 1 + 4 + 1)), (64, fun _ => rep0 s k (rdT s (k + 1 + 4) 1) 0 nilS)]) Try.f91 6 7 Nat (fun _ => (rdT s (k + 1 + 4) 1 = 14 → (upP s (k + 1 + 4 + 1) 1099511627776 8).bad = false)) [] [(0, fun _ => rdB s (rpA s k)), (64, fun _ => rep0 s k (rdT s (k + 1 + 4) 1) (vrN s k) nilS)]) Try.f91 1 SX (fun x => x.i ≤ hdC s k ∧ (hdsP s (k + 1 + 4 + 1 + 1) x.i).bad = false ∧ x.i ≤ x.c) (fun x => hdC s k - x.i) [(92, fun x => .v (.int .i64 (x.i : Int)))] [(0, fun x => rdB s (k + 1 + 4 + 1 + 1 + 8 * (x.i : Int))), (64, fun x => rep0 s k (rdT s (k + 1 + 4) 1) (vrN s k) (.sl 40 2 0 x.i x.c))] [(40, fun x => hdW x.i x.c (rdHd s (k + 1 + 4 + 1 + 1)), inVar 64 34)]) 31 [(1, fun _ => 64), (3, fun _ => 0)]
noncomputable def ΓT8 : Ctrs := addCtr (addCtr (addCtr ΓT6 122 (ctrTe shE shP)) 120 (ctrTd tKind pKind)) 131 (ctrTd (t0 xEnd) (p0 enP))
noncomputable def ΓT9 : Ctrs := addCtr ΓT8 92 (ctrTe bdE bdP)
@[reducible] noncomputable def vcBodyT_1 (s : ByteArray) (k : Int) := (Prod.snd (xNum s (Prod.snd (xNum s (Prod.snd (xNum s (Prod.snd (xVec s (Prod.snd (xPose s (shEnd s k)))))))))))
@[reducible] noncomputable def vcBodyT_2 (s : ByteArray) (k : Int) := (Prod.snd (xNum s (Prod.snd (xVec s (Prod.snd (xPose s (shEnd s k)))))))
@[reducible] noncomputable def vcBodyT_3 (s : ByteArray) (k : Int) := (SV.v (Value.iface 169 (Value.agg #[.int .i64 (Pz.er (bdP s k))])))
theorem vcBodyT (s : ByteArray) (k : Int) : (vcFnP Try.prog ΓT8 noΛ Try.f92 [.vp 0 0] (heapOf [rdB s k]) 64 (fun y h' => (bdP s k).bad = false∧FinE [rdB s k] (bdE s k) y h') (fun y h' => (bdP s k).bad = true∧FinE [rdB s k] (.det none (pE (bdP s k).er) [(0,killed (rdB s k))]) y h')) =
(sel (Pz.bad (shP s k)) ((rdPre s k)∧((Pz.bad (bdP s k) = true)∧(((SV.v (Value.iface 169 (Value.agg #[.int .i64 (Pz.er (shP s k))]))) = (vcBodyT_3 s k))∧True))) ((rdPre s k)∧(∀ c : Nat,(sel (Pz.bad (psP s (shEnd s k))) (((rdPre s (shEnd s k))∧True)∧((Pz.bad (bdP s k) = true)∧(((SV.v (Value.iface 169 (Value.agg #[.int .i64 (Pz.er (p0 psP [] s (shEnd s k)))]))) = (vcBodyT_3 s k))∧True))) (((rdPre s (shEnd s k))∧True)∧(sel (Pz.bad (vcP s (Prod.snd (xPose s (shEnd s k))))) (((rdPre s (Prod.snd (xPose s (shEnd s k))))∧True)∧((Pz.bad (bdP s k) = true)∧(((SV.v (Value.iface 169 (Value.agg #[.int .i64 (Pz.er (p0 vcP [] s (Prod.snd (xPose s (shEnd s k)))))]))) = (vcBodyT_3 s k))∧True))) (((rdPre s (Prod.snd (xPose s (shEnd s k))))∧True)∧(sel (Pz.bad (nuP s (Prod.snd (xVec s (Prod.snd (xPose s (shEnd s k))))))) (((rdPre s (Prod.snd (xVec s (Prod.snd (xPose s (shEnd s k))))))∧True)∧((Pz.bad (bdP s k) = true)∧(((SV.v (Value.iface 169 (Value.agg #[.int .i64 (Pz.er (p0 nuP [] s (Prod.snd (xVec s (Prod.snd (xPose s (shEnd s k)))))))]))) = (vcBodyT_3 s k))∧True))) (((rdPre s (Prod.snd (xVec s (Prod.snd (xPose s (shEnd s k))))))∧True)∧(sel (Pz.bad (nuP s (vcBodyT_2 s k))) (((rdPre s (vcBodyT_2 s k))∧True)∧((Pz.bad (bdP s k) = true)∧(((SV.v (Value.iface 169 (Value.agg #[.int .i64 (Pz.er (p0 nuP [] s (vcBodyT_2 s k)))]))) = (vcBodyT_3 s k))∧True))) (((rdPre s (vcBodyT_2 s k))∧True)∧(sel (Pz.bad (nuP s (Prod.snd (xNum s (vcBodyT_2 s k))))) (((rdPre s (Prod.snd (xNum s (vcBodyT_2 s k))))∧True)∧((Pz.bad (bdP s k) = true)∧(((SV.v (Value.iface 169 (Value.agg #[.int .i64 (Pz.er (p0 nuP [] s (Prod.snd (xNum s (vcBodyT_2 s k)))))]))) = (vcBodyT_3 s k))∧True))) (((rdPre s (Prod.snd (xNum s (vcBodyT_2 s k))))∧True)∧(sel (Pz.bad (pCount s (vcBodyT_1 s k))) (((rdPre s (vcBodyT_1 s k))∧True)∧((Pz.bad (bdP s k) = true)∧(((SV.v (Value.iface 169 (Value.agg #[.int .i64 (Pz.er (p0 pCount [] s (vcBodyT_1 s k)))]))) = (vcBodyT_3 s k))∧True))) (((rdPre s (vcBodyT_1 s k))∧True)∧(sel (Pz.bad (upP s (Prod.snd (xCount s (vcBodyT_1 s k))) 3 1)) (((rdPre s (Prod.snd (xCount s (vcBodyT_1 s k))))∧((((0 : Int) ≤ 1)∧((1 : Int) ≤ 8))∧((3 : Int) ≤ 1099511627776)))∧((Pz.bad (bdP s k) = true)∧(((SV.v (Value.iface 169 (Value.agg #[.int .i64 (Pz.er (pUpto [SV.v (.int .u64 3),iV 1] s (Prod.snd (xCount s (vcBodyT_1 s k)))))]))) = (vcBodyT_3 s k))∧True))) (((rdPre s (Prod.snd (xCount s (vcBodyT_1 s k))))∧((((0 : Int) ≤ 1)∧((1 : Int) ≤ 8))∧((3 : Int) ≤ 1099511627776)))∧(sel (Pz.bad (pVer s (Prod.snd (xCount s (vcBodyT_1 s k)) + 1))) (((rdPre s (Prod.snd (xCount s (vcBodyT_1 s k)) + 1))∧True)∧((Pz.bad (bdP s k) = true)∧(((SV.v (Value.iface 169 (Value.agg #[.int .i64 (Pz.er (p0 pVer [] s (Prod.snd (xCount s (vcBodyT_1 s k)) + 1)))]))) = (vcBodyT_3 s k))∧True))) (((rdPre s (Prod.snd (xCount s (vcBodyT_1 s k)) + 1))∧True)∧((Pz.bad (bdP s k) = false)∧(∃ c_1 : Nat,((((iV (ShB.k (shB4 s k))) = (iV (BV.sk (bdV s k))))∧(((iV (ShB.r (shB4 s k))) = (iV (BV.sr (bdV s k))))∧(((iV (ShB.w (shB4 s k))) = (iV (BV.sw (bdV s k))))∧(((iV (ShB.h (shB4 s k))) = (iV (BV.sh (bdV s k))))∧(((SV.sl 80 2 0 (shC s k) (shC s k + c)) = (SV.sl 80 2 0 (shC s k) (shC s k + c_1)))∧(((iV (rdI s (shEnd s k))) = (iV (BV.p0v (bdV s k))))∧(((bV (rdF s (shEnd s k + 8))) = (bV (BV.p0f (bdV s k))))∧(((iV (rdI s (shEnd s k + 8 + 1))) = (iV (BV.p1v (bdV s k))))∧(((bV (rdF s (shEnd s k + 8 + 1 + 8))) = (bV (BV.p1f (bdV s k))))∧(((iV (rdI s (shEnd s k + 8 + 1 + 8 + 1))) = (iV (BV.p2v (bdV s k))))∧(((bV (rdF s (shEnd s k + 8 + 1 + 8 + 1 + 8))) = (bV (BV.p2f (bdV s k))))∧(((iV (rdI s (shEnd s k + 8 + 1 + 8 + 1 + 8 + 1))) = (iV (BV.p3v (bdV s k))))∧(((bV (rdF s (shEnd s k + 8 + 1 + 8 + 1 + 8 + 1 + 8))) = (bV (BV.p3f (bdV s k))))∧(((iV (rdI s (Prod.snd (xPose s (shEnd s k))))) = (iV (BV.v0v (bdV s k))))∧(((bV (rdF s (Prod.snd (xPose s (shEnd s k)) + 8))) = (bV (BV.v0f (bdV s k))))∧(((iV (rdI s (Prod.snd (xPose s (shEnd s k)) + 8 + 1))) = (iV (BV.v1v (bdV s k))))∧(((bV (rdF s (Prod.snd (xPose s (shEnd s k)) + 8 + 1 + 8))) = (bV (BV.v1f (bdV s k))))∧(((iV (rdI s (Prod.snd (xVec s (Prod.snd (xPose s (shEnd s k))))))) = (iV (BV.w0v (bdV s k))))∧(((bV (rdF s (Prod.snd (xVec s (Prod.snd (xPose s (shEnd s k)))) + 8))) = (bV (BV.w0f (bdV s k))))∧(((iV (rdI s (vcBodyT_2 s k))) = (iV (BV.m0v (bdV s k))))∧(((bV (rdF s (Prod.snd (xNum s (Prod.snd (xVec s (Prod.snd (xPose s (shEnd s k)))))) + 8))) = (bV (BV.m0f (bdV s k))))∧(((iV (rdI s (Prod.snd (xNum s (vcBodyT_2 s k))))) = (iV (BV.m1v (bdV s k))))∧(((bV (rdF s (Prod.snd (xNum s (vcBodyT_2 s k)) + 8))) = (bV (BV.m1f (bdV s k))))∧(((iV (rdT s (vcBodyT_1 s k) 4)) = (iV (BV.st (bdV s k))))∧(((bV (bits BinOp.and IntKind.i64 (rdT s (Prod.snd (xCount s (vcBodyT_1 s k))) 1) 1 != 0)) = (bV (BV.asl (bdV s k))))∧(((bV (bits BinOp.and IntKind.i64 (rdT s (Prod.snd (xCount s (vcBodyT_1 s k))) 1) 2 != 0)) = (bV (BV.flt (bdV s k))))∧((iV (rdT s (Prod.snd (xCount s (vcBodyT_1 s k)) + 1) 8)) = (iV (BV.bv (bdV s k))))))))))))))))))))))))))))))∧((((1 : Nat) = 1)∧(((1 : Nat) ≤ 1)∧(∀ i : Nat,(((i : Nat) < 1)→([(SV.v (.string s)),(iV (Prod.snd (xVer s (Prod.snd (xCount s (vcBodyT_1 s k)) + 1))))] = [(SV.v (.string s)),(iV (bdEnd s k))])))))∧((((shC s k) : Nat) = (shC s k))∧((((shC s k + c_1) : Nat) ≤ (shC s k + c))∧(∀ i : Nat,(((i : Nat) < (shC s k))→([(iV (Prod.fst (rdSp s (shA k) i))),(iV (Prod.snd (rdSp s (shA k) i)))] = [(iV (Prod.fst (rdSp s (shA k) i))),(iV (Prod.snd (rdSp s (shA k) i)))])))))))))))))))))))))))))))) := by kernel_rfl
@[reducible] noncomputable def vcReplyT_1 (s : ByteArray) (k : Int) (T_ : Prop) : Prop := ((iV (BV.p0v (RV.o (rv1 s k (vrN s k))))) = (iV (BV.p0v (RV.o (rpV s k)))))∧(((bV false) = (bV (BV.p0f (RV.o (rpV s k)))))∧(((iV (BV.p1v (RV.o (rv1 s k (vrN s k))))) = (iV (BV.p1v (RV.o (rpV s k)))))∧(((bV false) = (bV (BV.p1f (RV.o (rpV s k)))))∧(((iV (BV.p2v (RV.o (rv1 s k (vrN s k))))) = (iV (BV.p2v (RV.o (rpV s k)))))∧(((bV false) = (bV (BV.p2f (RV.o (rpV s k)))))∧(((iV (BV.p3v (RV.o (rv1 s k (vrN s k))))) = (iV (BV.p3v (RV.o (rpV s k)))))∧(((bV false) = (bV (BV.p3f (RV.o (rpV s k)))))∧(((iV (BV.v0v (RV.o (rv1 s k (vrN s k))))) = (iV (BV.v0v (RV.o (rpV s k)))))∧(((bV false) = (bV (BV.v0f (RV.o (rpV s k)))))∧(((iV (BV.v1v (RV.o (rv1 s k (vrN s k))))) = (iV (BV.v1v (RV.o (rpV s k)))))∧(((bV false) = (bV (BV.v1f (RV.o (rpV s k)))))∧(((iV (BV.w0v (RV.o (rv1 s k (vrN s k))))) = (iV (BV.w0v (RV.o (rpV s k)))))∧(((bV false) = (bV (BV.w0f (RV.o (rpV s k)))))∧(((iV (BV.m0v (RV.o (rv1 s k (vrN s k))))) = (iV (BV.m0v (RV.o (rpV s k)))))∧(((bV false) = (bV (BV.m0f (RV.o (rpV s k)))))∧(((iV (BV.m1v (RV.o (rv1 s k (vrN s k))))) = (iV (BV.m1v (RV.o (rpV s k)))))∧(((bV false) = (bV (BV.m1f (RV.o (rpV s k)))))∧(((iV (BV.st (RV.o (rv1 s k (vrN s k))))) = (iV (BV.st (RV.o (rpV s k)))))∧(((bV false) = (bV (BV.asl (RV.o (rpV s k)))))∧(((bV false) = (bV (BV.flt (RV.o (rpV s k)))))∧(((iV (BV.bv (RV.o (rv1 s k (vrN s k))))) = (iV (BV.bv (RV.o (rpV s k)))))∧(T_))))))))))))))))))))))
@[reducible] noncomputable def vcReplyT_2 (s : ByteArray) (k : Int) := [(iV (rdT s k 1)),(iV (RV.id (rv1 s k 0))),(iV (rdT s (k + 1 + 4) 1)),(iV (RV.bs (rv1 s k 0))),(iV (RV.bg (rv1 s k 0))),(iV (RV.ver (rv1 s k 0))),(iV (RV.gr (rv1 s k 0))),(iV (BV.sk (RV.o (rv1 s k 0)))),(iV (BV.sr (RV.o (rv1 s k 0)))),(iV (BV.sw (RV.o (rv1 s k 0)))),(iV (BV.sh (RV.o (rv1 s k 0)))),zS,(iV (BV.p0v (RV.o (rv1 s k 0)))),(bV false),(iV (BV.p1v (RV.o (rv1 s k 0)))),(bV false),(iV (BV.p2v (RV.o (rv1 s k 0)))),(bV false),(iV (BV.p3v (RV.o (rv1 s k 0)))),(bV false),(iV (BV.v0v (RV.o (rv1 s k 0)))),(bV false),(iV (BV.v1v (RV.o (rv1 s k 0)))),(bV false),(iV (BV.w0v (RV.o (rv1 s k 0)))),(bV false),(iV (BV.m0v (RV.o (rv1 s k 0)))),(bV false),(iV (BV.m1v (RV.o (rv1 s k 0)))),(bV false),(iV (BV.st (RV.o (rv1 s k 0)))),(bV false),(bV false),(iV (BV.bv (RV.o (rv1 s k 0)))),zS,(bV false),(iV (RV.htv (rv1 s k 0))),(bV false),(iV (RV.x0v (rv1 s k 0))),(bV false),(iV (RV.x1v (rv1 s k 0))),(bV false),(iV (RV.cnt (rv1 s k 0)))]
@[reducible] noncomputable def vcReplyT_3 (s : ByteArray) (k : Int) := (((bV false) = (bV (RV.hit (rpV s k))))∧(((iV (RV.htv (rv1 s k (vrN s k)))) = (iV (RV.htv (rpV s k))))∧(((bV false) = (bV (RV.htf (rpV s k))))∧(((iV (RV.x0v (rv1 s k (vrN s k)))) = (iV (RV.x0v (rpV s k))))∧(((bV false) = (bV (RV.x0f (rpV s k))))∧(((iV (RV.x1v (rv1 s k (vrN s k)))) = (iV (RV.x1v (rpV s k))))∧(((bV false) = (bV (RV.x1f (rpV s k))))∧((iV (RV.cnt (rv1 s k (vrN s k)))) = (iV (RV.cnt (rpV s k)))))))))))
@[reducible] noncomputable def vcReplyT_4 (s : ByteArray) (k : Int) (T_ : Prop) : Prop := ((iV (BV.sk (RV.o (rv1 s k (vrN s k))))) = (iV (BV.sk (RV.o (rpV s k)))))∧(((iV (BV.sr (RV.o (rv1 s k (vrN s k))))) = (iV (BV.sr (RV.o (rpV s k)))))∧(((iV (BV.sw (RV.o (rv1 s k (vrN s k))))) = (iV (BV.sw (RV.o (rpV s k)))))∧(((iV (BV.sh (RV.o (rv1 s k (vrN s k))))) = (iV (BV.sh (RV.o (rpV s k)))))∧(T_))))
@[reducible] noncomputable def vcReplyT_5 (s : ByteArray) (k : Int) := (sel (Pz.bad (enP s (Prod.snd (xVec s (Prod.snd (xNum s (Prod.snd (xFlag s (Prod.snd (xHandle s (rpA s k))))))))))) (((rdPre s (Prod.snd (xVec s (Prod.snd (xNum s (Prod.snd (xFlag s (Prod.snd (xHandle s (rpA s k))))))))))∧True)∧((Pz.bad (rpP s k) = true)∧(((SV.v (Value.iface 169 (Value.agg #[.int .i64 (Pz.er (p0 enP [] s (Prod.snd (xVec s (Prod.snd (xNum s (Prod.snd (xFlag s (Prod.snd (xHandle s (rpA s k)))))))))))]))) = (SV.v (Value.iface 169 (Value.agg #[.int .i64 (Pz.er (rpP s k))]))))∧True))) (((rdPre s (Prod.snd (xVec s (Prod.snd (xNum s (Prod.snd (xFlag s (Prod.snd (xHandle s (rpA s k))))))))))∧True)∧((Pz.bad (rpP s k) = false)∧(∃ c : RC,((((iV (rdT s k 1)) = (iV (rdT s k 1)))∧(((iV (RV.id (rv1 s k (vrN s k)))) = (iV (RV.id (rpV s k))))∧(((iV (rdT s (k + 1 + 4) 1)) = (iV (rdT s (k + 1 + 4) 1)))∧(((iV (rdT s (rpA s k) 4)) = (iV (RV.bs (rpV s k))))∧(((iV (rdT s (rpA s k + 4) 4)) = (iV (RV.bg (rpV s k))))∧(((iV (RV.ver (rv1 s k (vrN s k)))) = (iV (RV.ver (rpV s k))))∧(((iV (RV.gr (rv1 s k (vrN s k)))) = (iV (RV.gr (rpV s k))))∧(vcReplyT_4 s k (((zS = zS)∧(((0 : Nat) = 0)∧((((rpN s k) : Nat) = 0)∧(((rpN s k + RC.a c) : Nat) = 0))))∧(vcReplyT_1 s k (((zS = zS)∧(((0 : Nat) = 0)∧((((rpM s k) : Nat) = 0)∧(((rpM s k + RC.b c) : Nat) = 0))))∧(((bV (rdF s (Prod.snd (xHandle s (rpA s k))))) = (bV (RV.hit (rpV s k))))∧(((iV (rdI s (Prod.snd (xFlag s (Prod.snd (xHandle s (rpA s k))))))) = (iV (RV.htv (rpV s k))))∧(((bV (rdF s (Prod.snd (xFlag s (Prod.snd (xHandle s (rpA s k)))) + 8))) = (bV (RV.htf (rpV s k))))∧(((iV (rdI s (Prod.snd (xNum s (Prod.snd (xFlag s (Prod.snd (xHandle s (rpA s k))))))))) = (iV (RV.x0v (rpV s k))))∧(((bV (rdF s (Prod.snd (xNum s (Prod.snd (xFlag s (Prod.snd (xHandle s (rpA s k)))))) + 8))) = (bV (RV.x0f (rpV s k))))∧(((iV (rdI s (Prod.snd (xNum s (Prod.snd (xFlag s (Prod.snd (xHandle s (rpA s k)))))) + 8 + 1))) = (iV (RV.x1v (rpV s k))))∧(((bV (rdF s (Prod.snd (xNum s (Prod.snd (xFlag s (Prod.snd (xHandle s (rpA s k)))))) + 8 + 1 + 8))) = (bV (RV.x1f (rpV s k))))∧((iV (RV.cnt (rv1 s k (vrN s k)))) = (iV (RV.cnt (rpV s k))))))))))))))))))))))∧((((1 : Nat) = 1)∧(((1 : Nat) ≤ 1)∧(∀ i : Nat,(((i : Nat) < 1)→([(SV.v (.string s)),(iV (Prod.snd (xEnd s (Prod.snd (xVec s (Prod.snd (xNum s (Prod.snd (xFlag s (Prod.snd (xHandle s (rpA s k))))))))))))] = [(SV.v (.string s)),(iV (rpEnd s k))])))))∧(((((rpN s k) : Nat) = 0)∧((((rpN s k + RC.a c) : Nat) = 0)∧True))∧(((((rpM s k) : Nat) = 0)∧((((rpM s k + RC.b c) : Nat) = 0)∧True))∧True))))))))
@[reducible] noncomputable def vcReplyT_6 (s : ByteArray) (k : Int) := (sel (Pz.bad (haP s (rpA s k))) (((rdPre s (rpA s k))∧True)∧((Pz.bad (rpP s k) = true)∧(((SV.v (Value.iface 169 (Value.agg #[.int .i64 (Pz.er (p0 haP [] s (rpA s k)))]))) = (SV.v (Value.iface 169 (Value.agg #[.int .i64 (Pz.er (rpP s k))]))))∧True))) (((rdPre s (rpA s k))∧True)∧(sel (Pz.bad (pVer s (Prod.snd (xHandle s (rpA s k))))) (((rdPre s (Prod.snd (xHandle s (rpA s k))))∧True)∧((Pz.bad (rpP s k) = true)∧(((SV.v (Value.iface 169 (Value.agg #[.int .i64 (Pz.er (p0 pVer [] s (Prod.snd (xHandle s (rpA s k)))))]))) = (SV.v (Value.iface 169 (Value.agg #[.int .i64 (Pz.er (rpP s k))]))))∧True))) (((rdPre s (Prod.snd (xHandle s (rpA s k))))∧True)∧(sel (Pz.bad (enP s (Prod.snd (xVer s (Prod.snd (xHandle s (rpA s k))))))) (((rdPre s (Prod.snd (xVer s (Prod.snd (xHandle s (rpA s k))))))∧True)∧((Pz.bad (rpP s k) = true)∧(((SV.v (Value.iface 169 (Value.agg #[.int .i64 (Pz.er (p0 enP [] s (Prod.snd (xVer s (Prod.snd (xHandle s (rpA s k)))))))]))) = (SV.v (Value.iface 169 (Value.agg #[.int .i64 (Pz.er (rpP s k))]))))∧True))) (((rdPre s (Prod.snd (xVer s (Prod.snd (xHandle s (rpA s k))))))∧True)∧((Pz.bad (rpP s k) = false)∧(∃ c : RC,((((iV (rdT s k 1)) = (iV (rdT s k 1)))∧(((iV (RV.id (rv1 s k (vrN s k)))) = (iV (RV.id (rpV s k))))∧(((iV (rdT s (k + 1 + 4) 1)) = (iV (rdT s (k + 1 + 4) 1)))∧(((iV (rdT s (rpA s k) 4)) = (iV (RV.bs (rpV s k))))∧(((iV (rdT s (rpA s k + 4) 4)) = (iV (RV.bg (rpV s k))))∧(((iV (rdT s (Prod.snd (xHandle s (rpA s k))) 8)) = (iV (RV.ver (rpV s k))))∧(((iV (RV.gr (rv1 s k (vrN s k)))) = (iV (RV.gr (rpV s k))))∧(vcReplyT_4 s k (((zS = zS)∧(((0 : Nat) = 0)∧((((rpN s k) : Nat) = 0)∧(((rpN s k + RC.a c) : Nat) = 0))))∧(vcReplyT_1 s k (((zS = zS)∧(((0 : Nat) = 0)∧((((rpM s k) : Nat) = 0)∧(((rpM s k + RC.b c) : Nat) = 0))))∧(vcReplyT_3 s k))))))))))))∧((((1 : Nat) = 1)∧(((1 : Nat) ≤ 1)∧(∀ i : Nat,(((i : Nat) < 1)→([(SV.v (.string s)),(iV (Prod.snd (xEnd s (Prod.snd (xVer s (Prod.snd (xHandle s (rpA s k))))))))] = [(SV.v (.string s)),(iV (rpEnd s k))])))))∧(((((rpN s k) : Nat) = 0)∧((((rpN s k + RC.a c) : Nat) = 0)∧True))∧(((((rpM s k) : Nat) = 0)∧((((rpM s k + RC.b c) : Nat) = 0)∧True))∧True))))))))))))
@[reducible] noncomputable def vcReplyT_7 (s : ByteArray) (k : Int) (T_ : Prop) : Prop := ((1 : Nat) = 1)∧(((1 : Nat) ≤ 1)∧(((iV (rdT s k 1)) = (iV (rdT s k 1)))∧(((iV (RV.id (rv1 s k (vrN s k)))) = (iV (RV.id (rv1 s k (vrN s k)))))∧(((iV (rdT s (k + 1 + 4) 1)) = (iV (rdT s (k + 1 + 4) 1)))∧(((iV (RV.bs (rv1 s k (vrN s k)))) = (iV (RV.bs (rv1 s k (vrN s k)))))∧(((iV (RV.bg (rv1 s k (vrN s k)))) = (iV (RV.bg (rv1 s k (vrN s k)))))∧(((iV (RV.ver (rv1 s k (vrN s k)))) = (iV (RV.ver (rv1 s k (vrN s k)))))∧(((iV (RV.gr (rv1 s k (vrN s k)))) = (iV (RV.gr (rv1 s k (vrN s k)))))∧(((iV (BV.sk (RV.o (rv1 s k (vrN s k))))) = (iV (BV.sk (RV.o (rv1 s k (vrN s k))))))∧(((iV (BV.sr (RV.o (rv1 s k (vrN s k))))) = (iV (BV.sr (RV.o (rv1 s k (vrN s k))))))∧(((iV (BV.sw (RV.o (rv1 s k (vrN s k))))) = (iV (BV.sw (RV.o (rv1 s k (vrN s k))))))∧(((iV (BV.sh (RV.o (rv1 s k (vrN s k))))) = (iV (BV.sh (RV.o (rv1 s k (vrN s k))))))∧((zS = zS)∧(((iV (BV.p0v (RV.o (rv1 s k (vrN s k))))) = (iV (BV.p0v (RV.o (rv1 s k (vrN s k))))))∧(((bV false) = (bV false))∧(((iV (BV.p1v (RV.o (rv1 s k (vrN s k))))) = (iV (BV.p1v (RV.o (rv1 s k (vrN s k))))))∧(((bV false) = (bV false))∧(((iV (BV.p2v (RV.o (rv1 s k (vrN s k))))) = (iV (BV.p2v (RV.o (rv1 s k (vrN s k))))))∧(((bV false) = (bV false))∧(((iV (BV.p3v (RV.o (rv1 s k (vrN s k))))) = (iV (BV.p3v (RV.o (rv1 s k (vrN s k))))))∧(((bV false) = (bV false))∧(((iV (BV.v0v (RV.o (rv1 s k (vrN s k))))) = (iV (BV.v0v (RV.o (rv1 s k (vrN s k))))))∧(((bV false) = (bV false))∧(((iV (BV.v1v (RV.o (rv1 s k (vrN s k))))) = (iV (BV.v1v (RV.o (rv1 s k (vrN s k))))))∧(((bV false) = (bV false))∧(((iV (BV.w0v (RV.o (rv1 s k (vrN s k))))) = (iV (BV.w0v (RV.o (rv1 s k (vrN s k))))))∧(((bV false) = (bV false))∧(((iV (BV.m0v (RV.o (rv1 s k (vrN s k))))) = (iV (BV.m0v (RV.o (rv1 s k (vrN s k))))))∧(((bV false) = (bV false))∧(((iV (BV.m1v (RV.o (rv1 s k (vrN s k))))) = (iV (BV.m1v (RV.o (rv1 s k (vrN s k))))))∧(((bV false) = (bV false))∧(((iV (BV.st (RV.o (rv1 s k (vrN s k))))) = (iV (BV.st (RV.o (rv1 s k (vrN s k))))))∧(((bV false) = (bV false))∧(((bV false) = (bV false))∧(((iV (BV.bv (RV.o (rv1 s k (vrN s k))))) = (iV (BV.bv (RV.o (rv1 s k (vrN s k))))))∧(T_))))))))))))))))))))))))))))))))))))
@[reducible] noncomputable def vcReplyT_8 (s : ByteArray) (k : Int) := (sel (Pz.bad (pCount s (rpA s k))) (((rdPre s (rpA s k))∧True)∧((Pz.bad (rpP s k) = true)∧(((SV.v (Value.iface 169 (Value.agg #[.int .i64 (Pz.er (p0 pCount [] s (rpA s k)))]))) = (SV.v (Value.iface 169 (Value.agg #[.int .i64 (Pz.er (rpP s k))]))))∧True))) (((rdPre s (rpA s k))∧True)∧(sel (Pz.bad (enP s (Prod.snd (xCount s (rpA s k))))) (((rdPre s (Prod.snd (xCount s (rpA s k))))∧True)∧((Pz.bad (rpP s k) = true)∧(((SV.v (Value.iface 169 (Value.agg #[.int .i64 (Pz.er (p0 enP [] s (Prod.snd (xCount s (rpA s k)))))]))) = (SV.v (Value.iface 169 (Value.agg #[.int .i64 (Pz.er (rpP s k))]))))∧True))) (((rdPre s (Prod.snd (xCount s (rpA s k))))∧True)∧((Pz.bad (rpP s k) = false)∧(∃ c : RC,((((iV (rdT s k 1)) = (iV (rdT s k 1)))∧(((iV (RV.id (rv1 s k (vrN s k)))) = (iV (RV.id (rpV s k))))∧(((iV (rdT s (k + 1 + 4) 1)) = (iV (rdT s (k + 1 + 4) 1)))∧(((iV (RV.bs (rv1 s k (vrN s k)))) = (iV (RV.bs (rpV s k))))∧(((iV (RV.bg (rv1 s k (vrN s k)))) = (iV (RV.bg (rpV s k))))∧(((iV (RV.ver (rv1 s k (vrN s k)))) = (iV (RV.ver (rpV s k))))∧(((iV (rdT s (rpA s k) 4)) = (iV (RV.gr (rpV s k))))∧(vcReplyT_4 s k (((zS = zS)∧(((0 : Nat) = 0)∧((((rpN s k) : Nat) = 0)∧(((rpN s k + RC.a c) : Nat) = 0))))∧(vcReplyT_1 s k (((zS = zS)∧(((0 : Nat) = 0)∧((((rpM s k) : Nat) = 0)∧(((rpM s k + RC.b c) : Nat) = 0))))∧(vcReplyT_3 s k))))))))))))∧((((1 : Nat) = 1)∧(((1 : Nat) ≤ 1)∧(∀ i : Nat,(((i : Nat) < 1)→([(SV.v (.string s)),(iV (Prod.snd (xEnd s (Prod.snd (xCount s (rpA s k))))))] = [(SV.v (.string s)),(iV (rpEnd s k))])))))∧(((((rpN s k) : Nat) = 0)∧((((rpN s k + RC.a c) : Nat) = 0)∧True))∧(((((rpM s k) : Nat) = 0)∧((((rpM s k + RC.b c) : Nat) = 0)∧True))∧True))))))))))
@[reducible] noncomputable def vcReplyT_9 (s : ByteArray) (k : Int) := (∃ x : Nat,((Pz.bad (n1P s k) = false)∧(True∧((((1 : Nat) = 1)∧(((1 : Nat) ≤ 1)∧(∀ i : Nat,(((i : Nat) < 1)→([(SV.v (.string s)),(iV (Prod.snd (xCount s (k + 1))))] = [(SV.v (.string s)),(iV (k + 1 + 4))])))))∧(((1 : Nat) = 1)∧(((1 : Nat) ≤ 1)∧(∀ i : Nat,(((i : Nat) < 1)→([(iV (rdT s k 1)),(iV (rdT s (k + 1) 4)),(iV 0),(iV 0),(iV 0),(iV 0),(iV 0),(iV 0),(iV 0),(iV 0),(iV 0),zS,(iV 0),(bV false),(iV 0),(bV false),(iV 0),(bV false),(iV 0),(bV false),(iV 0),(bV false),(iV 0),(bV false),(iV 0),(bV false),(iV 0),(bV false),(iV 0),(bV false),(iV 0),(bV false),(bV false),(iV 0),zS,(bV false),(iV 0),(bV false),(iV 0),(bV false),(iV 0),(bV false),(iV 0)] = [(iV (rdT s k 1)),(iV (RV.id (rv1 s k 0))),(iV 0),(iV (RV.bs (rv1 s k 0))),(iV (RV.bg (rv1 s k 0))),(iV (RV.ver (rv1 s k 0))),(iV (RV.gr (rv1 s k 0))),(iV (BV.sk (RV.o (rv1 s k 0)))),(iV (BV.sr (RV.o (rv1 s k 0)))),(iV (BV.sw (RV.o (rv1 s k 0)))),(iV (BV.sh (RV.o (rv1 s k 0)))),zS,(iV (BV.p0v (RV.o (rv1 s k 0)))),(bV false),(iV (BV.p1v (RV.o (rv1 s k 0)))),(bV false),(iV (BV.p2v (RV.o (rv1 s k 0)))),(bV false),(iV (BV.p3v (RV.o (rv1 s k 0)))),(bV false),(iV (BV.v0v (RV.o (rv1 s k 0)))),(bV false),(iV (BV.v1v (RV.o (rv1 s k 0)))),(bV false),(iV (BV.w0v (RV.o (rv1 s k 0)))),(bV false),(iV (BV.m0v (RV.o (rv1 s k 0)))),(bV false),(iV (BV.m1v (RV.o (rv1 s k 0)))),(bV false),(iV (BV.st (RV.o (rv1 s k 0)))),(bV false),(bV false),(iV (BV.bv (RV.o (rv1 s k 0)))),zS,(bV false),(iV (RV.htv (rv1 s k 0))),(bV false),(iV (RV.x0v (rv1 s k 0))),(bV false),(iV (RV.x1v (rv1 s k 0))),(bV false),(iV (RV.cnt (rv1 s k 0)))])))))))))
@[reducible] noncomputable def vcReplyT_10 (s : ByteArray) (k : Int) := (sel (Pz.bad (enP s (rpA s k))) (((rdPre s (rpA s k))∧True)∧((Pz.bad (rpP s k) = true)∧(((SV.v (Value.iface 169 (Value.agg #[.int .i64 (Pz.er (p0 enP [] s (rpA s k)))]))) = (SV.v (Value.iface 169 (Value.agg #[.int .i64 (Pz.er (rpP s k))]))))∧True))) (((rdPre s (rpA s k))∧True)∧((Pz.bad (rpP s k) = false)∧(∃ c : RC,((((iV (rdT s k 1)) = (iV (rdT s k 1)))∧(((iV (RV.id (rv1 s k (vrN s k)))) = (iV (RV.id (rpV s k))))∧(((iV (rdT s (k + 1 + 4) 1)) = (iV (rdT s (k + 1 + 4) 1)))∧(((iV (RV.bs (rv1 s k (vrN s k)))) = (iV (RV.bs (rpV s k))))∧(((iV (RV.bg (rv1 s k (vrN s k)))) = (iV (RV.bg (rpV s k))))∧(((iV (RV.ver (rv1 s k (vrN s k)))) = (iV (RV.ver (rpV s k))))∧(((iV (RV.gr (rv1 s k (vrN s k)))) = (iV (RV.gr (rpV s k))))∧(vcReplyT_4 s k (((zS = zS)∧(((0 : Nat) = 0)∧((((rpN s k) : Nat) = 0)∧(((rpN s k + RC.a c) : Nat) = 0))))∧(vcReplyT_1 s k (((zS = zS)∧(((0 : Nat) = 0)∧((((rpM s k) : Nat) = 0)∧(((rpM s k + RC.b c) : Nat) = 0))))∧(vcReplyT_3 s k))))))))))))∧((((1 : Nat) = 1)∧(((1 : Nat) ≤ 1)∧(∀ i : Nat,(((i : Nat) < 1)→([(SV.v (.string s)),(iV (Prod.snd (xEnd s (rpA s k))))] = [(SV.v (.string s)),(iV (rpEnd s k))])))))∧(((((rpN s k) : Nat) = 0)∧((((rpN s k + RC.a c) : Nat) = 0)∧True))∧(((((rpM s k) : Nat) = 0)∧((((rpM s k + RC.b c) : Nat) = 0)∧True))∧True))))))))
@[reducible] noncomputable def vcReplyT_11 (s : ByteArray) (k : Int) := [(iV (rdT s k 1)),(iV (RV.id (rv1 s k (vrN s k)))),(iV (rdT s (k + 1 + 4) 1)),(iV (RV.bs (rv1 s k (vrN s k)))),(iV (RV.bg (rv1 s k (vrN s k)))),(iV (RV.ver (rv1 s k (vrN s k)))),(iV (RV.gr (rv1 s k (vrN s k)))),(iV (BV.sk (RV.o (rv1 s k (vrN s k))))),(iV (BV.sr (RV.o (rv1 s k (vrN s k))))),(iV (BV.sw (RV.o (rv1 s k (vrN s k))))),(iV (BV.sh (RV.o (rv1 s k (vrN s k))))),zS,(iV (BV.p0v (RV.o (rv1 s k (vrN s k))))),(bV false),(iV (BV.p1v (RV.o (rv1 s k (vrN s k))))),(bV false),(iV (BV.p2v (RV.o (rv1 s k (vrN s k))))),(bV false),(iV (BV.p3v (RV.o (rv1 s k (vrN s k))))),(bV false),(iV (BV.v0v (RV.o (rv1 s k (vrN s k))))),(bV false),(iV (BV.v1v (RV.o (rv1 s k (vrN s k))))),(bV false),(iV (BV.w0v (RV.o (rv1 s k (vrN s k))))),(bV false),(iV (BV.m0v (RV.o (rv1 s k (vrN s k))))),(bV false),(iV (BV.m1v (RV.o (rv1 s k (vrN s k))))),(bV false),(iV (BV.st (RV.o (rv1 s k (vrN s k))))),(bV false),(bV false),(iV (BV.bv (RV.o (rv1 s k (vrN s k))))),zS,(bV false),(iV (RV.htv (rv1 s k (vrN s k)))),(bV false),(iV (RV.x0v (rv1 s k (vrN s k)))),(bV false),(iV (RV.x1v (rv1 s k (vrN s k)))),(bV false),(iV (RV.cnt (rv1 s k (vrN s k))))]
@[reducible] noncomputable def vcReplyT_12 (s : ByteArray) (k : Int) := (SV.v (Value.iface 169 (Value.agg #[.int .i64 (Pz.er (rpP s k))])))
@[reducible] noncomputable def vcReplyT_13 (s : ByteArray) (k : Int) (T_ : Prop) : Prop := ((iV (rdT s k 1)) = (iV (rdT s k 1)))∧(((iV (RV.id (rv1 s k (vrN s k)))) = (iV (RV.id (rpV s k))))∧(((iV (rdT s (k + 1 + 4) 1)) = (iV (rdT s (k + 1 + 4) 1)))∧(((iV (rdT s (rpA s k) 4)) = (iV (RV.bs (rpV s k))))∧(((iV (rdT s (rpA s k + 4) 4)) = (iV (RV.bg (rpV s k))))∧(T_)))))
@[reducible] noncomputable def vcReplyT_14 (s : ByteArray) (k : Int) := (((rdPre s (rpA s k))∧True)∧((Pz.bad (rpP s k) = true)∧(((SV.v (Value.iface 169 (Value.agg #[.int .i64 (Pz.er (p0 haP [] s (rpA s k)))]))) = (vcReplyT_12 s k))∧True)))
@[reducible] noncomputable def vcReplyT_15 (s : ByteArray) (k : Int) := (((bV false) = (bV false))∧(((iV (RV.htv (rv1 s k (vrN s k)))) = (iV (RV.htv (rv1 s k (vrN s k)))))∧(((bV false) = (bV false))∧(((iV (RV.x0v (rv1 s k (vrN s k)))) = (iV (RV.x0v (rv1 s k (vrN s k)))))∧(((bV false) = (bV false))∧(((iV (RV.x1v (rv1 s k (vrN s k)))) = (iV (RV.x1v (rv1 s k (vrN s k)))))∧(((bV false) = (bV false))∧((iV (RV.cnt (rv1 s k (vrN s k)))) = (iV (RV.cnt (rv1 s k (vrN s k))))))))))))
@[reducible] noncomputable def vcReplyT_16 (s : ByteArray) (k : Int) := ((Pz.bad (rpP s k) = true)∧(((SV.v (Value.iface 169 (Value.agg #[.int .i64 4]))) = (vcReplyT_12 s k))∧True))
@[reducible] noncomputable def vcReplyT_17 (s : ByteArray) (k : Int) (T_ : Prop) : Prop := ((iV (RV.id (rv1 s k (vrN s k)))) = (iV (RV.id (rpV s k))))∧(((iV (rdT s (k + 1 + 4) 1)) = (iV (rdT s (k + 1 + 4) 1)))∧(((iV (RV.bs (rv1 s k (vrN s k)))) = (iV (RV.bs (rpV s k))))∧(((iV (RV.bg (rv1 s k (vrN s k)))) = (iV (RV.bg (rpV s k))))∧(((iV (RV.ver (rv1 s k (vrN s k)))) = (iV (RV.ver (rpV s k))))∧(((iV (RV.gr (rv1 s k (vrN s k)))) = (iV (RV.gr (rpV s k))))∧(T_))))))
@[reducible] noncomputable def vcReplyT_18 (s : ByteArray) (k : Int) := (∃ x_1 : Nat,((Pz.bad (n2P s k) = false)∧(True∧((((1 : Nat) = 1)∧(((1 : Nat) ≤ 1)∧(∀ i : Nat,(((i : Nat) < 1)→([(SV.v (.string s)),(iV (k + 1 + 4 + 1))] = [(SV.v (.string s)),(iV (k + 1 + 4 + 1))])))))∧(((1 : Nat) = 1)∧(((1 : Nat) ≤ 1)∧(∀ i : Nat,(((i : Nat) < 1)→((vcReplyT_2 s k) = (vcReplyT_2 s k))))))))))
theorem vcReplyT (s : ByteArray) (k : Int) : (vcFnP Try.prog ΓT9 (ΛRp s k) Try.f91 [.vp 0 0] (heapOf [rdB s k]) 64 (fun y h' => (rpP s k).bad = false∧FinE [rdB s k] (rpE s k) y h') (fun y h' => (rpP s k).bad = true∧FinE [rdB s k] (.det none (pE (rpP s k).er) [(0,killed (rdB s k))]) y h')) =
(sel (Pz.bad (kiP s k 0)) (((rdPre s k)∧True)∧((Pz.bad (rpP s k) = true)∧(((SV.v (Value.iface 169 (Value.agg #[.int .i64 (Pz.er (pKind [iV 0] s k))]))) = (vcReplyT_12 s k))∧True))) (((rdPre s k)∧True)∧(sel (Pz.bad (pCount s (k + 1))) (((rdPre s (k + 1))∧True)∧((Pz.bad (rpP s k) = true)∧(((SV.v (Value.iface 169 (Value.agg #[.int .i64 (Pz.er (p0 pCount [] s (k + 1)))]))) = (vcReplyT_12 s k))∧True))) (((rdPre s (k + 1))∧True)∧( (sel (rdT s k 1 != 0) (vcReplyT_9 s k) (sel (!rdT s (k + 1) 4 == 0) (vcReplyT_16 s k) (vcReplyT_9 s k)))∧(∀ x : Nat,((Pz.bad (n1P s k) = false)→(sel (Pz.bad (upP s (k + 1 + 4) 14 1)) (((rdPre s (k + 1 + 4))∧((((0 : Int) ≤ 1)∧((1 : Int) ≤ 8))∧((14 : Int) ≤ 1099511627776)))∧((Pz.bad (rpP s k) = true)∧(((SV.v (Value.iface 169 (Value.agg #[.int .i64 (Pz.er (pUpto [SV.v (.int .u64 14),iV 1] s (k + 1 + 4)))]))) = (vcReplyT_12 s k))∧True))) (((rdPre s (k + 1 + 4))∧((((0 : Int) ≤ 1)∧((1 : Int) ≤ 8))∧((14 : Int) ≤ 1099511627776)))∧( (sel (rdT s k 1 != 0) (vcReplyT_18 s k) (sel (rdT s (k + 1 + 4) 1 != 0) (sel (!rdT s (k + 1 + 4) 1 != 14) (vcReplyT_16 s k) (vcReplyT_18 s k)) (vcReplyT_16 s k)))∧(∀ x_1 : Nat,((Pz.bad (n2P s k) = false)→( (sel (rdT s (k + 1 + 4) 1 == 14) (sel (Pz.bad (pVer s (k + 1 + 4 + 1))) (((rdPre s (k + 1 + 4 + 1))∧True)∧((Pz.bad (rpP s k) = true)∧(((SV.v (Value.iface 169 (Value.agg #[.int .i64 (Pz.er (p0 pVer [] s (k + 1 + 4 + 1)))]))) = (vcReplyT_12 s k))∧True))) (((rdPre s (k + 1 + 4 + 1))∧True)∧(∃ x_2 : Nat,(((((rdT s (k + 1 + 4) 1) : Int) = 14)→(Pz.bad (upP s (k + 1 + 4 + 1) 1099511627776 8) = false))∧(True∧((((1 : Nat) = 1)∧(((1 : Nat) ≤ 1)∧(∀ i : Nat,(((i : Nat) < 1)→([(SV.v (.string s)),(iV (Prod.snd (xVer s (k + 1 + 4 + 1))))] = [(SV.v (.string s)),(iV (rpA s k))])))))∧(((1 : Nat) = 1)∧(((1 : Nat) ≤ 1)∧(∀ i : Nat,(((i : Nat) < 1)→([(iV (rdT s k 1)),(iV (RV.id (rv1 s k 0))),(iV (rdT s (k + 1 + 4) 1)),(iV (RV.bs (rv1 s k 0))),(iV (RV.bg (rv1 s k 0))),(iV (rdT s (k + 1 + 4 + 1) 8)),(iV (RV.gr (rv1 s k 0))),(iV (BV.sk (RV.o (rv1 s k 0)))),(iV (BV.sr (RV.o (rv1 s k 0)))),(iV (BV.sw (RV.o (rv1 s k 0)))),(iV (BV.sh (RV.o (rv1 s k 0)))),zS,(iV (BV.p0v (RV.o (rv1 s k 0)))),(bV false),(iV (BV.p1v (RV.o (rv1 s k 0)))),(bV false),(iV (BV.p2v (RV.o (rv1 s k 0)))),(bV false),(iV (BV.p3v (RV.o (rv1 s k 0)))),(bV false),(iV (BV.v0v (RV.o (rv1 s k 0)))),(bV false),(iV (BV.v1v (RV.o (rv1 s k 0)))),(bV false),(iV (BV.w0v (RV.o (rv1 s k 0)))),(bV false),(iV (BV.m0v (RV.o (rv1 s k 0)))),(bV false),(iV (BV.m1v (RV.o (rv1 s k 0)))),(bV false),(iV (BV.st (RV.o (rv1 s k 0)))),(bV false),(bV false),(iV (BV.bv (RV.o (rv1 s k 0)))),zS,(bV false),(iV (RV.htv (rv1 s k 0))),(bV false),(iV (RV.x0v (rv1 s k 0))),(bV false),(iV (RV.x1v (rv1 s k 0))),(bV false),(iV (RV.cnt (rv1 s k 0)))] = (vcReplyT_11 s k)))))))))))) (∃ x_2 : Nat,(((((rdT s (k + 1 + 4) 1) : Int) = 14)→(Pz.bad (upP s (k + 1 + 4 + 1) 1099511627776 8) = false))∧(True∧((((1 : Nat) = 1)∧(((1 : Nat) ≤ 1)∧(∀ i : Nat,(((i : Nat) < 1)→([(SV.v (.string s)),(iV (k + 1 + 4 + 1))] = [(SV.v (.string s)),(iV (rpA s k))])))))∧(((1 : Nat) = 1)∧(((1 : Nat) ≤ 1)∧(∀ i : Nat,(((i : Nat) < 1)→((vcReplyT_2 s k) = (vcReplyT_11 s k)))))))))))∧(∀ x_2 : Nat,(((((rdT s (k + 1 + 4) 1) : Int) = 14)→(Pz.bad (upP s (k + 1 + 4 + 1) 1099511627776 8) = false))→(sel (rdT s (k + 1 + 4) 1 != 0) (vcReplyT_10 s k) (sel (rdT s k 1 == 1) (vcReplyT_6 s k) (sel (rdT s k 1 == 3) (vcReplyT_6 s k) (sel (rdT s k 1 == 2) (sel (Pz.bad (haP s (rpA s k))) (vcReplyT_14 s k) (((rdPre s (rpA s k))∧True)∧(sel (Pz.bad (enP s (Prod.snd (xHandle s (rpA s k))))) (((rdPre s (Prod.snd (xHandle s (rpA s k))))∧True)∧((Pz.bad (rpP s k) = true)∧(((SV.v (Value.iface 169 (Value.agg #[.int .i64 (Pz.er (p0 enP [] s (Prod.snd (xHandle s (rpA s k)))))]))) = (vcReplyT_12 s k))∧True))) (((rdPre s (Prod.snd (xHandle s (rpA s k))))∧True)∧((Pz.bad (rpP s k) = false)∧(∃ c : RC,((vcReplyT_13 s k (((iV (RV.ver (rv1 s k (vrN s k)))) = (iV (RV.ver (rpV s k))))∧(((iV (RV.gr (rv1 s k (vrN s k)))) = (iV (RV.gr (rpV s k))))∧(vcReplyT_4 s k (((zS = zS)∧(((0 : Nat) = 0)∧((((rpN s k) : Nat) = 0)∧(((rpN s k + RC.a c) : Nat) = 0))))∧(vcReplyT_1 s k (((zS = zS)∧(((0 : Nat) = 0)∧((((rpM s k) : Nat) = 0)∧(((rpM s k + RC.b c) : Nat) = 0))))∧(vcReplyT_3 s k))))))))∧((((1 : Nat) = 1)∧(((1 : Nat) ≤ 1)∧(∀ i : Nat,(((i : Nat) < 1)→([(SV.v (.string s)),(iV (Prod.snd (xEnd s (Prod.snd (xHandle s (rpA s k))))))] = [(SV.v (.string s)),(iV (rpEnd s k))])))))∧(((((rpN s k) : Nat) = 0)∧((((rpN s k + RC.a c) : Nat) = 0)∧True))∧(((((rpM s k) : Nat) = 0)∧((((rpM s k + RC.b c) : Nat) = 0)∧True))∧True)))))))))) (sel (rdT s k 1 == 4) (sel (Pz.bad (haP s (rpA s k))) (vcReplyT_14 s k) (((rdPre s (rpA s k))∧True)∧(sel (Pz.bad (pVer s (Prod.snd (xHandle s (rpA s k))))) (((rdPre s (Prod.snd (xHandle s (rpA s k))))∧True)∧((Pz.bad (rpP s k) = true)∧(((SV.v (Value.iface 169 (Value.agg #[.int .i64 (Pz.er (p0 pVer [] s (Prod.snd (xHandle s (rpA s k)))))]))) = (vcReplyT_12 s k))∧True))) (((rdPre s (Prod.snd (xHandle s (rpA s k))))∧True)∧(sel (Pz.bad (pCount s (Prod.snd (xVer s (Prod.snd (xHandle s (rpA s k))))))) (((rdPre s (Prod.snd (xVer s (Prod.snd (xHandle s (rpA s k))))))∧True)∧((Pz.bad (rpP s k) = true)∧(((SV.v (Value.iface 169 (Value.agg #[.int .i64 (Pz.er (p0 pCount [] s (Prod.snd (xVer s (Prod.snd (xHandle s (rpA s k)))))))]))) = (vcReplyT_12 s k))∧True))) (((rdPre s (Prod.snd (xVer s (Prod.snd (xHandle s (rpA s k))))))∧True)∧(sel (Pz.bad (enP s (Prod.snd (xCount s (Prod.snd (xVer s (Prod.snd (xHandle s (rpA s k))))))))) (((rdPre s (Prod.snd (xCount s (Prod.snd (xVer s (Prod.snd (xHandle s (rpA s k))))))))∧True)∧((Pz.bad (rpP s k) = true)∧(((SV.v (Value.iface 169 (Value.agg #[.int .i64 (Pz.er (p0 enP [] s (Prod.snd (xCount s (Prod.snd (xVer s (Prod.snd (xHandle s (rpA s k)))))))))]))) = (vcReplyT_12 s k))∧True))) (((rdPre s (Prod.snd (xCount s (Prod.snd (xVer s (Prod.snd (xHandle s (rpA s k))))))))∧True)∧((Pz.bad (rpP s k) = false)∧(∃ c : RC,((vcReplyT_13 s k (((iV (rdT s (Prod.snd (xHandle s (rpA s k))) 8)) = (iV (RV.ver (rpV s k))))∧(((iV (rdT s (Prod.snd (xVer s (Prod.snd (xHandle s (rpA s k))))) 4)) = (iV (RV.gr (rpV s k))))∧(vcReplyT_4 s k (((zS = zS)∧(((0 : Nat) = 0)∧((((rpN s k) : Nat) = 0)∧(((rpN s k + RC.a c) : Nat) = 0))))∧(vcReplyT_1 s k (((zS = zS)∧(((0 : Nat) = 0)∧((((rpM s k) : Nat) = 0)∧(((rpM s k + RC.b c) : Nat) = 0))))∧(vcReplyT_3 s k))))))))∧((((1 : Nat) = 1)∧(((1 : Nat) ≤ 1)∧(∀ i : Nat,(((i : Nat) < 1)→([(SV.v (.string s)),(iV (Prod.snd (xEnd s (Prod.snd (xCount s (Prod.snd (xVer s (Prod.snd (xHandle s (rpA s k))))))))))] = [(SV.v (.string s)),(iV (rpEnd s k))])))))∧(((((rpN s k) : Nat) = 0)∧((((rpN s k + RC.a c) : Nat) = 0)∧True))∧(((((rpM s k) : Nat) = 0)∧((((rpM s k + RC.b c) : Nat) = 0)∧True))∧True)))))))))))))) (sel (rdT s k 1 == 5) (vcReplyT_8 s k) (sel (rdT s k 1 == 6) (vcReplyT_8 s k) (sel (rdT s k 1 == 7) (sel (Pz.bad (haP s (rpA s k))) (vcReplyT_14 s k) (((rdPre s (rpA s k))∧True)∧(sel (Pz.bad (bdP s (Prod.snd (xHandle s (rpA s k))))) ((rdPre s (Prod.snd (xHandle s (rpA s k))))∧((Pz.bad (rpP s k) = true)∧(((SV.v (Value.iface 169 (Value.agg #[.int .i64 (Pz.er (bdP s (Prod.snd (xHandle s (rpA s k)))))]))) = (vcReplyT_12 s k))∧True))) ((rdPre s (Prod.snd (xHandle s (rpA s k))))∧(∀ c : Nat,(sel (Pz.bad (enP s (bdEnd s (Prod.snd (xHandle s (rpA s k)))))) (((rdPre s (bdEnd s (Prod.snd (xHandle s (rpA s k)))))∧True)∧((Pz.bad (rpP s k) = true)∧(((SV.v (Value.iface 169 (Value.agg #[.int .i64 (Pz.er (p0 enP [] s (bdEnd s (Prod.snd (xHandle s (rpA s k))))))]))) = (vcReplyT_12 s k))∧True))) (((rdPre s (bdEnd s (Prod.snd (xHandle s (rpA s k)))))∧True)∧((Pz.bad (rpP s k) = false)∧(∃ c_1 : RC,((vcReplyT_13 s k (((iV (RV.ver (rv1 s k (vrN s k)))) = (iV (RV.ver (rpV s k))))∧(((iV (RV.gr (rv1 s k (vrN s k)))) = (iV (RV.gr (rpV s k))))∧(((iV (BV.sk (bdV s (Prod.snd (xHandle s (rpA s k)))))) = (iV (BV.sk (RV.o (rpV s k)))))∧(((iV (BV.sr (bdV s (Prod.snd (xHandle s (rpA s k)))))) = (iV (BV.sr (RV.o (rpV s k)))))∧(((iV (BV.sw (bdV s (Prod.snd (xHandle s (rpA s k)))))) = (iV (BV.sw (RV.o (rpV s k)))))∧(((iV (BV.sh (bdV s (Prod.snd (xHandle s (rpA s k)))))) = (iV (BV.sh (RV.o (rpV s k)))))∧(((SV.sl 632 2 0 (shC s (Prod.snd (xHandle s (rpA s k)))) (shC s (Prod.snd (xHandle s (rpA s k))) + c)) = (SV.sl 632 2 0 (rpN s k) (rpN s k + RC.a c_1)))∧(((iV (BV.p0v (bdV s (Prod.snd (xHandle s (rpA s k)))))) = (iV (BV.p0v (RV.o (rpV s k)))))∧(((bV (BV.p0f (bdV s (Prod.snd (xHandle s (rpA s k)))))) = (bV (BV.p0f (RV.o (rpV s k)))))∧(((iV (BV.p1v (bdV s (Prod.snd (xHandle s (rpA s k)))))) = (iV (BV.p1v (RV.o (rpV s k)))))∧(((bV (BV.p1f (bdV s (Prod.snd (xHandle s (rpA s k)))))) = (bV (BV.p1f (RV.o (rpV s k)))))∧(((iV (BV.p2v (bdV s (Prod.snd (xHandle s (rpA s k)))))) = (iV (BV.p2v (RV.o (rpV s k)))))∧(((bV (BV.p2f (bdV s (Prod.snd (xHandle s (rpA s k)))))) = (bV (BV.p2f (RV.o (rpV s k)))))∧(((iV (BV.p3v (bdV s (Prod.snd (xHandle s (rpA s k)))))) = (iV (BV.p3v (RV.o (rpV s k)))))∧(((bV (BV.p3f (bdV s (Prod.snd (xHandle s (rpA s k)))))) = (bV (BV.p3f (RV.o (rpV s k)))))∧(((iV (BV.v0v (bdV s (Prod.snd (xHandle s (rpA s k)))))) = (iV (BV.v0v (RV.o (rpV s k)))))∧(((bV (BV.v0f (bdV s (Prod.snd (xHandle s (rpA s k)))))) = (bV (BV.v0f (RV.o (rpV s k)))))∧(((iV (BV.v1v (bdV s (Prod.snd (xHandle s (rpA s k)))))) = (iV (BV.v1v (RV.o (rpV s k)))))∧(((bV (BV.v1f (bdV s (Prod.snd (xHandle s (rpA s k)))))) = (bV (BV.v1f (RV.o (rpV s k)))))∧(((iV (BV.w0v (bdV s (Prod.snd (xHandle s (rpA s k)))))) = (iV (BV.w0v (RV.o (rpV s k)))))∧(((bV (BV.w0f (bdV s (Prod.snd (xHandle s (rpA s k)))))) = (bV (BV.w0f (RV.o (rpV s k)))))∧(((iV (BV.m0v (bdV s (Prod.snd (xHandle s (rpA s k)))))) = (iV (BV.m0v (RV.o (rpV s k)))))∧(((bV (BV.m0f (bdV s (Prod.snd (xHandle s (rpA s k)))))) = (bV (BV.m0f (RV.o (rpV s k)))))∧(((iV (BV.m1v (bdV s (Prod.snd (xHandle s (rpA s k)))))) = (iV (BV.m1v (RV.o (rpV s k)))))∧(((bV (BV.m1f (bdV s (Prod.snd (xHandle s (rpA s k)))))) = (bV (BV.m1f (RV.o (rpV s k)))))∧(((iV (BV.st (bdV s (Prod.snd (xHandle s (rpA s k)))))) = (iV (BV.st (RV.o (rpV s k)))))∧(((bV (BV.asl (bdV s (Prod.snd (xHandle s (rpA s k)))))) = (bV (BV.asl (RV.o (rpV s k)))))∧(((bV (BV.flt (bdV s (Prod.snd (xHandle s (rpA s k)))))) = (bV (BV.flt (RV.o (rpV s k)))))∧(((iV (BV.bv (bdV s (Prod.snd (xHandle s (rpA s k)))))) = (iV (BV.bv (RV.o (rpV s k)))))∧(((zS = zS)∧(((0 : Nat) = 0)∧((((rpM s k) : Nat) = 0)∧(((rpM s k + RC.b c_1) : Nat) = 0))))∧(vcReplyT_3 s k))))))))))))))))))))))))))))))))∧((((1 : Nat) = 1)∧(((1 : Nat) ≤ 1)∧(∀ i : Nat,(((i : Nat) < 1)→([(SV.v (.string s)),(iV (Prod.snd (xEnd s (bdEnd s (Prod.snd (xHandle s (rpA s k)))))))] = [(SV.v (.string s)),(iV (rpEnd s k))])))))∧(((((shC s (Prod.snd (xHandle s (rpA s k)))) : Nat) = (rpN s k))∧((((rpN s k + RC.a c_1) : Nat) ≤ (shC s (Prod.snd (xHandle s (rpA s k))) + c))∧(∀ i : Nat,(((i : Nat) < (rpN s k))→([(iV (Prod.fst (rdSp s (shA (Prod.snd (xHandle s (rpA s k)))) i))),(iV (Prod.snd (rdSp s (shA (Prod.snd (xHandle s (rpA s k)))) i)))] = [(iV (Prod.fst (rpSp s k i))),(iV (Prod.snd (rpSp s k i)))])))))∧(((((rpM s k) : Nat) = 0)∧((((rpM s k + RC.b c_1) : Nat) = 0)∧True))∧True))))))))))))) (sel (rdT s k 1 == 8) (sel (Pz.bad (upP s (rpA s k) 64 1)) (((rdPre s (rpA s k))∧((((0 : Int) ≤ 1)∧((1 : Int) ≤ 8))∧((64 : Int) ≤ 1099511627776)))∧((Pz.bad (rpP s k) = true)∧(((SV.v (Value.iface 169 (Value.agg #[.int .i64 (Pz.er (pUpto [SV.v (.int .u64 64),iV 1] s (rpA s k)))]))) = (vcReplyT_12 s k))∧True))) (((rdPre s (rpA s k))∧((((0 : Int) ≤ 1)∧((1 : Int) ≤ 8))∧((64 : Int) ≤ 1099511627776)))∧((∃ x_3 : SX,(((((SX.i x_3) : Nat) ≤ (hdC s k))∧((Pz.bad (hdsP s (k + 1 + 4 + 1 + 1) (SX.i x_3)) = false)∧(((SX.i x_3) : Nat) ≤ (SX.c x_3))))∧(((iV 0) = (iV ((↑(SX.i x_3) : Int))))∧((((1 : Nat) = 1)∧(((1 : Nat) ≤ 1)∧(∀ i : Nat,(((i : Nat) < 1)→([(SV.v (.string s)),(iV (rpA s k + 1))] = [(SV.v (.string s)),(iV (k + 1 + 4 + 1 + 1 + 8 * (↑(SX.i x_3) : Int)))])))))∧((vcReplyT_7 s k (((zS = zS)∧(((0 : Nat) = 0)∧((((SX.i x_3) : Nat) = 0)∧(((SX.c x_3) : Nat) = 0))))∧(vcReplyT_15 s k)))∧(((((SX.i x_3) : Nat) = 0)∧((((SX.c x_3) : Nat) = 0)∧True))∧True))))))∧(∀ x_3 : SX,(((((SX.i x_3) : Nat) ≤ (hdC s k))∧((Pz.bad (hdsP s (k + 1 + 4 + 1 + 1) (SX.i x_3)) = false)∧(((SX.i x_3) : Nat) ≤ (SX.c x_3))))→(sel (decide ((↑(SX.i x_3) : Int) < rdT s (rpA s k) 1)) (sel (Pz.bad (haP s (k + 1 + 4 + 1 + 1 + 8 * (↑(SX.i x_3) : Int)))) (((rdPre s (k + 1 + 4 + 1 + 1 + 8 * (↑(SX.i x_3) : Int)))∧True)∧((Pz.bad (rpP s k) = true)∧(((SV.v (Value.iface 169 (Value.agg #[.int .i64 (Pz.er (p0 haP [] s (k + 1 + 4 + 1 + 1 + 8 * (↑(SX.i x_3) : Int))))]))) = (vcReplyT_12 s k))∧True))) (((rdPre s (k + 1 + 4 + 1 + 1 + 8 * (↑(SX.i x_3) : Int)))∧True)∧((((((SX.i x_3 + 1) * 16) : Nat) ≤ 140737488355328)∧((((0 + SX.c x_3) : Nat) ≤ (SX.c x_3))∧(∀ y : Nat,(((y : Nat) < 1)→True))))∧(∀ c : Nat,(∃ x' : SX,((((((SX.i x') : Nat) ≤ (hdC s k))∧((Pz.bad (hdsP s (k + 1 + 4 + 1 + 1) (SX.i x')) = false)∧(((SX.i x') : Nat) ≤ (SX.c x'))))∧(((iV (IntKind.wrap IntKind.i64 ((↑(SX.i x_3) : Int) + 1))) = (iV ((↑(SX.i x') : Int))))∧((((1 : Nat) = 1)∧(((1 : Nat) ≤ 1)∧(∀ i : Nat,(((i : Nat) < 1)→([(SV.v (.string s)),(iV (Prod.snd (xHandle s (k + 1 + 4 + 1 + 1 + 8 * (↑(SX.i x_3) : Int)))))] = [(SV.v (.string s)),(iV (k + 1 + 4 + 1 + 1 + 8 * (↑(SX.i x') : Int)))])))))∧((vcReplyT_7 s k (((SV.sl 680 2 0 (SX.i x_3 + 1) (SX.i x_3 + 1 + c)) = (SV.sl 680 2 0 (SX.i x') (SX.c x')))∧(vcReplyT_15 s k)))∧((((SX.i x_3 + 1) : Nat) = (SX.i x'))∧((((SX.c x') : Nat) ≤ (SX.i x_3 + 1 + c))∧(∀ i : Nat,(((i : Nat) < (SX.i x'))→([(iV (bop (Nat.blt i (SX.i x_3)) (Prod.fst (rdHd s (k + 1 + 4 + 1 + 1) (0 + i))) (rdT s (k + 1 + 4 + 1 + 1 + 8 * (↑(SX.i x_3) : Int)) 4))),(iV (bop (Nat.blt i (SX.i x_3)) (Prod.snd (rdHd s (k + 1 + 4 + 1 + 1) (0 + i))) (rdT s (k + 1 + 4 + 1 + 1 + 8 * (↑(SX.i x_3) : Int) + 4) 4)))] = [(iV (Prod.fst (rdHd s (k + 1 + 4 + 1 + 1) i))),(iV (Prod.snd (rdHd s (k + 1 + 4 + 1 + 1) i)))])))))))))∧(((hdC s k - SX.i x') : Nat) < (hdC s k - SX.i x_3)))))))) (sel (Pz.bad (enP s (k + 1 + 4 + 1 + 1 + 8 * (↑(SX.i x_3) : Int)))) (((rdPre s (k + 1 + 4 + 1 + 1 + 8 * (↑(SX.i x_3) : Int)))∧True)∧((Pz.bad (rpP s k) = true)∧(((SV.v (Value.iface 169 (Value.agg #[.int .i64 (Pz.er (p0 enP [] s (k + 1 + 4 + 1 + 1 + 8 * (↑(SX.i x_3) : Int))))]))) = (vcReplyT_12 s k))∧True))) (((rdPre s (k + 1 + 4 + 1 + 1 + 8 * (↑(SX.i x_3) : Int)))∧True)∧((Pz.bad (rpP s k) = false)∧(∃ c : RC,((((iV (rdT s k 1)) = (iV (rdT s k 1)))∧(vcReplyT_17 s k (vcReplyT_4 s k (((zS = zS)∧(((0 : Nat) = 0)∧((((rpN s k) : Nat) = 0)∧(((rpN s k + RC.a c) : Nat) = 0))))∧(vcReplyT_1 s k (((SV.sl 40 2 0 (SX.i x_3) (SX.c x_3)) = (SV.sl 40 2 0 (rpM s k) (rpM s k + RC.b c)))∧(vcReplyT_3 s k)))))))∧((((1 : Nat) = 1)∧(((1 : Nat) ≤ 1)∧(∀ i : Nat,(((i : Nat) < 1)→([(SV.v (.string s)),(iV (Prod.snd (xEnd s (k + 1 + 4 + 1 + 1 + 8 * (↑(SX.i x_3) : Int)))))] = [(SV.v (.string s)),(iV (rpEnd s k))])))))∧(((((rpN s k) : Nat) = 0)∧((((rpN s k + RC.a c) : Nat) = 0)∧True))∧((((SX.i x_3) : Nat) = (rpM s k))∧((((rpM s k + RC.b c) : Nat) ≤ (SX.c x_3))∧(∀ i : Nat,(((i : Nat) < (rpM s k))→([(iV (Prod.fst (rdHd s (k + 1 + 4 + 1 + 1) i))),(iV (Prod.snd (rdHd s (k + 1 + 4 + 1 + 1) i)))] = [(iV (Prod.fst (rpHd s k i))),(iV (Prod.snd (rpHd s k i)))])))))))))))))))))) (sel (rdT s k 1 == 9) (sel (Pz.bad (haP s (rpA s k))) (vcReplyT_14 s k) (((rdPre s (rpA s k))∧True)∧(sel (Pz.bad (pFlag s (Prod.snd (xHandle s (rpA s k))))) (((rdPre s (Prod.snd (xHandle s (rpA s k))))∧True)∧((Pz.bad (rpP s k) = true)∧(((SV.v (Value.iface 169 (Value.agg #[.int .i64 (Pz.er (p0 pFlag [] s (Prod.snd (xHandle s (rpA s k)))))]))) = (vcReplyT_12 s k))∧True))) (((rdPre s (Prod.snd (xHandle s (rpA s k))))∧True)∧(sel (Pz.bad (nuP s (Prod.snd (xFlag s (Prod.snd (xHandle s (rpA s k))))))) (((rdPre s (Prod.snd (xFlag s (Prod.snd (xHandle s (rpA s k))))))∧True)∧((Pz.bad (rpP s k) = true)∧(((SV.v (Value.iface 169 (Value.agg #[.int .i64 (Pz.er (p0 nuP [] s (Prod.snd (xFlag s (Prod.snd (xHandle s (rpA s k)))))))]))) = (vcReplyT_12 s k))∧True))) (((rdPre s (Prod.snd (xFlag s (Prod.snd (xHandle s (rpA s k))))))∧True)∧(sel (Pz.bad (vcP s (Prod.snd (xNum s (Prod.snd (xFlag s (Prod.snd (xHandle s (rpA s k))))))))) (((rdPre s (Prod.snd (xNum s (Prod.snd (xFlag s (Prod.snd (xHandle s (rpA s k))))))))∧True)∧((Pz.bad (rpP s k) = true)∧(((SV.v (Value.iface 169 (Value.agg #[.int .i64 (Pz.er (p0 vcP [] s (Prod.snd (xNum s (Prod.snd (xFlag s (Prod.snd (xHandle s (rpA s k)))))))))]))) = (vcReplyT_12 s k))∧True))) (((rdPre s (Prod.snd (xNum s (Prod.snd (xFlag s (Prod.snd (xHandle s (rpA s k))))))))∧True)∧(sel (rdF s (Prod.snd (xHandle s (rpA s k)))) (vcReplyT_5 s k) (sel (rdF s (Prod.snd (xHandle s (rpA s k))) == false&&(rdI s (Prod.snd (xFlag s (Prod.snd (xHandle s (rpA s k))))) == 0&&rdF s (Prod.snd (xFlag s (Prod.snd (xHandle s (rpA s k)))) + 8) == false&&(rdI s (Prod.snd (xNum s (Prod.snd (xFlag s (Prod.snd (xHandle s (rpA s k))))))) == 0&&rdF s (Prod.snd (xNum s (Prod.snd (xFlag s (Prod.snd (xHandle s (rpA s k)))))) + 8) == false&&(rdI s (Prod.snd (xNum s (Prod.snd (xFlag s (Prod.snd (xHandle s (rpA s k)))))) + 8 + 1) == 0&&rdF s (Prod.snd (xNum s (Prod.snd (xFlag s (Prod.snd (xHandle s (rpA s k)))))) + 8 + 1 + 8) == false)))) (sel (!(rdT s (rpA s k) 4 == 0&&rdT s (rpA s k + 4) 4 == 0)) (vcReplyT_16 s k) (vcReplyT_5 s k)) (vcReplyT_16 s k))))))))))) (sel (rdT s k 1 == 10) (sel (Pz.bad (pCount s (rpA s k))) (((rdPre s (rpA s k))∧True)∧((Pz.bad (rpP s k) = true)∧(((SV.v (Value.iface 169 (Value.agg #[.int .i64 (Pz.er (p0 pCount [] s (rpA s k)))]))) = (vcReplyT_12 s k))∧True))) (((rdPre s (rpA s k))∧True)∧(sel (Pz.bad (enP s (Prod.snd (xCount s (rpA s k))))) (((rdPre s (Prod.snd (xCount s (rpA s k))))∧True)∧((Pz.bad (rpP s k) = true)∧(((SV.v (Value.iface 169 (Value.agg #[.int .i64 (Pz.er (p0 enP [] s (Prod.snd (xCount s (rpA s k)))))]))) = (vcReplyT_12 s k))∧True))) (((rdPre s (Prod.snd (xCount s (rpA s k))))∧True)∧((Pz.bad (rpP s k) = false)∧(∃ c : RC,((((iV (rdT s k 1)) = (iV (rdT s k 1)))∧(vcReplyT_17 s k (vcReplyT_4 s k (((zS = zS)∧(((0 : Nat) = 0)∧((((rpN s k) : Nat) = 0)∧(((rpN s k + RC.a c) : Nat) = 0))))∧(vcReplyT_1 s k (((zS = zS)∧(((0 : Nat) = 0)∧((((rpM s k) : Nat) = 0)∧(((rpM s k + RC.b c) : Nat) = 0))))∧(((bV false) = (bV (RV.hit (rpV s k))))∧(((iV (RV.htv (rv1 s k (vrN s k)))) = (iV (RV.htv (rpV s k))))∧(((bV false) = (bV (RV.htf (rpV s k))))∧(((iV (RV.x0v (rv1 s k (vrN s k)))) = (iV (RV.x0v (rpV s k))))∧(((bV false) = (bV (RV.x0f (rpV s k))))∧(((iV (RV.x1v (rv1 s k (vrN s k)))) = (iV (RV.x1v (rpV s k))))∧(((bV false) = (bV (RV.x1f (rpV s k))))∧((iV (rdT s (rpA s k) 4)) = (iV (RV.cnt (rpV s k)))))))))))))))))∧((((1 : Nat) = 1)∧(((1 : Nat) ≤ 1)∧(∀ i : Nat,(((i : Nat) < 1)→([(SV.v (.string s)),(iV (Prod.snd (xEnd s (Prod.snd (xCount s (rpA s k))))))] = [(SV.v (.string s)),(iV (rpEnd s k))])))))∧(((((rpN s k) : Nat) = 0)∧((((rpN s k + RC.a c) : Nat) = 0)∧True))∧(((((rpM s k) : Nat) = 0)∧((((rpM s k + RC.b c) : Nat) = 0)∧True))∧True)))))))))) (vcReplyT_10 s k))))))))))))))))))))))))))) := by kernel_rfl
end Go.Proofs.Ytjdldadmaaeimaa
end
section
namespace Go.Proofs.Ytjdldadmaaeimaa
open Go.SE Go.RowKit
noncomputable def sbV (n : Nat) (g : Nat → Int) (a : Int) : BV := ⟨(srS4 n g (a)).k, (srS4 n g (a)).r, (srS4 n g (a)).w, (srS4 n g (a)).h, nuV (nxV n g (srEnd n g (a))), nuF (nxV n g (srEnd n g (a))), nuV (nxV n g (srEnd n g (a) + 1)), nuF (nxV n g (srEnd n g (a) + 1)), nuV (nxV n g (srEnd n g (a) + 1 + 1)), nuF (nxV n g (srEnd n g (a) + 1 + 1)), nuV (nxV n g (srEnd n g (a) + 1 + 1 + 1)), nuF (nxV n g (srEnd n g (a) + 1 + 1 + 1)), nuV (nxV n g (srEnd n g (a) + 1 + 1 + 1 + 1)), nuF (nxV n g (srEnd n g (a) + 1 + 1 + 1 + 1)), nuV (nxV n g (srEnd n g (a) + 1 + 1 + 1 + 1 + 1)), nuF (nxV n g (srEnd n g (a) + 1 + 1 + 1 + 1 + 1)), nuV (nxV n g (srEnd n g (a) + 1 + 1 + 1 + 1 + 1 + 1)), nuF (nxV n g (srEnd n g (a) + 1 + 1 + 1 + 1 + 1 + 1)), nuV (nxV n g (srEnd n g (a) + 1 + 1 + 1 + 1 + 1 + 1 + 1)), nuF (nxV n g (srEnd n g (a) + 1 + 1 + 1 + 1 + 1 + 1 + 1)), nuV (nxV n g (srEnd n g (a) + 1 + 1 + 1 + 1 + 1 + 1 + 1 + 1)), nuF (nxV n g (srEnd n g (a) + 1 + 1 + 1 + 1 + 1 + 1 + 1 + 1)), frV 2147483647 (nxV n g (srEnd n g (a) + 1 + 1 + 1 + 1 + 1 + 1 + 1 + 1 + 1)), frV 1 (nxV n g (srEnd n g (a) + 1 + 1 + 1 + 1 + 1 + 1 + 1 + 1 + 1 + 1)) == 1, frV 1 (nxV n g (srEnd n g (a) + 1 + 1 + 1 + 1 + 1 + 1 + 1 + 1 + 1 + 1 + 1)) == 1, frV 1099511627776 (nxV n g (srEnd n g (a) + 1 + 1 + 1 + 1 + 1 + 1 + 1 + 1 + 1 + 1 + 1 + 1))⟩
noncomputable def sbEnd (n : Nat) (g : Nat → Int) (a : Int) : Int := srEnd n g (a) + 1 + 1 + 1 + 1 + 1 + 1 + 1 + 1 + 1 + 1 + 1 + 1 + 1
noncomputable def srBdE (q : Prop) (n cap : Nat) (g : Nat → Int) (a : Int) : Eff := .nd q Nat 0 (fun c => boS (sbV n g a) (.sl 1000 2 0 (srC n g a) (srC n g a + c))) fun c => [(0, srB n cap (sbEnd n g a)), (1000, spW (srC n g a) (srC n g a + c) (srSp n g a))]
noncomputable def sSrBd (args : List SV) (bs : List Blk) : Option Eff := match args, bs with
  | [.vp 0 0], [S, D] => match S.row 0 with
    | [.sl 1 1 0 n cap, .v (.int .i64 a)] => bif srOk S && niOk D then some (srBdE (niPre n D ∧ 0 ≤ a ∧ a ≤ 4611686018427380000) n cap (gI D) a) else none
    | _ => none
  | _, _ => none
noncomputable def ΓSf : Ctrs := addCtr ΓSd 62 (hpCtr true sSrSh)
@[reducible] noncomputable def vcSBody_1 (n : Nat) (e : Nat) (m : Nat) (x : Nat) (g : Nat→Int) (a : Int) (wh : Bool) := (Prod.snd (yNum n (gI (winBlk (niB e m g x wh) 1 0 n)) (Prod.snd (yNum n (gI (winBlk (niB e m g x wh) 1 0 n)) (Prod.snd (yVec n (gI (winBlk (niB e m g x wh) 1 0 n)) (Prod.snd (yPose n (gI (winBlk (niB e m g x wh) 1 0 n)) (srEnd n (gI (winBlk (niB e m g x wh) 1 0 n)) a)))))))))
@[reducible] noncomputable def vcSBody_2 (n : Nat) (e : Nat) (m : Nat) (x : Nat) (g : Nat→Int) (a : Int) (wh : Bool) := (Prod.snd (yVec n (gI (winBlk (niB e m g x wh) 1 0 n)) (Prod.snd (yPose n (gI (winBlk (niB e m g x wh) 1 0 n)) (srEnd n (gI (winBlk (niB e m g x wh) 1 0 n)) a)))))
@[reducible] noncomputable def vcSBody_3 (n : Nat) (e : Nat) (m : Nat) (x : Nat) (g : Nat→Int) (a : Int) (wh : Bool) := (yNum n (gI (winBlk (niB e m g x wh) 1 0 n)) (vcSBody_1 n e m x g a wh))
@[reducible] noncomputable def vcSBody_4 (n : Nat) (e : Nat) (m : Nat) (x : Nat) (g : Nat→Int) (a : Int) (wh : Bool) := (yPose n (gI (winBlk (niB e m g x wh) 1 0 n)) (srEnd n (gI (winBlk (niB e m g x wh) 1 0 n)) a))
theorem vcSBody (n cap e m x : Nat) (g : Nat→Int) (a : Int) (wh : Bool) : (vcFn Try.prog ΓSf noΛ Try.f90 [.vp 0 0] (heapOf [srB n cap a,niB e m g x wh]) 64 (fun y h' => FinE [srB n cap a,niB e m g x wh] (srBdE True n cap g a) y h')) =
(((niPre n (winBlk (niB e m g x wh) 1 0 n))∧(((0 : Int) ≤ a)∧((a : Int) ≤ 4611686018427387000)))∧(∀ c : Nat,((((niPre n (winBlk (niB e m g x wh) 1 0 n))∧(((0 : Int) ≤ (srEnd n (gI (winBlk (niB e m g x wh) 1 0 n)) a))∧(((Prod.snd (vcSBody_4 n e m x g a wh)) : Int) ≤ 4611686018427387904)))∧True)∧((((niPre n (winBlk (niB e m g x wh) 1 0 n))∧(((0 : Int) ≤ (Prod.snd (vcSBody_4 n e m x g a wh)))∧(((vcSBody_2 n e m x g a wh) : Int) ≤ 4611686018427387904)))∧True)∧((((niPre n (winBlk (niB e m g x wh) 1 0 n))∧(((0 : Int) ≤ (vcSBody_2 n e m x g a wh))∧(((Prod.snd (yNum n (gI (winBlk (niB e m g x wh) 1 0 n)) (vcSBody_2 n e m x g a wh))) : Int) ≤ 4611686018427387904)))∧True)∧((((niPre n (winBlk (niB e m g x wh) 1 0 n))∧(((0 : Int) ≤ (Prod.snd (yNum n (gI (winBlk (niB e m g x wh) 1 0 n)) (vcSBody_2 n e m x g a wh))))∧(((vcSBody_1 n e m x g a wh) : Int) ≤ 4611686018427387904)))∧True)∧((((niPre n (winBlk (niB e m g x wh) 1 0 n))∧(((0 : Int) ≤ (vcSBody_1 n e m x g a wh))∧(((Prod.snd (vcSBody_3 n e m x g a wh)) : Int) ≤ 4611686018427387904)))∧True)∧((((niPre n (winBlk (niB e m g x wh) 1 0 n))∧(((0 : Int) ≤ (Prod.snd (vcSBody_3 n e m x g a wh)))∧(((Prod.snd (vcSBody_3 n e m x g a wh) + 1) : Int) ≤ 4611686018427387904)))∧(((0 : Int) ≤ 2147483647)∧((2147483647 : Int) ≤ 4611686018427387904)))∧((((niPre n (winBlk (niB e m g x wh) 1 0 n))∧(((0 : Int) ≤ (Prod.snd (vcSBody_3 n e m x g a wh) + 1))∧(((Prod.snd (vcSBody_3 n e m x g a wh) + 1 + 1) : Int) ≤ 4611686018427387904)))∧(((0 : Int) ≤ 1)∧((1 : Int) ≤ 4611686018427387904)))∧((((niPre n (winBlk (niB e m g x wh) 1 0 n))∧(((0 : Int) ≤ (Prod.snd (vcSBody_3 n e m x g a wh) + 1 + 1))∧(((Prod.snd (vcSBody_3 n e m x g a wh) + 1 + 1 + 1) : Int) ≤ 4611686018427387904)))∧(((0 : Int) ≤ 1)∧((1 : Int) ≤ 4611686018427387904)))∧((((niPre n (winBlk (niB e m g x wh) 1 0 n))∧(((0 : Int) ≤ (Prod.snd (vcSBody_3 n e m x g a wh) + 1 + 1 + 1))∧(((Prod.snd (vcSBody_3 n e m x g a wh) + 1 + 1 + 1 + 1) : Int) ≤ 4611686018427387904)))∧(((0 : Int) ≤ 1099511627776)∧((1099511627776 : Int) ≤ 4611686018427387904)))∧(∃ c_1 : Nat,((((iV (ShB.k (srS4 n (gI (winBlk (niB e m g x wh) 1 0 n)) a))) = (iV (BV.sk (sbV n g a))))∧(((iV (ShB.r (srS4 n (gI (winBlk (niB e m g x wh) 1 0 n)) a))) = (iV (BV.sr (sbV n g a))))∧(((iV (ShB.w (srS4 n (gI (winBlk (niB e m g x wh) 1 0 n)) a))) = (iV (BV.sw (sbV n g a))))∧(((iV (ShB.h (srS4 n (gI (winBlk (niB e m g x wh) 1 0 n)) a))) = (iV (BV.sh (sbV n g a))))∧(((SV.sl 80 2 0 (srC n (gI (winBlk (niB e m g x wh) 1 0 n)) a) (srC n (gI (winBlk (niB e m g x wh) 1 0 n)) a + c)) = (SV.sl 80 2 0 (srC n g a) (srC n g a + c_1)))∧(((iV (nuV (nxV n (gI (winBlk (niB e m g x wh) 1 0 n)) (srEnd n (gI (winBlk (niB e m g x wh) 1 0 n)) a)))) = (iV (BV.p0v (sbV n g a))))∧(((bV (nuF (nxV n (gI (winBlk (niB e m g x wh) 1 0 n)) (srEnd n (gI (winBlk (niB e m g x wh) 1 0 n)) a)))) = (bV (BV.p0f (sbV n g a))))∧(((iV (nuV (nxV n (gI (winBlk (niB e m g x wh) 1 0 n)) (srEnd n (gI (winBlk (niB e m g x wh) 1 0 n)) a + 1)))) = (iV (BV.p1v (sbV n g a))))∧(((bV (nuF (nxV n (gI (winBlk (niB e m g x wh) 1 0 n)) (srEnd n (gI (winBlk (niB e m g x wh) 1 0 n)) a + 1)))) = (bV (BV.p1f (sbV n g a))))∧(((iV (nuV (nxV n (gI (winBlk (niB e m g x wh) 1 0 n)) (srEnd n (gI (winBlk (niB e m g x wh) 1 0 n)) a + 1 + 1)))) = (iV (BV.p2v (sbV n g a))))∧(((bV (nuF (nxV n (gI (winBlk (niB e m g x wh) 1 0 n)) (srEnd n (gI (winBlk (niB e m g x wh) 1 0 n)) a + 1 + 1)))) = (bV (BV.p2f (sbV n g a))))∧(((iV (nuV (nxV n (gI (winBlk (niB e m g x wh) 1 0 n)) (srEnd n (gI (winBlk (niB e m g x wh) 1 0 n)) a + 1 + 1 + 1)))) = (iV (BV.p3v (sbV n g a))))∧(((bV (nuF (nxV n (gI (winBlk (niB e m g x wh) 1 0 n)) (srEnd n (gI (winBlk (niB e m g x wh) 1 0 n)) a + 1 + 1 + 1)))) = (bV (BV.p3f (sbV n g a))))∧(((iV (nuV (nxV n (gI (winBlk (niB e m g x wh) 1 0 n)) (Prod.snd (vcSBody_4 n e m x g a wh))))) = (iV (BV.v0v (sbV n g a))))∧(((bV (nuF (nxV n (gI (winBlk (niB e m g x wh) 1 0 n)) (Prod.snd (vcSBody_4 n e m x g a wh))))) = (bV (BV.v0f (sbV n g a))))∧(((iV (nuV (nxV n (gI (winBlk (niB e m g x wh) 1 0 n)) (Prod.snd (vcSBody_4 n e m x g a wh) + 1)))) = (iV (BV.v1v (sbV n g a))))∧(((bV (nuF (nxV n (gI (winBlk (niB e m g x wh) 1 0 n)) (Prod.snd (vcSBody_4 n e m x g a wh) + 1)))) = (bV (BV.v1f (sbV n g a))))∧(((iV (nuV (nxV n (gI (winBlk (niB e m g x wh) 1 0 n)) (vcSBody_2 n e m x g a wh)))) = (iV (BV.w0v (sbV n g a))))∧(((bV (nuF (nxV n (gI (winBlk (niB e m g x wh) 1 0 n)) (vcSBody_2 n e m x g a wh)))) = (bV (BV.w0f (sbV n g a))))∧(((iV (nuV (nxV n (gI (winBlk (niB e m g x wh) 1 0 n)) (Prod.snd (yNum n (gI (winBlk (niB e m g x wh) 1 0 n)) (vcSBody_2 n e m x g a wh)))))) = (iV (BV.m0v (sbV n g a))))∧(((bV (nuF (nxV n (gI (winBlk (niB e m g x wh) 1 0 n)) (Prod.snd (yNum n (gI (winBlk (niB e m g x wh) 1 0 n)) (vcSBody_2 n e m x g a wh)))))) = (bV (BV.m0f (sbV n g a))))∧(((iV (nuV (nxV n (gI (winBlk (niB e m g x wh) 1 0 n)) (vcSBody_1 n e m x g a wh)))) = (iV (BV.m1v (sbV n g a))))∧(((bV (nuF (nxV n (gI (winBlk (niB e m g x wh) 1 0 n)) (vcSBody_1 n e m x g a wh)))) = (bV (BV.m1f (sbV n g a))))∧(((iV (frV 2147483647 (nxV n (gI (winBlk (niB e m g x wh) 1 0 n)) (Prod.snd (vcSBody_3 n e m x g a wh))))) = (iV (BV.st (sbV n g a))))∧(((bV (frV 1 (nxV n (gI (winBlk (niB e m g x wh) 1 0 n)) (Prod.snd (vcSBody_3 n e m x g a wh) + 1)) == 1)) = (bV (BV.asl (sbV n g a))))∧(((bV (frV 1 (nxV n (gI (winBlk (niB e m g x wh) 1 0 n)) (Prod.snd (vcSBody_3 n e m x g a wh) + 1 + 1)) == 1)) = (bV (BV.flt (sbV n g a))))∧((iV (frV 1099511627776 (nxV n (gI (winBlk (niB e m g x wh) 1 0 n)) (Prod.snd (vcSBody_3 n e m x g a wh) + 1 + 1 + 1)))) = (iV (BV.bv (sbV n g a))))))))))))))))))))))))))))))∧((((1 : Nat) = 1)∧(((1 : Nat) ≤ 1)∧(((SV.sl 1 1 0 n cap) = (SV.sl 1 1 0 n cap))∧((iV (Prod.snd (vcSBody_3 n e m x g a wh) + 1 + 1 + 1 + 1)) = (iV (sbEnd n g a))))))∧((((srC n (gI (winBlk (niB e m g x wh) 1 0 n)) a) : Nat) = (srC n g a))∧((((srC n g a + c_1) : Nat) ≤ (srC n (gI (winBlk (niB e m g x wh) 1 0 n)) a + c))∧(∀ i : Nat,(((i : Nat) < (srC n g a))→([(iV (Prod.fst (srSp n (gI (winBlk (niB e m g x wh) 1 0 n)) a i))),(iV (Prod.snd (srSp n (gI (winBlk (niB e m g x wh) 1 0 n)) a i)))] = [(iV (Prod.fst (srSp n g a i))),(iV (Prod.snd (srSp n g a i)))]))))))))))))))))))) := by kernel_rfl
noncomputable def eoE (err : Int) : Int := hide (max 0 (md err 29 - 14))
noncomputable def wV1 (n : Nat) (g : Nat → Int) : RV := ⟨frV 2147483647 (nxV n g 0), frV 2147483647 (nxV n g (0 + 1)), frV 2147483647 (nxV n g (0 + 1 + 1)), frV 1099511627776 (nxV n g (0 + 1 + 1 + 1)), 0, zBV, false, 0, false, 0, false, 0, false, 0⟩
noncomputable def wV2 (n : Nat) (g : Nat → Int) : RV := ⟨frV 2147483647 (nxV n g 0), frV 2147483647 (nxV n g (0 + 1)), frV 2147483647 (nxV n g (0 + 1 + 1)), 0, 0, zBV, false, 0, false, 0, false, 0, false, 0⟩
noncomputable def wV3 (n : Nat) (g : Nat → Int) : RV := ⟨frV 2147483647 (nxV n g 0), frV 2147483647 (nxV n g (0 + 1)), frV 2147483647 (nxV n g (0 + 1 + 1)), frV 1099511627776 (nxV n g (0 + 1 + 1 + 1)), 0, zBV, false, 0, false, 0, false, 0, false, 0⟩
noncomputable def wV4 (n : Nat) (g : Nat → Int) : RV := ⟨frV 2147483647 (nxV n g 0), frV 2147483647 (nxV n g (0 + 1)), frV 2147483647 (nxV n g (0 + 1 + 1)), frV 1099511627776 (nxV n g (0 + 1 + 1 + 1)), frV 2147483647 (nxV n g (0 + 1 + 1 + 1 + 1)), zBV, false, 0, false, 0, false, 0, false, 0⟩
noncomputable def wV5 (n : Nat) (g : Nat → Int) : RV := ⟨frV 2147483647 (nxV n g 0), 0, 0, 0, frV 2147483647 (nxV n g (0 + 1)), zBV, false, 0, false, 0, false, 0, false, 0⟩
noncomputable def wV6 (n : Nat) (g : Nat → Int) : RV := ⟨frV 2147483647 (nxV n g 0), 0, 0, 0, frV 2147483647 (nxV n g (0 + 1)), zBV, false, 0, false, 0, false, 0, false, 0⟩
noncomputable def wV7 (n : Nat) (g : Nat → Int) : RV := ⟨frV 2147483647 (nxV n g 0), frV 2147483647 (nxV n g (0 + 1)), frV 2147483647 (nxV n g (0 + 1 + 1)), 0, 0, sbV n g (0 + 1 + 1 + 1), false, 0, false, 0, false, 0, false, 0⟩
noncomputable def wV10 (n : Nat) (g : Nat → Int) : RV := ⟨frV 2147483647 (nxV n g 0), 0, 0, 0, 0, zBV, false, 0, false, 0, false, 0, false, frV 2147483647 (nxV n g (0 + 1))⟩
noncomputable def wV8 (n : Nat) (g : Nat → Int) : RV := ⟨frV 2147483647 (nxV n g 0), 0, 0, 0, 0, zBV, false, 0, false, 0, false, 0, false, 0⟩
noncomputable def wVh (n : Nat) (g : Nat → Int) : RV := ⟨frV 2147483647 (nxV n g 0), frV 2147483647 (nxV n g (0 + 1 + 1)), frV 2147483647 (nxV n g (0 + 1 + 1 + 1)), 0, 0, zBV, true, nuV (nxV n g (0 + 1 + 1 + 1 + 1)), nuF (nxV n g (0 + 1 + 1 + 1 + 1)), nuV (nxV n g (0 + 1 + 1 + 1 + 1 + 1)), nuF (nxV n g (0 + 1 + 1 + 1 + 1 + 1)), nuV (nxV n g (0 + 1 + 1 + 1 + 1 + 1 + 1)), nuF (nxV n g (0 + 1 + 1 + 1 + 1 + 1 + 1)), 0⟩
noncomputable def wV9 (n : Nat) (g : Nat → Int) : RV := bif decide (0 < frV 2 (nxV n g (0 + 1))) then wVh n g else wV8 n g
noncomputable def wVN (err : Int) (n : Nat) (g : Nat → Int) : RV := ⟨frV 2147483647 (nxV n g 0), 0, 0, bif eoE err == 14 then frV 1099511627776 (nxV n g (0 + 1)) else 0, 0, zBV, false, 0, false, 0, false, 0, false, 0⟩
noncomputable def roV (kind err : Int) (n : Nat) (g : Nat → Int) : RV := bif eoE err == 0 then (bif coK kind == 1 then wV1 n g else (bif coK kind == 2 then wV2 n g else (bif coK kind == 3 then wV3 n g else (bif coK kind == 4 then wV4 n g else (bif coK kind == 5 then wV5 n g else (bif coK kind == 6 then wV6 n g else (bif coK kind == 7 then wV7 n g else (bif coK kind == 8 then wV8 n g else (bif coK kind == 9 then wV9 n g else (wV10 n g)))))))))) else wVN err n g
noncomputable def rhC (n : Nat) (g : Nat → Int) : Nat := hide (frV 64 (nxV n g (0 + 1))).toNat
noncomputable def rhG (n : Nat) (g : Nat → Int) : Nat → Int × Int := fun i => (frV 2147483647 (nxV n g (0 + 1 + 1 + 2 * (i : Int))), frV 2147483647 (nxV n g (0 + 1 + 1 + 2 * (i : Int) + 1)))
noncomputable def roN (kind err : Int) (n : Nat) (g : Nat → Int) : Nat := bif eoE err == 0 && coK kind == 7 then srC n g (0 + 1 + 1 + 1) else 0
noncomputable def roM (kind err : Int) (n : Nat) (g : Nat → Int) : Nat := bif eoE err == 0 && coK kind == 8 then rhC n g else 0
noncomputable def roSp (n : Nat) (g : Nat → Int) : Nat → Int × Int := srSp n g (0 + 1 + 1 + 1)
noncomputable def roE (q : Prop) (kind err : Int) (n : Nat) (g : Nat → Int) : Eff := .nd q RC ⟨0, 0⟩ (fun c => reS (coK kind) (eoE err) (roV kind err n g) (.sl 1000 2 0 (roN kind err n g) (roN kind err n g + c.a)) (.sl 1001 2 0 (roM kind err n g) (roM kind err n g + c.b))) fun c => [(1000, spW (roN kind err n g) (roN kind err n g + c.a) (roSp n g)), (1001, hdW (roM kind err n g) (roM kind err n g + c.b) (rhG n g))]
noncomputable def sReplyOf (args : List SV) (bs : List Blk) : Option Eff := match args, bs with
  | [.v (.int .i64 kind), .v (.int .i64 err), .sl 0 1 0 n _], [D] => bif niOk D then some (roE (niPre n D ∧ I64 kind ∧ I64 err) kind err n (gI D)) else none
  | _, _ => none
noncomputable def ΓSg : Ctrs := addCtr (addCtr ΓSd 90 (hpCtr true sSrBd)) 39 (pureCtr sModH)
def srB0 (n cap : Nat) (a : Int) : Blk := { elem := 114, size := 2, rw := true, lock := false, lit := true, flat := false, n := 1, row := fun _ => [.sl 0 1 0 n cap, .v (.int .i64 a)], ext := 1, whole := true }
noncomputable def wv1 (n : Nat) (g : Nat → Int) (v : Int) : RV := ⟨frV 2147483647 (nxV n g 0), 0, 0, v, 0, zBV, false, 0, false, 0, false, 0, false, 0⟩
noncomputable def rp1 (kind err : Int) (n : Nat) (g : Nat → Int) (v : Int) (H : SV) : Blk := varBlk 64 (aggL (reS (coK kind) (eoE err) (wv1 n g v) nilS H))
noncomputable def rvr (err : Int) (n : Nat) (g : Nat → Int) : Int := bif eoE err == 14 then frV 1099511627776 (nxV n g (0 + 1)) else 0
noncomputable def rpos (err : Int) : Int := bif eoE err == 14 then 0 + 1 + 1 else 0 + 1
noncomputable def ΛRo (kind err : Int) (n cap e m xt : Nat) (g : Nat → Int) (wh : Bool) : Nat → Option LoopSpec := addPrs (addLoopN (addCut noΛ Try.f53 3 7 Nat (fun _ => True) [] [(88, fun _ => srB0 n cap (rpos err)), (0, fun _ => niB e m g xt wh), (184, fun _ => rp1 kind err n g (rvr err n g) nilS)]) Try.f53 1 SX (fun x => x.i ≤ rhC n g ∧ x.i ≤ x.c) (fun x => rhC n g - x.i) [(9, fun x => .v (.int .i64 ((rhC n g : Int) - (x.i : Int))))] [(88, fun x => srB0 n cap (0 + 1 + 1 + 2 * (x.i : Int))), (0, fun _ => niB e m g xt wh), (184, fun x => rp1 kind err n g (rvr err n g) (.sl 40 2 0 x.i x.c))] [(40, fun x => hdW x.i x.c (rhG n g), inVar 184 34)]) 27 [(1, fun _ => [184]), (3, fun _ => [88, 0])]
def gW (e m x n : Nat) (g : Nat → Int) (wh : Bool) : Nat → Int := gI (winBlk { elem := e, size := 1, rw := false, lock := false, lit := false, flat := true, n := m, row := fun i => [SV.v (Value.int IntKind.i64 (g i))], ext := x, whole := wh } 1 0 n)
def nW (e m x n : Nat) (g : Nat → Int) (wh : Bool) : Prop := niPre n (winBlk { elem := e, size := 1, rw := false, lock := false, lit := false, flat := true, n := m, row := fun i => [SV.v (Value.int IntKind.i64 (g i))], ext := x, whole := wh } 1 0 n)
@[reducible] noncomputable def vcReplyOf_1 (kind : Int) (err : Int) (n : Nat) (g : Nat→Int) (T_ : Prop) : Prop := ((iV (BV.p0v (RV.o (wv1 n g (rvr err n g))))) = (iV (BV.p0v (RV.o (roV kind err n g)))))∧(((bV false) = (bV (BV.p0f (RV.o (roV kind err n g)))))∧(((iV (BV.p1v (RV.o (wv1 n g (rvr err n g))))) = (iV (BV.p1v (RV.o (roV kind err n g)))))∧(((bV false) = (bV (BV.p1f (RV.o (roV kind err n g)))))∧(((iV (BV.p2v (RV.o (wv1 n g (rvr err n g))))) = (iV (BV.p2v (RV.o (roV kind err n g)))))∧(((bV false) = (bV (BV.p2f (RV.o (roV kind err n g)))))∧(((iV (BV.p3v (RV.o (wv1 n g (rvr err n g))))) = (iV (BV.p3v (RV.o (roV kind err n g)))))∧(((bV false) = (bV (BV.p3f (RV.o (roV kind err n g)))))∧(((iV (BV.v0v (RV.o (wv1 n g (rvr err n g))))) = (iV (BV.v0v (RV.o (roV kind err n g)))))∧(((bV false) = (bV (BV.v0f (RV.o (roV kind err n g)))))∧(((iV (BV.v1v (RV.o (wv1 n g (rvr err n g))))) = (iV (BV.v1v (RV.o (roV kind err n g)))))∧(((bV false) = (bV (BV.v1f (RV.o (roV kind err n g)))))∧(((iV (BV.w0v (RV.o (wv1 n g (rvr err n g))))) = (iV (BV.w0v (RV.o (roV kind err n g)))))∧(((bV false) = (bV (BV.w0f (RV.o (roV kind err n g)))))∧(((iV (BV.m0v (RV.o (wv1 n g (rvr err n g))))) = (iV (BV.m0v (RV.o (roV kind err n g)))))∧(((bV false) = (bV (BV.m0f (RV.o (roV kind err n g)))))∧(((iV (BV.m1v (RV.o (wv1 n g (rvr err n g))))) = (iV (BV.m1v (RV.o (roV kind err n g)))))∧(((bV false) = (bV (BV.m1f (RV.o (roV kind err n g)))))∧(((iV (BV.st (RV.o (wv1 n g (rvr err n g))))) = (iV (BV.st (RV.o (roV kind err n g)))))∧(((bV false) = (bV (BV.asl (RV.o (roV kind err n g)))))∧(((bV false) = (bV (BV.flt (RV.o (roV kind err n g)))))∧(((iV (BV.bv (RV.o (wv1 n g (rvr err n g))))) = (iV (BV.bv (RV.o (roV kind err n g)))))∧(T_))))))))))))))))))))))
@[reducible] noncomputable def vcReplyOf_2 (kind : Int) (err : Int) (n : Nat) (e : Nat) (m : Nat) (x : Nat) (g : Nat→Int) (wh : Bool) := (((((nW e m x n g wh))∧(((0 : Int) ≤ (rpos err))∧(((Prod.snd (yHandle n ((gW e m x n g wh)) (rpos err))) : Int) ≤ 4611686018427387904)))∧True)∧(((((nW e m x n g wh))∧(((0 : Int) ≤ (Prod.snd (yHandle n ((gW e m x n g wh)) (rpos err))))∧(((Prod.snd (yHandle n ((gW e m x n g wh)) (rpos err)) + 1) : Int) ≤ 4611686018427387904)))∧(((0 : Int) ≤ 1099511627776)∧((1099511627776 : Int) ≤ 4611686018427387904)))∧(sel (coK kind == 4) (((((nW e m x n g wh))∧(((0 : Int) ≤ (Prod.snd (yHandle n ((gW e m x n g wh)) (rpos err)) + 1))∧(((Prod.snd (yHandle n ((gW e m x n g wh)) (rpos err)) + 1 + 1) : Int) ≤ 4611686018427387904)))∧(((0 : Int) ≤ 2147483647)∧((2147483647 : Int) ≤ 4611686018427387904)))∧(∃ c : RC,((((iV (coK kind)) = (iV (coK kind)))∧(((iV (RV.id (wv1 n g (rvr err n g)))) = (iV (RV.id (roV kind err n g))))∧(((iV (eoE err)) = (iV (eoE err)))∧(((iV (frV 2147483647 (nxV n ((gW e m x n g wh)) (rpos err)))) = (iV (RV.bs (roV kind err n g))))∧(((iV (frV 2147483647 (nxV n ((gW e m x n g wh)) (rpos err + 1)))) = (iV (RV.bg (roV kind err n g))))∧(((iV (frV 1099511627776 (nxV n ((gW e m x n g wh)) (Prod.snd (yHandle n ((gW e m x n g wh)) (rpos err)))))) = (iV (RV.ver (roV kind err n g))))∧(((iV (frV 2147483647 (nxV n ((gW e m x n g wh)) (Prod.snd (yHandle n ((gW e m x n g wh)) (rpos err)) + 1)))) = (iV (RV.gr (roV kind err n g))))∧(((iV (BV.sk (RV.o (wv1 n g (rvr err n g))))) = (iV (BV.sk (RV.o (roV kind err n g)))))∧(((iV (BV.sr (RV.o (wv1 n g (rvr err n g))))) = (iV (BV.sr (RV.o (roV kind err n g)))))∧(((iV (BV.sw (RV.o (wv1 n g (rvr err n g))))) = (iV (BV.sw (RV.o (roV kind err n g)))))∧(((iV (BV.sh (RV.o (wv1 n g (rvr err n g))))) = (iV (BV.sh (RV.o (roV kind err n g)))))∧(((zS = zS)∧(((0 : Nat) = 0)∧((((roN kind err n g) : Nat) = 0)∧(((roN kind err n g + RC.a c) : Nat) = 0))))∧(vcReplyOf_1 kind err n g (((zS = zS)∧(((0 : Nat) = 0)∧((((roM kind err n g) : Nat) = 0)∧(((roM kind err n g + RC.b c) : Nat) = 0))))∧(((bV false) = (bV (RV.hit (roV kind err n g))))∧(((iV (RV.htv (wv1 n g (rvr err n g)))) = (iV (RV.htv (roV kind err n g))))∧(((bV false) = (bV (RV.htf (roV kind err n g))))∧(((iV (RV.x0v (wv1 n g (rvr err n g)))) = (iV (RV.x0v (roV kind err n g))))∧(((bV false) = (bV (RV.x0f (roV kind err n g))))∧(((iV (RV.x1v (wv1 n g (rvr err n g)))) = (iV (RV.x1v (roV kind err n g))))∧(((bV false) = (bV (RV.x1f (roV kind err n g))))∧((iV (RV.cnt (wv1 n g (rvr err n g)))) = (iV (RV.cnt (roV kind err n g)))))))))))))))))))))))))∧(((((roN kind err n g) : Nat) = 0)∧((((roN kind err n g + RC.a c) : Nat) = 0)∧True))∧(((((roM kind err n g) : Nat) = 0)∧((((roM kind err n g + RC.b c) : Nat) = 0)∧True))∧True))))) (∃ c : RC,((((iV (coK kind)) = (iV (coK kind)))∧(((iV (RV.id (wv1 n g (rvr err n g)))) = (iV (RV.id (roV kind err n g))))∧(((iV (eoE err)) = (iV (eoE err)))∧(((iV (frV 2147483647 (nxV n ((gW e m x n g wh)) (rpos err)))) = (iV (RV.bs (roV kind err n g))))∧(((iV (frV 2147483647 (nxV n ((gW e m x n g wh)) (rpos err + 1)))) = (iV (RV.bg (roV kind err n g))))∧(((iV (frV 1099511627776 (nxV n ((gW e m x n g wh)) (Prod.snd (yHandle n ((gW e m x n g wh)) (rpos err)))))) = (iV (RV.ver (roV kind err n g))))∧(((iV (RV.gr (wv1 n g (rvr err n g)))) = (iV (RV.gr (roV kind err n g))))∧(((iV (BV.sk (RV.o (wv1 n g (rvr err n g))))) = (iV (BV.sk (RV.o (roV kind err n g)))))∧(((iV (BV.sr (RV.o (wv1 n g (rvr err n g))))) = (iV (BV.sr (RV.o (roV kind err n g)))))∧(((iV (BV.sw (RV.o (wv1 n g (rvr err n g))))) = (iV (BV.sw (RV.o (roV kind err n g)))))∧(((iV (BV.sh (RV.o (wv1 n g (rvr err n g))))) = (iV (BV.sh (RV.o (roV kind err n g)))))∧(((zS = zS)∧(((0 : Nat) = 0)∧((((roN kind err n g) : Nat) = 0)∧(((roN kind err n g + RC.a c) : Nat) = 0))))∧(vcReplyOf_1 kind err n g (((zS = zS)∧(((0 : Nat) = 0)∧((((roM kind err n g) : Nat) = 0)∧(((roM kind err n g + RC.b c) : Nat) = 0))))∧(((bV false) = (bV (RV.hit (roV kind err n g))))∧(((iV (RV.htv (wv1 n g (rvr err n g)))) = (iV (RV.htv (roV kind err n g))))∧(((bV false) = (bV (RV.htf (roV kind err n g))))∧(((iV (RV.x0v (wv1 n g (rvr err n g)))) = (iV (RV.x0v (roV kind err n g))))∧(((bV false) = (bV (RV.x0f (roV kind err n g))))∧(((iV (RV.x1v (wv1 n g (rvr err n g)))) = (iV (RV.x1v (roV kind err n g))))∧(((bV false) = (bV (RV.x1f (roV kind err n g))))∧((iV (RV.cnt (wv1 n g (rvr err n g)))) = (iV (RV.cnt (roV kind err n g)))))))))))))))))))))))))∧(((((roN kind err n g) : Nat) = 0)∧((((roN kind err n g + RC.a c) : Nat) = 0)∧True))∧(((((roM kind err n g) : Nat) = 0)∧((((roM kind err n g + RC.b c) : Nat) = 0)∧True))∧True)))))))
@[reducible] noncomputable def vcReplyOf_3 (kind : Int) (err : Int) (n : Nat) (g : Nat→Int) := (∃ c : RC,((((iV (coK kind)) = (iV (coK kind)))∧(((iV (RV.id (wv1 n g (rvr err n g)))) = (iV (RV.id (roV kind err n g))))∧(((iV (eoE err)) = (iV (eoE err)))∧(((iV (RV.bs (wv1 n g (rvr err n g)))) = (iV (RV.bs (roV kind err n g))))∧(((iV (RV.bg (wv1 n g (rvr err n g)))) = (iV (RV.bg (roV kind err n g))))∧(((iV (RV.ver (wv1 n g (rvr err n g)))) = (iV (RV.ver (roV kind err n g))))∧(((iV (RV.gr (wv1 n g (rvr err n g)))) = (iV (RV.gr (roV kind err n g))))∧(((iV (BV.sk (RV.o (wv1 n g (rvr err n g))))) = (iV (BV.sk (RV.o (roV kind err n g)))))∧(((iV (BV.sr (RV.o (wv1 n g (rvr err n g))))) = (iV (BV.sr (RV.o (roV kind err n g)))))∧(((iV (BV.sw (RV.o (wv1 n g (rvr err n g))))) = (iV (BV.sw (RV.o (roV kind err n g)))))∧(((iV (BV.sh (RV.o (wv1 n g (rvr err n g))))) = (iV (BV.sh (RV.o (roV kind err n g)))))∧(((zS = zS)∧(((0 : Nat) = 0)∧((((roN kind err n g) : Nat) = 0)∧(((roN kind err n g + RC.a c) : Nat) = 0))))∧(vcReplyOf_1 kind err n g (((zS = zS)∧(((0 : Nat) = 0)∧((((roM kind err n g) : Nat) = 0)∧(((roM kind err n g + RC.b c) : Nat) = 0))))∧(((bV false) = (bV (RV.hit (roV kind err n g))))∧(((iV (RV.htv (wv1 n g (rvr err n g)))) = (iV (RV.htv (roV kind err n g))))∧(((bV false) = (bV (RV.htf (roV kind err n g))))∧(((iV (RV.x0v (wv1 n g (rvr err n g)))) = (iV (RV.x0v (roV kind err n g))))∧(((bV false) = (bV (RV.x0f (roV kind err n g))))∧(((iV (RV.x1v (wv1 n g (rvr err n g)))) = (iV (RV.x1v (roV kind err n g))))∧(((bV false) = (bV (RV.x1f (roV kind err n g))))∧((iV (RV.cnt (wv1 n g (rvr err n g)))) = (iV (RV.cnt (roV kind err n g)))))))))))))))))))))))))∧(((((roN kind err n g) : Nat) = 0)∧((((roN kind err n g + RC.a c) : Nat) = 0)∧True))∧(((((roM kind err n g) : Nat) = 0)∧((((roM kind err n g + RC.b c) : Nat) = 0)∧True))∧True))))
@[reducible] noncomputable def vcReplyOf_4 (kind : Int) (err : Int) (n : Nat) (g : Nat→Int) (T_ : Prop) : Prop := ((1 : Nat) = 1)∧(((1 : Nat) ≤ 1)∧(((iV (coK kind)) = (iV (coK kind)))∧(((iV (RV.id (wv1 n g (rvr err n g)))) = (iV (RV.id (wv1 n g (rvr err n g)))))∧(((iV (eoE err)) = (iV (eoE err)))∧(((iV (RV.bs (wv1 n g (rvr err n g)))) = (iV (RV.bs (wv1 n g (rvr err n g)))))∧(((iV (RV.bg (wv1 n g (rvr err n g)))) = (iV (RV.bg (wv1 n g (rvr err n g)))))∧(((iV (RV.ver (wv1 n g (rvr err n g)))) = (iV (RV.ver (wv1 n g (rvr err n g)))))∧(((iV (RV.gr (wv1 n g (rvr err n g)))) = (iV (RV.gr (wv1 n g (rvr err n g)))))∧(((iV (BV.sk (RV.o (wv1 n g (rvr err n g))))) = (iV (BV.sk (RV.o (wv1 n g (rvr err n g))))))∧(((iV (BV.sr (RV.o (wv1 n g (rvr err n g))))) = (iV (BV.sr (RV.o (wv1 n g (rvr err n g))))))∧(((iV (BV.sw (RV.o (wv1 n g (rvr err n g))))) = (iV (BV.sw (RV.o (wv1 n g (rvr err n g))))))∧(((iV (BV.sh (RV.o (wv1 n g (rvr err n g))))) = (iV (BV.sh (RV.o (wv1 n g (rvr err n g))))))∧((zS = zS)∧(((iV (BV.p0v (RV.o (wv1 n g (rvr err n g))))) = (iV (BV.p0v (RV.o (wv1 n g (rvr err n g))))))∧(((bV false) = (bV false))∧(((iV (BV.p1v (RV.o (wv1 n g (rvr err n g))))) = (iV (BV.p1v (RV.o (wv1 n g (rvr err n g))))))∧(((bV false) = (bV false))∧(((iV (BV.p2v (RV.o (wv1 n g (rvr err n g))))) = (iV (BV.p2v (RV.o (wv1 n g (rvr err n g))))))∧(((bV false) = (bV false))∧(((iV (BV.p3v (RV.o (wv1 n g (rvr err n g))))) = (iV (BV.p3v (RV.o (wv1 n g (rvr err n g))))))∧(((bV false) = (bV false))∧(((iV (BV.v0v (RV.o (wv1 n g (rvr err n g))))) = (iV (BV.v0v (RV.o (wv1 n g (rvr err n g))))))∧(((bV false) = (bV false))∧(((iV (BV.v1v (RV.o (wv1 n g (rvr err n g))))) = (iV (BV.v1v (RV.o (wv1 n g (rvr err n g))))))∧(((bV false) = (bV false))∧(((iV (BV.w0v (RV.o (wv1 n g (rvr err n g))))) = (iV (BV.w0v (RV.o (wv1 n g (rvr err n g))))))∧(((bV false) = (bV false))∧(((iV (BV.m0v (RV.o (wv1 n g (rvr err n g))))) = (iV (BV.m0v (RV.o (wv1 n g (rvr err n g))))))∧(((bV false) = (bV false))∧(((iV (BV.m1v (RV.o (wv1 n g (rvr err n g))))) = (iV (BV.m1v (RV.o (wv1 n g (rvr err n g))))))∧(((bV false) = (bV false))∧(((iV (BV.st (RV.o (wv1 n g (rvr err n g))))) = (iV (BV.st (RV.o (wv1 n g (rvr err n g))))))∧(((bV false) = (bV false))∧(((bV false) = (bV false))∧(((iV (BV.bv (RV.o (wv1 n g (rvr err n g))))) = (iV (BV.bv (RV.o (wv1 n g (rvr err n g))))))∧(T_))))))))))))))))))))))))))))))))))))
@[reducible] noncomputable def vcReplyOf_5 (kind : Int) (err : Int) (n : Nat) (e : Nat) (m : Nat) (x : Nat) (g : Nat→Int) (wh : Bool) := (((((nW e m x n g wh))∧(((0 : Int) ≤ (rpos err))∧(((rpos err + 1) : Int) ≤ 4611686018427387904)))∧(((0 : Int) ≤ 2147483647)∧((2147483647 : Int) ≤ 4611686018427387904)))∧(∃ c : RC,((((iV (coK kind)) = (iV (coK kind)))∧(((iV (RV.id (wv1 n g (rvr err n g)))) = (iV (RV.id (roV kind err n g))))∧(((iV (eoE err)) = (iV (eoE err)))∧(((iV (RV.bs (wv1 n g (rvr err n g)))) = (iV (RV.bs (roV kind err n g))))∧(((iV (RV.bg (wv1 n g (rvr err n g)))) = (iV (RV.bg (roV kind err n g))))∧(((iV (RV.ver (wv1 n g (rvr err n g)))) = (iV (RV.ver (roV kind err n g))))∧(((iV (frV 2147483647 (nxV n ((gW e m x n g wh)) (rpos err)))) = (iV (RV.gr (roV kind err n g))))∧(((iV (BV.sk (RV.o (wv1 n g (rvr err n g))))) = (iV (BV.sk (RV.o (roV kind err n g)))))∧(((iV (BV.sr (RV.o (wv1 n g (rvr err n g))))) = (iV (BV.sr (RV.o (roV kind err n g)))))∧(((iV (BV.sw (RV.o (wv1 n g (rvr err n g))))) = (iV (BV.sw (RV.o (roV kind err n g)))))∧(((iV (BV.sh (RV.o (wv1 n g (rvr err n g))))) = (iV (BV.sh (RV.o (roV kind err n g)))))∧(((zS = zS)∧(((0 : Nat) = 0)∧((((roN kind err n g) : Nat) = 0)∧(((roN kind err n g + RC.a c) : Nat) = 0))))∧(vcReplyOf_1 kind err n g (((zS = zS)∧(((0 : Nat) = 0)∧((((roM kind err n g) : Nat) = 0)∧(((roM kind err n g + RC.b c) : Nat) = 0))))∧(((bV false) = (bV (RV.hit (roV kind err n g))))∧(((iV (RV.htv (wv1 n g (rvr err n g)))) = (iV (RV.htv (roV kind err n g))))∧(((bV false) = (bV (RV.htf (roV kind err n g))))∧(((iV (RV.x0v (wv1 n g (rvr err n g)))) = (iV (RV.x0v (roV kind err n g))))∧(((bV false) = (bV (RV.x0f (roV kind err n g))))∧(((iV (RV.x1v (wv1 n g (rvr err n g)))) = (iV (RV.x1v (roV kind err n g))))∧(((bV false) = (bV (RV.x1f (roV kind err n g))))∧((iV (RV.cnt (wv1 n g (rvr err n g)))) = (iV (RV.cnt (roV kind err n g)))))))))))))))))))))))))∧(((((roN kind err n g) : Nat) = 0)∧((((roN kind err n g + RC.a c) : Nat) = 0)∧True))∧(((((roM kind err n g) : Nat) = 0)∧((((roM kind err n g + RC.b c) : Nat) = 0)∧True))∧True)))))
@[reducible] noncomputable def vcReplyOf_6 (kind : Int) (err : Int) (n : Nat) (g : Nat→Int) (T_ : Prop) : Prop := ((iV (RV.ver (wv1 n g (rvr err n g)))) = (iV (RV.ver (roV kind err n g))))∧(((iV (RV.gr (wv1 n g (rvr err n g)))) = (iV (RV.gr (roV kind err n g))))∧(((iV (BV.sk (RV.o (wv1 n g (rvr err n g))))) = (iV (BV.sk (RV.o (roV kind err n g)))))∧(((iV (BV.sr (RV.o (wv1 n g (rvr err n g))))) = (iV (BV.sr (RV.o (roV kind err n g)))))∧(((iV (BV.sw (RV.o (wv1 n g (rvr err n g))))) = (iV (BV.sw (RV.o (roV kind err n g)))))∧(((iV (BV.sh (RV.o (wv1 n g (rvr err n g))))) = (iV (BV.sh (RV.o (roV kind err n g)))))∧(T_))))))
@[reducible] noncomputable def vcReplyOf_7 (err : Int) (n : Nat) (e : Nat) (m : Nat) (x : Nat) (g : Nat→Int) (wh : Bool) := (sbV n ((gW e m x n g wh)) (Prod.snd (yHandle n ((gW e m x n g wh)) (rpos err))))
@[reducible] noncomputable def vcReplyOf_8 (kind : Int) (err : Int) (n : Nat) (g : Nat→Int) := [(iV (coK kind)),(iV (RV.id (wv1 n g (rvr err n g)))),(iV (eoE err)),(iV (RV.bs (wv1 n g (rvr err n g)))),(iV (RV.bg (wv1 n g (rvr err n g)))),(iV (RV.ver (wv1 n g (rvr err n g)))),(iV (RV.gr (wv1 n g (rvr err n g)))),(iV (BV.sk (RV.o (wv1 n g (rvr err n g))))),(iV (BV.sr (RV.o (wv1 n g (rvr err n g))))),(iV (BV.sw (RV.o (wv1 n g (rvr err n g))))),(iV (BV.sh (RV.o (wv1 n g (rvr err n g))))),zS,(iV (BV.p0v (RV.o (wv1 n g (rvr err n g))))),(bV false),(iV (BV.p1v (RV.o (wv1 n g (rvr err n g))))),(bV false),(iV (BV.p2v (RV.o (wv1 n g (rvr err n g))))),(bV false),(iV (BV.p3v (RV.o (wv1 n g (rvr err n g))))),(bV false),(iV (BV.v0v (RV.o (wv1 n g (rvr err n g))))),(bV false),(iV (BV.v1v (RV.o (wv1 n g (rvr err n g))))),(bV false),(iV (BV.w0v (RV.o (wv1 n g (rvr err n g))))),(bV false),(iV (BV.m0v (RV.o (wv1 n g (rvr err n g))))),(bV false),(iV (BV.m1v (RV.o (wv1 n g (rvr err n g))))),(bV false),(iV (BV.st (RV.o (wv1 n g (rvr err n g))))),(bV false),(bV false),(iV (BV.bv (RV.o (wv1 n g (rvr err n g))))),zS,(bV false),(iV (RV.htv (wv1 n g (rvr err n g)))),(bV false),(iV (RV.x0v (wv1 n g (rvr err n g)))),(bV false),(iV (RV.x1v (wv1 n g (rvr err n g)))),(bV false),(iV (RV.cnt (wv1 n g (rvr err n g))))]
@[reducible] noncomputable def vcReplyOf_9 (kind : Int) (err : Int) (n : Nat) (g : Nat→Int) (T_ : Prop) : Prop := ((bV false) = (bV (RV.hit (roV kind err n g))))∧(((iV (RV.htv (wv1 n g (rvr err n g)))) = (iV (RV.htv (roV kind err n g))))∧(((bV false) = (bV (RV.htf (roV kind err n g))))∧(((iV (RV.x0v (wv1 n g (rvr err n g)))) = (iV (RV.x0v (roV kind err n g))))∧(((bV false) = (bV (RV.x0f (roV kind err n g))))∧(((iV (RV.x1v (wv1 n g (rvr err n g)))) = (iV (RV.x1v (roV kind err n g))))∧(T_))))))
@[reducible] noncomputable def vcReplyOf_10 (e : Nat) (m : Nat) (x : Nat) (g : Nat→Int) (wh : Bool) := (sel (Nat.beq 1 1&&false == false&&!false&&!false&&(true||!true)&&!false&&!false&&(Nat.beq e 0||Nat.beq e e)&&(!wh||wh)) (((m : Nat) = m)∧(((x : Nat) ≤ x)∧(∀ i : Nat,(((i : Nat) < m)→([(iV (g i))] = [(iV (g i))]))))) False)
@[reducible] noncomputable def vcReplyOf_11 (err : Int) (n : Nat) (g : Nat→Int) := (((bV false) = (bV false))∧(((iV (RV.htv (wv1 n g (rvr err n g)))) = (iV (RV.htv (wv1 n g (rvr err n g)))))∧(((bV false) = (bV false))∧(((iV (RV.x0v (wv1 n g (rvr err n g)))) = (iV (RV.x0v (wv1 n g (rvr err n g)))))∧(((bV false) = (bV false))∧(((iV (RV.x1v (wv1 n g (rvr err n g)))) = (iV (RV.x1v (wv1 n g (rvr err n g)))))∧(((bV false) = (bV false))∧((iV (RV.cnt (wv1 n g (rvr err n g)))) = (iV (RV.cnt (wv1 n g (rvr err n g))))))))))))
@[reducible] noncomputable def vcReplyOf_12 (err : Int) (n : Nat) (e : Nat) (m : Nat) (x : Nat) (g : Nat→Int) (wh : Bool) := (yNum n ((gW e m x n g wh)) (Prod.snd (yHandle n ((gW e m x n g wh)) (rpos err + 1))))
@[reducible] noncomputable def vcReplyOf_13 (kind : Int) (err : Int) (n : Nat) (e : Nat) (m : Nat) (x : Nat) (g : Nat→Int) (wh : Bool) (T_ : Prop) : Prop := ((iV (coK kind)) = (iV (coK kind)))∧(((iV (RV.id (wv1 n g (rvr err n g)))) = (iV (RV.id (roV kind err n g))))∧(((iV (eoE err)) = (iV (eoE err)))∧(((iV (frV 2147483647 (nxV n ((gW e m x n g wh)) (rpos err)))) = (iV (RV.bs (roV kind err n g))))∧(((iV (frV 2147483647 (nxV n ((gW e m x n g wh)) (rpos err + 1)))) = (iV (RV.bg (roV kind err n g))))∧(T_)))))
theorem vcReplyOf (kind err : Int) (n cap e m x : Nat) (g : Nat→Int) (wh : Bool) : (vcFn Try.prog ΓSg (ΛRo kind err n cap e m x g wh) Try.f53 [.v (.int .i64 kind),.v (.int .i64 err),.sl 0 1 0 n cap] (heapOf [niB e m g x wh]) 64 (fun y h' => FinE [niB e m g x wh] (roE True kind err n g) y h')) =
(((I64 kind)∧(((0 : Int) < 10)∧((10 : Int) < 4611686018427387904)))∧((((niPre n (winBlk (niB e m g x wh) 1 0 n))∧(((0 : Int) ≤ 0)∧((1 : Int) ≤ 4611686018427387904)))∧(((0 : Int) ≤ 2147483647)∧((2147483647 : Int) ≤ 4611686018427387904)))∧(((I64 err)∧(((0 : Int) < 29)∧((29 : Int) < 4611686018427387904)))∧( (sel (max 0 (IntKind.wrap IntKind.i64 (md err 29 - 14)) == 14) (((((nW e m x n g wh))∧(((0 : Int) ≤ 1)∧((2 : Int) ≤ 4611686018427387904)))∧(((0 : Int) ≤ 1099511627776)∧((1099511627776 : Int) ≤ 4611686018427387904)))∧(∃ x_1 : Nat,(True∧(True∧((((1 : Nat) = 1)∧(((1 : Nat) ≤ 1)∧(((SV.sl 0 1 0 n cap) = (SV.sl 0 1 0 n cap))∧((iV 2) = (iV (rpos err))))))∧( (vcReplyOf_10 e m x g wh)∧(((1 : Nat) = 1)∧(((1 : Nat) ≤ 1)∧(∀ i : Nat,(((i : Nat) < 1)→([(iV (IntKind.wrap IntKind.i64 (1 + md kind 10))),(iV (frV 2147483647 (nxV n (gI (winBlk (niB e m g x wh) 1 0 n)) 0))),(iV (max 0 (IntKind.wrap IntKind.i64 (md err 29 - 14)))),(iV 0),(iV 0),(iV (frV 1099511627776 (nxV n ((gW e m x n g wh)) 1))),(iV 0),(iV 0),(iV 0),(iV 0),(iV 0),zS,(iV 0),(bV false),(iV 0),(bV false),(iV 0),(bV false),(iV 0),(bV false),(iV 0),(bV false),(iV 0),(bV false),(iV 0),(bV false),(iV 0),(bV false),(iV 0),(bV false),(iV 0),(bV false),(bV false),(iV 0),zS,(bV false),(iV 0),(bV false),(iV 0),(bV false),(iV 0),(bV false),(iV 0)] = (vcReplyOf_8 kind err n g)))))))))))) (∃ x_1 : Nat,(True∧(True∧((((1 : Nat) = 1)∧(((1 : Nat) ≤ 1)∧(((SV.sl 0 1 0 n cap) = (SV.sl 0 1 0 n cap))∧((iV 1) = (iV (rpos err))))))∧( (vcReplyOf_10 e m x g wh)∧(((1 : Nat) = 1)∧(((1 : Nat) ≤ 1)∧(∀ i : Nat,(((i : Nat) < 1)→([(iV (IntKind.wrap IntKind.i64 (1 + md kind 10))),(iV (frV 2147483647 (nxV n (gI (winBlk (niB e m g x wh) 1 0 n)) 0))),(iV (max 0 (IntKind.wrap IntKind.i64 (md err 29 - 14)))),(iV 0),(iV 0),(iV 0),(iV 0),(iV 0),(iV 0),(iV 0),(iV 0),zS,(iV 0),(bV false),(iV 0),(bV false),(iV 0),(bV false),(iV 0),(bV false),(iV 0),(bV false),(iV 0),(bV false),(iV 0),(bV false),(iV 0),(bV false),(iV 0),(bV false),(iV 0),(bV false),(bV false),(iV 0),zS,(bV false),(iV 0),(bV false),(iV 0),(bV false),(iV 0),(bV false),(iV 0)] = (vcReplyOf_8 kind err n g))))))))))))∧(∀ x_1 : Nat,(True→(sel (eoE err != 0) (vcReplyOf_3 kind err n g) (sel (coK kind == 1) (vcReplyOf_2 kind err n e m x g wh) (sel (coK kind == 3) (vcReplyOf_2 kind err n e m x g wh) (sel (coK kind == 4) (vcReplyOf_2 kind err n e m x g wh) (sel (coK kind == 2) (((((nW e m x n g wh))∧(((0 : Int) ≤ (rpos err))∧(((Prod.snd (yHandle n ((gW e m x n g wh)) (rpos err))) : Int) ≤ 4611686018427387904)))∧True)∧(∃ c : RC,((vcReplyOf_13 kind err n e m x g wh (vcReplyOf_6 kind err n g (((zS = zS)∧(((0 : Nat) = 0)∧((((roN kind err n g) : Nat) = 0)∧(((roN kind err n g + RC.a c) : Nat) = 0))))∧(vcReplyOf_1 kind err n g (((zS = zS)∧(((0 : Nat) = 0)∧((((roM kind err n g) : Nat) = 0)∧(((roM kind err n g + RC.b c) : Nat) = 0))))∧(vcReplyOf_9 kind err n g (((bV false) = (bV (RV.x1f (roV kind err n g))))∧((iV (RV.cnt (wv1 n g (rvr err n g)))) = (iV (RV.cnt (roV kind err n g)))))))))))∧(((((roN kind err n g) : Nat) = 0)∧((((roN kind err n g + RC.a c) : Nat) = 0)∧True))∧(((((roM kind err n g) : Nat) = 0)∧((((roM kind err n g + RC.b c) : Nat) = 0)∧True))∧True))))) (sel (coK kind == 5) (vcReplyOf_5 kind err n e m x g wh) (sel (coK kind == 6) (vcReplyOf_5 kind err n e m x g wh) (sel (coK kind == 7) (((((nW e m x n g wh))∧(((0 : Int) ≤ (rpos err))∧(((Prod.snd (yHandle n ((gW e m x n g wh)) (rpos err))) : Int) ≤ 4611686018427387904)))∧True)∧((((nW e m x n g wh))∧(((0 : Int) ≤ (Prod.snd (yHandle n ((gW e m x n g wh)) (rpos err))))∧(((Prod.snd (yHandle n ((gW e m x n g wh)) (rpos err))) : Int) ≤ 4611686018427380000)))∧(∀ c : Nat,(∃ c_1 : RC,((vcReplyOf_13 kind err n e m x g wh (((iV (RV.ver (wv1 n g (rvr err n g)))) = (iV (RV.ver (roV kind err n g))))∧(((iV (RV.gr (wv1 n g (rvr err n g)))) = (iV (RV.gr (roV kind err n g))))∧(((iV (BV.sk (vcReplyOf_7 err n e m x g wh))) = (iV (BV.sk (RV.o (roV kind err n g)))))∧(((iV (BV.sr (vcReplyOf_7 err n e m x g wh))) = (iV (BV.sr (RV.o (roV kind err n g)))))∧(((iV (BV.sw (vcReplyOf_7 err n e m x g wh))) = (iV (BV.sw (RV.o (roV kind err n g)))))∧(((iV (BV.sh (vcReplyOf_7 err n e m x g wh))) = (iV (BV.sh (RV.o (roV kind err n g)))))∧(((SV.sl 464 2 0 (srC n ((gW e m x n g wh)) (Prod.snd (yHandle n ((gW e m x n g wh)) (rpos err)))) (srC n ((gW e m x n g wh)) (Prod.snd (yHandle n ((gW e m x n g wh)) (rpos err))) + c)) = (SV.sl 464 2 0 (roN kind err n g) (roN kind err n g + RC.a c_1)))∧(((iV (BV.p0v (vcReplyOf_7 err n e m x g wh))) = (iV (BV.p0v (RV.o (roV kind err n g)))))∧(((bV (BV.p0f (vcReplyOf_7 err n e m x g wh))) = (bV (BV.p0f (RV.o (roV kind err n g)))))∧(((iV (BV.p1v (vcReplyOf_7 err n e m x g wh))) = (iV (BV.p1v (RV.o (roV kind err n g)))))∧(((bV (BV.p1f (vcReplyOf_7 err n e m x g wh))) = (bV (BV.p1f (RV.o (roV kind err n g)))))∧(((iV (BV.p2v (vcReplyOf_7 err n e m x g wh))) = (iV (BV.p2v (RV.o (roV kind err n g)))))∧(((bV (BV.p2f (vcReplyOf_7 err n e m x g wh))) = (bV (BV.p2f (RV.o (roV kind err n g)))))∧(((iV (BV.p3v (vcReplyOf_7 err n e m x g wh))) = (iV (BV.p3v (RV.o (roV kind err n g)))))∧(((bV (BV.p3f (vcReplyOf_7 err n e m x g wh))) = (bV (BV.p3f (RV.o (roV kind err n g)))))∧(((iV (BV.v0v (vcReplyOf_7 err n e m x g wh))) = (iV (BV.v0v (RV.o (roV kind err n g)))))∧(((bV (BV.v0f (vcReplyOf_7 err n e m x g wh))) = (bV (BV.v0f (RV.o (roV kind err n g)))))∧(((iV (BV.v1v (vcReplyOf_7 err n e m x g wh))) = (iV (BV.v1v (RV.o (roV kind err n g)))))∧(((bV (BV.v1f (vcReplyOf_7 err n e m x g wh))) = (bV (BV.v1f (RV.o (roV kind err n g)))))∧(((iV (BV.w0v (vcReplyOf_7 err n e m x g wh))) = (iV (BV.w0v (RV.o (roV kind err n g)))))∧(((bV (BV.w0f (vcReplyOf_7 err n e m x g wh))) = (bV (BV.w0f (RV.o (roV kind err n g)))))∧(((iV (BV.m0v (vcReplyOf_7 err n e m x g wh))) = (iV (BV.m0v (RV.o (roV kind err n g)))))∧(((bV (BV.m0f (vcReplyOf_7 err n e m x g wh))) = (bV (BV.m0f (RV.o (roV kind err n g)))))∧(((iV (BV.m1v (vcReplyOf_7 err n e m x g wh))) = (iV (BV.m1v (RV.o (roV kind err n g)))))∧(((bV (BV.m1f (vcReplyOf_7 err n e m x g wh))) = (bV (BV.m1f (RV.o (roV kind err n g)))))∧(((iV (BV.st (vcReplyOf_7 err n e m x g wh))) = (iV (BV.st (RV.o (roV kind err n g)))))∧(((bV (BV.asl (vcReplyOf_7 err n e m x g wh))) = (bV (BV.asl (RV.o (roV kind err n g)))))∧(((bV (BV.flt (vcReplyOf_7 err n e m x g wh))) = (bV (BV.flt (RV.o (roV kind err n g)))))∧(((iV (BV.bv (vcReplyOf_7 err n e m x g wh))) = (iV (BV.bv (RV.o (roV kind err n g)))))∧(((zS = zS)∧(((0 : Nat) = 0)∧((((roM kind err n g) : Nat) = 0)∧(((roM kind err n g + RC.b c_1) : Nat) = 0))))∧(vcReplyOf_9 kind err n g (((bV false) = (bV (RV.x1f (roV kind err n g))))∧((iV (RV.cnt (wv1 n g (rvr err n g)))) = (iV (RV.cnt (roV kind err n g)))))))))))))))))))))))))))))))))))))∧(((((srC n ((gW e m x n g wh)) (Prod.snd (yHandle n ((gW e m x n g wh)) (rpos err)))) : Nat) = (roN kind err n g))∧((((roN kind err n g + RC.a c_1) : Nat) ≤ (srC n ((gW e m x n g wh)) (Prod.snd (yHandle n ((gW e m x n g wh)) (rpos err))) + c))∧(∀ i : Nat,(((i : Nat) < (roN kind err n g))→([(iV (Prod.fst (srSp n ((gW e m x n g wh)) (Prod.snd (yHandle n ((gW e m x n g wh)) (rpos err))) i))),(iV (Prod.snd (srSp n ((gW e m x n g wh)) (Prod.snd (yHandle n ((gW e m x n g wh)) (rpos err))) i)))] = [(iV (Prod.fst (roSp n g i))),(iV (Prod.snd (roSp n g i)))])))))∧(((((roM kind err n g) : Nat) = 0)∧((((roM kind err n g + RC.b c_1) : Nat) = 0)∧True))∧True))))))) (sel (coK kind == 8) (((((nW e m x n g wh))∧(((0 : Int) ≤ (rpos err))∧(((rpos err + 1) : Int) ≤ 4611686018427387904)))∧(((0 : Int) ≤ 64)∧((64 : Int) ≤ 4611686018427387904)))∧((∃ x_2 : SX,(((((SX.i x_2) : Nat) ≤ (rhC n g))∧(((SX.i x_2) : Nat) ≤ (SX.c x_2)))∧(((iV (frV 64 (nxV n ((gW e m x n g wh)) (rpos err)))) = (iV ((↑(rhC n g) : Int) - (↑(SX.i x_2) : Int))))∧((((1 : Nat) = 1)∧(((1 : Nat) ≤ 1)∧(((SV.sl 0 1 0 n cap) = (SV.sl 0 1 0 n cap))∧((iV (rpos err + 1)) = (iV (2 + 2 * (↑(SX.i x_2) : Int)))))))∧( (vcReplyOf_10 e m x g wh)∧((vcReplyOf_4 kind err n g (((zS = zS)∧(((0 : Nat) = 0)∧((((SX.i x_2) : Nat) = 0)∧(((SX.c x_2) : Nat) = 0))))∧(vcReplyOf_11 err n g)))∧(((((SX.i x_2) : Nat) = 0)∧((((SX.c x_2) : Nat) = 0)∧True))∧True)))))))∧(∀ x_2 : SX,(((((SX.i x_2) : Nat) ≤ (rhC n g))∧(((SX.i x_2) : Nat) ≤ (SX.c x_2)))→(sel (decide ((↑(rhC n g) : Int) - (↑(SX.i x_2) : Int) > 0)) ((((niPre n (winBlk (niB e m g x wh) 1 0 n))∧(((0 : Int) ≤ (2 + 2 * (↑(SX.i x_2) : Int)))∧(((Prod.snd (yHandle n (gI (winBlk (niB e m g x wh) 1 0 n)) (2 + 2 * (↑(SX.i x_2) : Int)))) : Int) ≤ 4611686018427387904)))∧True)∧((((((SX.i x_2 + 1) * 16) : Nat) ≤ 140737488355328)∧((((0 + SX.c x_2) : Nat) ≤ (SX.c x_2))∧(∀ y : Nat,(((y : Nat) < 1)→True))))∧(∀ c : Nat,(∃ x' : SX,((((((SX.i x') : Nat) ≤ (rhC n g))∧(((SX.i x') : Nat) ≤ (SX.c x')))∧(((iV (IntKind.wrap IntKind.i64 ((↑(rhC n g) : Int) - (↑(SX.i x_2) : Int) - 1))) = (iV ((↑(rhC n g) : Int) - (↑(SX.i x') : Int))))∧((((1 : Nat) = 1)∧(((1 : Nat) ≤ 1)∧(((SV.sl 0 1 0 n cap) = (SV.sl 0 1 0 n cap))∧((iV (Prod.snd (yHandle n (gI (winBlk (niB e m g x wh) 1 0 n)) (2 + 2 * (↑(SX.i x_2) : Int))))) = (iV (2 + 2 * (↑(SX.i x') : Int)))))))∧( (vcReplyOf_10 e m x g wh)∧((vcReplyOf_4 kind err n g (((SV.sl 520 2 0 (SX.i x_2 + 1) (SX.i x_2 + 1 + c)) = (SV.sl 520 2 0 (SX.i x') (SX.c x')))∧(vcReplyOf_11 err n g)))∧((((SX.i x_2 + 1) : Nat) = (SX.i x'))∧((((SX.c x') : Nat) ≤ (SX.i x_2 + 1 + c))∧(∀ i : Nat,(((i : Nat) < (SX.i x'))→([(iV (bop (Nat.blt i (SX.i x_2)) (Prod.fst (rhG n g (0 + i))) (frV 2147483647 (nxV n (gI (winBlk (niB e m g x wh) 1 0 n)) (2 + 2 * (↑(SX.i x_2) : Int)))))),(iV (bop (Nat.blt i (SX.i x_2)) (Prod.snd (rhG n g (0 + i))) (frV 2147483647 (nxV n (gI (winBlk (niB e m g x wh) 1 0 n)) (2 + 2 * (↑(SX.i x_2) : Int) + 1)))))] = [(iV (Prod.fst (rhG n g i))),(iV (Prod.snd (rhG n g i)))]))))))))))∧(((rhC n g - SX.i x') : Nat) < (rhC n g - SX.i x_2))))))) (∃ c : RC,((((iV (coK kind)) = (iV (coK kind)))∧(((iV (RV.id (wv1 n g (rvr err n g)))) = (iV (RV.id (roV kind err n g))))∧(((iV (eoE err)) = (iV (eoE err)))∧(((iV (RV.bs (wv1 n g (rvr err n g)))) = (iV (RV.bs (roV kind err n g))))∧(((iV (RV.bg (wv1 n g (rvr err n g)))) = (iV (RV.bg (roV kind err n g))))∧(vcReplyOf_6 kind err n g (((zS = zS)∧(((0 : Nat) = 0)∧((((roN kind err n g) : Nat) = 0)∧(((roN kind err n g + RC.a c) : Nat) = 0))))∧(vcReplyOf_1 kind err n g (((SV.sl 40 2 0 (SX.i x_2) (SX.c x_2)) = (SV.sl 40 2 0 (roM kind err n g) (roM kind err n g + RC.b c)))∧(vcReplyOf_9 kind err n g (((bV false) = (bV (RV.x1f (roV kind err n g))))∧((iV (RV.cnt (wv1 n g (rvr err n g)))) = (iV (RV.cnt (roV kind err n g)))))))))))))))∧(((((roN kind err n g) : Nat) = 0)∧((((roN kind err n g + RC.a c) : Nat) = 0)∧True))∧((((SX.i x_2) : Nat) = (roM kind err n g))∧((((roM kind err n g + RC.b c) : Nat) ≤ (SX.c x_2))∧(∀ i : Nat,(((i : Nat) < (roM kind err n g))→([(iV (Prod.fst (rhG n g i))),(iV (Prod.snd (rhG n g i)))] = [(iV (Prod.fst (rhG n g i))),(iV (Prod.snd (rhG n g i)))]))))))))))))) (sel (coK kind == 9) (((((nW e m x n g wh))∧(((0 : Int) ≤ (rpos err))∧(((rpos err + 1) : Int) ≤ 4611686018427387904)))∧(((0 : Int) ≤ 2)∧((2 : Int) ≤ 4611686018427387904)))∧(sel (decide (frV 2 (nxV n ((gW e m x n g wh)) (rpos err)) > 0)) (((((nW e m x n g wh))∧(((0 : Int) ≤ (rpos err + 1))∧(((Prod.snd (yHandle n ((gW e m x n g wh)) (rpos err + 1))) : Int) ≤ 4611686018427387904)))∧True)∧(((((nW e m x n g wh))∧(((0 : Int) ≤ (Prod.snd (yHandle n ((gW e m x n g wh)) (rpos err + 1))))∧(((Prod.snd (vcReplyOf_12 err n e m x g wh)) : Int) ≤ 4611686018427387904)))∧True)∧(((((nW e m x n g wh))∧(((0 : Int) ≤ (Prod.snd (vcReplyOf_12 err n e m x g wh)))∧(((Prod.snd (yVec n ((gW e m x n g wh)) (Prod.snd (vcReplyOf_12 err n e m x g wh)))) : Int) ≤ 4611686018427387904)))∧True)∧(∃ c : RC,((((iV (coK kind)) = (iV (coK kind)))∧(((iV (RV.id (wv1 n g (rvr err n g)))) = (iV (RV.id (roV kind err n g))))∧(((iV (eoE err)) = (iV (eoE err)))∧(((iV (frV 2147483647 (nxV n ((gW e m x n g wh)) (rpos err + 1)))) = (iV (RV.bs (roV kind err n g))))∧(((iV (frV 2147483647 (nxV n ((gW e m x n g wh)) (rpos err + 1 + 1)))) = (iV (RV.bg (roV kind err n g))))∧(vcReplyOf_6 kind err n g (((zS = zS)∧(((0 : Nat) = 0)∧((((roN kind err n g) : Nat) = 0)∧(((roN kind err n g + RC.a c) : Nat) = 0))))∧(vcReplyOf_1 kind err n g (((zS = zS)∧(((0 : Nat) = 0)∧((((roM kind err n g) : Nat) = 0)∧(((roM kind err n g + RC.b c) : Nat) = 0))))∧(((bV true) = (bV (RV.hit (roV kind err n g))))∧(((iV (nuV (nxV n ((gW e m x n g wh)) (Prod.snd (yHandle n ((gW e m x n g wh)) (rpos err + 1)))))) = (iV (RV.htv (roV kind err n g))))∧(((bV (nuF (nxV n ((gW e m x n g wh)) (Prod.snd (yHandle n ((gW e m x n g wh)) (rpos err + 1)))))) = (bV (RV.htf (roV kind err n g))))∧(((iV (nuV (nxV n ((gW e m x n g wh)) (Prod.snd (vcReplyOf_12 err n e m x g wh))))) = (iV (RV.x0v (roV kind err n g))))∧(((bV (nuF (nxV n ((gW e m x n g wh)) (Prod.snd (vcReplyOf_12 err n e m x g wh))))) = (bV (RV.x0f (roV kind err n g))))∧(((iV (nuV (nxV n ((gW e m x n g wh)) (Prod.snd (vcReplyOf_12 err n e m x g wh) + 1)))) = (iV (RV.x1v (roV kind err n g))))∧(((bV (nuF (nxV n ((gW e m x n g wh)) (Prod.snd (vcReplyOf_12 err n e m x g wh) + 1)))) = (bV (RV.x1f (roV kind err n g))))∧((iV (RV.cnt (wv1 n g (rvr err n g)))) = (iV (RV.cnt (roV kind err n g))))))))))))))))))))∧(((((roN kind err n g) : Nat) = 0)∧((((roN kind err n g + RC.a c) : Nat) = 0)∧True))∧(((((roM kind err n g) : Nat) = 0)∧((((roM kind err n g + RC.b c) : Nat) = 0)∧True))∧True))))))) (vcReplyOf_3 kind err n g))) (sel (coK kind == 10) (((((nW e m x n g wh))∧(((0 : Int) ≤ (rpos err))∧(((rpos err + 1) : Int) ≤ 4611686018427387904)))∧(((0 : Int) ≤ 2147483647)∧((2147483647 : Int) ≤ 4611686018427387904)))∧(∃ c : RC,((((iV (coK kind)) = (iV (coK kind)))∧(((iV (RV.id (wv1 n g (rvr err n g)))) = (iV (RV.id (roV kind err n g))))∧(((iV (eoE err)) = (iV (eoE err)))∧(((iV (RV.bs (wv1 n g (rvr err n g)))) = (iV (RV.bs (roV kind err n g))))∧(((iV (RV.bg (wv1 n g (rvr err n g)))) = (iV (RV.bg (roV kind err n g))))∧(vcReplyOf_6 kind err n g (((zS = zS)∧(((0 : Nat) = 0)∧((((roN kind err n g) : Nat) = 0)∧(((roN kind err n g + RC.a c) : Nat) = 0))))∧(vcReplyOf_1 kind err n g (((zS = zS)∧(((0 : Nat) = 0)∧((((roM kind err n g) : Nat) = 0)∧(((roM kind err n g + RC.b c) : Nat) = 0))))∧(vcReplyOf_9 kind err n g (((bV false) = (bV (RV.x1f (roV kind err n g))))∧((iV (frV 2147483647 (nxV n ((gW e m x n g wh)) (rpos err)))) = (iV (RV.cnt (roV kind err n g)))))))))))))))∧(((((roN kind err n g) : Nat) = 0)∧((((roN kind err n g + RC.a c) : Nat) = 0)∧True))∧(((((roM kind err n g) : Nat) = 0)∧((((roM kind err n g + RC.b c) : Nat) = 0)∧True))∧True))))) (vcReplyOf_3 kind err n g)))))))))))))))))) := by kernel_rfl
end Go.Proofs.Ytjdldadmaaeimaa
end
