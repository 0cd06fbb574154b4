/-
 What the proof uses, part 15.
-/
import Derived.Test.YteekigmbopdfjaaGreatZf14
set_option maxRecDepth 100000
set_option linter.unusedSimpArgs false
set_option linter.unusedVariables false

section
namespace Go.Proofs.YteekigmbopdfjaaGreat
open Go.SE Go.RowKit
structure FX where
 k : Nat
 r : VB
 c : Nat
noncomputable def Zjo : List SV → Option (Option Prop × SV)
 | [.v (.int .i64 a), .v (.int .i64 b)] => some (some (I64 a ∧ I64 b), vS (hid (ofV a b)))
 | _ => none
noncomputable def Q6n : List SV → Option (Option Prop × SV)
 | [.v (.int .i64 a), .v (.int .i64 b)] => some (some (I64 a ∧ I64 b), nS (hid (Qa2 a b)))
 | _ => none
noncomputable def vK (k : Nat) : VB := hid ⟨⟨(k : Int) * 67108864, false⟩, ⟨-((k : Int) * 536870912), false⟩⟩
def tri : Nat → Int
 | 0 => 0
 | k + 1 => tri k + ((k : Int) + 1)
noncomputable def atK (p : VB) (k : Nat) : VB := hid ⟨⟨p.x.v + 1048576 * tri k, false⟩, ⟨p.y.v - 8388608 * tri k, false⟩⟩
noncomputable def Zii (t : TD) (k j : Nat) (r : VB) : BD := ⟨ksS t.m, atK (Qc3 t.m 100) k, r, vK j, Qd0 t.w 60, (Qur t).m, 0, false, false, 1⟩
noncomputable def Qbp (t : TD) (k : Nat) (r : VB) : BD := ⟨ksS t.m, atK (Qc3 t.m 100) k, r, vK k, Qd0 t.w 60, (Qur t).m, 0, false, false, 1⟩
def Zcw : List SV → List Ro → Option (Option Prop × SV)
 | [.sl 0 4 0 2 _], [⟨4, 2, row⟩] => match row 0, row 1 with
   | [.v (.int .i64 a), .v (.bool f), .v (.int .i64 b), .v (.bool g)], [.v (.int .i64 c), .v (.bool h), .v (.int .i64 d), .v (.bool k)] => some (some ((I64 a ∧ I64 b) ∧ I64 c ∧ I64 d), vS (Qbg ⟨⟨a, f⟩, ⟨b, g⟩⟩ ⟨⟨c, h⟩, ⟨d, k⟩⟩))
   | _, _ => none
 | _, _ => none
noncomputable def Zke : Qb8 := Qah (Qah (Qah (Qah (Qah (Qah (Qah (Qah (Qah (Qah ΓT 7 (Qen false Zlz)) 10 (Qen false Qv7)) 13 (Qen false Zlr)) 12 (Qen false sGo)) 18 (Qen false Zcr)) 20 (Qc7 Zcv)) 21 (Qaj Zb9)) 8 (Qaj Zjo)) 9 (Qaj Q6n)) 14 (Qc7 Zcw)
def vBk (v : VB) : List SV := [.v (.int .i64 v.x.v), .v (.bool v.x.f), .v (.int .i64 v.y.v), .v (.bool v.y.f)]
noncomputable def Zae (t : TD) (st : Int) : Nat → Option LoopSpec :=
 Qxa (Qki Qax Tryz.f3 0 FX (fun x => (x.k : Int) ≤ st % 21 ∧ Qgv x.r ∧ ksN t.m ≤ x.c) (fun x => (st % 21).toNat - x.k) [(12, fun x => .v (.int .i64 (st % 21 - (x.k : Int))))]
   [(256, fun x => Qdz 32 (vBk (vK x.k))), (264, fun x => Qdz 32 (vBk (atK (Qc3 t.m 100) x.k))), (272, fun x => Qdz 34 (vBk x.r)), (320, fun x => Qdz 40 (bdL (Qbp t x.k x.r) (.sl 40 2 0 (ksN t.m) x.c)))]
   [(40, fun x => spB (ksN t.m) x.c (ksG t.m), Q65 320 4)])
   5 [(10, fun nx => [nx + 56]), (11, fun nx => [nx + 64]), (12, fun nx => [nx + 72])]
theorem Zk8 (t : TD) (st n0 : Int) (R : SV→Prop) : (Qav Tryz.prog Zke (Zae t st) Tryz.f3 [thS t n0,iV st] R) =
((thI t)∧(∀ c : Nat,(((I64 1)∧(I64 (-8)))∧(((I64 1)∧(I64 64))∧((Qcs (ksN (TD.m t)) (Qap (SE.Qcq (Can.es {es:=[],bs:=[],ro:=true}) 104 (spB (ksN (TD.m t)) (ksN (TD.m t) + c) (ksG (TD.m t)))) 2 0 (ksN (TD.m t))))∧(∀ c_1 : Nat,(((I64 st)∧(((0 : Int) < 21)∧(I64 21)))∧((∃ x : FX,((((((↑(FX.k x) : Int)) : Int) ≤ (st % 21))∧((Qgv (FX.r x))∧(((ksN (TD.m t)) : Nat) ≤ (FX.c x))))∧(((yI (st % 21)) = (yI (st % 21 - (↑(FX.k x) : Int))))∧((((1 : Nat) = 1)∧(((1 : Nat) ≤ 1)∧(∀ i : Nat,(((i : Nat) < 1)→([(yI 0),(yF false),(yI 0),(yF false)] = [(yI (NB.v (VB.x (vK (FX.k x))))),(yF (NB.f (VB.x (vK (FX.k x))))),(yI (NB.v (VB.y (vK (FX.k x))))),(yF (NB.f (VB.y (vK (FX.k x)))))])))))∧((((1 : Nat) = 1)∧(((1 : Nat) ≤ 1)∧(∀ i : Nat,(((i : Nat) < 1)→([(yI (NB.v (VB.x (BD.pa (Qbc t))))),(yF false),(yI (NB.v (VB.y (BD.pa (Qbc t))))),(yF false)] = [(yI (NB.v (VB.x (atK (Qc3 (TD.m t) 100) (FX.k x))))),(yF (NB.f (VB.x (atK (Qc3 (TD.m t) 100) (FX.k x))))),(yI (NB.v (VB.y (atK (Qc3 (TD.m t) 100) (FX.k x))))),(yF (NB.f (VB.y (atK (Qc3 (TD.m t) 100) (FX.k x)))))])))))∧((((1 : Nat) = 1)∧(((1 : Nat) ≤ 1)∧(∀ i : Nat,(((i : Nat) < 1)→([(yI (NB.v (VB.x (BD.pr (Qbc t))))),(yF (NB.f (VB.x (BD.pr (Qbc t))))),(yI (NB.v (VB.y (BD.pr (Qbc t))))),(yF (NB.f (VB.y (BD.pr (Qbc t)))))] = [(yI (NB.v (VB.x (FX.r x)))),(yF (NB.f (VB.x (FX.r x)))),(yI (NB.v (VB.y (FX.r x)))),(yF (NB.f (VB.y (FX.r x))))])))))∧((((1 : Nat) = 1)∧(((1 : Nat) ≤ 1)∧(((yI (ShB.k (BD.s {s:=BD.s (Qbc t),pa:=BD.pa (Qbc t),pr:=BD.pr (Qbc t),v:={x:={v:=0,f:=false},y:={v:=0,f:=false}},w:=BD.w (Qbc t),m:=BD.m (Qbc t),st:=BD.st (Qbc t),asl:=BD.asl (Qbc t),flt:=BD.flt (Qbc t),ver:=BD.ver (Qbc t)}))) = (yI (ShB.k (BD.s (Qbp t (FX.k x) (FX.r x))))))∧(((yI (ShB.r (BD.s {s:=BD.s (Qbc t),pa:=BD.pa (Qbc t),pr:=BD.pr (Qbc t),v:={x:={v:=0,f:=false},y:={v:=0,f:=false}},w:=BD.w (Qbc t),m:=BD.m (Qbc t),st:=BD.st (Qbc t),asl:=BD.asl (Qbc t),flt:=BD.flt (Qbc t),ver:=BD.ver (Qbc t)}))) = (yI (ShB.r (BD.s (Qbp t (FX.k x) (FX.r x))))))∧(((yI (ShB.w (BD.s {s:=BD.s (Qbc t),pa:=BD.pa (Qbc t),pr:=BD.pr (Qbc t),v:={x:={v:=0,f:=false},y:={v:=0,f:=false}},w:=BD.w (Qbc t),m:=BD.m (Qbc t),st:=BD.st (Qbc t),asl:=BD.asl (Qbc t),flt:=BD.flt (Qbc t),ver:=BD.ver (Qbc t)}))) = (yI (ShB.w (BD.s (Qbp t (FX.k x) (FX.r x))))))∧(((yI (ShB.h (BD.s {s:=BD.s (Qbc t),pa:=BD.pa (Qbc t),pr:=BD.pr (Qbc t),v:={x:={v:=0,f:=false},y:={v:=0,f:=false}},w:=BD.w (Qbc t),m:=BD.m (Qbc t),st:=BD.st (Qbc t),asl:=BD.asl (Qbc t),flt:=BD.flt (Qbc t),ver:=BD.ver (Qbc t)}))) = (yI (ShB.h (BD.s (Qbp t (FX.k x) (FX.r x))))))∧(((SV.sl 312 2 0 (ksN (TD.m t)) (ksN (TD.m t) + c_1)) = (SV.sl 312 2 0 (ksN (TD.m t)) (FX.c x)))∧(((yI (NB.v (VB.x (BD.pa {s:=BD.s (Qbc t),pa:=BD.pa (Qbc t),pr:=BD.pr (Qbc t),v:={x:={v:=0,f:=false},y:={v:=0,f:=false}},w:=BD.w (Qbc t),m:=BD.m (Qbc t),st:=BD.st (Qbc t),asl:=BD.asl (Qbc t),flt:=BD.flt (Qbc t),ver:=BD.ver (Qbc t)})))) = (yI (NB.v (VB.x (BD.pa (Qbp t (FX.k x) (FX.r x)))))))∧(((yF false) = (yF (NB.f (VB.x (BD.pa (Qbp t (FX.k x) (FX.r x)))))))∧(((yI (NB.v (VB.y (BD.pa {s:=BD.s (Qbc t),pa:=BD.pa (Qbc t),pr:=BD.pr (Qbc t),v:={x:={v:=0,f:=false},y:={v:=0,f:=false}},w:=BD.w (Qbc t),m:=BD.m (Qbc t),st:=BD.st (Qbc t),asl:=BD.asl (Qbc t),flt:=BD.flt (Qbc t),ver:=BD.ver (Qbc t)})))) = (yI (NB.v (VB.y (BD.pa (Qbp t (FX.k x) (FX.r x)))))))∧(((yF false) = (yF (NB.f (VB.y (BD.pa (Qbp t (FX.k x) (FX.r x)))))))∧(((yI (NB.v (VB.x (BD.pr {s:=BD.s (Qbc t),pa:=BD.pa (Qbc t),pr:=BD.pr (Qbc t),v:={x:={v:=0,f:=false},y:={v:=0,f:=false}},w:=BD.w (Qbc t),m:=BD.m (Qbc t),st:=BD.st (Qbc t),asl:=BD.asl (Qbc t),flt:=BD.flt (Qbc t),ver:=BD.ver (Qbc t)})))) = (yI (NB.v (VB.x (BD.pr (Qbp t (FX.k x) (FX.r x)))))))∧(((yF (NB.f (VB.x (BD.pr {s:=BD.s (Qbc t),pa:=BD.pa (Qbc t),pr:=BD.pr (Qbc t),v:={x:={v:=0,f:=false},y:={v:=0,f:=false}},w:=BD.w (Qbc t),m:=BD.m (Qbc t),st:=BD.st (Qbc t),asl:=BD.asl (Qbc t),flt:=BD.flt (Qbc t),ver:=BD.ver (Qbc t)})))) = (yF (NB.f (VB.x (BD.pr (Qbp t (FX.k x) (FX.r x)))))))∧(((yI (NB.v (VB.y (BD.pr {s:=BD.s (Qbc t),pa:=BD.pa (Qbc t),pr:=BD.pr (Qbc t),v:={x:={v:=0,f:=false},y:={v:=0,f:=false}},w:=BD.w (Qbc t),m:=BD.m (Qbc t),st:=BD.st (Qbc t),asl:=BD.asl (Qbc t),flt:=BD.flt (Qbc t),ver:=BD.ver (Qbc t)})))) = (yI (NB.v (VB.y (BD.pr (Qbp t (FX.k x) (FX.r x)))))))∧(((yF (NB.f (VB.y (BD.pr {s:=BD.s (Qbc t),pa:=BD.pa (Qbc t),pr:=BD.pr (Qbc t),v:={x:={v:=0,f:=false},y:={v:=0,f:=false}},w:=BD.w (Qbc t),m:=BD.m (Qbc t),st:=BD.st (Qbc t),asl:=BD.asl (Qbc t),flt:=BD.flt (Qbc t),ver:=BD.ver (Qbc t)})))) = (yF (NB.f (VB.y (BD.pr (Qbp t (FX.k x) (FX.r x)))))))∧(((yI (NB.v (VB.x (BD.v {s:=BD.s (Qbc t),pa:=BD.pa (Qbc t),pr:=BD.pr (Qbc t),v:={x:={v:=0,f:=false},y:={v:=0,f:=false}},w:=BD.w (Qbc t),m:=BD.m (Qbc t),st:=BD.st (Qbc t),asl:=BD.asl (Qbc t),flt:=BD.flt (Qbc t),ver:=BD.ver (Qbc t)})))) = (yI (NB.v (VB.x (BD.v (Qbp t (FX.k x) (FX.r x)))))))∧(((yF false) = (yF (NB.f (VB.x (BD.v (Qbp t (FX.k x) (FX.r x)))))))∧(((yI (NB.v (VB.y (BD.v {s:=BD.s (Qbc t),pa:=BD.pa (Qbc t),pr:=BD.pr (Qbc t),v:={x:={v:=0,f:=false},y:={v:=0,f:=false}},w:=BD.w (Qbc t),m:=BD.m (Qbc t),st:=BD.st (Qbc t),asl:=BD.asl (Qbc t),flt:=BD.flt (Qbc t),ver:=BD.ver (Qbc t)})))) = (yI (NB.v (VB.y (BD.v (Qbp t (FX.k x) (FX.r x)))))))∧(((yF false) = (yF (NB.f (VB.y (BD.v (Qbp t (FX.k x) (FX.r x)))))))∧(((yI (NB.v (BD.w {s:=BD.s (Qbc t),pa:=BD.pa (Qbc t),pr:=BD.pr (Qbc t),v:={x:={v:=0,f:=false},y:={v:=0,f:=false}},w:=BD.w (Qbc t),m:=BD.m (Qbc t),st:=BD.st (Qbc t),asl:=BD.asl (Qbc t),flt:=BD.flt (Qbc t),ver:=BD.ver (Qbc t)}))) = (yI (NB.v (BD.w (Qbp t (FX.k x) (FX.r x))))))∧(((yF false) = (yF false))∧(((yI (NB.v (VB.x (BD.m {s:=BD.s (Qbc t),pa:=BD.pa (Qbc t),pr:=BD.pr (Qbc t),v:={x:={v:=0,f:=false},y:={v:=0,f:=false}},w:=BD.w (Qbc t),m:=BD.m (Qbc t),st:=BD.st (Qbc t),asl:=BD.asl (Qbc t),flt:=BD.flt (Qbc t),ver:=BD.ver (Qbc t)})))) = (yI (NB.v (VB.x (BD.m (Qbp t (FX.k x) (FX.r x)))))))∧(((yF (NB.f (VB.x (BD.m {s:=BD.s (Qbc t),pa:=BD.pa (Qbc t),pr:=BD.pr (Qbc t),v:={x:={v:=0,f:=false},y:={v:=0,f:=false}},w:=BD.w (Qbc t),m:=BD.m (Qbc t),st:=BD.st (Qbc t),asl:=BD.asl (Qbc t),flt:=BD.flt (Qbc t),ver:=BD.ver (Qbc t)})))) = (yF (NB.f (VB.x (BD.m (Qbp t (FX.k x) (FX.r x)))))))∧(((yI (NB.v (VB.y (BD.m {s:=BD.s (Qbc t),pa:=BD.pa (Qbc t),pr:=BD.pr (Qbc t),v:={x:={v:=0,f:=false},y:={v:=0,f:=false}},w:=BD.w (Qbc t),m:=BD.m (Qbc t),st:=BD.st (Qbc t),asl:=BD.asl (Qbc t),flt:=BD.flt (Qbc t),ver:=BD.ver (Qbc t)})))) = (yI (NB.v (VB.y (BD.m (Qbp t (FX.k x) (FX.r x)))))))∧(((yF (NB.f (VB.y (BD.m {s:=BD.s (Qbc t),pa:=BD.pa (Qbc t),pr:=BD.pr (Qbc t),v:={x:={v:=0,f:=false},y:={v:=0,f:=false}},w:=BD.w (Qbc t),m:=BD.m (Qbc t),st:=BD.st (Qbc t),asl:=BD.asl (Qbc t),flt:=BD.flt (Qbc t),ver:=BD.ver (Qbc t)})))) = (yF (NB.f (VB.y (BD.m (Qbp t (FX.k x) (FX.r x)))))))∧(((yI (BD.st {s:=BD.s (Qbc t),pa:=BD.pa (Qbc t),pr:=BD.pr (Qbc t),v:={x:={v:=0,f:=false},y:={v:=0,f:=false}},w:=BD.w (Qbc t),m:=BD.m (Qbc t),st:=BD.st (Qbc t),asl:=BD.asl (Qbc t),flt:=BD.flt (Qbc t),ver:=BD.ver (Qbc t)})) = (yI (BD.st (Qbp t (FX.k x) (FX.r x)))))∧(((yF false) = (yF false))∧(((yF false) = (yF false))∧((yI (BD.ver {s:=BD.s (Qbc t),pa:=BD.pa (Qbc t),pr:=BD.pr (Qbc t),v:={x:={v:=0,f:=false},y:={v:=0,f:=false}},w:=BD.w (Qbc t),m:=BD.m (Qbc t),st:=BD.st (Qbc t),asl:=BD.asl (Qbc t),flt:=BD.flt (Qbc t),ver:=BD.ver (Qbc t)})) = (yI (BD.ver (Qbp t (FX.k x) (FX.r x)))))))))))))))))))))))))))))))))∧((((ksN (TD.m t)) : Nat) = (ksN (TD.m t)))∧((((FX.c x) : Nat) ≤ (ksN (TD.m t) + c_1))∧(∀ i : Nat,(((i : Nat) < (ksN (TD.m t)))→([(yI (Prod.fst (Qbv (Qap (SE.Qcq (Can.es {es:=[],bs:=[],ro:=true}) 104 (spB (ksN (TD.m t)) (ksN (TD.m t) + c) (ksG (TD.m t)))) 2 0 (ksN (TD.m t))) i))),(yI (Prod.snd (Qbv (Qap (SE.Qcq (Can.es {es:=[],bs:=[],ro:=true}) 104 (spB (ksN (TD.m t)) (ksN (TD.m t) + c) (ksG (TD.m t)))) 2 0 (ksN (TD.m t))) i)))] = [(yI (Prod.fst (ksG (TD.m t) i))),(yI (Prod.snd (ksG (TD.m t) i)))]))))))))))))∧(∀ x : FX,((((((↑(FX.k x) : Int)) : Int) ≤ (st % 21))∧((Qgv (FX.r x))∧(((ksN (TD.m t)) : Nat) ≤ (FX.c x))))→(sel (decide (st % 21 - (↑(FX.k x) : Int) > 0)) (((Qcs (ksN (TD.m t)) (Qap (spB (ksN (TD.m t)) (FX.c x) (ksG (TD.m t))) 2 0 (ksN (TD.m t))))∧(Zjs (Qbp t (FX.k x) (FX.r x)) (hid (ofV 1 (-8))) (hid (Qa2 1 64))))∧(∀ c_2 : Nat,(((Qcs (ksN (TD.m t)) (Qap (SE.Qcq (Can.es (Can.push {es:=[],bs:=[],ro:=true} (Ent.win 40 2 0 (ksN (TD.m t))) (Qap (spB (ksN (TD.m t)) (FX.c x) (ksG (TD.m t))) 2 0 (ksN (TD.m t))))) 400 (spB (ksN (TD.m t)) (ksN (TD.m t) + c_2) (Qbv (Qap (spB (ksN (TD.m t)) (FX.c x) (ksG (TD.m t))) 2 0 (ksN (TD.m t)))))) 2 0 (ksN (TD.m t))))∧(goP (Qby (Qbp t (FX.k x) (FX.r x)) (hid (ofV 1 (-8))) (hid (Qa2 1 64))) (hid (Qa2 1 64))))∧(∀ c_3 : Nat,((((I64 (NB.v (VB.x (hid (ofV 1 (-8))))))∧(I64 (NB.v (VB.y (hid (ofV 1 (-8)))))))∧(I64 (NB.v (hid (Qa2 1 64)))))∧((((I64 (NB.v (VB.x (vK (FX.k x)))))∧(I64 (NB.v (VB.y (vK (FX.k x))))))∧((I64 (NB.v (VB.x (Qbo (hid (ofV 1 (-8))) (hid (Qa2 1 64))))))∧(I64 (NB.v (VB.y (Qbo (hid (ofV 1 (-8))) (hid (Qa2 1 64))))))))∧((((I64 (NB.v (VB.x (Qbg (vK (FX.k x)) (Qbo (hid (ofV 1 (-8))) (hid (Qa2 1 64)))))))∧(I64 (NB.v (VB.y (Qbg (vK (FX.k x)) (Qbo (hid (ofV 1 (-8))) (hid (Qa2 1 64))))))))∧(I64 (NB.v (hid (Qa2 1 64)))))∧((((I64 (NB.v (VB.x (atK (Qc3 (TD.m t) 100) (FX.k x)))))∧(I64 (NB.v (VB.y (atK (Qc3 (TD.m t) 100) (FX.k x))))))∧((I64 (NB.v (VB.x (Qbo (Qbg (vK (FX.k x)) (Qbo (hid (ofV 1 (-8))) (hid (Qa2 1 64)))) (hid (Qa2 1 64))))))∧(I64 (NB.v (VB.y (Qbo (Qbg (vK (FX.k x)) (Qbo (hid (ofV 1 (-8))) (hid (Qa2 1 64)))) (hid (Qa2 1 64))))))))∧(((I64 (NB.v (BD.w (Qbc t))))∧(I64 (NB.v (hid (Qa2 1 64)))))∧(sel (NB.v (Qdg (BD.w (Qbc t)) (hid (Qa2 1 64))) != 0) ((((I64 (NB.v (VB.x (FX.r x))))∧(I64 (NB.v (VB.y (FX.r x)))))∧(I64 (NB.v (Qdg (BD.w (Qbc t)) (hid (Qa2 1 64))))))∧(sel (!(NB.v (VB.x (BD.v (goB (Qby (Qbp t (FX.k x) (FX.r x)) (hid (ofV 1 (-8))) (hid (Qa2 1 64))) (hid (Qa2 1 64))))) == NB.v (VB.x (Qbg (vK (FX.k x)) (Qbo (hid (ofV 1 (-8))) (hid (Qa2 1 64)))))&&NB.f (VB.x (BD.v (goB (Qby (Qbp t (FX.k x) (FX.r x)) (hid (ofV 1 (-8))) (hid (Qa2 1 64))) (hid (Qa2 1 64))))) == NB.f (VB.x (Qbg (vK (FX.k x)) (Qbo (hid (ofV 1 (-8))) (hid (Qa2 1 64)))))&&(NB.v (VB.y (BD.v (goB (Qby (Qbp t (FX.k x) (FX.r x)) (hid (ofV 1 (-8))) (hid (Qa2 1 64))) (hid (Qa2 1 64))))) == NB.v (VB.y (Qbg (vK (FX.k x)) (Qbo (hid (ofV 1 (-8))) (hid (Qa2 1 64)))))&&NB.f (VB.y (BD.v (goB (Qby (Qbp t (FX.k x) (FX.r x)) (hid (ofV 1 (-8))) (hid (Qa2 1 64))) (hid (Qa2 1 64))))) == NB.f (VB.y (Qbg (vK (FX.k x)) (Qbo (hid (ofV 1 (-8))) (hid (Qa2 1 64)))))))) (R (yF false)) (sel (!(NB.v (VB.x (BD.pa (goB (Qby (Qbp t (FX.k x) (FX.r x)) (hid (ofV 1 (-8))) (hid (Qa2 1 64))) (hid (Qa2 1 64))))) == NB.v (VB.x (Qbg (atK (Qc3 (TD.m t) 100) (FX.k x)) (Qbo (Qbg (vK (FX.k x)) (Qbo (hid (ofV 1 (-8))) (hid (Qa2 1 64)))) (hid (Qa2 1 64)))))&&NB.f (VB.x (BD.pa (goB (Qby (Qbp t (FX.k x) (FX.r x)) (hid (ofV 1 (-8))) (hid (Qa2 1 64))) (hid (Qa2 1 64))))) == NB.f (VB.x (Qbg (atK (Qc3 (TD.m t) 100) (FX.k x)) (Qbo (Qbg (vK (FX.k x)) (Qbo (hid (ofV 1 (-8))) (hid (Qa2 1 64)))) (hid (Qa2 1 64)))))&&(NB.v (VB.y (BD.pa (goB (Qby (Qbp t (FX.k x) (FX.r x)) (hid (ofV 1 (-8))) (hid (Qa2 1 64))) (hid (Qa2 1 64))))) == NB.v (VB.y (Qbg (atK (Qc3 (TD.m t) 100) (FX.k x)) (Qbo (Qbg (vK (FX.k x)) (Qbo (hid (ofV 1 (-8))) (hid (Qa2 1 64)))) (hid (Qa2 1 64)))))&&NB.f (VB.y (BD.pa (goB (Qby (Qbp t (FX.k x) (FX.r x)) (hid (ofV 1 (-8))) (hid (Qa2 1 64))) (hid (Qa2 1 64))))) == NB.f (VB.y (Qbg (atK (Qc3 (TD.m t) 100) (FX.k x)) (Qbo (Qbg (vK (FX.k x)) (Qbo (hid (ofV 1 (-8))) (hid (Qa2 1 64)))) (hid (Qa2 1 64)))))))) (R (yF false)) (sel (!(NB.v (VB.x (BD.pr (goB (Qby (Qbp t (FX.k x) (FX.r x)) (hid (ofV 1 (-8))) (hid (Qa2 1 64))) (hid (Qa2 1 64))))) == NB.v (VB.x (Qqf (FX.r x) (Qdg (BD.w (Qbc t)) (hid (Qa2 1 64)))))&&NB.f (VB.x (BD.pr (goB (Qby (Qbp t (FX.k x) (FX.r x)) (hid (ofV 1 (-8))) (hid (Qa2 1 64))) (hid (Qa2 1 64))))) == NB.f (VB.x (Qqf (FX.r x) (Qdg (BD.w (Qbc t)) (hid (Qa2 1 64)))))&&(NB.v (VB.y (BD.pr (goB (Qby (Qbp t (FX.k x) (FX.r x)) (hid (ofV 1 (-8))) (hid (Qa2 1 64))) (hid (Qa2 1 64))))) == NB.v (VB.y (Qqf (FX.r x) (Qdg (BD.w (Qbc t)) (hid (Qa2 1 64)))))&&NB.f (VB.y (BD.pr (goB (Qby (Qbp t (FX.k x) (FX.r x)) (hid (ofV 1 (-8))) (hid (Qa2 1 64))) (hid (Qa2 1 64))))) == NB.f (VB.y (Qqf (FX.r x) (Qdg (BD.w (Qbc t)) (hid (Qa2 1 64)))))))) (R (yF false)) (sel (!(NB.v (BD.w (goB (Qby (Qbp t (FX.k x) (FX.r x)) (hid (ofV 1 (-8))) (hid (Qa2 1 64))) (hid (Qa2 1 64)))) == NB.v (BD.w (Qbc t))&&NB.f (BD.w (goB (Qby (Qbp t (FX.k x) (FX.r x)) (hid (ofV 1 (-8))) (hid (Qa2 1 64))) (hid (Qa2 1 64)))) == NB.f (BD.w (Qbc t)))) (R (yF false)) (∃ x' : FX,(((((((↑(FX.k x') : Int)) : Int) ≤ (st % 21))∧((Qgv (FX.r x'))∧(((ksN (TD.m t)) : Nat) ≤ (FX.c x'))))∧(((yI (IntKind.wrap IntKind.i64 (st % 21 - (↑(FX.k x) : Int) - 1))) = (yI (st % 21 - (↑(FX.k x') : Int))))∧((((1 : Nat) = 1)∧(((1 : Nat) ≤ 1)∧(∀ i : Nat,(((i : Nat) < 1)→([(yI (NB.v (VB.x (Qbg (vK (FX.k x)) (Qbo (hid (ofV 1 (-8))) (hid (Qa2 1 64))))))),(yF (NB.f (VB.x (Qbg (vK (FX.k x)) (Qbo (hid (ofV 1 (-8))) (hid (Qa2 1 64))))))),(yI (NB.v (VB.y (Qbg (vK (FX.k x)) (Qbo (hid (ofV 1 (-8))) (hid (Qa2 1 64))))))),(yF (NB.f (VB.y (Qbg (vK (FX.k x)) (Qbo (hid (ofV 1 (-8))) (hid (Qa2 1 64)))))))] = [(yI (NB.v (VB.x (vK (FX.k x'))))),(yF (NB.f (VB.x (vK (FX.k x'))))),(yI (NB.v (VB.y (vK (FX.k x'))))),(yF (NB.f (VB.y (vK (FX.k x')))))])))))∧((((1 : Nat) = 1)∧(((1 : Nat) ≤ 1)∧(∀ i : Nat,(((i : Nat) < 1)→([(yI (NB.v (VB.x (Qbg (atK (Qc3 (TD.m t) 100) (FX.k x)) (Qbo (Qbg (vK (FX.k x)) (Qbo (hid (ofV 1 (-8))) (hid (Qa2 1 64)))) (hid (Qa2 1 64))))))),(yF (NB.f (VB.x (Qbg (atK (Qc3 (TD.m t) 100) (FX.k x)) (Qbo (Qbg (vK (FX.k x)) (Qbo (hid (ofV 1 (-8))) (hid (Qa2 1 64)))) (hid (Qa2 1 64))))))),(yI (NB.v (VB.y (Qbg (atK (Qc3 (TD.m t) 100) (FX.k x)) (Qbo (Qbg (vK (FX.k x)) (Qbo (hid (ofV 1 (-8))) (hid (Qa2 1 64)))) (hid (Qa2 1 64))))))),(yF (NB.f (VB.y (Qbg (atK (Qc3 (TD.m t) 100) (FX.k x)) (Qbo (Qbg (vK (FX.k x)) (Qbo (hid (ofV 1 (-8))) (hid (Qa2 1 64)))) (hid (Qa2 1 64)))))))] = [(yI (NB.v (VB.x (atK (Qc3 (TD.m t) 100) (FX.k x'))))),(yF (NB.f (VB.x (atK (Qc3 (TD.m t) 100) (FX.k x'))))),(yI (NB.v (VB.y (atK (Qc3 (TD.m t) 100) (FX.k x'))))),(yF (NB.f (VB.y (atK (Qc3 (TD.m t) 100) (FX.k x')))))])))))∧((((1 : Nat) = 1)∧(((1 : Nat) ≤ 1)∧(∀ i : Nat,(((i : Nat) < 1)→([(yI (NB.v (VB.x (Qqf (FX.r x) (Qdg (BD.w (Qbc t)) (hid (Qa2 1 64))))))),(yF (NB.f (VB.x (Qqf (FX.r x) (Qdg (BD.w (Qbc t)) (hid (Qa2 1 64))))))),(yI (NB.v (VB.y (Qqf (FX.r x) (Qdg (BD.w (Qbc t)) (hid (Qa2 1 64))))))),(yF (NB.f (VB.y (Qqf (FX.r x) (Qdg (BD.w (Qbc t)) (hid (Qa2 1 64)))))))] = [(yI (NB.v (VB.x (FX.r x')))),(yF (NB.f (VB.x (FX.r x')))),(yI (NB.v (VB.y (FX.r x')))),(yF (NB.f (VB.y (FX.r x'))))])))))∧((((1 : Nat) = 1)∧(((1 : Nat) ≤ 1)∧(((yI (ShB.k (BD.s (goB (Qby (Qbp t (FX.k x) (FX.r x)) (hid (ofV 1 (-8))) (hid (Qa2 1 64))) (hid (Qa2 1 64)))))) = (yI (ShB.k (BD.s (Qbp t (FX.k x') (FX.r x'))))))∧(((yI (ShB.r (BD.s (goB (Qby (Qbp t (FX.k x) (FX.r x)) (hid (ofV 1 (-8))) (hid (Qa2 1 64))) (hid (Qa2 1 64)))))) = (yI (ShB.r (BD.s (Qbp t (FX.k x') (FX.r x'))))))∧(((yI (ShB.w (BD.s (goB (Qby (Qbp t (FX.k x) (FX.r x)) (hid (ofV 1 (-8))) (hid (Qa2 1 64))) (hid (Qa2 1 64)))))) = (yI (ShB.w (BD.s (Qbp t (FX.k x') (FX.r x'))))))∧(((yI (ShB.h (BD.s (goB (Qby (Qbp t (FX.k x) (FX.r x)) (hid (ofV 1 (-8))) (hid (Qa2 1 64))) (hid (Qa2 1 64)))))) = (yI (ShB.h (BD.s (Qbp t (FX.k x') (FX.r x'))))))∧(((SV.sl 416 2 0 (ksN (TD.m t)) (ksN (TD.m t) + c_3)) = (SV.sl 416 2 0 (ksN (TD.m t)) (FX.c x')))∧(((yI (NB.v (VB.x (BD.pa (goB (Qby (Qbp t (FX.k x) (FX.r x)) (hid (ofV 1 (-8))) (hid (Qa2 1 64))) (hid (Qa2 1 64))))))) = (yI (NB.v (VB.x (BD.pa (Qbp t (FX.k x') (FX.r x')))))))∧(((yF (NB.f (VB.x (BD.pa (goB (Qby (Qbp t (FX.k x) (FX.r x)) (hid (ofV 1 (-8))) (hid (Qa2 1 64))) (hid (Qa2 1 64))))))) = (yF (NB.f (VB.x (BD.pa (Qbp t (FX.k x') (FX.r x')))))))∧(((yI (NB.v (VB.y (BD.pa (goB (Qby (Qbp t (FX.k x) (FX.r x)) (hid (ofV 1 (-8))) (hid (Qa2 1 64))) (hid (Qa2 1 64))))))) = (yI (NB.v (VB.y (BD.pa (Qbp t (FX.k x') (FX.r x')))))))∧(((yF (NB.f (VB.y (BD.pa (goB (Qby (Qbp t (FX.k x) (FX.r x)) (hid (ofV 1 (-8))) (hid (Qa2 1 64))) (hid (Qa2 1 64))))))) = (yF (NB.f (VB.y (BD.pa (Qbp t (FX.k x') (FX.r x')))))))∧(((yI (NB.v (VB.x (BD.pr (goB (Qby (Qbp t (FX.k x) (FX.r x)) (hid (ofV 1 (-8))) (hid (Qa2 1 64))) (hid (Qa2 1 64))))))) = (yI (NB.v (VB.x (BD.pr (Qbp t (FX.k x') (FX.r x')))))))∧(((yF (NB.f (VB.x (BD.pr (goB (Qby (Qbp t (FX.k x) (FX.r x)) (hid (ofV 1 (-8))) (hid (Qa2 1 64))) (hid (Qa2 1 64))))))) = (yF (NB.f (VB.x (BD.pr (Qbp t (FX.k x') (FX.r x')))))))∧(((yI (NB.v (VB.y (BD.pr (goB (Qby (Qbp t (FX.k x) (FX.r x)) (hid (ofV 1 (-8))) (hid (Qa2 1 64))) (hid (Qa2 1 64))))))) = (yI (NB.v (VB.y (BD.pr (Qbp t (FX.k x') (FX.r x')))))))∧(((yF (NB.f (VB.y (BD.pr (goB (Qby (Qbp t (FX.k x) (FX.r x)) (hid (ofV 1 (-8))) (hid (Qa2 1 64))) (hid (Qa2 1 64))))))) = (yF (NB.f (VB.y (BD.pr (Qbp t (FX.k x') (FX.r x')))))))∧(((yI (NB.v (VB.x (BD.v (goB (Qby (Qbp t (FX.k x) (FX.r x)) (hid (ofV 1 (-8))) (hid (Qa2 1 64))) (hid (Qa2 1 64))))))) = (yI (NB.v (VB.x (BD.v (Qbp t (FX.k x') (FX.r x')))))))∧(((yF false) = (yF (NB.f (VB.x (BD.v (Qbp t (FX.k x') (FX.r x')))))))∧(((yI (NB.v (VB.y (BD.v (goB (Qby (Qbp t (FX.k x) (FX.r x)) (hid (ofV 1 (-8))) (hid (Qa2 1 64))) (hid (Qa2 1 64))))))) = (yI (NB.v (VB.y (BD.v (Qbp t (FX.k x') (FX.r x')))))))∧(((yF false) = (yF (NB.f (VB.y (BD.v (Qbp t (FX.k x') (FX.r x')))))))∧(((yI (NB.v (BD.w (goB (Qby (Qbp t (FX.k x) (FX.r x)) (hid (ofV 1 (-8))) (hid (Qa2 1 64))) (hid (Qa2 1 64)))))) = (yI (NB.v (BD.w (Qbp t (FX.k x') (FX.r x'))))))∧(((yF false) = (yF false))∧(((yI (NB.v (VB.x (BD.m (goB (Qby (Qbp t (FX.k x) (FX.r x)) (hid (ofV 1 (-8))) (hid (Qa2 1 64))) (hid (Qa2 1 64))))))) = (yI (NB.v (VB.x (BD.m (Qbp t (FX.k x') (FX.r x')))))))∧(((yF (NB.f (VB.x (BD.m (goB (Qby (Qbp t (FX.k x) (FX.r x)) (hid (ofV 1 (-8))) (hid (Qa2 1 64))) (hid (Qa2 1 64))))))) = (yF (NB.f (VB.x (BD.m (Qbp t (FX.k x') (FX.r x')))))))∧(((yI (NB.v (VB.y (BD.m (goB (Qby (Qbp t (FX.k x) (FX.r x)) (hid (ofV 1 (-8))) (hid (Qa2 1 64))) (hid (Qa2 1 64))))))) = (yI (NB.v (VB.y (BD.m (Qbp t (FX.k x') (FX.r x')))))))∧(((yF (NB.f (VB.y (BD.m (goB (Qby (Qbp t (FX.k x) (FX.r x)) (hid (ofV 1 (-8))) (hid (Qa2 1 64))) (hid (Qa2 1 64))))))) = (yF (NB.f (VB.y (BD.m (Qbp t (FX.k x') (FX.r x')))))))∧(((yI (BD.st (goB (Qby (Qbp t (FX.k x) (FX.r x)) (hid (ofV 1 (-8))) (hid (Qa2 1 64))) (hid (Qa2 1 64))))) = (yI (BD.st (Qbp t (FX.k x') (FX.r x')))))∧(((yF false) = (yF false))∧(((yF false) = (yF false))∧((yI (BD.ver (goB (Qby (Qbp t (FX.k x) (FX.r x)) (hid (ofV 1 (-8))) (hid (Qa2 1 64))) (hid (Qa2 1 64))))) = (yI (BD.ver (Qbp t (FX.k x') (FX.r x')))))))))))))))))))))))))))))))))∧((((ksN (TD.m t)) : Nat) = (ksN (TD.m t)))∧((((FX.c x') : Nat) ≤ (ksN (TD.m t) + c_3))∧(∀ i : Nat,(((i : Nat) < (ksN (TD.m t)))→([(yI (Prod.fst (Qbv (Qap (SE.Qcq (Can.es (Can.push {es:=[],bs:=[],ro:=true} (Ent.win 40 2 0 (ksN (TD.m t))) (Qap (spB (ksN (TD.m t)) (FX.c x) (ksG (TD.m t))) 2 0 (ksN (TD.m t))))) 400 (spB (ksN (TD.m t)) (ksN (TD.m t) + c_2) (Qbv (Qap (spB (ksN (TD.m t)) (FX.c x) (ksG (TD.m t))) 2 0 (ksN (TD.m t)))))) 2 0 (ksN (TD.m t))) i))),(yI (Prod.snd (Qbv (Qap (SE.Qcq (Can.es (Can.push {es:=[],bs:=[],ro:=true} (Ent.win 40 2 0 (ksN (TD.m t))) (Qap (spB (ksN (TD.m t)) (FX.c x) (ksG (TD.m t))) 2 0 (ksN (TD.m t))))) 400 (spB (ksN (TD.m t)) (ksN (TD.m t) + c_2) (Qbv (Qap (spB (ksN (TD.m t)) (FX.c x) (ksG (TD.m t))) 2 0 (ksN (TD.m t)))))) 2 0 (ksN (TD.m t))) i)))] = [(yI (Prod.fst (ksG (TD.m t) i))),(yI (Prod.snd (ksG (TD.m t) i)))])))))))))))∧(((Int.toNat (st % 21) - FX.k x') : Nat) < (Int.toNat (st % 21) - FX.k x))))))))) (sel (!(NB.v (VB.x (BD.v (goB (Qby (Qbp t (FX.k x) (FX.r x)) (hid (ofV 1 (-8))) (hid (Qa2 1 64))) (hid (Qa2 1 64))))) == NB.v (VB.x (Qbg (vK (FX.k x)) (Qbo (hid (ofV 1 (-8))) (hid (Qa2 1 64)))))&&NB.f (VB.x (BD.v (goB (Qby (Qbp t (FX.k x) (FX.r x)) (hid (ofV 1 (-8))) (hid (Qa2 1 64))) (hid (Qa2 1 64))))) == NB.f (VB.x (Qbg (vK (FX.k x)) (Qbo (hid (ofV 1 (-8))) (hid (Qa2 1 64)))))&&(NB.v (VB.y (BD.v (goB (Qby (Qbp t (FX.k x) (FX.r x)) (hid (ofV 1 (-8))) (hid (Qa2 1 64))) (hid (Qa2 1 64))))) == NB.v (VB.y (Qbg (vK (FX.k x)) (Qbo (hid (ofV 1 (-8))) (hid (Qa2 1 64)))))&&NB.f (VB.y (BD.v (goB (Qby (Qbp t (FX.k x) (FX.r x)) (hid (ofV 1 (-8))) (hid (Qa2 1 64))) (hid (Qa2 1 64))))) == NB.f (VB.y (Qbg (vK (FX.k x)) (Qbo (hid (ofV 1 (-8))) (hid (Qa2 1 64)))))))) (R (yF false)) (sel (!(NB.v (VB.x (BD.pa (goB (Qby (Qbp t (FX.k x) (FX.r x)) (hid (ofV 1 (-8))) (hid (Qa2 1 64))) (hid (Qa2 1 64))))) == NB.v (VB.x (Qbg (atK (Qc3 (TD.m t) 100) (FX.k x)) (Qbo (Qbg (vK (FX.k x)) (Qbo (hid (ofV 1 (-8))) (hid (Qa2 1 64)))) (hid (Qa2 1 64)))))&&NB.f (VB.x (BD.pa (goB (Qby (Qbp t (FX.k x) (FX.r x)) (hid (ofV 1 (-8))) (hid (Qa2 1 64))) (hid (Qa2 1 64))))) == NB.f (VB.x (Qbg (atK (Qc3 (TD.m t) 100) (FX.k x)) (Qbo (Qbg (vK (FX.k x)) (Qbo (hid (ofV 1 (-8))) (hid (Qa2 1 64)))) (hid (Qa2 1 64)))))&&(NB.v (VB.y (BD.pa (goB (Qby (Qbp t (FX.k x) (FX.r x)) (hid (ofV 1 (-8))) (hid (Qa2 1 64))) (hid (Qa2 1 64))))) == NB.v (VB.y (Qbg (atK (Qc3 (TD.m t) 100) (FX.k x)) (Qbo (Qbg (vK (FX.k x)) (Qbo (hid (ofV 1 (-8))) (hid (Qa2 1 64)))) (hid (Qa2 1 64)))))&&NB.f (VB.y (BD.pa (goB (Qby (Qbp t (FX.k x) (FX.r x)) (hid (ofV 1 (-8))) (hid (Qa2 1 64))) (hid (Qa2 1 64))))) == NB.f (VB.y (Qbg (atK (Qc3 (TD.m t) 100) (FX.k x)) (Qbo (Qbg (vK (FX.k x)) (Qbo (hid (ofV 1 (-8))) (hid (Qa2 1 64)))) (hid (Qa2 1 64)))))))) (R (yF false)) (sel (!(NB.v (VB.x (BD.pr (goB (Qby (Qbp t (FX.k x) (FX.r x)) (hid (ofV 1 (-8))) (hid (Qa2 1 64))) (hid (Qa2 1 64))))) == NB.v (VB.x (FX.r x))&&NB.f (VB.x (BD.pr (goB (Qby (Qbp t (FX.k x) (FX.r x)) (hid (ofV 1 (-8))) (hid (Qa2 1 64))) (hid (Qa2 1 64))))) == NB.f (VB.x (FX.r x))&&(NB.v (VB.y (BD.pr (goB (Qby (Qbp t (FX.k x) (FX.r x)) (hid (ofV 1 (-8))) (hid (Qa2 1 64))) (hid (Qa2 1 64))))) == NB.v (VB.y (FX.r x))&&NB.f (VB.y (BD.pr (goB (Qby (Qbp t (FX.k x) (FX.r x)) (hid (ofV 1 (-8))) (hid (Qa2 1 64))) (hid (Qa2 1 64))))) == NB.f (VB.y (FX.r x))))) (R (yF false)) (sel (!(NB.v (BD.w (goB (Qby (Qbp t (FX.k x) (FX.r x)) (hid (ofV 1 (-8))) (hid (Qa2 1 64))) (hid (Qa2 1 64)))) == NB.v (BD.w (Qbc t))&&NB.f (BD.w (goB (Qby (Qbp t (FX.k x) (FX.r x)) (hid (ofV 1 (-8))) (hid (Qa2 1 64))) (hid (Qa2 1 64)))) == NB.f (BD.w (Qbc t)))) (R (yF false)) (∃ x' : FX,(((((((↑(FX.k x') : Int)) : Int) ≤ (st % 21))∧((Qgv (FX.r x'))∧(((ksN (TD.m t)) : Nat) ≤ (FX.c x'))))∧(((yI (IntKind.wrap IntKind.i64 (st % 21 - (↑(FX.k x) : Int) - 1))) = (yI (st % 21 - (↑(FX.k x') : Int))))∧((((1 : Nat) = 1)∧(((1 : Nat) ≤ 1)∧(∀ i : Nat,(((i : Nat) < 1)→([(yI (NB.v (VB.x (Qbg (vK (FX.k x)) (Qbo (hid (ofV 1 (-8))) (hid (Qa2 1 64))))))),(yF (NB.f (VB.x (Qbg (vK (FX.k x)) (Qbo (hid (ofV 1 (-8))) (hid (Qa2 1 64))))))),(yI (NB.v (VB.y (Qbg (vK (FX.k x)) (Qbo (hid (ofV 1 (-8))) (hid (Qa2 1 64))))))),(yF (NB.f (VB.y (Qbg (vK (FX.k x)) (Qbo (hid (ofV 1 (-8))) (hid (Qa2 1 64)))))))] = [(yI (NB.v (VB.x (vK (FX.k x'))))),(yF (NB.f (VB.x (vK (FX.k x'))))),(yI (NB.v (VB.y (vK (FX.k x'))))),(yF (NB.f (VB.y (vK (FX.k x')))))])))))∧((((1 : Nat) = 1)∧(((1 : Nat) ≤ 1)∧(∀ i : Nat,(((i : Nat) < 1)→([(yI (NB.v (VB.x (Qbg (atK (Qc3 (TD.m t) 100) (FX.k x)) (Qbo (Qbg (vK (FX.k x)) (Qbo (hid (ofV 1 (-8))) (hid (Qa2 1 64)))) (hid (Qa2 1 64))))))),(yF (NB.f (VB.x (Qbg (atK (Qc3 (TD.m t) 100) (FX.k x)) (Qbo (Qbg (vK (FX.k x)) (Qbo (hid (ofV 1 (-8))) (hid (Qa2 1 64)))) (hid (Qa2 1 64))))))),(yI (NB.v (VB.y (Qbg (atK (Qc3 (TD.m t) 100) (FX.k x)) (Qbo (Qbg (vK (FX.k x)) (Qbo (hid (ofV 1 (-8))) (hid (Qa2 1 64)))) (hid (Qa2 1 64))))))),(yF (NB.f (VB.y (Qbg (atK (Qc3 (TD.m t) 100) (FX.k x)) (Qbo (Qbg (vK (FX.k x)) (Qbo (hid (ofV 1 (-8))) (hid (Qa2 1 64)))) (hid (Qa2 1 64)))))))] = [(yI (NB.v (VB.x (atK (Qc3 (TD.m t) 100) (FX.k x'))))),(yF (NB.f (VB.x (atK (Qc3 (TD.m t) 100) (FX.k x'))))),(yI (NB.v (VB.y (atK (Qc3 (TD.m t) 100) (FX.k x'))))),(yF (NB.f (VB.y (atK (Qc3 (TD.m t) 100) (FX.k x')))))])))))∧((((1 : Nat) = 1)∧(((1 : Nat) ≤ 1)∧(∀ i : Nat,(((i : Nat) < 1)→([(yI (NB.v (VB.x (FX.r x)))),(yF (NB.f (VB.x (FX.r x)))),(yI (NB.v (VB.y (FX.r x)))),(yF (NB.f (VB.y (FX.r x))))] = [(yI (NB.v (VB.x (FX.r x')))),(yF (NB.f (VB.x (FX.r x')))),(yI (NB.v (VB.y (FX.r x')))),(yF (NB.f (VB.y (FX.r x'))))])))))∧((((1 : Nat) = 1)∧(((1 : Nat) ≤ 1)∧(((yI (ShB.k (BD.s (goB (Qby (Qbp t (FX.k x) (FX.r x)) (hid (ofV 1 (-8))) (hid (Qa2 1 64))) (hid (Qa2 1 64)))))) = (yI (ShB.k (BD.s (Qbp t (FX.k x') (FX.r x'))))))∧(((yI (ShB.r (BD.s (goB (Qby (Qbp t (FX.k x) (FX.r x)) (hid (ofV 1 (-8))) (hid (Qa2 1 64))) (hid (Qa2 1 64)))))) = (yI (ShB.r (BD.s (Qbp t (FX.k x') (FX.r x'))))))∧(((yI (ShB.w (BD.s (goB (Qby (Qbp t (FX.k x) (FX.r x)) (hid (ofV 1 (-8))) (hid (Qa2 1 64))) (hid (Qa2 1 64)))))) = (yI (ShB.w (BD.s (Qbp t (FX.k x') (FX.r x'))))))∧(((yI (ShB.h (BD.s (goB (Qby (Qbp t (FX.k x) (FX.r x)) (hid (ofV 1 (-8))) (hid (Qa2 1 64))) (hid (Qa2 1 64)))))) = (yI (ShB.h (BD.s (Qbp t (FX.k x') (FX.r x'))))))∧(((SV.sl 416 2 0 (ksN (TD.m t)) (ksN (TD.m t) + c_3)) = (SV.sl 416 2 0 (ksN (TD.m t)) (FX.c x')))∧(((yI (NB.v (VB.x (BD.pa (goB (Qby (Qbp t (FX.k x) (FX.r x)) (hid (ofV 1 (-8))) (hid (Qa2 1 64))) (hid (Qa2 1 64))))))) = (yI (NB.v (VB.x (BD.pa (Qbp t (FX.k x') (FX.r x')))))))∧(((yF (NB.f (VB.x (BD.pa (goB (Qby (Qbp t (FX.k x) (FX.r x)) (hid (ofV 1 (-8))) (hid (Qa2 1 64))) (hid (Qa2 1 64))))))) = (yF (NB.f (VB.x (BD.pa (Qbp t (FX.k x') (FX.r x')))))))∧(((yI (NB.v (VB.y (BD.pa (goB (Qby (Qbp t (FX.k x) (FX.r x)) (hid (ofV 1 (-8))) (hid (Qa2 1 64))) (hid (Qa2 1 64))))))) = (yI (NB.v (VB.y (BD.pa (Qbp t (FX.k x') (FX.r x')))))))∧(((yF (NB.f (VB.y (BD.pa (goB (Qby (Qbp t (FX.k x) (FX.r x)) (hid (ofV 1 (-8))) (hid (Qa2 1 64))) (hid (Qa2 1 64))))))) = (yF (NB.f (VB.y (BD.pa (Qbp t (FX.k x') (FX.r x')))))))∧(((yI (NB.v (VB.x (BD.pr (goB (Qby (Qbp t (FX.k x) (FX.r x)) (hid (ofV 1 (-8))) (hid (Qa2 1 64))) (hid (Qa2 1 64))))))) = (yI (NB.v (VB.x (BD.pr (Qbp t (FX.k x') (FX.r x')))))))∧(((yF (NB.f (VB.x (BD.pr (goB (Qby (Qbp t (FX.k x) (FX.r x)) (hid (ofV 1 (-8))) (hid (Qa2 1 64))) (hid (Qa2 1 64))))))) = (yF (NB.f (VB.x (BD.pr (Qbp t (FX.k x') (FX.r x')))))))∧(((yI (NB.v (VB.y (BD.pr (goB (Qby (Qbp t (FX.k x) (FX.r x)) (hid (ofV 1 (-8))) (hid (Qa2 1 64))) (hid (Qa2 1 64))))))) = (yI (NB.v (VB.y (BD.pr (Qbp t (FX.k x') (FX.r x')))))))∧(((yF (NB.f (VB.y (BD.pr (goB (Qby (Qbp t (FX.k x) (FX.r x)) (hid (ofV 1 (-8))) (hid (Qa2 1 64))) (hid (Qa2 1 64))))))) = (yF (NB.f (VB.y (BD.pr (Qbp t (FX.k x') (FX.r x')))))))∧(((yI (NB.v (VB.x (BD.v (goB (Qby (Qbp t (FX.k x) (FX.r x)) (hid (ofV 1 (-8))) (hid (Qa2 1 64))) (hid (Qa2 1 64))))))) = (yI (NB.v (VB.x (BD.v (Qbp t (FX.k x') (FX.r x')))))))∧(((yF false) = (yF (NB.f (VB.x (BD.v (Qbp t (FX.k x') (FX.r x')))))))∧(((yI (NB.v (VB.y (BD.v (goB (Qby (Qbp t (FX.k x) (FX.r x)) (hid (ofV 1 (-8))) (hid (Qa2 1 64))) (hid (Qa2 1 64))))))) = (yI (NB.v (VB.y (BD.v (Qbp t (FX.k x') (FX.r x')))))))∧(((yF false) = (yF (NB.f (VB.y (BD.v (Qbp t (FX.k x') (FX.r x')))))))∧(((yI (NB.v (BD.w (goB (Qby (Qbp t (FX.k x) (FX.r x)) (hid (ofV 1 (-8))) (hid (Qa2 1 64))) (hid (Qa2 1 64)))))) = (yI (NB.v (BD.w (Qbp t (FX.k x') (FX.r x'))))))∧(((yF false) = (yF false))∧(((yI (NB.v (VB.x (BD.m (goB (Qby (Qbp t (FX.k x) (FX.r x)) (hid (ofV 1 (-8))) (hid (Qa2 1 64))) (hid (Qa2 1 64))))))) = (yI (NB.v (VB.x (BD.m (Qbp t (FX.k x') (FX.r x')))))))∧(((yF (NB.f (VB.x (BD.m (goB (Qby (Qbp t (FX.k x) (FX.r x)) (hid (ofV 1 (-8))) (hid (Qa2 1 64))) (hid (Qa2 1 64))))))) = (yF (NB.f (VB.x (BD.m (Qbp t (FX.k x') (FX.r x')))))))∧(((yI (NB.v (VB.y (BD.m (goB (Qby (Qbp t (FX.k x) (FX.r x)) (hid (ofV 1 (-8))) (hid (Qa2 1 64))) (hid (Qa2 1 64))))))) = (yI (NB.v (VB.y (BD.m (Qbp t (FX.k x') (FX.r x')))))))∧(((yF (NB.f (VB.y (BD.m (goB (Qby (Qbp t (FX.k x) (FX.r x)) (hid (ofV 1 (-8))) (hid (Qa2 1 64))) (hid (Qa2 1 64))))))) = (yF (NB.f (VB.y (BD.m (Qbp t (FX.k x') (FX.r x')))))))∧(((yI (BD.st (goB (Qby (Qbp t (FX.k x) (FX.r x)) (hid (ofV 1 (-8))) (hid (Qa2 1 64))) (hid (Qa2 1 64))))) = (yI (BD.st (Qbp t (FX.k x') (FX.r x')))))∧(((yF false) = (yF false))∧(((yF false) = (yF false))∧((yI (BD.ver (goB (Qby (Qbp t (FX.k x) (FX.r x)) (hid (ofV 1 (-8))) (hid (Qa2 1 64))) (hid (Qa2 1 64))))) = (yI (BD.ver (Qbp t (FX.k x') (FX.r x')))))))))))))))))))))))))))))))))∧((((ksN (TD.m t)) : Nat) = (ksN (TD.m t)))∧((((FX.c x') : Nat) ≤ (ksN (TD.m t) + c_3))∧(∀ i : Nat,(((i : Nat) < (ksN (TD.m t)))→([(yI (Prod.fst (Qbv (Qap (SE.Qcq (Can.es (Can.push {es:=[],bs:=[],ro:=true} (Ent.win 40 2 0 (ksN (TD.m t))) (Qap (spB (ksN (TD.m t)) (FX.c x) (ksG (TD.m t))) 2 0 (ksN (TD.m t))))) 400 (spB (ksN (TD.m t)) (ksN (TD.m t) + c_2) (Qbv (Qap (spB (ksN (TD.m t)) (FX.c x) (ksG (TD.m t))) 2 0 (ksN (TD.m t)))))) 2 0 (ksN (TD.m t))) i))),(yI (Prod.snd (Qbv (Qap (SE.Qcq (Can.es (Can.push {es:=[],bs:=[],ro:=true} (Ent.win 40 2 0 (ksN (TD.m t))) (Qap (spB (ksN (TD.m t)) (FX.c x) (ksG (TD.m t))) 2 0 (ksN (TD.m t))))) 400 (spB (ksN (TD.m t)) (ksN (TD.m t) + c_2) (Qbv (Qap (spB (ksN (TD.m t)) (FX.c x) (ksG (TD.m t))) 2 0 (ksN (TD.m t)))))) 2 0 (ksN (TD.m t))) i)))] = [(yI (Prod.fst (ksG (TD.m t) i))),(yI (Prod.snd (ksG (TD.m t) i)))])))))))))))∧(((Int.toNat (st % 21) - FX.k x') : Nat) < (Int.toNat (st % 21) - FX.k x)))))))))))))))))) (((Qti (BD.s (Qbp t (FX.k x) (FX.r x))) (BD.pa (Qbp t (FX.k x) (FX.r x))) (BD.pr (Qbp t (FX.k x) (FX.r x))) (ksN (TD.m t)) (Qbv (Qap (spB (ksN (TD.m t)) (FX.c x) (ksG (TD.m t))) 2 0 (ksN (TD.m t)))))∧(Qcs (ksN (TD.m t)) (Qap (spB (ksN (TD.m t)) (FX.c x) (ksG (TD.m t))) 2 0 (ksN (TD.m t)))))∧(∀ c_2 : Nat,(((Qhi (BD.s (Qbc t)))∧(Qcs (ksN (TD.m t)) (Qap {elem:=53,size:=2,rw:=true,lock:=false,lit:=false,flat:=true,n:=ksN (TD.m t),row:=fun i => [yI (Prod.fst (ksG (TD.m t) i)),yI (Prod.snd (ksG (TD.m t) i))],ext:=ksN (TD.m t) + c} 2 0 (ksN (TD.m t)))))∧(∀ c_3 : Nat,(sel ((↑(Qa7 0 (BD.s (Qbp t (FX.k x) (FX.r x))) (ksN (TD.m t))) : Int) == (↑(Qa7 (Qca (BD.s (Qbc t)) (ksN (TD.m t)) (Qbv (Qap {elem:=53,size:=2,rw:=true,lock:=false,lit:=false,flat:=true,n:=ksN (TD.m t),row:=fun i => [yI (Prod.fst (ksG (TD.m t) i)),yI (Prod.snd (ksG (TD.m t) i))],ext:=ksN (TD.m t) + c} 2 0 (ksN (TD.m t))))) (BD.s (Qbc t)) (ksN (TD.m t))) : Int)) (((Q7m (Qbp t (FX.k x) (FX.r x)) (ksN (TD.m t)) fun i => gi [yI (Prod.fst (ksG (TD.m t) (0 + i))),yI (Prod.snd (ksG (TD.m t) (0 + i)))])∧((Qb5 Qon (Qak (ksN (TD.m t)) fun y => [yI (Prod.fst (ksG (TD.m t) (0 + y))),yI (Prod.snd (ksG (TD.m t) (0 + y)))]))∧((((ksN (TD.m t)) : Nat) = (ksN (TD.m t)))∧(((ksN (TD.m t)) : Nat) < 1099511627776))))∧((I64 (NB.v (hid (Qa2 1 64))))∧(R (yF (strOfNums (Q0o (Qaa (NB.v (hid (Qa2 1 64)))) (Qat (NB.v (hid (Qa2 1 64))) (NB.f (hid (Qa2 1 64))))) == {data:=#[48,46,48,49,53,54,50,53]}))))) (R (yF false)))))))))))))))))) := by kernel_rfl
theorem Ze2 {e : Int} (h : -9223372036854775807 ≤ e ∧ e ≤ 9223372036854775807) : Qra e false = ⟨e, false⟩ := by
 unfold Qra Qas Qc9
 rw [if_neg (by omega), if_neg (by omega), if_pos (by unfold Qag; split <;> omega)]
theorem Zjx {n : Int} (h : -1000000 ≤ n ∧ n ≤ 1000000) : Qfx n = ⟨n * 4294967296, false⟩ := Ze2 ⟨by omega, by omega⟩
theorem hG : hid (ofV 1 (-8)) = ⟨⟨4294967296, false⟩, ⟨-34359738368, false⟩⟩ := by
 rw [Qnt]
 unfold ofV
 rw [Zjx ⟨by omega, by omega⟩, Zjx ⟨by omega, by omega⟩]
 rfl
theorem hD : hid (Qa2 1 64) = ⟨67108864, false⟩ := by
 rw [Qnt]
 exact Ze2 (e := 67108864) ⟨by omega, by omega⟩
theorem Qt6 (k : Nat) : vK k = ⟨⟨(k : Int) * 67108864, false⟩, ⟨-((k : Int) * 536870912), false⟩⟩ := Qnt _
theorem Qsy (p : VB) (k : Nat) : atK p k = ⟨⟨p.x.v + 1048576 * tri k, false⟩, ⟨p.y.v - 8388608 * tri k, false⟩⟩ := Qnt _
theorem Zjw {a c : Int} (h : a = 64 * c) (h1 : -4611686018427387904 ≤ a ∧ a ≤ 4611686018427387904) : Qdg ⟨a, false⟩ ⟨67108864, false⟩ = ⟨c, false⟩ := by
 have e : Qa1 a 67108864 = c := by
   unfold Qa1
   rw [show a * 67108864 = c * 4294967296 by omega]
   exact Int.mul_tdiv_cancel _ (by decide)
 show Qra (Qa1 (Qaa a) (Qaa 67108864)) (Qat a false || Qat 67108864 false) = _
 rw [Qcf (by omega), Qcf (v := 67108864) (by omega), Qcr (by omega), Qcr (v := 67108864) (by omega), e]
 exact Ze2 ⟨by omega, by omega⟩
theorem Zi2 {a b : Int} (ha : -4611686018427387903 ≤ a ∧ a ≤ 4611686018427387903) (hb : -4611686018427387903 ≤ b ∧ b ≤ 4611686018427387903) : Qvy [nR ⟨a, false⟩, nR ⟨b, false⟩] = ⟨a + b, false⟩ := by
 have e1 : Qgc [nR ⟨a, false⟩, nR ⟨b, false⟩] = a + b := by
   show Qaa a + (Qaa b + 0) = a + b
   rw [Qcf (by omega), Qcf (by omega)]; omega
 have e2 : Qfb [nR ⟨a, false⟩, nR ⟨b, false⟩] = false := by
   show (Qat a false || (Qat b false || false)) = false
   rw [Qcr (by omega), Qcr (by omega)]; rfl
 unfold Qvy
 rw [e1, e2]
 exact Ze2 ⟨by omega, by omega⟩
theorem limT {a : Int} (h : -1099511627776 ≤ a ∧ a ≤ 1099511627776) : Q62 ⟨a, false⟩ 256 = ⟨a, false⟩ := by
 unfold Q62 Qpl
 rw [Zjx ⟨by omega, by omega⟩, Zjx ⟨by omega, by omega⟩]
 show (⟨Qnm (Qaa (-256 * 4294967296)) (Qlr (Qaa a) (Qaa (256 * 4294967296))), false⟩ : NB) = _
 rw [Qcf (by omega), Qcf (by omega), Qcf (by omega), show Qlr a (256 * 4294967296) = a from by unfold Qlr; split <;> omega, show Qnm (-256 * 4294967296) a = a from by unfold Qnm; split <;> omega]
theorem Q0l : ∀ k : Nat, k ≤ 20 → 0 ≤ tri k ∧ tri k ≤ 20 * (k : Int)
 | 0, _ => ⟨Int.le_refl _, by show (0 : Int) ≤ _; omega⟩
 | k + 1, h => by
   have := Q0l k (by omega)
   show 0 ≤ tri k + ((k : Int) + 1) ∧ tri k + ((k : Int) + 1) ≤ _
   omega
theorem Q0j {k : Nat} (h : k ≤ 20) : Qbg (vK k) (Qbo (hid (ofV 1 (-8))) (hid (Qa2 1 64))) = vK (k + 1) := by
 rw [Qt6, Qt6, hG, hD]
 show (⟨Qvy [nR ⟨(k : Int) * 67108864, false⟩, nR (Qdg ⟨4294967296, false⟩ ⟨67108864, false⟩)], Qvy [nR ⟨-((k : Int) * 536870912), false⟩, nR (Qdg ⟨-34359738368, false⟩ ⟨67108864, false⟩)]⟩ : VB) = _
 rw [Zjw (c := 67108864) (by omega) ⟨by omega, by omega⟩, Zjw (c := -536870912) (by omega) ⟨by omega, by omega⟩, Zi2 ⟨by omega, by omega⟩ ⟨by omega, by omega⟩, Zi2 ⟨by omega, by omega⟩ ⟨by omega, by omega⟩, show (k : Int) * 67108864 + 67108864 = ((k + 1 : Nat) : Int) * 67108864 by omega, show -((k : Int) * 536870912) + -536870912 = -(((k + 1 : Nat) : Int) * 536870912) by omega]
def Zht (p : VB) : Prop := (-429496729600 < p.x.v ∧ p.x.v < 429496729600) ∧ -429496729600 < p.y.v ∧ p.y.v < 429496729600
theorem Qrk {p : VB} {k : Nat} (hp : Zht p) (h : k ≤ 19) : Qbg (atK p k) (Qbo (vK (k + 1)) (hid (Qa2 1 64))) = atK p (k + 1) := by
 obtain ⟨⟨x1, x2⟩, y1, y2⟩ := hp
 have ht := Q0l k (by omega)
 rw [Qsy, Qsy, Qt6, hD]
 show (⟨Qvy [nR ⟨p.x.v + 1048576 * tri k, false⟩, nR (Qdg ⟨((k + 1 : Nat) : Int) * 67108864, false⟩ ⟨67108864, false⟩)], Qvy [nR ⟨p.y.v - 8388608 * tri k, false⟩, nR (Qdg ⟨-(((k + 1 : Nat) : Int) * 536870912), false⟩ ⟨67108864, false⟩)]⟩ : VB) = _
 rw [Zjw (c := ((k + 1 : Nat) : Int) * 1048576) (by omega) ⟨by omega, by omega⟩, Zjw (c := -(((k + 1 : Nat) : Int) * 8388608)) (by omega) ⟨by omega, by omega⟩, Zi2 ⟨by omega, by omega⟩ ⟨by omega, by omega⟩, Zi2 ⟨by omega, by omega⟩ ⟨by omega, by omega⟩,
   show p.x.v + 1048576 * tri k + ((k + 1 : Nat) : Int) * 1048576 = p.x.v + 1048576 * tri (k + 1) from by show _ = p.x.v + 1048576 * (tri k + ((k : Int) + 1)); omega,
   show p.y.v - 8388608 * tri k + -(((k + 1 : Nat) : Int) * 8388608) = p.y.v - 8388608 * tri (k + 1) from by show _ = p.y.v - 8388608 * (tri k + ((k : Int) + 1)); omega]
theorem Zh7 {k : Nat} (h : k ≤ 20) : Ze1 (vK k) 256 = vK k := by
 rw [Qt6]
 show (⟨Q62 ⟨(k : Int) * 67108864, false⟩ 256, Q62 ⟨-((k : Int) * 536870912), false⟩ 256⟩ : VB) = _
 rw [limT ⟨by omega, by omega⟩, limT ⟨by omega, by omega⟩]
theorem Q9a (t : TD) {k : Nat} (r : VB) (h : k ≤ 19) : Qby (Qbp t k r) (hid (ofV 1 (-8))) (hid (Qa2 1 64)) = Zii t k (k + 1) r := by
 show (⟨ksS t.m, atK (Qc3 t.m 100) k, r, Ze1 (Qbg (vK k) (Qbo (hid (ofV 1 (-8))) (hid (Qa2 1 64)))) 256, Qd0 t.w 60, (Qur t).m, 0, false, false, 1⟩ : BD) = _
 rw [Q0j (by omega), Zh7 (by omega)]; rfl
theorem Qwh (m : MD) : Zht (Qc3 m 100) := ⟨Qsb m.x, Qsb m.y⟩
theorem Zl9 (t : TD) {k : Nat} (r : VB) (h : k ≤ 19) : goB (Zii t k (k + 1) r) (hid (Qa2 1 64)) = Qbp t (k + 1) (Qv1 r (Qdg (Qd0 t.w 60) (hid (Qa2 1 64)))) := by
 show (⟨ksS t.m, Qbg (atK (Qc3 t.m 100) k) (Qbo (vK (k + 1)) (hid (Qa2 1 64))), Qv1 r (Qdg (Qd0 t.w 60) (hid (Qa2 1 64))), vK (k + 1), Qd0 t.w 60, (Qur t).m, 0, false, false, 1⟩ : BD) = _
 rw [Qrk (Qwh t.m) h]; rfl
theorem Zl6 (t : TD) : PW (Qur t).m := (Qji t.m).2.2.1 _ (Q0n t)
theorem Zdq (t : TD) (k j : Nat) (r : VB) : Q2m (Zii t k j r) = true := by
 obtain ⟨_, ⟨h1, _⟩, _⟩ := Zl6 t
 show ((Qur t).m.x.v != 0 || (Qur t).m.y.v != 0) = true
 rw [show ((Qur t).m.x.v != 0) = true from by simp; omega]; rfl
theorem Q23 (t : TD) (k j : Nat) (r : VB) : Qx9 (Zii t k j r) = false := by
 unfold Qx9
 rw [Zdq]; rfl
theorem w60 (t : TD) : -257698037760 < (Qd0 t.w 60).v ∧ (Qd0 t.w 60).v < 257698037760 := Qqz t.w (by rfl) (by decide)
theorem Qww {m : MD} {k : Nat} (h : k ≤ 20) : (-439496729600 ≤ (atK (Qc3 m 100) k).x.v ∧ (atK (Qc3 m 100) k).x.v ≤ 439496729600) ∧ -439496729600 ≤ (atK (Qc3 m 100) k).y.v ∧ (atK (Qc3 m 100) k).y.v ≤ 439496729600 := by
 obtain ⟨⟨x1, x2⟩, y1, y2⟩ := Qwh m
 have ht := Q0l k h
 rw [Qsy]
 show (_ ≤ (Qc3 m 100).x.v + 1048576 * tri k ∧ (Qc3 m 100).x.v + 1048576 * tri k ≤ _) ∧ _ ≤ (Qc3 m 100).y.v - 8388608 * tri k ∧ (Qc3 m 100).y.v - 8388608 * tri k ≤ _
 omega
theorem Zig {k : Nat} (h : k ≤ 20) : (-1099511627776 ≤ (vK k).x.v ∧ (vK k).x.v ≤ 1099511627776) ∧ -1099511627776 ≤ (vK k).y.v ∧ (vK k).y.v ≤ 1099511627776 := by
 rw [Qt6]
 show (_ ≤ (k : Int) * 67108864 ∧ (k : Int) * 67108864 ≤ _) ∧ _ ≤ -((k : Int) * 536870912) ∧ -((k : Int) * 536870912) ≤ _
 omega
theorem Qya (t : TD) {k j : Nat} {r : VB} (hk : k ≤ 20) (hj : j ≤ 20) (hr : Qgv r) : bdI (Zii t k j r) := by
 obtain ⟨_, ⟨m1, m2⟩, m3, m4⟩ := Zl6 t
 have ha := Qww (m := t.m) hk
 have hv := Zig hj
 have hw := w60 t
 exact ⟨(Qji t.m).1, ⟨s_i (by show _ ≤ (atK (Qc3 t.m 100) k).x.v ∧ (atK (Qc3 t.m 100) k).x.v ≤ _; omega), s_i (by show _ ≤ (atK (Qc3 t.m 100) k).y.v ∧ (atK (Qc3 t.m 100) k).y.v ≤ _; omega)⟩, Q6q hr,
   ⟨s_i (by show _ ≤ (vK j).x.v ∧ (vK j).x.v ≤ _; omega), s_i (by show _ ≤ (vK j).y.v ∧ (vK j).y.v ≤ _; omega)⟩, s_i (by show _ ≤ (Qd0 t.w 60).v ∧ (Qd0 t.w 60).v ≤ _; omega),
   ⟨s_i (by show _ ≤ (Qur t).m.x.v ∧ (Qur t).m.x.v ≤ _; omega), s_i (by show _ ≤ (Qur t).m.y.v ∧ (Qur t).m.y.v ≤ _; omega)⟩, s_i (by show _ ≤ (0 : Int) ∧ (0 : Int) ≤ _; omega), s_i (by show _ ≤ (1 : Int) ∧ (1 : Int) ≤ _; omega)⟩
theorem Zb1 {a : Int} (h : -4611686018427387903 ≤ a ∧ a ≤ 4611686018427387903) : Q6e ⟨a, false⟩ = ⟨a, false⟩ := by
 have e1 : Qgc [nR ⟨a, false⟩] = a := by
   show Qaa a + 0 = a
   rw [Qcf (by omega)]; omega
 have e2 : Qfb [nR ⟨a, false⟩] = false := by
   show (Qat a false || false) = false
   rw [Qcr (by omega)]; rfl
 unfold Q6e Qvy
 rw [e1, e2]
 exact Ze2 ⟨by omega, by omega⟩
theorem okT {n : Int} {a : NB} (hn : 0 ≤ n ∧ n ≤ 4096) (hf : a.f = false) (h : -(n * 4294967296) ≤ a.v ∧ a.v ≤ n * 4294967296) : okW n a = true := by
 obtain ⟨v, f⟩ := a
 have hf : f = false := hf
 have h : -(n * 4294967296) ≤ v ∧ v ≤ n * 4294967296 := h
 subst hf
 unfold okW
 rw [Zb1 ⟨by omega, by omega⟩]
 show (!(false || decide (max v (IntKind.i64.wrap (0 - v)) > IntKind.i64.wrap (n * 4294967296)))) = true
 rw [Qaf ⟨by omega, by omega⟩, Qaf ⟨by omega, by omega⟩, decide_eq_false (by omega)]; rfl
theorem insT {a : NB} (hf : a.f = false) (h : -17592186044416 ≤ a.v ∧ a.v ≤ 17592186044416) : Qzf a = true := by
 obtain ⟨v, f⟩ := a
 have hf : f = false := hf
 have h : -17592186044416 ≤ v ∧ v ≤ 17592186044416 := h
 subst hf
 unfold Qzf Qyj
 show (!(Qat v false || decide (Qag (Qaa v) > 17592186044416))) = true
 rw [Qcf (by omega), Qcr (by omega), decide_eq_false (by unfold Qag; split <;> omega)]; rfl
theorem Zd8 (p : VB) (k : Nat) : (atK p k).x.f = false ∧ (atK p k).y.f = false := by rw [Qsy]; exact ⟨rfl, rfl⟩
theorem Zgx (k : Nat) : (vK k).x.f = false ∧ (vK k).y.f = false := by rw [Qt6]; exact ⟨rfl, rfl⟩
theorem Q2l {a : Int} (h : -257698037760 < a ∧ a < 257698037760) : -257698037760 ≤ Qa1 a 67108864 ∧ Qa1 a 67108864 ≤ 257698037760 := by
 unfold Qa1
 rcases Int.le_total 0 a with h0 | h0
 · rw [Int.tdiv_eq_ediv_of_nonneg (by omega)]; omega
 · rw [show a * 67108864 = -((-a) * 67108864) by omega, Int.neg_tdiv, Int.tdiv_eq_ediv_of_nonneg (by omega)]; omega
theorem w_ok (t : TD) : (Qdg (Qd0 t.w 60) (hid (Qa2 1 64))).f = false ∧ Sd (Qdg (Qd0 t.w 60) (hid (Qa2 1 64))).v := by
 rw [hD]
 have h := w60 t
 have e : Qdg (Qd0 t.w 60) ⟨67108864, false⟩ = ⟨Qa1 (Qd0 t.w 60).v 67108864, false⟩ := by
   show Qra (Qa1 (Qaa (Qd0 t.w 60).v) (Qaa 67108864)) (Qat (Qd0 t.w 60).v false || Qat 67108864 false) = _
   rw [Qcf (by omega), Qcf (v := 67108864) (by omega), Qcr (by omega), Qcr (v := 67108864) (by omega)]
   have := Q2l h
   exact Ze2 ⟨by omega, by omega⟩
 rw [e]
 refine ⟨rfl, ?_⟩
 show -9223372036854775807 ≤ Qa1 (Qd0 t.w 60).v 67108864 ∧ Qa1 (Qd0 t.w 60).v 67108864 ≤ 9223372036854775807
 have := Q2l h
 omega
theorem Zhd (t : TD) {r : VB} (hr : Qgv r) : Qgv (Qv1 r (Qdg (Qd0 t.w 60) (hid (Qa2 1 64)))) := by
 unfold Qv1
 cases hw : (Qdg (Qd0 t.w 60) (hid (Qa2 1 64))).v != 0 with
 | true => exact Zit (Q96 (w_ok t).1 (w_ok t).2) hr
 | false => exact hr
theorem Qt0 (n c k : Nat) (g : Nat → Int × Int) : Qbv (Qap (spB n c g) 2 0 k) = g := funext fun i => by
 show gi [SV.v (.int .i64 (g (0 + i)).1), SV.v (.int .i64 (g (0 + i)).2)] = g i
 rw [Nat.zero_add]; rfl
theorem Quo {n c : Nat} {g : Nat → Int × Int} (hn : n < 1099511627776) (hg : ∀ i, i < n → I64 (g i).1 ∧ I64 (g i).2) : Qcs n (Qap (spB n c g) 2 0 n) := Qp4 hn hg fun _ => rfl
theorem veq (v : VB) : (!(v.x.v == v.x.v && v.x.f == v.x.f && (v.y.v == v.y.v && v.y.f == v.y.f))) = false := by simp
theorem neq1 (a : NB) : (!(a.v == a.v && a.f == a.f)) = false := by simp
theorem Zdo (t : TD) {k : Nat} {r : VB} (hk : k ≤ 20) (hr : Qgv r) : Zjs (Qbp t k r) (hid (ofV 1 (-8))) (hid (Qa2 1 64)) := ⟨Q23 t k k r, Qya t hk hk hr, by rw [hG]; exact ⟨⟨by decide, by decide⟩, ⟨by decide, by decide⟩⟩, by rw [hD]; exact ⟨by decide, by decide⟩⟩
theorem Zih (t : TD) {k : Nat} {r : VB} (hk : k ≤ 19) (hr : Qgv r) : goP (Qby (Qbp t k r) (hid (ofV 1 (-8))) (hid (Qa2 1 64))) (hid (Qa2 1 64)) := by
 rw [Q9a t r hk]
 have ha := Qww (m := t.m) (k := k + 1) (by omega)
 have hf := Zd8 (Qc3 t.m 100) (k + 1)
 refine ⟨Q23 t k (k + 1) r, Qya t (by omega) (by omega) hr, by rw [hD]; exact ⟨by decide, by decide⟩, ?_⟩
 show (okW 4096 (Qbg (atK (Qc3 t.m 100) k) (Qbo (vK (k + 1)) (hid (Qa2 1 64)))).x && okW 4096 (Qbg (atK (Qc3 t.m 100) k) (Qbo (vK (k + 1)) (hid (Qa2 1 64)))).y) = true
 rw [Qrk (Qwh t.m) hk, okT ⟨by omega, by omega⟩ hf.1 ⟨by omega, by omega⟩, okT ⟨by omega, by omega⟩ hf.2 ⟨by omega, by omega⟩]; rfl
theorem Zdp (t : TD) {k : Nat} {r : VB} (hk : k ≤ 20) (hr : Qgv r) : Qti (ksS t.m) (atK (Qc3 t.m 100) k) r (ksN t.m) (ksG t.m) := by
 obtain ⟨h1, h2, h3, h4, h5, h6⟩ := Qji t.m
 have hi := Qya t (j := k) hk hk hr
 have ha := Qww (m := t.m) hk
 have hf := Zd8 (Qc3 t.m 100) k
 exact ⟨h1, hi.2.1, Q6q hr, h2, hr.2.2.2.2, insT hf.1 ⟨by omega, by omega⟩, insT hf.2 ⟨by omega, by omega⟩, by omega⟩
theorem Zha {a b : NB} (ha : a.f = false) (hb : b.f = false) (h1 : -4611686018427387903 ≤ a.v ∧ a.v ≤ 4611686018427387903) (h2 : -4611686018427387903 ≤ b.v ∧ b.v ≤ 4611686018427387903) : (Zhb a b).f = false := by
 obtain ⟨v, f⟩ := a
 obtain ⟨u, g⟩ := b
 have ha : f = false := ha
 have hb : g = false := hb
 subst ha hb
 show (Qvy [nR ⟨v, false⟩, nR ⟨u, false⟩]).f = false
 rw [Zi2 h1 h2]
theorem Zdr (t : TD) {k : Nat} {r : VB} (hk : k ≤ 20) (hr : Qgv r) : Q7m (Qbp t k r) (ksN t.m) (ksG t.m) := by
 obtain ⟨h1, h2, h3, h4, h5, h6⟩ := Qji t.m
 obtain ⟨⟨f1, f2⟩, ⟨m1, m2⟩, m3, m4⟩ := Zl6 t
 have ha := Qww (m := t.m) hk
 have hf := Zd8 (Qc3 t.m 100) k
 have hv := Zig hk
 have hvf := Zgx k
 have hw := w60 t
 refine ⟨Qya t (j := k) hk hk hr, h2, hr.2.2.2.2, ⟨?_, ?_, okT (a := Qd0 t.w 60) ⟨by omega, by omega⟩ rfl ⟨by omega, by omega⟩⟩, Zha (a := (Qur t).m.x) (b := (Qur t).m.y) f1 f2 ⟨by omega, by omega⟩ ⟨by omega, by omega⟩, ⟨m1, m3⟩, rfl, ⟨rfl, rfl⟩, rfl⟩
 · show (okW 4096 (atK (Qc3 t.m 100) k).x && okW 4096 (atK (Qc3 t.m 100) k).y) = true
   rw [okT ⟨by omega, by omega⟩ hf.1 ⟨by omega, by omega⟩, okT ⟨by omega, by omega⟩ hf.2 ⟨by omega, by omega⟩]; rfl
 · show (okW 256 (vK k).x && okW 256 (vK k).y) = true
   rw [okT ⟨by omega, by omega⟩ hvf.1 ⟨by omega, by omega⟩, okT ⟨by omega, by omega⟩ hvf.2 ⟨by omega, by omega⟩]; rfl
theorem Zg7 : (strOfNums (Q0o (Qaa 67108864) (Qat 67108864 false)) == { data := #[48, 46, 48, 49, 53, 54, 50, 53] }) = true := by decide +kernel
theorem vK_0 : vK 0 = ⟨⟨0, false⟩, ⟨0, false⟩⟩ := by rw [Qt6]; rfl
theorem Q3j (m : MD) : atK (Qc3 m 100) 0 = Qc3 m 100 := by
 rw [Qsy]
 show (⟨⟨(Qd0 m.x 100).v + 1048576 * 0, false⟩, ⟨(Qd0 m.y 100).v - 8388608 * 0, false⟩⟩ : VB) = ⟨⟨(Qd0 m.x 100).v, false⟩, ⟨(Qd0 m.y 100).v, false⟩⟩
 rw [Int.mul_zero, Int.mul_zero, Int.add_zero, Int.sub_zero]
theorem g_i : I64 (hid (ofV 1 (-8))).x.v ∧ I64 (hid (ofV 1 (-8))).y.v := by rw [hG]; exact ⟨⟨by decide, by decide⟩, ⟨by decide, by decide⟩⟩
theorem d_i : I64 (hid (Qa2 1 64)).v := by rw [hD]; exact ⟨by decide, by decide⟩
theorem Zja {t : TD} {st n0 : Int} (ht : thI t) (hst : I64 st) : Qav Tryz.prog Zke (Zae t st) Tryz.f3 [thS t n0, iV st] (fun y => y = bV true) := by
 obtain ⟨h1, h2, h3, h4, h5, h6⟩ := Qji t.m
 have hn : ksN t.m < 1099511627776 := by omega
 have hs20 : 0 ≤ st % 21 ∧ st % 21 ≤ 20 := by omega
 refine Eq.mpr (Zk8 t st n0 _) ?_
 refine ⟨ht, fun c => ⟨⟨⟨by decide, by decide⟩, ⟨by decide, by decide⟩⟩, ⟨⟨by decide, by decide⟩, ⟨by decide, by decide⟩⟩, Qqr hn h6, fun c1 => ⟨⟨hst, by decide, by decide, by decide⟩, ⟨⟨0, Qnb t.m, ksN t.m + c1⟩, ⟨by show ((0 : Nat) : Int) ≤ st % 21; omega, Q1v t.m, Nat.le_add_right _ _⟩, Qbh (by show _ = st % 21 - ((0 : Nat) : Int); omega), ⟨rfl, Nat.le_refl _, fun _ _ => congrArg vBk vK_0.symm⟩, ⟨rfl, Nat.le_refl _, fun _ _ => congrArg vBk (Q3j t.m).symm⟩, ⟨rfl, Nat.le_refl _, fun _ _ => rfl⟩, ?_, rfl, Nat.le_refl _, fun i hi => ?_⟩, fun x ⟨x1, x2, x3⟩ => ?_⟩⟩⟩
 · exact ⟨rfl, Nat.le_refl _, rfl, rfl, rfl, rfl, rfl, congrArg (fun v : VB => SV.v (.int .i64 v.x.v)) (Q3j t.m).symm, congrArg (fun v : VB => SV.v (.bool v.x.f)) (Q3j t.m).symm, congrArg (fun v : VB => SV.v (.int .i64 v.y.v)) (Q3j t.m).symm, congrArg (fun v : VB => SV.v (.bool v.y.f)) (Q3j t.m).symm, rfl, rfl, rfl, rfl, congrArg (fun v : VB => SV.v (.int .i64 v.x.v)) vK_0.symm, congrArg (fun v : VB => SV.v (.bool v.x.f)) vK_0.symm, congrArg (fun v : VB => SV.v (.int .i64 v.y.v)) vK_0.symm, congrArg (fun v : VB => SV.v (.bool v.y.f)) vK_0.symm, rfl, rfl, rfl, rfl, rfl, rfl, rfl, rfl, rfl, rfl⟩
 · rw [Qig]
 refine Qad (fun hlt => ?_) fun hge => ?_
 · have hlt := of_decide_eq_true hlt
   have hk : x.k ≤ 19 := by omega
   have hg : goB (Qby (Qbp t x.k x.r) (hid (ofV 1 (-8))) (hid (Qa2 1 64))) (hid (Qa2 1 64)) = Qbp t (x.k + 1) (Qv1 x.r (Qdg (Qd0 t.w 60) (hid (Qa2 1 64)))) := by rw [Q9a t x.r hk, Zl9 t x.r hk]
   have e1 : Qbg (vK x.k) (Qbo (hid (ofV 1 (-8))) (hid (Qa2 1 64))) = vK (x.k + 1) := Q0j (by omega)
   have e2 : Qbg (atK (Qc3 t.m 100) x.k) (Qbo (vK (x.k + 1)) (hid (Qa2 1 64))) = atK (Qc3 t.m 100) (x.k + 1) := Qrk (Qwh t.m) hk
   have iv := Qya t (k := x.k) (j := x.k) (by omega) (by omega) x2
   have iv1 := Qya t (k := x.k + 1) (j := x.k + 1) (by omega) (by omega) x2
   rw [Qt0, hg, e1, e2]
   refine ⟨⟨Quo hn h6, Zdo t (by omega) x2⟩, fun c2 => ⟨⟨Qqr hn h6, Zih t hk x2⟩, fun c3 => ⟨⟨g_i, d_i⟩, ⟨⟨iv.2.2.2.1.1, iv.2.2.2.1.2⟩, Qj6 _ _, Qj6 _ _⟩, ⟨⟨iv1.2.2.2.1.1, iv1.2.2.2.1.2⟩, d_i⟩, ⟨⟨iv.2.1.1, iv.2.1.2⟩, Qj6 _ _, Qj6 _ _⟩, ⟨iv.2.2.2.2.1, d_i⟩, ?_⟩⟩⟩
   have hro := Zhd t x2
   refine Qad (fun hw => ⟨⟨Q6q x2, Qj6 _ _⟩, ?_⟩) fun hw => ?_
   · have hsp : Qv1 x.r (Qdg (Qd0 t.w 60) (hid (Qa2 1 64))) = Qqf x.r (Qdg (Qd0 t.w 60) (hid (Qa2 1 64))) := by unfold Qv1; rw [show ((Qdg (Qd0 t.w 60) (hid (Qa2 1 64))).v != 0) = true from hw]; rfl
     rw [hsp] at hro ⊢
     refine sF (veq (vK (x.k + 1))) (sF (veq (atK (Qc3 t.m 100) (x.k + 1))) (sF (veq (Qqf x.r (Qdg (Qd0 t.w 60) (hid (Qa2 1 64))))) (sF (neq1 (Qd0 t.w 60)) ⟨⟨x.k + 1, Qqf x.r (Qdg (Qd0 t.w 60) (hid (Qa2 1 64))), ksN t.m + c3⟩, ⟨⟨by show ((x.k + 1 : Nat) : Int) ≤ st % 21; omega, hro, Nat.le_add_right _ _⟩, Qbh ?_, ⟨rfl, Nat.le_refl _, fun _ _ => rfl⟩, ⟨rfl, Nat.le_refl _, fun _ _ => rfl⟩, ⟨rfl, Nat.le_refl _, fun _ _ => rfl⟩, ?_, rfl, Nat.le_refl _, fun i hi => ?_⟩, by show (st % 21).toNat - (x.k + 1) < (st % 21).toNat - x.k; omega⟩)))
     · show IntKind.i64.wrap (st % 21 - (x.k : Int) - 1) = st % 21 - ((x.k + 1 : Nat) : Int)
       rw [Qaf ⟨by omega, by omega⟩]; omega
     · exact ⟨rfl, Nat.le_refl _, rfl, rfl, rfl, rfl, rfl, rfl, rfl, rfl, rfl, rfl, rfl, rfl, rfl, rfl, congrArg (fun b => SV.v (.bool b)) (Zgx (x.k + 1)).1.symm, rfl, congrArg (fun b => SV.v (.bool b)) (Zgx (x.k + 1)).2.symm, rfl, rfl, rfl, rfl, rfl, rfl, rfl, rfl, rfl, rfl⟩
     · rw [Qig]
   · have hsp : Qv1 x.r (Qdg (Qd0 t.w 60) (hid (Qa2 1 64))) = x.r := by unfold Qv1; rw [show ((Qdg (Qd0 t.w 60) (hid (Qa2 1 64))).v != 0) = false from hw]; rfl
     rw [hsp] at hro ⊢
     refine sF (veq (vK (x.k + 1))) (sF (veq (atK (Qc3 t.m 100) (x.k + 1))) (sF (veq (x.r)) (sF (neq1 (Qd0 t.w 60)) ⟨⟨x.k + 1, x.r, ksN t.m + c3⟩, ⟨⟨by show ((x.k + 1 : Nat) : Int) ≤ st % 21; omega, hro, Nat.le_add_right _ _⟩, Qbh ?_, ⟨rfl, Nat.le_refl _, fun _ _ => rfl⟩, ⟨rfl, Nat.le_refl _, fun _ _ => rfl⟩, ⟨rfl, Nat.le_refl _, fun _ _ => rfl⟩, ?_, rfl, Nat.le_refl _, fun i hi => ?_⟩, by show (st % 21).toNat - (x.k + 1) < (st % 21).toNat - x.k; omega⟩)))
     · show IntKind.i64.wrap (st % 21 - (x.k : Int) - 1) = st % 21 - ((x.k + 1 : Nat) : Int)
       rw [Qaf ⟨by omega, by omega⟩]; omega
     · exact ⟨rfl, Nat.le_refl _, rfl, rfl, rfl, rfl, rfl, rfl, rfl, rfl, rfl, rfl, rfl, rfl, rfl, rfl, congrArg (fun b => SV.v (.bool b)) (Zgx (x.k + 1)).1.symm, rfl, congrArg (fun b => SV.v (.bool b)) (Zgx (x.k + 1)).2.symm, rfl, rfl, rfl, rfl, rfl, rfl, rfl, rfl, rfl, rfl⟩
     · rw [Qig]
 · have hge := of_decide_eq_false hge
   have hk : x.k ≤ 20 := by omega
   rw [Qt0, Qg1]
   refine ⟨⟨Zdp t hk x2, Quo hn h6⟩, fun c2 => ⟨⟨h1, Quo hn h6⟩, fun c3 => sT ?_ ⟨⟨Zdr t hk x2, okAll_rows.2 fun i hi => (by rw [Nat.zero_add]; exact h6 i hi), rfl, hn⟩, d_i, ?_⟩⟩⟩
   · show (((Qa7 0 (ksS t.m) (ksN t.m) : Nat) : Int) == ((Qa7 (Qca (ksS t.m) (ksN t.m) (Qbv (Qap (spB (ksN t.m) (ksN t.m + c) (ksG t.m)) 2 0 (ksN t.m)))) (ksS t.m) (ksN t.m) : Nat) : Int)) = true
     rw [Qt0, h2]; simp
   · rw [hD]
     exact congrArg bV Zg7
def sFal : List SV → Option (Option Prop × SV)
 | [.agg [.v (.int .i64 k), .v (.int .i64 a), .v (.int .i64 b), .v (.int .i64 x), .v (.int .i64 y), .v (.int .i64 w), .v (.int .i64 v), .v (.int .i64 u), .v (.int .i64 o), .v (.int .i64 d), .v (.int .i64 n0)], .v (.int .i64 st)] => some (some (thI ⟨⟨k, a, b, x, y, w⟩, v, u, o, d⟩ ∧ I64 st), .v (.bool true))
 | _ => none
theorem Zci : Zjo = Zhf := funext fun args => by
 unfold Zjo Zhf
 split
 · rw [Qnt]
 · rename_i h
   split <;> first | rfl | exact absurd rfl (h _ _)
theorem Q6m : Q6n = i2B Qa2 := funext fun args => by
 unfold Q6n i2B
 split
 · rw [Qnt]
 · rename_i h
   split <;> first | rfl | exact absurd rfl (h _ _)
theorem Q74 : Qai Tryz.prog 8 Zjo := by rw [Zci]; exact Qxf
theorem Q35 : Qai Tryz.prog 9 Q6n := by rw [Q6m]; exact Qlk
theorem Q40 : Qcg Tryz.prog 14 Zcw := Qum Qte fun args bs p x h hp => by
 unfold Zcw at h
 split at h <;> try (cases h; done)
 rename_i cc row
 split at h <;> try (cases h; done)
 rename_i a f b g c h' d k e0 e1
 cases h
 obtain ⟨⟨h1, h2⟩, h3, h4⟩ := hp _ rfl
 refine ⟨some (Qj8 (row 0) ∧ Qj8 (row 1)), ?_, fun q hq => ?_⟩
 · show some (_, vS (Qbg (rV (row 0)) (rV (row 1)))) = _
   rw [e0, e1]; rfl
 · cases hq
   rw [e0, e1]
   exact ⟨⟨h1, h2⟩, h3, h4⟩
theorem Zaz : ∀ f g, Zke f = some g → g.ok Tryz.prog f := Qab (Qab (Qab (Qab (Qab (Qab (Qab (Qab (Qab (Qab Qhm (Qfa Tryz.func7 (by kernel_rfl) (by kernel_rfl) Q8k)) (Qfa Tryz.func10 (by kernel_rfl) (by kernel_rfl) Qpw)) (Qfa Tryz.func13 (by kernel_rfl) (by kernel_rfl) Q72)) (Qfa Tryz.func12 (by kernel_rfl) (by kernel_rfl) Zeh)) (Qfa Tryz.func18 (by kernel_rfl) (by kernel_rfl) Q4r)) (Qdc Tryz.func20 (by kernel_rfl) (by kernel_rfl) Q4z)) (Qal Tryz.func21 (by kernel_rfl) (by kernel_rfl) Q3y)) (Qal Tryz.func8 (by kernel_rfl) (by kernel_rfl) Q74)) (Qal Tryz.func9 (by kernel_rfl) (by kernel_rfl) Q35)) (Qdc Tryz.func14 (by kernel_rfl) (by kernel_rfl) Q40)
theorem Q8f : Qai Tryz.prog 3 sFal := Qao hm Zaz Tryz.func3 (Λ := fun args => match args with
 | [.agg [.v (.int .i64 k), .v (.int .i64 a), .v (.int .i64 b), .v (.int .i64 x), .v (.int .i64 y), .v (.int .i64 w), .v (.int .i64 v), .v (.int .i64 u), .v (.int .i64 o), .v (.int .i64 d), .v (.int .i64 _)], .v (.int .i64 st)] => Zae ⟨⟨k, a, b, x, y, w⟩, v, u, o, d⟩ st
 | _ => Qax) fun args p x h hp => by
 unfold sFal at h
 split at h <;> try (cases h; done)
 rename_i k a b x y w v u o d n0 st
 cases h
 obtain ⟨h1, h2⟩ := hp _ rfl
 exact ⟨rfl, rfl, Zja (t := ⟨⟨k, a, b, x, y, w⟩, v, u, o, d⟩) (n0 := n0) h1 h2⟩
end Go.Proofs.YteekigmbopdfjaaGreat
end
