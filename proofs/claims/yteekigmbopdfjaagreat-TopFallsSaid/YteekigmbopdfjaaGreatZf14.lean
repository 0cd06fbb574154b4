/-
 What the proof uses, part 14.
-/
import Derived.Test.YteekigmbopdfjaaGreatZf13
set_option maxRecDepth 100000
set_option linter.unusedSimpArgs false
set_option linter.unusedVariables false

section
namespace Go.Proofs.YteekigmbopdfjaaGreat
open Go.SE Go.RowKit
noncomputable def Zel : Qb8 := Qah (Qah (Qah (Qah ΓT 163 (Qaj Qoy)) 243 (Qaj Qoy)) 98 (Qaj Zhg)) 97 (Qaj Zcu)
def rndN (a : NB) : Int := (Qaa a.v + 2147483648) / 4294967296
def Qed (v : VB) : Int × Int := (rndN (Qdg v.x (Qfx 256)), rndN (Qdg v.y (Qfx 256)))
def pS2 (p : Int × Int) : SV := .agg [.v (.int .i64 p.1), .v (.int .i64 p.2)]
def Zep : List SV → Option (Option Prop × SV)
 | [.agg [.v (.int .i64 a), .v (.bool f), .v (.int .i64 b), .v (.bool g)]] => some (some (I64 a ∧ I64 b), pS2 (Qed ⟨⟨a, f⟩, ⟨b, g⟩⟩))
 | _ => none
theorem Zkp (v : VB) (R : SV→Prop) : (Qav Tryz.prog Zel Qax Tryz.f89 [vS v] R) = ((I64 256)∧(((I64 (NB.v (VB.x v)))∧(I64 1099511627776))∧((I64 (NB.v (Qdg (VB.x v) {v:=1099511627776,f:=false})))∧(((I64 (NB.v (VB.y v)))∧(I64 1099511627776))∧((I64 (NB.v (Qdg (VB.y v) {v:=1099511627776,f:=false})))∧(R (SV.agg [(yI ((Qaa (NB.v (Qdg (VB.x v) {v:=1099511627776,f:=false})) + 2147483648) / 4294967296)),(yI ((Qaa (NB.v (Qdg (VB.y v) {v:=1099511627776,f:=false})) + 2147483648) / 4294967296))]))))))):=by kernel_rfl
theorem Zbe (v : VB) (R : SV→Prop) : (Qav Tryz.prog Zel Qax Tryz.f172 [vS v] R) = ((I64 256)∧(((I64 (NB.v (VB.x v)))∧(I64 1099511627776))∧((I64 (NB.v (Qdg (VB.x v) {v:=1099511627776,f:=false})))∧(((I64 (NB.v (VB.y v)))∧(I64 1099511627776))∧((I64 (NB.v (Qdg (VB.y v) {v:=1099511627776,f:=false})))∧(R (SV.agg [(yI ((Qaa (NB.v (Qdg (VB.x v) {v:=1099511627776,f:=false})) + 2147483648) / 4294967296)),(yI ((Qaa (NB.v (Qdg (VB.y v) {v:=1099511627776,f:=false})) + 2147483648) / 4294967296))]))))))):=by kernel_rfl
def Qzf (a : NB) : Bool := !((Qyj a).f || decide ((Qyj a).v > 17592186044416))
def Zlt : List SV → Option (Option Prop × SV)
 | [.agg [.v (.int .i64 a), .v (.bool f)]] => some (some (I64 a), bV (Qzf ⟨a, f⟩))
 | _ => none
theorem Zk3 (a : NB) (R : SV→Prop) : (Qav Tryz.prog Zel Qax Tryz.f88 [nS a] R) = ((I64 (NB.v a))∧(sel (!Qat (NB.v a) (NB.f a)) ((I64 4096)∧(R (yF (decide (Qeo (Qaa (Qag (Qaa (NB.v a)))) 17592186044416 ≤ 0))))) (R (yF false)))):=by kernel_rfl
def Zlx : List SV → Option (Option Prop × SV)
 | [.agg [.v (.int .i64 a), .v (.bool f)]] => some (some (I64 a), bV (!Qzf ⟨a, f⟩))
 | _ => none
theorem Zk7 (a : NB) (R : SV→Prop) : (Qav Tryz.prog Zel Qax Tryz.f171 [nS a] R) = ((I64 (NB.v a))∧(sel (NB.f (Qyj a)) (R (yF true)) (R (yF (decide (NB.v (Qyj a) > 17592186044416)))))):=by kernel_rfl
def Qnd (s : ShB) (pa pr : VB) (g : Nat → Int × Int) (i : Nat) : Int × Int := Qed (Qbg pa (Qep pr (Qru (Qbl s g i))))
def fmL (k : Int) (c : Int × Int) (r : Int) (x : SV) : List SV := [.v (.int .i64 k), .v (.int .i64 c.1), .v (.int .i64 c.2), .v (.int .i64 r), x]
def fmS (k : Int) (c : Int × Int) (r : Int) (x : SV) : SV := .agg (fmL k c r x)
def Qoh (s : ShB) : Int := bif s.k == 1 then 1 else 2
def Zc4 (q : Prop) (s : ShB) (pa pr : VB) (n : Nat) (g : Nat → Int × Int) : Eff := .nd q Nat 0 (fun c => .tup [fmS (Qoh s) (Qed pa) s.r (.sl 1000 2 0 (Qa7 0 s n) (Qa7 0 s n + c)), iV 0]) fun c => [(1000, spB (Qa7 0 s n) (Qa7 0 s n + c) (Qnd s pa pr g))]
noncomputable def Zji : Qb8 := Qah (Qah (Qah (Qah Zel 89 (Qaj Zep)) 172 (Qaj Zep)) 88 (Qaj Zlt)) 171 (Qaj Zlx)
structure PX where
 k : Nat
 c : Nat
noncomputable def Zac (s : ShB) (pa pr : VB) (n : Nat) (g : Nat → Int × Int) : Nat → Option LoopSpec :=
 Qxa (Qki Qax Tryz.f24 0 PX (fun x => x.k ≤ Qa7 0 s n ∧ x.k ≤ x.c) (fun x => Qa7 0 s n - x.k) [(50, fun x => .v (.int .i64 x.k))] [(416, fun x => Qdz 55 (fmL 2 (Qed pa) s.r (.sl 40 2 0 x.k x.c)))] [(40, fun x => spB x.k x.c (Qnd s pa pr g), Q65 416 4)])
   15 [(0, fun _ => [416]), (1, fun _ => [416]), (8, fun nx => [40, nx + 56]), (9, fun _ => [416]), (10, fun _ => [416])]
def Qti (s : ShB) (pa pr : VB) (n : Nat) (g : Nat → Int × Int) : Prop := Qhi s ∧ (I64 pa.x.v ∧ I64 pa.y.v) ∧ (I64 pr.x.v ∧ I64 pr.y.v) ∧ Qca s n g = 0 ∧ Qpn pr = 0 ∧ Qzf pa.x = true ∧ Qzf pa.y = true ∧ Qa7 0 s n < 1099511627776
def Zeq (args : List SV) (bs : List Blk) : Option Eff := match args, bs with
 | [.agg [.v (.int .i64 k), .v (.int .i64 r), .v (.int .i64 w), .v (.int .i64 h), .sl 0 2 0 n _], .agg [.v (.int .i64 a), .v (.bool f1), .v (.int .i64 b), .v (.bool f2), .v (.int .i64 c), .v (.bool f3), .v (.int .i64 d), .v (.bool f4)]], [B] => bif okB B then some (Zc4 (Qti ⟨k, r, w, h⟩ ⟨⟨a, f1⟩, ⟨b, f2⟩⟩ ⟨⟨c, f3⟩, ⟨d, f4⟩⟩ n (Qbv B) ∧ Qcs n B) ⟨k, r, w, h⟩ ⟨⟨a, f1⟩, ⟨b, f2⟩⟩ ⟨⟨c, f3⟩, ⟨d, f4⟩⟩ n (Qbv B)) else none
 | _, _ => none
theorem Zkt (s : ShB) (pa pr : VB) (q : Prop) (B : Blk) (n c : Nat) (g : Nat→Int × Int) : (Qcu Tryz.prog Zji (Zac s pa pr n g) Tryz.f24 [shS s (.sl 0 2 0 n c),pS pa pr] (Qaw [rdB B n g]) 64 (fun y h' => Qhf [rdB B n g] (Zc4 q s pa pr n g) y h')) = (((Qhi s)∧((Qb5 Qon (Qak n fun y => [yI (Prod.fst (g (0 + y))),yI (Prod.snd (g (0 + y)))]))∧(((n : Nat) = n)∧((n : Nat) < 1099511627776))))∧(sel ((Qca s n fun i => gi [yI (Prod.fst (g (0 + i))),yI (Prod.snd (g (0 + i)))]) != 0) (∃ c_1 : Nat,(((((yI 0) = (yI (Qoh s)))∧(((yI 0) = (yI (Prod.fst (Qed pa))))∧(((yI 0) = (yI (Prod.snd (Qed pa))))∧(((yI 0) = (yI (ShB.r s)))∧(((SV.v (Value.slice none 0 0)) = (SV.v (Value.slice none 0 0)))∧(((0 : Nat) = 0)∧((((Qa7 0 s n) : Nat) = 0)∧(((Qa7 0 s n + c_1) : Nat) = 0))))))))∧((yI (Qca s n fun i => gi [yI (Prod.fst (g (0 + i))),yI (Prod.snd (g (0 + i)))])) = (yI 0)))∧(((((Qa7 0 s n) : Nat) = 0)∧((((Qa7 0 s n + c_1) : Nat) = 0)∧True))∧True))) (((I64 (NB.v (VB.x pr)))∧(I64 (NB.v (VB.y pr))))∧(sel (Qpn pr != 0) (∃ c_1 : Nat,(((((yI 0) = (yI (Qoh s)))∧(((yI 0) = (yI (Prod.fst (Qed pa))))∧(((yI 0) = (yI (Prod.snd (Qed pa))))∧(((yI 0) = (yI (ShB.r s)))∧(((SV.v (Value.slice none 0 0)) = (SV.v (Value.slice none 0 0)))∧(((0 : Nat) = 0)∧((((Qa7 0 s n) : Nat) = 0)∧(((Qa7 0 s n + c_1) : Nat) = 0))))))))∧((yI (Qpn pr)) = (yI 0)))∧(((((Qa7 0 s n) : Nat) = 0)∧((((Qa7 0 s n + c_1) : Nat) = 0)∧True))∧True))) ((I64 (NB.v (VB.x pa)))∧(sel (!Qzf (VB.x pa)) (∃ c_1 : Nat,(((((yI 0) = (yI (Qoh s)))∧(((yI 0) = (yI (Prod.fst (Qed pa))))∧(((yI 0) = (yI (Prod.snd (Qed pa))))∧(((yI 0) = (yI (ShB.r s)))∧(((SV.v (Value.slice none 0 0)) = (SV.v (Value.slice none 0 0)))∧(((0 : Nat) = 0)∧((((Qa7 0 s n) : Nat) = 0)∧(((Qa7 0 s n + c_1) : Nat) = 0))))))))∧((yI 3) = (yI 0)))∧(((((Qa7 0 s n) : Nat) = 0)∧((((Qa7 0 s n + c_1) : Nat) = 0)∧True))∧True))) ((I64 (NB.v (VB.y pa)))∧(sel (!Qzf (VB.y pa)) (∃ c_1 : Nat,(((((yI 0) = (yI (Qoh s)))∧(((yI 0) = (yI (Prod.fst (Qed pa))))∧(((yI 0) = (yI (Prod.snd (Qed pa))))∧(((yI 0) = (yI (ShB.r s)))∧(((SV.v (Value.slice none 0 0)) = (SV.v (Value.slice none 0 0)))∧(((0 : Nat) = 0)∧((((Qa7 0 s n) : Nat) = 0)∧(((Qa7 0 s n + c_1) : Nat) = 0))))))))∧((yI 3) = (yI 0)))∧(((((Qa7 0 s n) : Nat) = 0)∧((((Qa7 0 s n + c_1) : Nat) = 0)∧True))∧True))) (((I64 (NB.v (VB.x pa)))∧(I64 (NB.v (VB.y pa))))∧(sel (ShB.k s != 1) (((Qhi s)∧(Qcs n (Qap (rdB B n g) 2 0 n)))∧(∀ c_1 : Nat,((∃ x : PX,(((((PX.k x) : Nat) ≤ (Qa7 0 s n))∧(((PX.k x) : Nat) ≤ (PX.c x)))∧(((yI 0) = (yI ((↑(PX.k x) : Int))))∧((((1 : Nat) = 1)∧(((1 : Nat) ≤ 1)∧(((yI 2) = (yI 2))∧(((yI (Prod.fst (Qed pa))) = (yI (Prod.fst (Qed pa))))∧(((yI (Prod.snd (Qed pa))) = (yI (Prod.snd (Qed pa))))∧(((yI (ShB.r s)) = (yI (ShB.r s)))∧(((SV.v (Value.slice none 0 0)) = (SV.v (Value.slice none 0 0)))∧(((0 : Nat) = 0)∧((((PX.k x) : Nat) = 0)∧(((PX.c x) : Nat) = 0))))))))))∧(((((PX.k x) : Nat) = 0)∧((((PX.c x) : Nat) = 0)∧True))∧True)))))∧(∀ x : PX,(((((PX.k x) : Nat) ≤ (Qa7 0 s n))∧(((PX.k x) : Nat) ≤ (PX.c x)))→(sel (decide ((↑(PX.k x) : Int) < (↑(Qa7 (Qca s n (Qbv (Qap (rdB B n g) 2 0 n))) s n) : Int))) ((((0 : Int) ≤ ((↑(PX.k x) : Int)))∧((((↑(PX.k x) : Int)) : Int) < ((↑(Qa7 (Qca s n (Qbv (Qap (rdB B n g) 2 0 n))) s n) : Int))))∧(((I64 (Prod.fst (Qbl s (Qbv (Qap (rdB B n g) 2 0 n)) (0 + Int.toNat (↑(PX.k x) : Int)))))∧(I64 (Prod.snd (Qbl s (Qbv (Qap (rdB B n g) 2 0 n)) (0 + Int.toNat (↑(PX.k x) : Int))))))∧((((I64 (NB.v (VB.x pa)))∧(I64 (NB.v (VB.y pa))))∧(((I64 (NB.v (VB.x pr)))∧(I64 (NB.v (VB.y pr))))∧((I64 (NB.v (VB.x (Qru (Prod.fst (Qbl s (Qbv (Qap (rdB B n g) 2 0 n)) (0 + Int.toNat (↑(PX.k x) : Int))),Prod.snd (Qbl s (Qbv (Qap (rdB B n g) 2 0 n)) (0 + Int.toNat (↑(PX.k x) : Int))))))))∧(I64 (NB.v (VB.y (Qru (Prod.fst (Qbl s (Qbv (Qap (rdB B n g) 2 0 n)) (0 + Int.toNat (↑(PX.k x) : Int))),Prod.snd (Qbl s (Qbv (Qap (rdB B n g) 2 0 n)) (0 + Int.toNat (↑(PX.k x) : Int)))))))))))∧(((I64 (NB.v (VB.x (Qbg pa (Qep pr (Qru (Prod.fst (Qbl s (Qbv (Qap (rdB B n g) 2 0 n)) (0 + Int.toNat (↑(PX.k x) : Int))),Prod.snd (Qbl s (Qbv (Qap (rdB B n g) 2 0 n)) (0 + Int.toNat (↑(PX.k x) : Int))))))))))∧(I64 (NB.v (VB.y (Qbg pa (Qep pr (Qru (Prod.fst (Qbl s (Qbv (Qap (rdB B n g) 2 0 n)) (0 + Int.toNat (↑(PX.k x) : Int))),Prod.snd (Qbl s (Qbv (Qap (rdB B n g) 2 0 n)) (0 + Int.toNat (↑(PX.k x) : Int)))))))))))∧((((((PX.k x + 1) * 16) : Nat) ≤ 140737488355328)∧((((0 + PX.c x) : Nat) ≤ (PX.c x))∧(∀ y : Nat,(((y : Nat) < 1)→True))))∧(∀ c_2 : Nat,(∃ x' : PX,((((((PX.k x') : Nat) ≤ (Qa7 0 s n))∧(((PX.k x') : Nat) ≤ (PX.c x')))∧(((yI (IntKind.wrap IntKind.i64 ((↑(PX.k x) : Int) + 1))) = (yI ((↑(PX.k x') : Int))))∧((((1 : Nat) = 1)∧(((1 : Nat) ≤ 1)∧(((yI 2) = (yI 2))∧(((yI (Prod.fst (Qed pa))) = (yI (Prod.fst (Qed pa))))∧(((yI (Prod.snd (Qed pa))) = (yI (Prod.snd (Qed pa))))∧(((yI (ShB.r s)) = (yI (ShB.r s)))∧((SV.sl 608 2 0 (PX.k x + 1) (PX.k x + 1 + c_2)) = (SV.sl 608 2 0 (PX.k x') (PX.c x')))))))))∧((((PX.k x + 1) : Nat) = (PX.k x'))∧((((PX.c x') : Nat) ≤ (PX.k x + 1 + c_2))∧(∀ i : Nat,(((i : Nat) < (PX.k x'))→([(yI (bop (Nat.blt i (PX.k x)) (Prod.fst (Qnd s pa pr g (0 + i))) (Prod.fst (Qed (Qbg pa (Qep pr (Qru (Prod.fst (Qbl s (Qbv (Qap (rdB B n g) 2 0 n)) (0 + Int.toNat (↑(PX.k x) : Int))),Prod.snd (Qbl s (Qbv (Qap (rdB B n g) 2 0 n)) (0 + Int.toNat (↑(PX.k x) : Int))))))))))),(yI (bop (Nat.blt i (PX.k x)) (Prod.snd (Qnd s pa pr g (0 + i))) (Prod.snd (Qed (Qbg pa (Qep pr (Qru (Prod.fst (Qbl s (Qbv (Qap (rdB B n g) 2 0 n)) (0 + Int.toNat (↑(PX.k x) : Int))),Prod.snd (Qbl s (Qbv (Qap (rdB B n g) 2 0 n)) (0 + Int.toNat (↑(PX.k x) : Int)))))))))))] = [(yI (Prod.fst (Qnd s pa pr g i))),(yI (Prod.snd (Qnd s pa pr g i)))]))))))))∧(((Qa7 0 s n - PX.k x') : Nat) < (Qa7 0 s n - PX.k x)))))))))) (∃ c_2 : Nat,(((((yI 2) = (yI (Qoh s)))∧(((yI (Prod.fst (Qed pa))) = (yI (Prod.fst (Qed pa))))∧(((yI (Prod.snd (Qed pa))) = (yI (Prod.snd (Qed pa))))∧(((yI (ShB.r s)) = (yI (ShB.r s)))∧((SV.sl 40 2 0 (PX.k x) (PX.c x)) = (SV.sl 40 2 0 (Qa7 0 s n) (Qa7 0 s n + c_2)))))))∧((yI 0) = (yI 0)))∧((((PX.k x) : Nat) = (Qa7 0 s n))∧((((Qa7 0 s n + c_2) : Nat) ≤ (PX.c x))∧(∀ i : Nat,(((i : Nat) < (Qa7 0 s n))→([(yI (Prod.fst (Qnd s pa pr g i))),(yI (Prod.snd (Qnd s pa pr g i)))] = [(yI (Prod.fst (Qnd s pa pr g i))),(yI (Prod.snd (Qnd s pa pr g i)))]))))))))))))) (∃ c_1 : Nat,(((((yI 1) = (yI (Qoh s)))∧(((yI (Prod.fst (Qed pa))) = (yI (Prod.fst (Qed pa))))∧(((yI (Prod.snd (Qed pa))) = (yI (Prod.snd (Qed pa))))∧(((yI (ShB.r s)) = (yI (ShB.r s)))∧(((SV.v (Value.slice none 0 0)) = (SV.v (Value.slice none 0 0)))∧(((0 : Nat) = 0)∧((((Qa7 0 s n) : Nat) = 0)∧(((Qa7 0 s n + c_1) : Nat) = 0))))))))∧((yI 0) = (yI 0)))∧(((((Qa7 0 s n) : Nat) = 0)∧((((Qa7 0 s n + c_1) : Nat) = 0)∧True))∧True))))))))))))):=by kernel_rfl
theorem Q61 : I64 1099511627776 := ⟨by decide, by decide⟩
theorem Q9f : I64 256 := ⟨by decide, by decide⟩
theorem Zdc : I64 4096 := ⟨by decide, by decide⟩
theorem Qj6 (a b : NB) : I64 (Qdg a b).v := (Qbk _).i64
theorem Qmu : ∀ f g, Zel f = some g → g.ok Tryz.prog f := Qab (Qab (Qab (Qab Qhm (Qal Tryz.func163 (by kernel_rfl) (by kernel_rfl) Qyt)) (Qal Tryz.func243 (by kernel_rfl) (by kernel_rfl) Qvf)) (Qal Tryz.func98 (by kernel_rfl) (by kernel_rfl) Q8n)) (Qal Tryz.func97 (by kernel_rfl) (by kernel_rfl) Q4w)
theorem Q7y : Qai Tryz.prog 89 Zep := Qao hm Qmu Tryz.func89 (Λ := fun _ => Qax) fun args p x h hp => by
 unfold Zep at h
 split at h <;> try (cases h; done)
 rename_i a f b g
 cases h
 obtain ⟨h1, h2⟩ := hp _ rfl
 exact ⟨rfl, rfl, Eq.mpr (Zkp ⟨⟨a, f⟩, ⟨b, g⟩⟩ _) ⟨Q9f, ⟨h1, Q61⟩, Qj6 _ _, ⟨h2, Q61⟩, Qj6 _ _, rfl⟩⟩
theorem Qyw : Qai Tryz.prog 172 Zep := Qao hm Qmu Tryz.func172 (Λ := fun _ => Qax) fun args p x h hp => by
 unfold Zep at h
 split at h <;> try (cases h; done)
 rename_i a f b g
 cases h
 obtain ⟨h1, h2⟩ := hp _ rfl
 exact ⟨rfl, rfl, Eq.mpr (Zbe ⟨⟨a, f⟩, ⟨b, g⟩⟩ _) ⟨Q9f, ⟨h1, Q61⟩, Qj6 _ _, ⟨h2, Q61⟩, Qj6 _ _, rfl⟩⟩
theorem Ziu (x y : Int) : decide (Qeo x y ≤ 0) = !decide (x > y) := by
 rcases Int.lt_trichotomy x y with h | h | h
 · rw [Qn2 h, decide_eq_false (p := x > y) (by omega)]; rfl
 · subst h; rw [Qrf, decide_eq_false (p := x > x) (by omega)]; rfl
 · rw [Qn3 h, decide_eq_true (p := x > y) h]; rfl
theorem Q79 : Qai Tryz.prog 88 Zlt := Qao hm Qmu Tryz.func88 (Λ := fun _ => Qax) fun args p x h hp => by
 unfold Zlt at h
 split at h <;> try (cases h; done)
 rename_i a f
 cases h
 have h1 : I64 a := hp _ rfl
 have hb := Qei h1
 refine ⟨rfl, rfl, Eq.mpr (Zk3 ⟨a, f⟩ _) ⟨h1, Qad (fun e => ⟨Zdc, ?_⟩) fun e => ?_⟩⟩
 · show bV _ = bV (!(Qat a f || decide (Qag (Qaa a) > 17592186044416)))
   have e : Qat a f = false := by simpa using e
   rw [e, show Qaa (Qag (Qaa a)) = Qag (Qaa a) from Qcf (by unfold Qag; split <;> omega), Ziu]; rfl
 · show bV _ = bV (!(Qat a f || decide (Qag (Qaa a) > 17592186044416)))
   have e : Qat a f = true := by simpa using e
   rw [e]; rfl
theorem Q8e : Qai Tryz.prog 171 Zlx := Qao hm Qmu Tryz.func171 (Λ := fun _ => Qax) fun args p x h hp => by
 unfold Zlx at h
 split at h <;> try (cases h; done)
 rename_i a f
 cases h
 have h1 : I64 a := hp _ rfl
 refine ⟨rfl, rfl, Eq.mpr (Zk7 ⟨a, f⟩ _) ⟨h1, Qad (fun e => ?_) fun e => ?_⟩⟩
 · show bV _ = bV (!!((Qyj ⟨a, f⟩).f || decide ((Qyj ⟨a, f⟩).v > 17592186044416)))
   rw [e]; rfl
 · show bV _ = bV (!!((Qyj ⟨a, f⟩).f || decide ((Qyj ⟨a, f⟩).v > 17592186044416)))
   rw [e, Bool.not_not]; rfl
theorem Qzt : ∀ f g, Zji f = some g → g.ok Tryz.prog f := Qab (Qab (Qab (Qab Qmu (Qal Tryz.func89 (by kernel_rfl) (by kernel_rfl) Q7y)) (Qal Tryz.func172 (by kernel_rfl) (by kernel_rfl) Qyw)) (Qal Tryz.func88 (by kernel_rfl) (by kernel_rfl) Q79)) (Qal Tryz.func171 (by kernel_rfl) (by kernel_rfl) Q8e)
theorem Q9w {s : ShB} {n : Nat} {g : Nat → Int × Int} (hs : Qhi s) (e : Qca s n g = 0) (hg : ∀ i, i < n → I64 (g i).1 ∧ I64 (g i).2) (i : Nat) (hi : i < Qa7 0 s n) : I64 (Qbl s g i).1 ∧ I64 (Qbl s g i).2 := by
 cases hk : s.k == 2 with
 | true =>
   obtain ⟨⟨a1, a2⟩, b1, b2⟩ := Qrg e hk
   have hG : Qbl s g i = Q91 s.w s.h i := by unfold Qbl; rw [hk]; rfl
   rw [hG]
   match i with
   | 0 => exact ⟨⟨by show (-9223372036854775808 : Int) ≤ -s.w; omega, by show -s.w < 9223372036854775808; omega⟩, ⟨by show (-9223372036854775808 : Int) ≤ -s.h; omega, by show -s.h < 9223372036854775808; omega⟩⟩
   | 1 => exact ⟨⟨by show (-9223372036854775808 : Int) ≤ s.w; omega, by show s.w < 9223372036854775808; omega⟩, ⟨by show (-9223372036854775808 : Int) ≤ -s.h; omega, by show -s.h < 9223372036854775808; omega⟩⟩
   | 2 => exact ⟨⟨by show (-9223372036854775808 : Int) ≤ s.w; omega, by show s.w < 9223372036854775808; omega⟩, ⟨by show (-9223372036854775808 : Int) ≤ s.h; omega, by show s.h < 9223372036854775808; omega⟩⟩
   | _ + 3 => exact ⟨⟨by show (-9223372036854775808 : Int) ≤ -s.w; omega, by show -s.w < 9223372036854775808; omega⟩, ⟨by show (-9223372036854775808 : Int) ≤ s.h; omega, by show s.h < 9223372036854775808; omega⟩⟩
 | false =>
   have hG : Qbl s g i = g i := by unfold Qbl; rw [hk]; rfl
   have hN : Qa7 0 s n = n := by unfold Qa7; rw [hk]; rfl
   rw [hG]; rw [hN] at hi
   exact hg i hi
theorem Zh6 (p : Int × Int) : I64 (Qru p).x.v ∧ I64 (Qru p).y.v := ⟨Qhj _ _, Qhj _ _⟩
theorem Q98 (u v : VB) : I64 (Qbg u v).x.v ∧ I64 (Qbg u v).y.v := ⟨(Qbk _).i64, (Qbk _).i64⟩
theorem neF {x : Int} (h : x = 0) : (x != 0) = false := by rw [h]; rfl
theorem Zi5 {s : ShB} {pa pr : VB} {q : Prop} {B : Blk} {n c : Nat} {g : Nat → Int × Int} (h : Qti s pa pr n g) (hn : n < 1099511627776) (hg : ∀ i, i < n → I64 (g i).1 ∧ I64 (g i).2) : Qcu Tryz.prog Zji (Zac s pa pr n g) Tryz.f24 [shS s (.sl 0 2 0 n c), pS pa pr] (Qaw [rdB B n g]) 64 (fun y h' => Qhf [rdB B n g] (Zc4 q s pa pr n g) y h') := by
 obtain ⟨hs, ⟨ha1, ha2⟩, ⟨hr1, hr2⟩, hc, hv, hi1, hi2, hN⟩ := h
 refine Eq.mpr (Zkt s pa pr q B n c g) ?_
 rw [Qg1]
 refine ⟨⟨hs, okAll_rows.2 fun i hi => (by rw [Nat.zero_add]; exact hg i hi), rfl, hn⟩, sF (neF hc) ⟨⟨hr1, hr2⟩, sF (neF hv) ⟨ha1, sF (by rw [hi1]; rfl) ⟨ha2, sF (by rw [hi2]; rfl) ⟨⟨ha1, ha2⟩, ?_⟩⟩⟩⟩⟩
 rw [Qgs, hc]
 refine Qad (fun hk => ⟨⟨hs, Qj1 hn hg⟩, fun c1 => ⟨⟨⟨0, 0⟩, ⟨Nat.zero_le _, Nat.le_refl _⟩, rfl, ⟨rfl, Nat.le_refl _, rfl, rfl, rfl, rfl, rfl, rfl, rfl, rfl⟩, ⟨rfl, rfl, trivial⟩, trivial⟩, fun x ⟨x1, x2⟩ => ?_⟩⟩) fun hk => ?_
 · have hK : Qoh s = 2 := by
     have : (s.k == 1) = false := by simpa using hk
     unfold Qoh; rw [this]; rfl
   refine Qad (fun hlt => ?_) fun hge => ?_
   · have hlt := of_decide_eq_true hlt
     have hkN : x.k < Qa7 0 s n := by omega
     have hg1 := Q9w hs hc hg x.k hkN
     have hw : IntKind.i64.wrap ((x.k : Int) + 1) = ((x.k + 1 : Nat) : Int) := by rw [Qaf ⟨by omega, by omega⟩]; omega
     rw [Int.toNat_natCast, hw, Nat.zero_add, Nat.zero_add]
     refine ⟨⟨by omega, hlt⟩, hg1, ⟨⟨ha1, ha2⟩, ⟨hr1, hr2⟩, Zh6 (Qbl s g x.k)⟩, Q98 pa (Qep pr (Qru (Qbl s g x.k))), ⟨by omega, Nat.le_refl _, fun _ _ => trivial⟩, fun c2 => ⟨⟨x.k + 1, x.k + 1 + c2⟩, ⟨⟨hkN, Nat.le_add_right _ _⟩, rfl, ⟨rfl, Nat.le_refl _, rfl, rfl, rfl, rfl, rfl⟩, rfl, Nat.le_refl _, fun i hi => ?_⟩, by show Qa7 0 s n - (x.k + 1) < Qa7 0 s n - x.k; omega⟩⟩
     rw [Nat.zero_add]
     have hi' : i < x.k + 1 := hi
     cases hb : Nat.blt i x.k with
     | true => rfl
     | false =>
       have : ¬ i < x.k := fun hh => by rw [show Nat.blt i x.k = true from Nat.ble_eq_true_of_le hh] at hb; cases hb
       obtain rfl : i = x.k := by omega
       rfl
   · have hge := of_decide_eq_false hge
     have hkN : x.k = Qa7 0 s n := by omega
     exact ⟨x.c - Qa7 0 s n, ⟨⟨by rw [hK], rfl, rfl, rfl, by rw [show Qa7 0 s n + (x.c - Qa7 0 s n) = x.c by omega, hkN]⟩, rfl⟩, hkN, by omega, fun i _ => rfl⟩
 · have hk1 : (s.k == 1) = true := by simpa using hk
   have hK : Qoh s = 1 := by unfold Qoh; rw [hk1]; rfl
   have hN0 : Qa7 0 s n = 0 := by
     have e1 : s.k = 1 := by simpa using hk1
     have e2 : (s.k == 2) = false := by rw [e1]; rfl
     unfold Qca at hc
     rw [hk1, cond_true] at hc
     unfold Qa7
     rw [e2]
     show n = 0
     cases h4 : (s.w != 0 || (s.h != 0 || ((n : Int)) != 0)) with
     | true => rw [h4] at hc; cases hc
     | false =>
       simp only [Bool.or_eq_false_iff, bne_eq_false_iff_eq] at h4
       omega
   rw [hN0, hK]
   exact ⟨0, ⟨⟨rfl, rfl, rfl, rfl, rfl, rfl, rfl, rfl⟩, rfl⟩, ⟨rfl, rfl, trivial⟩, trivial⟩
theorem Q73 : Qdl Tryz.prog 24 Zeq := Qc0 hm Qzt Tryz.func24 (Λ := fun args bs => match args, bs with
 | [.agg [.v (.int .i64 k), .v (.int .i64 r), .v (.int .i64 w), .v (.int .i64 h), .sl 0 2 0 n _], .agg [.v (.int .i64 a), .v (.bool f1), .v (.int .i64 b), .v (.bool f2), .v (.int .i64 c), .v (.bool f3), .v (.int .i64 d), .v (.bool f4)]], [B] => Zac ⟨k, r, w, h⟩ ⟨⟨a, f1⟩, ⟨b, f2⟩⟩ ⟨⟨c, f3⟩, ⟨d, f4⟩⟩ n (Qbv B)
 | _, _ => Qax) fun args bs e hs hp => by
 unfold Zeq at hs
 split at hs <;> try (cases hs; done)
 rename_i k r w h n cp a f1 b f2 c f3 d f4 B
 obtain ⟨hB, he⟩ := Qev hs
 subst he
 obtain ⟨hq, hpre⟩ : Qti _ _ _ n (Qbv B) ∧ Qcs n B := hp
 obtain ⟨hn, hg⟩ := Qg9 hpre
 exact ⟨[rdB B n (Qbv B)], ⟨Qe6 hB hpre, trivial⟩, Zi5 (s := ⟨k, r, w, h⟩) (pa := ⟨⟨a, f1⟩, ⟨b, f2⟩⟩) (pr := ⟨⟨c, f3⟩, ⟨d, f4⟩⟩) hq hn hg⟩
noncomputable def Zkc : Qb8 := Qah Zji 170 (Qaj Zew)
noncomputable def Qzi (s : ShB) (pa pr : VB) (n : Nat) (g : Nat → Int × Int) : Nat → Option LoopSpec :=
 Qxa (Qki Qax Tryz.f102 0 PX (fun x => x.k ≤ Qa7 0 s n ∧ x.k ≤ x.c) (fun x => Qa7 0 s n - x.k) [(9, fun x => .v (.int .i64 x.k))] [(440, fun x => Qdz 55 (fmL 2 (Qed pa) 0 (.sl 40 2 0 x.k x.c)))] [(40, fun x => spB x.k x.c (Qnd s pa pr g), Q65 440 4)])
   15 [(0, fun _ => [440]), (1, fun _ => [440]), (11, fun nx => [40, nx + 80]), (12, fun _ => [440]), (13, fun _ => [440])]
@[reducible] noncomputable def Qp7 (s : ShB) (pa : VB) (pr : VB) (B : Blk) (n : Nat) (g : Nat→Int × Int) := ((I64 (NB.v (VB.x pa)))∧(sel (!Qzf (VB.x pa)) (∃ c_1 : Nat,(((((SV.v (.int .i64 0)) = (SV.v (.int .i64 (Qoh s))))∧(((SV.v (.int .i64 0)) = (SV.v (.int .i64 (Prod.fst (Qed pa)))))∧(((SV.v (.int .i64 0)) = (SV.v (.int .i64 (Prod.snd (Qed pa)))))∧(((SV.v (.int .i64 0)) = (SV.v (.int .i64 (ShB.r s))))∧(((SV.v (Value.slice none 0 0)) = (SV.v (Value.slice none 0 0)))∧(((0 : Nat) = 0)∧((((Qa7 0 s n) : Nat) = 0)∧(((Qa7 0 s n + c_1) : Nat) = 0))))))))∧((SV.v (.int .i64 3)) = (SV.v (.int .i64 0))))∧(((((Qa7 0 s n) : Nat) = 0)∧((((Qa7 0 s n + c_1) : Nat) = 0)∧True))∧True))) ((I64 (NB.v (VB.y pa)))∧(sel (!Qzf (VB.y pa)) (∃ c_1 : Nat,(((((SV.v (.int .i64 0)) = (SV.v (.int .i64 (Qoh s))))∧(((SV.v (.int .i64 0)) = (SV.v (.int .i64 (Prod.fst (Qed pa)))))∧(((SV.v (.int .i64 0)) = (SV.v (.int .i64 (Prod.snd (Qed pa)))))∧(((SV.v (.int .i64 0)) = (SV.v (.int .i64 (ShB.r s))))∧(((SV.v (Value.slice none 0 0)) = (SV.v (Value.slice none 0 0)))∧(((0 : Nat) = 0)∧((((Qa7 0 s n) : Nat) = 0)∧(((Qa7 0 s n + c_1) : Nat) = 0))))))))∧((SV.v (.int .i64 3)) = (SV.v (.int .i64 0))))∧(((((Qa7 0 s n) : Nat) = 0)∧((((Qa7 0 s n + c_1) : Nat) = 0)∧True))∧True))) (sel (ShB.k s == 1) (((I64 (NB.v (VB.x pa)))∧(I64 (NB.v (VB.y pa))))∧(∃ c_1 : Nat,(((((SV.v (.int .i64 1)) = (SV.v (.int .i64 (Qoh s))))∧(((SV.v (.int .i64 (Prod.fst (Qed pa)))) = (SV.v (.int .i64 (Prod.fst (Qed pa)))))∧(((SV.v (.int .i64 (Prod.snd (Qed pa)))) = (SV.v (.int .i64 (Prod.snd (Qed pa)))))∧(((SV.v (.int .i64 (ShB.r s))) = (SV.v (.int .i64 (ShB.r s))))∧(((SV.v (Value.slice none 0 0)) = (SV.v (Value.slice none 0 0)))∧(((0 : Nat) = 0)∧((((Qa7 0 s n) : Nat) = 0)∧(((Qa7 0 s n + c_1) : Nat) = 0))))))))∧((SV.v (.int .i64 0)) = (SV.v (.int .i64 0))))∧(((((Qa7 0 s n) : Nat) = 0)∧((((Qa7 0 s n + c_1) : Nat) = 0)∧True))∧True)))) (((I64 (NB.v (VB.x pa)))∧(I64 (NB.v (VB.y pa))))∧(((Qhi s)∧(Qcs n (Qap (rdB B n g) 2 0 n)))∧(∀ c_1 : Nat,((∃ x : PX,(((((PX.k x) : Nat) ≤ (Qa7 0 s n))∧(((PX.k x) : Nat) ≤ (PX.c x)))∧(((SV.v (.int .i64 0)) = (SV.v (.int .i64 ((↑(PX.k x) : Int)))))∧((((1 : Nat) = 1)∧(((1 : Nat) ≤ 1)∧(((SV.v (.int .i64 2)) = (SV.v (.int .i64 2)))∧(((SV.v (.int .i64 (Prod.fst (Qed pa)))) = (SV.v (.int .i64 (Prod.fst (Qed pa)))))∧(((SV.v (.int .i64 (Prod.snd (Qed pa)))) = (SV.v (.int .i64 (Prod.snd (Qed pa)))))∧(((SV.v (.int .i64 0)) = (SV.v (.int .i64 0)))∧(((SV.v (Value.slice none 0 0)) = (SV.v (Value.slice none 0 0)))∧(((0 : Nat) = 0)∧((((PX.k x) : Nat) = 0)∧(((PX.c x) : Nat) = 0))))))))))∧(((((PX.k x) : Nat) = 0)∧((((PX.c x) : Nat) = 0)∧True))∧True)))))∧(∀ x : PX,(((((PX.k x) : Nat) ≤ (Qa7 0 s n))∧(((PX.k x) : Nat) ≤ (PX.c x)))→(sel (decide ((↑(PX.k x) : Int) < (↑(Qa7 (Qca s n (Qbv (Qap (rdB B n g) 2 0 n))) s n) : Int))) ((((0 : Int) ≤ ((↑(PX.k x) : Int)))∧((((↑(PX.k x) : Int)) : Int) < ((↑(Qa7 (Qca s n (Qbv (Qap (rdB B n g) 2 0 n))) s n) : Int))))∧(((I64 (Prod.fst (Qbl s (Qbv (Qap (rdB B n g) 2 0 n)) (0 + Int.toNat (↑(PX.k x) : Int)))))∧(I64 (Prod.snd (Qbl s (Qbv (Qap (rdB B n g) 2 0 n)) (0 + Int.toNat (↑(PX.k x) : Int))))))∧((((I64 (NB.v (VB.x pa)))∧(I64 (NB.v (VB.y pa))))∧(((I64 (NB.v (VB.x pr)))∧(I64 (NB.v (VB.y pr))))∧((I64 (NB.v (VB.x (Qru (Prod.fst (Qbl s (Qbv (Qap (rdB B n g) 2 0 n)) (0 + Int.toNat (↑(PX.k x) : Int))),Prod.snd (Qbl s (Qbv (Qap (rdB B n g) 2 0 n)) (0 + Int.toNat (↑(PX.k x) : Int))))))))∧(I64 (NB.v (VB.y (Qru (Prod.fst (Qbl s (Qbv (Qap (rdB B n g) 2 0 n)) (0 + Int.toNat (↑(PX.k x) : Int))),Prod.snd (Qbl s (Qbv (Qap (rdB B n g) 2 0 n)) (0 + Int.toNat (↑(PX.k x) : Int)))))))))))∧(((I64 (NB.v (VB.x (Qbg pa (Qep pr (Qru (Prod.fst (Qbl s (Qbv (Qap (rdB B n g) 2 0 n)) (0 + Int.toNat (↑(PX.k x) : Int))),Prod.snd (Qbl s (Qbv (Qap (rdB B n g) 2 0 n)) (0 + Int.toNat (↑(PX.k x) : Int))))))))))∧(I64 (NB.v (VB.y (Qbg pa (Qep pr (Qru (Prod.fst (Qbl s (Qbv (Qap (rdB B n g) 2 0 n)) (0 + Int.toNat (↑(PX.k x) : Int))),Prod.snd (Qbl s (Qbv (Qap (rdB B n g) 2 0 n)) (0 + Int.toNat (↑(PX.k x) : Int)))))))))))∧((((((PX.k x + 1) * 16) : Nat) ≤ 140737488355328)∧((((0 + PX.c x) : Nat) ≤ (PX.c x))∧(∀ y : Nat,(((y : Nat) < 1)→True))))∧(∀ c_2 : Nat,(∃ x' : PX,((((((PX.k x') : Nat) ≤ (Qa7 0 s n))∧(((PX.k x') : Nat) ≤ (PX.c x')))∧(((SV.v (.int .i64 (IntKind.wrap IntKind.i64 ((↑(PX.k x) : Int) + 1)))) = (SV.v (.int .i64 ((↑(PX.k x') : Int)))))∧((((1 : Nat) = 1)∧(((1 : Nat) ≤ 1)∧(((SV.v (.int .i64 2)) = (SV.v (.int .i64 2)))∧(((SV.v (.int .i64 (Prod.fst (Qed pa)))) = (SV.v (.int .i64 (Prod.fst (Qed pa)))))∧(((SV.v (.int .i64 (Prod.snd (Qed pa)))) = (SV.v (.int .i64 (Prod.snd (Qed pa)))))∧(((SV.v (.int .i64 0)) = (SV.v (.int .i64 0)))∧((SV.sl 608 2 0 (PX.k x + 1) (PX.k x + 1 + c_2)) = (SV.sl 608 2 0 (PX.k x') (PX.c x')))))))))∧((((PX.k x + 1) : Nat) = (PX.k x'))∧((((PX.c x') : Nat) ≤ (PX.k x + 1 + c_2))∧(∀ i : Nat,(((i : Nat) < (PX.k x'))→([(SV.v (.int .i64 (bop (Nat.blt i (PX.k x)) (Prod.fst (Qnd s pa pr g (0 + i))) (Prod.fst (Qed (Qbg pa (Qep pr (Qru (Prod.fst (Qbl s (Qbv (Qap (rdB B n g) 2 0 n)) (0 + Int.toNat (↑(PX.k x) : Int))),Prod.snd (Qbl s (Qbv (Qap (rdB B n g) 2 0 n)) (0 + Int.toNat (↑(PX.k x) : Int)))))))))))),(SV.v (.int .i64 (bop (Nat.blt i (PX.k x)) (Prod.snd (Qnd s pa pr g (0 + i))) (Prod.snd (Qed (Qbg pa (Qep pr (Qru (Prod.fst (Qbl s (Qbv (Qap (rdB B n g) 2 0 n)) (0 + Int.toNat (↑(PX.k x) : Int))),Prod.snd (Qbl s (Qbv (Qap (rdB B n g) 2 0 n)) (0 + Int.toNat (↑(PX.k x) : Int))))))))))))] = [(SV.v (.int .i64 (Prod.fst (Qnd s pa pr g i)))),(SV.v (.int .i64 (Prod.snd (Qnd s pa pr g i))))]))))))))∧(((Qa7 0 s n - PX.k x') : Nat) < (Qa7 0 s n - PX.k x)))))))))) (∃ c_2 : Nat,(((((SV.v (.int .i64 2)) = (SV.v (.int .i64 (Qoh s))))∧(((SV.v (.int .i64 (Prod.fst (Qed pa)))) = (SV.v (.int .i64 (Prod.fst (Qed pa)))))∧(((SV.v (.int .i64 (Prod.snd (Qed pa)))) = (SV.v (.int .i64 (Prod.snd (Qed pa)))))∧(((SV.v (.int .i64 0)) = (SV.v (.int .i64 (ShB.r s))))∧((SV.sl 40 2 0 (PX.k x) (PX.c x)) = (SV.sl 40 2 0 (Qa7 0 s n) (Qa7 0 s n + c_2)))))))∧((SV.v (.int .i64 0)) = (SV.v (.int .i64 0))))∧((((PX.k x) : Nat) = (Qa7 0 s n))∧((((Qa7 0 s n + c_2) : Nat) ≤ (PX.c x))∧(∀ i : Nat,(((i : Nat) < (Qa7 0 s n))→([(SV.v (.int .i64 (Prod.fst (Qnd s pa pr g i)))),(SV.v (.int .i64 (Prod.snd (Qnd s pa pr g i))))] = [(SV.v (.int .i64 (Prod.fst (Qnd s pa pr g i)))),(SV.v (.int .i64 (Prod.snd (Qnd s pa pr g i))))])))))))))))))))))))
@[reducible] noncomputable def Qp6 (s : ShB) (pa : VB) (T_ : Prop) : Prop := ((SV.v (.int .i64 0)) = (SV.v (.int .i64 (Qoh s))))∧(((SV.v (.int .i64 0)) = (SV.v (.int .i64 (Prod.fst (Qed pa)))))∧(((SV.v (.int .i64 0)) = (SV.v (.int .i64 (Prod.snd (Qed pa)))))∧(((SV.v (.int .i64 0)) = (SV.v (.int .i64 (ShB.r s))))∧(((SV.v (Value.slice none 0 0)) = (SV.v (Value.slice none 0 0)))∧(((0 : Nat) = 0)∧(T_))))))
theorem Zfz (s : ShB) (pa pr : VB) (q : Prop) (B : Blk) (n c : Nat) (g : Nat→Int × Int) : (Qcu Tryz.prog Zkc (Qzi s pa pr n g) Tryz.f102 [shS s (.sl 0 2 0 n c),pS pa pr] (Qaw [rdB B n g]) 64 (fun y h' => Qhf [rdB B n g] (Zc4 q s pa pr n g) y h')) =
(((Qhi s)∧((Qb5 Qon (Qak n fun y => [yI (Prod.fst (g (0 + y))),yI (Prod.snd (g (0 + y)))]))∧(((n : Nat) = n)∧((n : Nat) < 1099511627776))))∧(sel ((Qca s n fun i => gi [yI (Prod.fst (g (0 + i))),yI (Prod.snd (g (0 + i)))]) == 0) (((I64 (NB.v (VB.x pr)))∧(I64 (NB.v (VB.y pr))))∧(sel (Qpn pr != 0) (∃ c_1 : Nat,(((Qp6 s pa ((((Qa7 0 s n) : Nat) = 0)∧(((Qa7 0 s n + c_1) : Nat) = 0)))∧((yI (Qpn pr)) = (yI 0)))∧(((((Qa7 0 s n) : Nat) = 0)∧((((Qa7 0 s n + c_1) : Nat) = 0)∧True))∧True))) (Qp7 s pa pr B n g))) (sel ((Qca s n fun i => gi [yI (Prod.fst (g (0 + i))),yI (Prod.snd (g (0 + i)))]) != 0) (∃ c_1 : Nat,(((Qp6 s pa ((((Qa7 0 s n) : Nat) = 0)∧(((Qa7 0 s n + c_1) : Nat) = 0)))∧((yI (Qca s n fun i => gi [yI (Prod.fst (g (0 + i))),yI (Prod.snd (g (0 + i)))])) = (yI 0)))∧(((((Qa7 0 s n) : Nat) = 0)∧((((Qa7 0 s n + c_1) : Nat) = 0)∧True))∧True))) (Qp7 s pa pr B n g)))) := by kernel_rfl
noncomputable def ΓFo : Qb8 := Qah ΓT 24 (Qen false Zeq)
def Zcr (args : List SV) (bs : List Blk) : Option Eff := match args, bs with
 | [.agg l], [B] => match Qi6 l with
   | some (b, .sl 0 2 0 n _) => bif okB B then some (Zc4 (Qti b.s b.pa b.pr n (Qbv B) ∧ Qcs n B) b.s b.pa b.pr n (Qbv B)) else none
   | _ => none
 | _, _ => none
theorem Zgo (b : BD) (q : Prop) (B : Blk) (n c : Nat) (g : Nat→Int × Int) : (Qcu Tryz.prog ΓFo Qax Tryz.f18 [bdS b (.sl 0 2 0 n c)] (Qaw [rdB B n g]) 64 (fun y h' => Qhf [rdB B n g] (Zc4 q b.s b.pa b.pr n g) y h')) =
(((Qti (BD.s b) (BD.pa b) (BD.pr b) n (Qbv (Qap (rdB B n g) 2 0 n)))∧(Qcs n (Qap (rdB B n g) 2 0 n)))∧(∀ c_1 : Nat,(∃ c_2 : Nat,(((((yI (Qoh (BD.s b))) = (yI (Qoh (BD.s b))))∧(((yI (Prod.fst (Qed (BD.pa b)))) = (yI (Prod.fst (Qed (BD.pa b)))))∧(((yI (Prod.snd (Qed (BD.pa b)))) = (yI (Prod.snd (Qed (BD.pa b)))))∧(((yI (ShB.r (BD.s b))) = (yI (ShB.r (BD.s b))))∧((SV.sl 120 2 0 (Qa7 0 (BD.s b) n) (Qa7 0 (BD.s b) n + c_1)) = (SV.sl 120 2 0 (Qa7 0 (BD.s b) n) (Qa7 0 (BD.s b) n + c_2)))))))∧((yI 0) = (yI 0)))∧((((Qa7 0 (BD.s b) n) : Nat) = (Qa7 0 (BD.s b) n))∧((((Qa7 0 (BD.s b) n + c_2) : Nat) ≤ (Qa7 0 (BD.s b) n + c_1))∧(∀ i : Nat,(((i : Nat) < (Qa7 0 (BD.s b) n))→([(yI (Prod.fst (Qnd (BD.s b) (BD.pa b) (BD.pr b) (Qbv (Qap (rdB B n g) 2 0 n)) i))),(yI (Prod.snd (Qnd (BD.s b) (BD.pa b) (BD.pr b) (Qbv (Qap (rdB B n g) 2 0 n)) i)))] = [(yI (Prod.fst (Qnd (BD.s b) (BD.pa b) (BD.pr b) g i))),(yI (Prod.snd (Qnd (BD.s b) (BD.pa b) (BD.pr b) g i)))]))))))))) := by kernel_rfl
noncomputable def Zkf : Qb8 := Qah (Qah ΓT 71 (Qc7 Zjm)) 82 (Qc7 Zjp)
noncomputable def Zah : Nat → Option LoopSpec := Q97 (Q97 Qax Tryz.f20 8 49 Unit (fun _ => True) [(6, fun _ => .v (.bool true))] []) Tryz.f20 11 11 Bool (fun _ => True) [(7, fun x => .v (.bool x))] []
theorem Zgv (b : BD) (n c : Nat) (g : Nat→Int × Int) (R : SV→Prop) : (Qcu Tryz.prog Zkf Zah Tryz.f20 [bdS b (.sl 0 2 0 n c)] (Qbm [⟨2,n,fun i => [.v (.int .i64 (g i).1),.v (.int .i64 (g i).2)]⟩]) 64 (fun y _ => R y)) =
(((Qhi (BD.s b))∧((Qb5 Qon (Qak n fun y => [yI (Prod.fst (g (0 + y))),yI (Prod.snd (g (0 + y)))]))∧(((n : Nat) = n)∧((n : Nat) < 1099511627776))))∧(sel ((Qca (BD.s b) n fun i => gi [yI (Prod.fst (g (0 + i))),yI (Prod.snd (g (0 + i)))]) != 0) (R (yI (Qca (BD.s b) n fun i => gi [yI (Prod.fst (g (0 + i))),yI (Prod.snd (g (0 + i)))]))) (((I64 (NB.v (VB.x (BD.pr b))))∧(I64 (NB.v (VB.y (BD.pr b)))))∧(sel (Qpn (BD.pr b) != 0) (R (yI (Qpn (BD.pr b)))) ((((Qf4 [yI (NB.v (VB.x (BD.pa b))),yF (NB.f (VB.x (BD.pa b)))])∧(Qf4 [yI (NB.v (VB.y (BD.pa b))),yF (NB.f (VB.y (BD.pa b)))]))∧(sel (okW 4096 (rN [yI (NB.v (VB.x (BD.pa b))),yF (NB.f (VB.x (BD.pa b)))])&&okW 4096 (rN [yI (NB.v (VB.y (BD.pa b))),yF (NB.f (VB.y (BD.pa b)))])) (((Qf4 [yI (NB.v (VB.x (BD.v b))),yF (NB.f (VB.x (BD.v b)))])∧(Qf4 [yI (NB.v (VB.y (BD.v b))),yF (NB.f (VB.y (BD.v b)))]))∧(sel (okW 256 (rN [yI (NB.v (VB.x (BD.v b))),yF (NB.f (VB.x (BD.v b)))])&&okW 256 (rN [yI (NB.v (VB.y (BD.v b))),yF (NB.f (VB.y (BD.v b)))])) ((Qf4 [yI (NB.v (BD.w b)),yF (NB.f (BD.w b))])∧(sel (okW 64 (rN [yI (NB.v (BD.w b)),yF (NB.f (BD.w b))])) (((Qf4 [yI (NB.v (VB.x (BD.m b))),yF (NB.f (VB.x (BD.m b)))])∧(Qf4 [yI (NB.v (VB.y (BD.m b))),yF (NB.f (VB.y (BD.m b)))]))∧(sel (!NB.f (Zhb (rN [yI (NB.v (VB.x (BD.m b))),yF (NB.f (VB.x (BD.m b)))]) (rN [yI (NB.v (VB.y (BD.m b))),yF (NB.f (VB.y (BD.m b)))]))) (sel (decide (NB.v (VB.x (BD.m b)) ≥ 0)) (∃ x : Unit,(True∧(((yF (decide (NB.v (VB.y (BD.m b)) ≥ 0))) = (yF true))∧True))) (∃ x : Unit,(True∧(((yF false) = (yF true))∧True)))) (∃ x : Unit,(True∧(((yF false) = (yF true))∧True))))) (∃ x : Unit,(True∧(((yF false) = (yF true))∧True))))) (∃ x : Unit,(True∧(((yF false) = (yF true))∧True))))) (∃ x : Unit,(True∧(((yF false) = (yF true))∧True)))))∧(∀ x : Unit,(True→(sel (decide (BD.st b < 0)) (R (yI 3)) (sel (decide (BD.st b > 30)) (R (yI 3)) (sel (decide (BD.ver b < 1)) (R (yI 3)) (sel (decide (BD.ver b > 1099511627776)) (R (yI 3)) ( (sel (NB.v (VB.x (BD.v b)) == 0&&NB.f (VB.x (BD.v b)) == false&&(NB.v (VB.y (BD.v b)) == 0&&NB.f (VB.y (BD.v b)) == false)) (∃ x_1 : Bool,(True∧(((yF (NB.v (BD.w b) == 0&&NB.f (BD.w b) == false)) = (yF x_1))∧True))) (∃ x_1 : Bool,(True∧(((yF false) = (yF x_1))∧True))))∧(∀ x_1 : Bool,(True→(sel (!decide (NB.v (VB.x (BD.m b)) > 0) == decide (NB.v (VB.y (BD.m b)) > 0)) (R (yI 12)) (sel (!Q2m b) (sel (!x_1) (R (yI 12)) (sel (decide (BD.st b > 0)) (R (yI 12)) (sel (BD.asl b) (R (yI 12)) (sel (BD.flt b) (R (yI 12)) (sel (BD.asl b) (sel (!x_1) (R (yI 12)) (R (yI 0))) (sel (BD.flt b) (sel (!x_1) (R (yI 12)) (R (yI 0))) (R (yI 0)))))))) (sel (BD.asl b) (sel (!x_1) (R (yI 12)) (R (yI 0))) (sel (BD.flt b) (sel (!x_1) (R (yI 12)) (R (yI 0))) (R (yI 0)))))))))))))))))))) := by kernel_rfl
theorem Q4c : Qai Tryz.prog 170 Zew := Qao hm Qi9 Tryz.func170 (Λ := fun _ => Qax) fun args p x h hp => by
 unfold Zew at h
 split at h <;> try (cases h; done)
 rename_i a f b g
 cases h
 obtain ⟨h0, k0⟩ := hp _ rfl
 refine ⟨rfl, rfl, ?_⟩
 refine Eq.mpr (Zf9 ⟨⟨a, f⟩, ⟨b, g⟩⟩ _) ?_
 have hd := Q24 ⟨⟨a, f⟩, ⟨b, g⟩⟩
 have bx : ∀ t, Qjr ⟨⟨a, f⟩, ⟨b, g⟩⟩ = t → (Qat a f || Qat b g) = t := fun t h => h
 refine ⟨⟨⟨h0, h0⟩, k0, k0⟩, h0, Qad (fun e => Qbh ?_) fun e => ⟨k0, Qad (fun e' => Qbh ?_) fun e' => ?_⟩⟩
 · have e : Qat a f = true := e
   unfold Qpn Qjr; rw [show Qat (⟨⟨a, f⟩, ⟨b, g⟩⟩ : VB).x.v (⟨⟨a, f⟩, ⟨b, g⟩⟩ : VB).x.f = true from e]; rfl
 · have e' : Qat b g = true := e'
   unfold Qpn Qjr; rw [show Qat (⟨⟨a, f⟩, ⟨b, g⟩⟩ : VB).y.v (⟨⟨a, f⟩, ⟨b, g⟩⟩ : VB).y.f = true from e', Bool.or_true]; rfl
 · have e0 : Qjr ⟨⟨a, f⟩, ⟨b, g⟩⟩ = false := by
     show (Qat a f || Qat b g) = false
     rw [show Qat a f = false from e, show Qat b g = false from e']; rfl
   unfold Qpn; rw [e0, cond_false]
   generalize (Qcl (⟨⟨a, f⟩, ⟨b, g⟩⟩ : VB).x (⟨⟨a, f⟩, ⟨b, g⟩⟩ : VB).x (⟨⟨a, f⟩, ⟨b, g⟩⟩ : VB).y (⟨⟨a, f⟩, ⟨b, g⟩⟩ : VB).y).v = n at *
   rw [Qaf (n := n - 4294967296) ⟨by omega, by omega⟩, Qaf (n := 4294967296 - n) ⟨by omega, by omega⟩]
   refine Qad (fun e1 => Qbh ?_) fun e1 => Qad (fun e2 => Qbh ?_) fun e2 => Qbh ?_
   · rw [show decide (n - 4294967296 > 65536) = true from e1]; rfl
   · rw [show decide (4294967296 - n > 65536) = true from e2, Bool.or_true]; rfl
   · rw [show decide (n - 4294967296 > 65536) = false from e1, show decide (4294967296 - n > 65536) = false from e2]; rfl
theorem Zas : ∀ f g, Zkc f = some g → g.ok Tryz.prog f := Qab Qzt (Qal Tryz.func170 (by kernel_rfl) (by kernel_rfl) Q4c)
theorem Zay : ∀ f g, ΓFo f = some g → g.ok Tryz.prog f := Qab Qhm (Qfa Tryz.func24 (by kernel_rfl) (by kernel_rfl) Q73)
theorem Q4r : Qdl Tryz.prog 18 Zcr := Qc0 hm Zay Tryz.func18 (Λ := fun _ _ => Qax) fun args bs e hs hp => by
 unfold Zcr at hs
 split at hs <;> try (cases hs; done)
 rename_i l B
 split at hs <;> try (cases hs; done)
 rename_i b n cap hl
 obtain ⟨hB, he⟩ := Qev hs
 subst he
 obtain ⟨hq, hpre⟩ : Qti b.s b.pa b.pr n (Qbv B) ∧ Qcs n B := hp
 obtain ⟨hn, hg⟩ := Qg9 hpre
 refine ⟨[rdB B n (Qbv B)], ⟨Qe6 hB hpre, trivial⟩, ?_⟩
 rw [Qe0 hl]
 refine Eq.mpr (Zgo b _ B n cap (Qbv B)) ?_
 rw [Qgs]
 exact ⟨⟨hq, Qj1 hn hg⟩, fun c => ⟨c, ⟨⟨rfl, rfl, rfl, rfl, rfl⟩, rfl⟩, rfl, Nat.le_refl _, fun _ _ => rfl⟩⟩
def Q7m (b : BD) (n : Nat) (g : Nat → Int × Int) : Prop := bdI b ∧ Qca b.s n g = 0 ∧ Qpn b.pr = 0 ∧ ((okW 4096 b.pa.x && okW 4096 b.pa.y) = true ∧ (okW 256 b.v.x && okW 256 b.v.y) = true ∧ okW 64 b.w = true) ∧ (Zhb b.m.x b.m.y).f = false ∧ (0 < b.m.x.v ∧ 0 < b.m.y.v) ∧ b.st = 0 ∧ (b.asl = false ∧ b.flt = false) ∧ b.ver = 1
def Zcv : List SV → List Ro → Option (Option Prop × SV)
 | [.agg l], [⟨2, n', row⟩] => match Qi6 l with
   | some (b, .sl 0 2 0 n _) => some (some (Q7m b n (fun i => gi (row i)) ∧ Qb5 Qon (Qak n' row) ∧ n' = n ∧ n < 1099511627776), iV 0)
   | _ => none
 | _, _ => none
theorem Za0 : ∀ f g, Zkf f = some g → g.ok Tryz.prog f := Qab (Qab Qhm (Qdc Tryz.func71 (by kernel_rfl) (by kernel_rfl) Qxd)) (Qdc Tryz.func82 (by kernel_rfl) (by kernel_rfl) Qxi)
theorem Zjb {b : BD} {n c : Nat} {g : Nat → Int × Int} (h : Q7m b n g) (hn : n < 1099511627776) (hg : ∀ i, i < n → I64 (g i).1 ∧ I64 (g i).2) : Qcu Tryz.prog Zkf Zah Tryz.f20 [bdS b (.sl 0 2 0 n c)] (Qbm [⟨2, n, fun i => [.v (.int .i64 (g i).1), .v (.int .i64 (g i).2)]⟩]) 64 (fun y _ => y = iV 0) := by
 obtain ⟨⟨hs, ⟨a1, a2⟩, ⟨r1, r2⟩, ⟨v1, v2⟩, w1, ⟨m1, m2⟩, st1, ver1⟩, hc, hv, ⟨o1, o2, o3⟩, hm, ⟨p1, p2⟩, hst, ⟨ha, hf⟩, hver⟩ := h
 refine Eq.mpr (Zgv b n c g _) ?_
 rw [Qg1]
 refine ⟨⟨hs, okAll_rows.2 fun i hi => (by rw [Nat.zero_add]; exact hg i hi), rfl, hn⟩, sF (neF hc) ⟨⟨r1, r2⟩, sF (neF hv) ⟨⟨⟨a1, a2⟩, sT o1 ⟨⟨v1, v2⟩, sT o2 ⟨w1, sT o3 ⟨⟨m1, m2⟩, sT (by show (!(Zhb b.m.x b.m.y).f) = true; rw [hm]; rfl) (sT (decide_eq_true (by omega)) ⟨(), trivial, by rw [decide_eq_true (p := b.m.y.v ≥ 0) (by omega)], trivial⟩)⟩⟩⟩⟩, fun _ _ => ?_⟩⟩⟩
 rw [hst, hver, ha, hf]
 refine sF (by decide) (sF (by decide) (sF (by decide) (sF (by decide) ⟨Qad (fun _ => ⟨_, trivial, rfl, trivial⟩) fun _ => ⟨_, trivial, rfl, trivial⟩, fun x _ => ?_⟩)))
 have hmv : Q2m b = true := by
   unfold Q2m
   rw [show (b.m.x.v != 0) = true from by simp; omega]; rfl
 rw [decide_eq_true (p := b.m.x.v > 0) p1, decide_eq_true (p := b.m.y.v > 0) p2, hmv]
 exact rfl
theorem Q4z : Qcg Tryz.prog 20 Zcv := Qb4 hm Za0 Tryz.func20 (Λ := fun _ _ => Zah) fun args bs p x h hp => by
 unfold Zcv at h
 split at h <;> try (cases h; done)
 rename_i l n' row
 split at h <;> try (cases h; done)
 rename_i b n cap hl
 cases h
 obtain ⟨hq, h0, rfl, hn⟩ := hp _ rfl
 have h0 := okAll_rows.1 h0
 refine ⟨rfl, [⟨2, n', Qey fun i => gi (row i)⟩], ⟨⟨rfl, rfl, fun i hi => (Qdj (h0 i hi)).1⟩, trivial⟩, ?_⟩
 rw [Qe0 hl]
 exact Zjb hq hn fun i hi => (Qdj (h0 i hi)).2
theorem Q6u {s : ShB} {n : Nat} {g : Nat → Int × Int} (hc : Qca s n g = 0) (hk1 : (s.k == 1) = true) : Qa7 0 s n = 0 := by
 have e1 : s.k = 1 := by simpa using hk1
 have e2 : (s.k == 2) = false := by rw [e1]; rfl
 unfold Qca at hc
 rw [hk1, cond_true] at hc
 unfold Qa7
 rw [e2]
 show n = 0
 cases h4 : (s.w != 0 || (s.h != 0 || ((n : Int)) != 0)) with
 | true => rw [h4] at hc; cases hc
 | false =>
   simp only [Bool.or_eq_false_iff, bne_eq_false_iff_eq] at h4
   omega
theorem Zl1 {s : ShB} {n : Nat} {g : Nat → Int × Int} (hc : Qca s n g = 0) (hk1 : (s.k == 1) = false) : s.r = 0 := by
 unfold Qca at hc
 rw [hk1, cond_false] at hc
 by_cases hr : s.r = 0
 · exact hr
 · have e : (s.r != 0) = true := by simpa using hr
   rw [e] at hc
   simp only [Bool.true_or, cond_true] at hc
   cases h2 : s.k == 2 with
   | true => rw [h2] at hc; cases hc
   | false =>
     rw [h2, cond_false] at hc
     cases h3 : s.k == 3 with
     | true => rw [h3] at hc; cases hc
     | false => rw [h3] at hc; cases hc
theorem Zec {s : ShB} {pa pr : VB} {q : Prop} {B : Blk} {n c : Nat} {g : Nat → Int × Int} (h : Qti s pa pr n g) (hn : n < 1099511627776) (hg : ∀ i, i < n → I64 (g i).1 ∧ I64 (g i).2) : Qcu Tryz.prog Zkc (Qzi s pa pr n g) Tryz.f102 [shS s (.sl 0 2 0 n c), pS pa pr] (Qaw [rdB B n g]) 64 (fun y h' => Qhf [rdB B n g] (Zc4 q s pa pr n g) y h') := by
 obtain ⟨hs, ⟨ha1, ha2⟩, ⟨hr1, hr2⟩, hc, hv, hi1, hi2, hN⟩ := h
 have h_vc := Zfz s pa pr q B n c g
 repeat (first | unfold Qp6 at h_vc | unfold Qp7 at h_vc)
 refine Eq.mpr h_vc ?_
 rw [Qg1]
 refine ⟨⟨hs, okAll_rows.2 fun i hi => (by rw [Nat.zero_add]; exact hg i hi), rfl, hn⟩, sT (by rw [hc]; rfl) ⟨⟨hr1, hr2⟩, sF (neF hv) ⟨ha1, sF (by rw [hi1]; rfl) ⟨ha2, sF (by rw [hi2]; rfl) ?_⟩⟩⟩⟩
 rw [Qgs, hc]
 refine Qad (fun hk1 => ⟨⟨ha1, ha2⟩, ?_⟩) fun hk => ⟨⟨ha1, ha2⟩, ⟨hs, Qj1 hn hg⟩, fun c1 => ⟨⟨⟨0, 0⟩, ⟨Nat.zero_le _, Nat.le_refl _⟩, rfl, ⟨rfl, Nat.le_refl _, rfl, rfl, rfl, rfl, rfl, rfl, rfl, rfl⟩, ⟨rfl, rfl, trivial⟩, trivial⟩, fun x ⟨x1, x2⟩ => ?_⟩⟩
 · have hK : Qoh s = 1 := by unfold Qoh; rw [hk1]; rfl
   rw [Q6u hc hk1, hK]
   exact ⟨0, ⟨⟨rfl, rfl, rfl, rfl, rfl, rfl, rfl, rfl⟩, rfl⟩, ⟨rfl, rfl, trivial⟩, trivial⟩
 · have hK : Qoh s = 2 := by
     have : (s.k == 1) = false := hk
     unfold Qoh; rw [this]; rfl
   refine Qad (fun hlt => ?_) fun hge => ?_
   · have hlt := of_decide_eq_true hlt
     have hkN : x.k < Qa7 0 s n := by omega
     have hg1 := Q9w hs hc hg x.k hkN
     have hw : IntKind.i64.wrap ((x.k : Int) + 1) = ((x.k + 1 : Nat) : Int) := by rw [Qaf ⟨by omega, by omega⟩]; omega
     rw [Int.toNat_natCast, hw, Nat.zero_add, Nat.zero_add]
     refine ⟨⟨by omega, hlt⟩, hg1, ⟨⟨ha1, ha2⟩, ⟨hr1, hr2⟩, Zh6 (Qbl s g x.k)⟩, Q98 pa (Qep pr (Qru (Qbl s g x.k))), ⟨by omega, Nat.le_refl _, fun _ _ => trivial⟩, fun c2 => ⟨⟨x.k + 1, x.k + 1 + c2⟩, ⟨⟨hkN, Nat.le_add_right _ _⟩, rfl, ⟨rfl, Nat.le_refl _, rfl, rfl, rfl, rfl, rfl⟩, rfl, Nat.le_refl _, fun i hi => ?_⟩, by show Qa7 0 s n - (x.k + 1) < Qa7 0 s n - x.k; omega⟩⟩
     rw [Nat.zero_add]
     have hi' : i < x.k + 1 := hi
     cases hb : Nat.blt i x.k with
     | true => rfl
     | false =>
       have : ¬ i < x.k := fun hh => by rw [show Nat.blt i x.k = true from Nat.ble_eq_true_of_le hh] at hb; cases hb
       obtain rfl : i = x.k := by omega
       rfl
   · have hge := of_decide_eq_false hge
     have hkN : x.k = Qa7 0 s n := by omega
     exact ⟨x.c - Qa7 0 s n, ⟨⟨by rw [hK], rfl, rfl, by rw [Zl1 hc hk], by rw [show Qa7 0 s n + (x.c - Qa7 0 s n) = x.c by omega, hkN]⟩, rfl⟩, hkN, by omega, fun i _ => rfl⟩
theorem Q36 : Qdl Tryz.prog 102 Zeq := Qc0 hm Zas Tryz.func102 (Λ := fun args bs => match args, bs with
 | [.agg [.v (.int .i64 k), .v (.int .i64 r), .v (.int .i64 w), .v (.int .i64 h), .sl 0 2 0 n _], .agg [.v (.int .i64 a), .v (.bool f1), .v (.int .i64 b), .v (.bool f2), .v (.int .i64 c), .v (.bool f3), .v (.int .i64 d), .v (.bool f4)]], [B] => Qzi ⟨k, r, w, h⟩ ⟨⟨a, f1⟩, ⟨b, f2⟩⟩ ⟨⟨c, f3⟩, ⟨d, f4⟩⟩ n (Qbv B)
 | _, _ => Qax) fun args bs e hs hp => by
 unfold Zeq at hs
 split at hs <;> try (cases hs; done)
 rename_i k r w h n cp a f1 b f2 c f3 d f4 B
 obtain ⟨hB, he⟩ := Qev hs
 subst he
 obtain ⟨hq, hpre⟩ : Qti _ _ _ n (Qbv B) ∧ Qcs n B := hp
 obtain ⟨hn, hg⟩ := Qg9 hpre
 exact ⟨[rdB B n (Qbv B)], ⟨Qe6 hB hpre, trivial⟩, Zec (s := ⟨k, r, w, h⟩) (pa := ⟨⟨a, f1⟩, ⟨b, f2⟩⟩) (pr := ⟨⟨c, f3⟩, ⟨d, f4⟩⟩) hq hn hg⟩
theorem Qfd {n : Nat} {g : Nat → Int × Int} {k : Nat} {A B C D : Int} (hk : k < n) (h1 : 0 < Qac (g k) (g ((k + 1) % n)))
   (he : ((Qa5 (g ((k + 1) % n)) (g k)).1 ≤ A ∧ -(Qa5 (g ((k + 1) % n)) (g k)).1 ≤ A) ∧ (Qa5 (g ((k + 1) % n)) (g k)).2 ≤ B ∧ -(Qa5 (g ((k + 1) % n)) (g k)).2 ≤ B)
   (hf : ((Qa5 (g ((k + 2) % n)) (g ((k + 1) % n))).1 ≤ C ∧ -(Qa5 (g ((k + 2) % n)) (g ((k + 1) % n))).1 ≤ C) ∧ (Qa5 (g ((k + 2) % n)) (g ((k + 1) % n))).2 ≤ D ∧ -(Qa5 (g ((k + 2) % n)) (g ((k + 1) % n))).2 ≤ D)
   (h2 : 4 * (A + B + C + D) ≤ Qac (Qa5 (g ((k + 1) % n)) (g k)) (Qa5 (g ((k + 2) % n)) (g ((k + 1) % n))))
   (h3 : ∀ m, 2 ≤ m → m < n → 0 < Qac (Qa5 (g ((k + 1) % n)) (g k)) (Qa5 (g ((k + m) % n)) (g k))) : okC n g k = true := by
 have hR : (List.range n).all (okR n g k) = true := Q9d hk fun m m2 hm => by
   have := h3 m m2 hm
   unfold okS
   rw [Bool.not_eq_true', decide_eq_false_iff_not]
   omega
 have hE : okE n g k = true := by
   unfold okE Qub Qiu
   rw [Bool.and_eq_true, Bool.not_eq_true', Bool.not_eq_true', decide_eq_false_iff_not, decide_eq_false_iff_not]
   omega
 unfold okC
 rw [hE, hR]
 rfl
def G3 (k h : Int) : Nat → Int × Int
 | 0 => (-k, -h)
 | 1 => (k, -h)
 | _ => (0, h)
def G5 (k h a : Int) : Nat → Int × Int
 | 0 => (-a, -h)
 | 1 => (a, -h)
 | 2 => (k, 0)
 | 3 => (0, h)
 | _ => (-k, 0)
def G8 (k a : Int) : Nat → Int × Int
 | 0 => (k, -a)
 | 1 => (k, a)
 | 2 => (a, k)
 | 3 => (-a, k)
 | 4 => (-k, a)
 | 5 => (-k, -a)
 | 6 => (-a, -k)
 | _ => (a, -k)
theorem Zd4 {k h : Int} (hk : 64 ≤ k ∧ k ≤ 4096) (hh : 64 ≤ h ∧ h ≤ 4096) : Qdt 3 (G3 k h) = true := by
 have p1 : 64 * k ≤ k * h := by have := Int.mul_le_mul_of_nonneg_left hh.1 (show (0 : Int) ≤ k by omega); grind
 have p2 : 64 * h ≤ k * h := Int.mul_le_mul_of_nonneg_right hk.1 (by omega)
 refine Qhe fun j hj => ?_
 have hj' : j = 0 ∨ j = 1 ∨ j = 2 := by omega
 rcases hj' with rfl | rfl | rfl
 · refine Qfd (A := 2 * k) (B := 0) (C := 1 * k) (D := 2 * h) (by omega) ?_ ?_ ?_ ?_ ?_
   · show 0 < Qac (-k, -h) (k, -h)
     unfold Qac Qaq
     grind
   · show (((k, -h).1 - (-k, -h).1 ≤ _ ∧ -((k, -h).1 - (-k, -h).1) ≤ _) ∧ (k, -h).2 - (-k, -h).2 ≤ _ ∧ -((k, -h).2 - (-k, -h).2) ≤ _)
     simp only
     omega
   · show ((((0 : Int), h).1 - (k, -h).1 ≤ _ ∧ -(((0 : Int), h).1 - (k, -h).1) ≤ _) ∧ ((0 : Int), h).2 - (k, -h).2 ≤ _ ∧ -(((0 : Int), h).2 - (k, -h).2) ≤ _)
     simp only
     omega
   · show _ ≤ Qac (Qa5 (k, -h) (-k, -h)) (Qa5 (0, h) (k, -h))
     unfold Qac Qaq Qa5
     grind
   · intro m m2 hm
     have hm' : m = 2 := by omega
     rcases hm' with rfl
     · show 0 < Qac (Qa5 (k, -h) (-k, -h)) (Qa5 (0, h) (-k, -h))
       unfold Qac Qaq Qa5
       grind
 · refine Qfd (A := 1 * k) (B := 2 * h) (C := 1 * k) (D := 2 * h) (by omega) ?_ ?_ ?_ ?_ ?_
   · show 0 < Qac (k, -h) (0, h)
     unfold Qac Qaq
     grind
   · show ((((0 : Int), h).1 - (k, -h).1 ≤ _ ∧ -(((0 : Int), h).1 - (k, -h).1) ≤ _) ∧ ((0 : Int), h).2 - (k, -h).2 ≤ _ ∧ -(((0 : Int), h).2 - (k, -h).2) ≤ _)
     simp only
     omega
   · show (((-k, -h).1 - ((0 : Int), h).1 ≤ _ ∧ -((-k, -h).1 - ((0 : Int), h).1) ≤ _) ∧ (-k, -h).2 - ((0 : Int), h).2 ≤ _ ∧ -((-k, -h).2 - ((0 : Int), h).2) ≤ _)
     simp only
     omega
   · show _ ≤ Qac (Qa5 (0, h) (k, -h)) (Qa5 (-k, -h) (0, h))
     unfold Qac Qaq Qa5
     grind
   · intro m m2 hm
     have hm' : m = 2 := by omega
     rcases hm' with rfl
     · show 0 < Qac (Qa5 (0, h) (k, -h)) (Qa5 (-k, -h) (k, -h))
       unfold Qac Qaq Qa5
       grind
 · refine Qfd (A := 1 * k) (B := 2 * h) (C := 2 * k) (D := 0) (by omega) ?_ ?_ ?_ ?_ ?_
   · show 0 < Qac (0, h) (-k, -h)
     unfold Qac Qaq
     grind
   · show (((-k, -h).1 - ((0 : Int), h).1 ≤ _ ∧ -((-k, -h).1 - ((0 : Int), h).1) ≤ _) ∧ (-k, -h).2 - ((0 : Int), h).2 ≤ _ ∧ -((-k, -h).2 - ((0 : Int), h).2) ≤ _)
     simp only
     omega
   · show (((k, -h).1 - (-k, -h).1 ≤ _ ∧ -((k, -h).1 - (-k, -h).1) ≤ _) ∧ (k, -h).2 - (-k, -h).2 ≤ _ ∧ -((k, -h).2 - (-k, -h).2) ≤ _)
     simp only
     omega
   · show _ ≤ Qac (Qa5 (-k, -h) (0, h)) (Qa5 (k, -h) (-k, -h))
     unfold Qac Qaq Qa5
     grind
   · intro m m2 hm
     have hm' : m = 2 := by omega
     rcases hm' with rfl
     · show 0 < Qac (Qa5 (-k, -h) (0, h)) (Qa5 (k, -h) (0, h))
       unfold Qac Qaq Qa5
       grind
theorem Zd3 {k h a : Int} (hk : 64 ≤ k ∧ k ≤ 4096) (hh : 64 ≤ h ∧ h ≤ 4096) (ha : 2 * a ≤ k ∧ k ≤ 2 * a + 1) : Qdt 5 (G5 k h a) = true := by
 have p1 : 64 * k ≤ k * h := by have := Int.mul_le_mul_of_nonneg_left hh.1 (show (0 : Int) ≤ k by omega); grind
 have p2 : 64 * h ≤ k * h := Int.mul_le_mul_of_nonneg_right hk.1 (by omega)
 have p3 : 64 * a ≤ a * h := by have := Int.mul_le_mul_of_nonneg_left hh.1 (show (0 : Int) ≤ a by omega); grind
 have p4 : 32 * h ≤ a * h := Int.mul_le_mul_of_nonneg_right (by omega) (by omega)
 have p5 : 2 * (a * h) ≤ k * h := by have := Int.mul_le_mul_of_nonneg_right ha.1 (show (0 : Int) ≤ h by omega); grind
 have p6 : k * h ≤ 2 * (a * h) + h := by have := Int.mul_le_mul_of_nonneg_right ha.2 (show (0 : Int) ≤ h by omega); grind
 refine Qhe fun j hj => ?_
 have hj' : j = 0 ∨ j = 1 ∨ j = 2 ∨ j = 3 ∨ j = 4 := by omega
 rcases hj' with rfl | rfl | rfl | rfl | rfl
 · refine Qfd (A := 2 * a) (B := 0) (C := 1 * k + (-1) * a) (D := 1 * h) (by omega) ?_ ?_ ?_ ?_ ?_
   · show 0 < Qac (-a, -h) (a, -h)
     unfold Qac Qaq
     grind
   · show (((a, -h).1 - (-a, -h).1 ≤ _ ∧ -((a, -h).1 - (-a, -h).1) ≤ _) ∧ (a, -h).2 - (-a, -h).2 ≤ _ ∧ -((a, -h).2 - (-a, -h).2) ≤ _)
     simp only
     omega
   · show (((k, (0 : Int)).1 - (a, -h).1 ≤ _ ∧ -((k, (0 : Int)).1 - (a, -h).1) ≤ _) ∧ (k, (0 : Int)).2 - (a, -h).2 ≤ _ ∧ -((k, (0 : Int)).2 - (a, -h).2) ≤ _)
     simp only
     omega
   · show _ ≤ Qac (Qa5 (a, -h) (-a, -h)) (Qa5 (k, 0) (a, -h))
     unfold Qac Qaq Qa5
     grind
   · intro m m2 hm
     have hm' : m = 2 ∨ m = 3 ∨ m = 4 := by omega
     rcases hm' with rfl | rfl | rfl
     · show 0 < Qac (Qa5 (a, -h) (-a, -h)) (Qa5 (k, 0) (-a, -h))
       unfold Qac Qaq Qa5
       grind
     · show 0 < Qac (Qa5 (a, -h) (-a, -h)) (Qa5 (0, h) (-a, -h))
       unfold Qac Qaq Qa5
       grind
     · show 0 < Qac (Qa5 (a, -h) (-a, -h)) (Qa5 (-k, 0) (-a, -h))
       unfold Qac Qaq Qa5
       grind
 · refine Qfd (A := 1 * k + (-1) * a) (B := 1 * h) (C := 1 * k) (D := 1 * h) (by omega) ?_ ?_ ?_ ?_ ?_
   · show 0 < Qac (a, -h) (k, 0)
     unfold Qac Qaq
     grind
   · show (((k, (0 : Int)).1 - (a, -h).1 ≤ _ ∧ -((k, (0 : Int)).1 - (a, -h).1) ≤ _) ∧ (k, (0 : Int)).2 - (a, -h).2 ≤ _ ∧ -((k, (0 : Int)).2 - (a, -h).2) ≤ _)
     simp only
     omega
   · show ((((0 : Int), h).1 - (k, (0 : Int)).1 ≤ _ ∧ -(((0 : Int), h).1 - (k, (0 : Int)).1) ≤ _) ∧ ((0 : Int), h).2 - (k, (0 : Int)).2 ≤ _ ∧ -(((0 : Int), h).2 - (k, (0 : Int)).2) ≤ _)
     simp only
     omega
   · show _ ≤ Qac (Qa5 (k, 0) (a, -h)) (Qa5 (0, h) (k, 0))
     unfold Qac Qaq Qa5
     grind
   · intro m m2 hm
     have hm' : m = 2 ∨ m = 3 ∨ m = 4 := by omega
     rcases hm' with rfl | rfl | rfl
     · show 0 < Qac (Qa5 (k, 0) (a, -h)) (Qa5 (0, h) (a, -h))
       unfold Qac Qaq Qa5
       grind
     · show 0 < Qac (Qa5 (k, 0) (a, -h)) (Qa5 (-k, 0) (a, -h))
       unfold Qac Qaq Qa5
       grind
     · show 0 < Qac (Qa5 (k, 0) (a, -h)) (Qa5 (-a, -h) (a, -h))
       unfold Qac Qaq Qa5
       grind
 · refine Qfd (A := 1 * k) (B := 1 * h) (C := 1 * k) (D := 1 * h) (by omega) ?_ ?_ ?_ ?_ ?_
   · show 0 < Qac (k, 0) (0, h)
     unfold Qac Qaq
     grind
   · show ((((0 : Int), h).1 - (k, (0 : Int)).1 ≤ _ ∧ -(((0 : Int), h).1 - (k, (0 : Int)).1) ≤ _) ∧ ((0 : Int), h).2 - (k, (0 : Int)).2 ≤ _ ∧ -(((0 : Int), h).2 - (k, (0 : Int)).2) ≤ _)
     simp only
     omega
   · show (((-k, (0 : Int)).1 - ((0 : Int), h).1 ≤ _ ∧ -((-k, (0 : Int)).1 - ((0 : Int), h).1) ≤ _) ∧ (-k, (0 : Int)).2 - ((0 : Int), h).2 ≤ _ ∧ -((-k, (0 : Int)).2 - ((0 : Int), h).2) ≤ _)
     simp only
     omega
   · show _ ≤ Qac (Qa5 (0, h) (k, 0)) (Qa5 (-k, 0) (0, h))
     unfold Qac Qaq Qa5
     grind
   · intro m m2 hm
     have hm' : m = 2 ∨ m = 3 ∨ m = 4 := by omega
     rcases hm' with rfl | rfl | rfl
     · show 0 < Qac (Qa5 (0, h) (k, 0)) (Qa5 (-k, 0) (k, 0))
       unfold Qac Qaq Qa5
       grind
     · show 0 < Qac (Qa5 (0, h) (k, 0)) (Qa5 (-a, -h) (k, 0))
       unfold Qac Qaq Qa5
       grind
     · show 0 < Qac (Qa5 (0, h) (k, 0)) (Qa5 (a, -h) (k, 0))
       unfold Qac Qaq Qa5
       grind
 · refine Qfd (A := 1 * k) (B := 1 * h) (C := 1 * k + (-1) * a) (D := 1 * h) (by omega) ?_ ?_ ?_ ?_ ?_
   · show 0 < Qac (0, h) (-k, 0)
     unfold Qac Qaq
     grind
   · show (((-k, (0 : Int)).1 - ((0 : Int), h).1 ≤ _ ∧ -((-k, (0 : Int)).1 - ((0 : Int), h).1) ≤ _) ∧ (-k, (0 : Int)).2 - ((0 : Int), h).2 ≤ _ ∧ -((-k, (0 : Int)).2 - ((0 : Int), h).2) ≤ _)
     simp only
     omega
   · show (((-a, -h).1 - (-k, (0 : Int)).1 ≤ _ ∧ -((-a, -h).1 - (-k, (0 : Int)).1) ≤ _) ∧ (-a, -h).2 - (-k, (0 : Int)).2 ≤ _ ∧ -((-a, -h).2 - (-k, (0 : Int)).2) ≤ _)
     simp only
     omega
   · show _ ≤ Qac (Qa5 (-k, 0) (0, h)) (Qa5 (-a, -h) (-k, 0))
     unfold Qac Qaq Qa5
     grind
   · intro m m2 hm
     have hm' : m = 2 ∨ m = 3 ∨ m = 4 := by omega
     rcases hm' with rfl | rfl | rfl
     · show 0 < Qac (Qa5 (-k, 0) (0, h)) (Qa5 (-a, -h) (0, h))
       unfold Qac Qaq Qa5
       grind
     · show 0 < Qac (Qa5 (-k, 0) (0, h)) (Qa5 (a, -h) (0, h))
       unfold Qac Qaq Qa5
       grind
     · show 0 < Qac (Qa5 (-k, 0) (0, h)) (Qa5 (k, 0) (0, h))
       unfold Qac Qaq Qa5
       grind
 · refine Qfd (A := 1 * k + (-1) * a) (B := 1 * h) (C := 2 * a) (D := 0) (by omega) ?_ ?_ ?_ ?_ ?_
   · show 0 < Qac (-k, 0) (-a, -h)
     unfold Qac Qaq
     grind
   · show (((-a, -h).1 - (-k, (0 : Int)).1 ≤ _ ∧ -((-a, -h).1 - (-k, (0 : Int)).1) ≤ _) ∧ (-a, -h).2 - (-k, (0 : Int)).2 ≤ _ ∧ -((-a, -h).2 - (-k, (0 : Int)).2) ≤ _)
     simp only
     omega
   · show (((a, -h).1 - (-a, -h).1 ≤ _ ∧ -((a, -h).1 - (-a, -h).1) ≤ _) ∧ (a, -h).2 - (-a, -h).2 ≤ _ ∧ -((a, -h).2 - (-a, -h).2) ≤ _)
     simp only
     omega
   · show _ ≤ Qac (Qa5 (-a, -h) (-k, 0)) (Qa5 (a, -h) (-a, -h))
     unfold Qac Qaq Qa5
     grind
   · intro m m2 hm
     have hm' : m = 2 ∨ m = 3 ∨ m = 4 := by omega
     rcases hm' with rfl | rfl | rfl
     · show 0 < Qac (Qa5 (-a, -h) (-k, 0)) (Qa5 (a, -h) (-k, 0))
       unfold Qac Qaq Qa5
       grind
     · show 0 < Qac (Qa5 (-a, -h) (-k, 0)) (Qa5 (k, 0) (-k, 0))
       unfold Qac Qaq Qa5
       grind
     · show 0 < Qac (Qa5 (-a, -h) (-k, 0)) (Qa5 (0, h) (-k, 0))
       unfold Qac Qaq Qa5
       grind
theorem Zd2 {k a : Int} (hk : 64 ≤ k ∧ k ≤ 4096) (ha : 2 * a ≤ k ∧ k ≤ 2 * a + 1) : Qdt 8 (G8 k a) = true := by
 have p1 : 64 * k ≤ k * k := Int.mul_le_mul_of_nonneg_right hk.1 (by omega)
 have p2 : 2 * (a * k) ≤ k * k := by have := Int.mul_le_mul_of_nonneg_right ha.1 (show (0 : Int) ≤ k by omega); grind
 have p3 : k * k ≤ 2 * (a * k) + k := by have := Int.mul_le_mul_of_nonneg_right ha.2 (show (0 : Int) ≤ k by omega); grind
 have p4 : 2 * (a * a) ≤ a * k := by have := Int.mul_le_mul_of_nonneg_left ha.1 (show (0 : Int) ≤ a by omega); grind
 have p5 : a * k ≤ 2 * (a * a) + a := by have := Int.mul_le_mul_of_nonneg_left ha.2 (show (0 : Int) ≤ a by omega); grind
 refine Qhe fun j hj => ?_
 have hj' : j = 0 ∨ j = 1 ∨ j = 2 ∨ j = 3 ∨ j = 4 ∨ j = 5 ∨ j = 6 ∨ j = 7 := by omega
 rcases hj' with rfl | rfl | rfl | rfl | rfl | rfl | rfl | rfl
 · refine Qfd (A := 0) (B := 2 * a) (C := 1 * k + (-1) * a) (D := 1 * k + (-1) * a) (by omega) ?_ ?_ ?_ ?_ ?_
   · show 0 < Qac (k, -a) (k, a)
     unfold Qac Qaq
     grind
   · show (((k, a).1 - (k, -a).1 ≤ _ ∧ -((k, a).1 - (k, -a).1) ≤ _) ∧ (k, a).2 - (k, -a).2 ≤ _ ∧ -((k, a).2 - (k, -a).2) ≤ _)
     simp only
     omega
   · show (((a, k).1 - (k, a).1 ≤ _ ∧ -((a, k).1 - (k, a).1) ≤ _) ∧ (a, k).2 - (k, a).2 ≤ _ ∧ -((a, k).2 - (k, a).2) ≤ _)
     simp only
     omega
   · show _ ≤ Qac (Qa5 (k, a) (k, -a)) (Qa5 (a, k) (k, a))
     unfold Qac Qaq Qa5
     grind
   · intro m m2 hm
     have hm' : m = 2 ∨ m = 3 ∨ m = 4 ∨ m = 5 ∨ m = 6 ∨ m = 7 := by omega
     rcases hm' with rfl | rfl | rfl | rfl | rfl | rfl
     · show 0 < Qac (Qa5 (k, a) (k, -a)) (Qa5 (a, k) (k, -a))
       unfold Qac Qaq Qa5
       grind
     · show 0 < Qac (Qa5 (k, a) (k, -a)) (Qa5 (-a, k) (k, -a))
       unfold Qac Qaq Qa5
       grind
     · show 0 < Qac (Qa5 (k, a) (k, -a)) (Qa5 (-k, a) (k, -a))
       unfold Qac Qaq Qa5
       grind
     · show 0 < Qac (Qa5 (k, a) (k, -a)) (Qa5 (-k, -a) (k, -a))
       unfold Qac Qaq Qa5
       grind
     · show 0 < Qac (Qa5 (k, a) (k, -a)) (Qa5 (-a, -k) (k, -a))
       unfold Qac Qaq Qa5
       grind
     · show 0 < Qac (Qa5 (k, a) (k, -a)) (Qa5 (a, -k) (k, -a))
       unfold Qac Qaq Qa5
       grind
 · refine Qfd (A := 1 * k + (-1) * a) (B := 1 * k + (-1) * a) (C := 2 * a) (D := 0) (by omega) ?_ ?_ ?_ ?_ ?_
   · show 0 < Qac (k, a) (a, k)
     unfold Qac Qaq
     grind
   · show (((a, k).1 - (k, a).1 ≤ _ ∧ -((a, k).1 - (k, a).1) ≤ _) ∧ (a, k).2 - (k, a).2 ≤ _ ∧ -((a, k).2 - (k, a).2) ≤ _)
     simp only
     omega
   · show (((-a, k).1 - (a, k).1 ≤ _ ∧ -((-a, k).1 - (a, k).1) ≤ _) ∧ (-a, k).2 - (a, k).2 ≤ _ ∧ -((-a, k).2 - (a, k).2) ≤ _)
     simp only
     omega
   · show _ ≤ Qac (Qa5 (a, k) (k, a)) (Qa5 (-a, k) (a, k))
     unfold Qac Qaq Qa5
     grind
   · intro m m2 hm
     have hm' : m = 2 ∨ m = 3 ∨ m = 4 ∨ m = 5 ∨ m = 6 ∨ m = 7 := by omega
     rcases hm' with rfl | rfl | rfl | rfl | rfl | rfl
     · show 0 < Qac (Qa5 (a, k) (k, a)) (Qa5 (-a, k) (k, a))
       unfold Qac Qaq Qa5
       grind
     · show 0 < Qac (Qa5 (a, k) (k, a)) (Qa5 (-k, a) (k, a))
       unfold Qac Qaq Qa5
       grind
     · show 0 < Qac (Qa5 (a, k) (k, a)) (Qa5 (-k, -a) (k, a))
       unfold Qac Qaq Qa5
       grind
     · show 0 < Qac (Qa5 (a, k) (k, a)) (Qa5 (-a, -k) (k, a))
       unfold Qac Qaq Qa5
       grind
     · show 0 < Qac (Qa5 (a, k) (k, a)) (Qa5 (a, -k) (k, a))
       unfold Qac Qaq Qa5
       grind
     · show 0 < Qac (Qa5 (a, k) (k, a)) (Qa5 (k, -a) (k, a))
       unfold Qac Qaq Qa5
       grind
 · refine Qfd (A := 2 * a) (B := 0) (C := 1 * k + (-1) * a) (D := 1 * k + (-1) * a) (by omega) ?_ ?_ ?_ ?_ ?_
   · show 0 < Qac (a, k) (-a, k)
     unfold Qac Qaq
     grind
   · show (((-a, k).1 - (a, k).1 ≤ _ ∧ -((-a, k).1 - (a, k).1) ≤ _) ∧ (-a, k).2 - (a, k).2 ≤ _ ∧ -((-a, k).2 - (a, k).2) ≤ _)
     simp only
     omega
   · show (((-k, a).1 - (-a, k).1 ≤ _ ∧ -((-k, a).1 - (-a, k).1) ≤ _) ∧ (-k, a).2 - (-a, k).2 ≤ _ ∧ -((-k, a).2 - (-a, k).2) ≤ _)
     simp only
     omega
   · show _ ≤ Qac (Qa5 (-a, k) (a, k)) (Qa5 (-k, a) (-a, k))
     unfold Qac Qaq Qa5
     grind
   · intro m m2 hm
     have hm' : m = 2 ∨ m = 3 ∨ m = 4 ∨ m = 5 ∨ m = 6 ∨ m = 7 := by omega
     rcases hm' with rfl | rfl | rfl | rfl | rfl | rfl
     · show 0 < Qac (Qa5 (-a, k) (a, k)) (Qa5 (-k, a) (a, k))
       unfold Qac Qaq Qa5
       grind
     · show 0 < Qac (Qa5 (-a, k) (a, k)) (Qa5 (-k, -a) (a, k))
       unfold Qac Qaq Qa5
       grind
     · show 0 < Qac (Qa5 (-a, k) (a, k)) (Qa5 (-a, -k) (a, k))
       unfold Qac Qaq Qa5
       grind
     · show 0 < Qac (Qa5 (-a, k) (a, k)) (Qa5 (a, -k) (a, k))
       unfold Qac Qaq Qa5
       grind
     · show 0 < Qac (Qa5 (-a, k) (a, k)) (Qa5 (k, -a) (a, k))
       unfold Qac Qaq Qa5
       grind
     · show 0 < Qac (Qa5 (-a, k) (a, k)) (Qa5 (k, a) (a, k))
       unfold Qac Qaq Qa5
       grind
 · refine Qfd (A := 1 * k + (-1) * a) (B := 1 * k + (-1) * a) (C := 0) (D := 2 * a) (by omega) ?_ ?_ ?_ ?_ ?_
   · show 0 < Qac (-a, k) (-k, a)
     unfold Qac Qaq
     grind
   · show (((-k, a).1 - (-a, k).1 ≤ _ ∧ -((-k, a).1 - (-a, k).1) ≤ _) ∧ (-k, a).2 - (-a, k).2 ≤ _ ∧ -((-k, a).2 - (-a, k).2) ≤ _)
     simp only
     omega
   · show (((-k, -a).1 - (-k, a).1 ≤ _ ∧ -((-k, -a).1 - (-k, a).1) ≤ _) ∧ (-k, -a).2 - (-k, a).2 ≤ _ ∧ -((-k, -a).2 - (-k, a).2) ≤ _)
     simp only
     omega
   · show _ ≤ Qac (Qa5 (-k, a) (-a, k)) (Qa5 (-k, -a) (-k, a))
     unfold Qac Qaq Qa5
     grind
   · intro m m2 hm
     have hm' : m = 2 ∨ m = 3 ∨ m = 4 ∨ m = 5 ∨ m = 6 ∨ m = 7 := by omega
     rcases hm' with rfl | rfl | rfl | rfl | rfl | rfl
     · show 0 < Qac (Qa5 (-k, a) (-a, k)) (Qa5 (-k, -a) (-a, k))
       unfold Qac Qaq Qa5
       grind
     · show 0 < Qac (Qa5 (-k, a) (-a, k)) (Qa5 (-a, -k) (-a, k))
       unfold Qac Qaq Qa5
       grind
     · show 0 < Qac (Qa5 (-k, a) (-a, k)) (Qa5 (a, -k) (-a, k))
       unfold Qac Qaq Qa5
       grind
     · show 0 < Qac (Qa5 (-k, a) (-a, k)) (Qa5 (k, -a) (-a, k))
       unfold Qac Qaq Qa5
       grind
     · show 0 < Qac (Qa5 (-k, a) (-a, k)) (Qa5 (k, a) (-a, k))
       unfold Qac Qaq Qa5
       grind
     · show 0 < Qac (Qa5 (-k, a) (-a, k)) (Qa5 (a, k) (-a, k))
       unfold Qac Qaq Qa5
       grind
 · refine Qfd (A := 0) (B := 2 * a) (C := 1 * k + (-1) * a) (D := 1 * k + (-1) * a) (by omega) ?_ ?_ ?_ ?_ ?_
   · show 0 < Qac (-k, a) (-k, -a)
     unfold Qac Qaq
     grind
   · show (((-k, -a).1 - (-k, a).1 ≤ _ ∧ -((-k, -a).1 - (-k, a).1) ≤ _) ∧ (-k, -a).2 - (-k, a).2 ≤ _ ∧ -((-k, -a).2 - (-k, a).2) ≤ _)
     simp only
     omega
   · show (((-a, -k).1 - (-k, -a).1 ≤ _ ∧ -((-a, -k).1 - (-k, -a).1) ≤ _) ∧ (-a, -k).2 - (-k, -a).2 ≤ _ ∧ -((-a, -k).2 - (-k, -a).2) ≤ _)
     simp only
     omega
   · show _ ≤ Qac (Qa5 (-k, -a) (-k, a)) (Qa5 (-a, -k) (-k, -a))
     unfold Qac Qaq Qa5
     grind
   · intro m m2 hm
     have hm' : m = 2 ∨ m = 3 ∨ m = 4 ∨ m = 5 ∨ m = 6 ∨ m = 7 := by omega
     rcases hm' with rfl | rfl | rfl | rfl | rfl | rfl
     · show 0 < Qac (Qa5 (-k, -a) (-k, a)) (Qa5 (-a, -k) (-k, a))
       unfold Qac Qaq Qa5
       grind
     · show 0 < Qac (Qa5 (-k, -a) (-k, a)) (Qa5 (a, -k) (-k, a))
       unfold Qac Qaq Qa5
       grind
     · show 0 < Qac (Qa5 (-k, -a) (-k, a)) (Qa5 (k, -a) (-k, a))
       unfold Qac Qaq Qa5
       grind
     · show 0 < Qac (Qa5 (-k, -a) (-k, a)) (Qa5 (k, a) (-k, a))
       unfold Qac Qaq Qa5
       grind
     · show 0 < Qac (Qa5 (-k, -a) (-k, a)) (Qa5 (a, k) (-k, a))
       unfold Qac Qaq Qa5
       grind
     · show 0 < Qac (Qa5 (-k, -a) (-k, a)) (Qa5 (-a, k) (-k, a))
       unfold Qac Qaq Qa5
       grind
 · refine Qfd (A := 1 * k + (-1) * a) (B := 1 * k + (-1) * a) (C := 2 * a) (D := 0) (by omega) ?_ ?_ ?_ ?_ ?_
   · show 0 < Qac (-k, -a) (-a, -k)
     unfold Qac Qaq
     grind
   · show (((-a, -k).1 - (-k, -a).1 ≤ _ ∧ -((-a, -k).1 - (-k, -a).1) ≤ _) ∧ (-a, -k).2 - (-k, -a).2 ≤ _ ∧ -((-a, -k).2 - (-k, -a).2) ≤ _)
     simp only
     omega
   · show (((a, -k).1 - (-a, -k).1 ≤ _ ∧ -((a, -k).1 - (-a, -k).1) ≤ _) ∧ (a, -k).2 - (-a, -k).2 ≤ _ ∧ -((a, -k).2 - (-a, -k).2) ≤ _)
     simp only
     omega
   · show _ ≤ Qac (Qa5 (-a, -k) (-k, -a)) (Qa5 (a, -k) (-a, -k))
     unfold Qac Qaq Qa5
     grind
   · intro m m2 hm
     have hm' : m = 2 ∨ m = 3 ∨ m = 4 ∨ m = 5 ∨ m = 6 ∨ m = 7 := by omega
     rcases hm' with rfl | rfl | rfl | rfl | rfl | rfl
     · show 0 < Qac (Qa5 (-a, -k) (-k, -a)) (Qa5 (a, -k) (-k, -a))
       unfold Qac Qaq Qa5
       grind
     · show 0 < Qac (Qa5 (-a, -k) (-k, -a)) (Qa5 (k, -a) (-k, -a))
       unfold Qac Qaq Qa5
       grind
     · show 0 < Qac (Qa5 (-a, -k) (-k, -a)) (Qa5 (k, a) (-k, -a))
       unfold Qac Qaq Qa5
       grind
     · show 0 < Qac (Qa5 (-a, -k) (-k, -a)) (Qa5 (a, k) (-k, -a))
       unfold Qac Qaq Qa5
       grind
     · show 0 < Qac (Qa5 (-a, -k) (-k, -a)) (Qa5 (-a, k) (-k, -a))
       unfold Qac Qaq Qa5
       grind
     · show 0 < Qac (Qa5 (-a, -k) (-k, -a)) (Qa5 (-k, a) (-k, -a))
       unfold Qac Qaq Qa5
       grind
 · refine Qfd (A := 2 * a) (B := 0) (C := 1 * k + (-1) * a) (D := 1 * k + (-1) * a) (by omega) ?_ ?_ ?_ ?_ ?_
   · show 0 < Qac (-a, -k) (a, -k)
     unfold Qac Qaq
     grind
   · show (((a, -k).1 - (-a, -k).1 ≤ _ ∧ -((a, -k).1 - (-a, -k).1) ≤ _) ∧ (a, -k).2 - (-a, -k).2 ≤ _ ∧ -((a, -k).2 - (-a, -k).2) ≤ _)
     simp only
     omega
   · show (((k, -a).1 - (a, -k).1 ≤ _ ∧ -((k, -a).1 - (a, -k).1) ≤ _) ∧ (k, -a).2 - (a, -k).2 ≤ _ ∧ -((k, -a).2 - (a, -k).2) ≤ _)
     simp only
     omega
   · show _ ≤ Qac (Qa5 (a, -k) (-a, -k)) (Qa5 (k, -a) (a, -k))
     unfold Qac Qaq Qa5
     grind
   · intro m m2 hm
     have hm' : m = 2 ∨ m = 3 ∨ m = 4 ∨ m = 5 ∨ m = 6 ∨ m = 7 := by omega
     rcases hm' with rfl | rfl | rfl | rfl | rfl | rfl
     · show 0 < Qac (Qa5 (a, -k) (-a, -k)) (Qa5 (k, -a) (-a, -k))
       unfold Qac Qaq Qa5
       grind
     · show 0 < Qac (Qa5 (a, -k) (-a, -k)) (Qa5 (k, a) (-a, -k))
       unfold Qac Qaq Qa5
       grind
     · show 0 < Qac (Qa5 (a, -k) (-a, -k)) (Qa5 (a, k) (-a, -k))
       unfold Qac Qaq Qa5
       grind
     · show 0 < Qac (Qa5 (a, -k) (-a, -k)) (Qa5 (-a, k) (-a, -k))
       unfold Qac Qaq Qa5
       grind
     · show 0 < Qac (Qa5 (a, -k) (-a, -k)) (Qa5 (-k, a) (-a, -k))
       unfold Qac Qaq Qa5
       grind
     · show 0 < Qac (Qa5 (a, -k) (-a, -k)) (Qa5 (-k, -a) (-a, -k))
       unfold Qac Qaq Qa5
       grind
 · refine Qfd (A := 1 * k + (-1) * a) (B := 1 * k + (-1) * a) (C := 0) (D := 2 * a) (by omega) ?_ ?_ ?_ ?_ ?_
   · show 0 < Qac (a, -k) (k, -a)
     unfold Qac Qaq
     grind
   · show (((k, -a).1 - (a, -k).1 ≤ _ ∧ -((k, -a).1 - (a, -k).1) ≤ _) ∧ (k, -a).2 - (a, -k).2 ≤ _ ∧ -((k, -a).2 - (a, -k).2) ≤ _)
     simp only
     omega
   · show (((k, a).1 - (k, -a).1 ≤ _ ∧ -((k, a).1 - (k, -a).1) ≤ _) ∧ (k, a).2 - (k, -a).2 ≤ _ ∧ -((k, a).2 - (k, -a).2) ≤ _)
     simp only
     omega
   · show _ ≤ Qac (Qa5 (k, -a) (a, -k)) (Qa5 (k, a) (k, -a))
     unfold Qac Qaq Qa5
     grind
   · intro m m2 hm
     have hm' : m = 2 ∨ m = 3 ∨ m = 4 ∨ m = 5 ∨ m = 6 ∨ m = 7 := by omega
     rcases hm' with rfl | rfl | rfl | rfl | rfl | rfl
     · show 0 < Qac (Qa5 (k, -a) (a, -k)) (Qa5 (k, a) (a, -k))
       unfold Qac Qaq Qa5
       grind
     · show 0 < Qac (Qa5 (k, -a) (a, -k)) (Qa5 (a, k) (a, -k))
       unfold Qac Qaq Qa5
       grind
     · show 0 < Qac (Qa5 (k, -a) (a, -k)) (Qa5 (-a, k) (a, -k))
       unfold Qac Qaq Qa5
       grind
     · show 0 < Qac (Qa5 (k, -a) (a, -k)) (Qa5 (-k, a) (a, -k))
       unfold Qac Qaq Qa5
       grind
     · show 0 < Qac (Qa5 (k, -a) (a, -k)) (Qa5 (-k, -a) (a, -k))
       unfold Qac Qaq Qa5
       grind
     · show 0 < Qac (Qa5 (k, -a) (a, -k)) (Qa5 (-a, -k) (a, -k))
       unfold Qac Qaq Qa5
       grind
section
variable {P : Program} {f : FuncId}
end
theorem Q6c {m d : Int} (h1 : 0 < d) (h : d ≤ m) : 0 < Int.tdiv m d := by
 rw [Int.tdiv_eq_ediv_of_nonneg (by omega)]
 have := Int.le_ediv_of_mul_le (a := 1) (b := m) h1 (by omega)
 omega
theorem Qmh {a b L U : Int} (ha : 0 ≤ a) (hb : 0 < b) (h0 : 0 ≤ L) (hL : L * b ≤ a * 4294967296) (hU : a * 4294967296 ≤ U * b) (h1 : U ≤ 9223372036854775807) : ∃ q, Qa2 a b = ⟨q, false⟩ ∧ L ≤ q ∧ q ≤ U := by
 refine ⟨a * 4294967296 / b, ?_, Int.le_ediv_of_mul_le hb hL, Int.ediv_le_of_le_mul hb hU⟩
 have l := Int.le_ediv_of_mul_le hb hL
 have u := Int.ediv_le_of_le_mul hb hU
 have e : Q89 a b = a * 4294967296 / b := Int.tdiv_eq_ediv_of_nonneg (by omega)
 unfold Qa2 Qdd Qjf
 rw [if_neg (by omega), if_neg (by omega), e, Qgj ⟨by omega, by omega⟩, Qgi ⟨by omega, by omega⟩]
theorem Qwy {q : Int} (h0 : 0 ≤ q) (h1 : q ≤ 4503599627370496) : Qdh ⟨q, false⟩ Zdk = ⟨q * 4294967296 / 13493037704, false⟩ := by
 have e : Q89 q 13493037704 = q * 4294967296 / 13493037704 := Int.tdiv_eq_ediv_of_nonneg (by omega)
 have sq : Sd q := ⟨by omega, by omega⟩
 have sh : Sd 13493037704 := ⟨by decide, by decide⟩
 show (⟨Qdd (Qaa q) (Qaa 13493037704), Qjf (Qaa q) (Qaa 13493037704) || (Qat q false || Qat 13493037704 false)⟩ : NB) = _
 rw [sq.self, sh.self, sq.flag, sh.flag]
 unfold Qdd Qjf
 rw [if_neg (by decide), if_neg (by decide), e, Qgj ⟨by omega, by omega⟩, Qgi ⟨by omega, by omega⟩]
 rfl
theorem Zlm {r : Int} (h : 16 ≤ r ∧ r ≤ 4096) : (256 ≤ r * r ∧ r * r ≤ 16777216) ∧ 65536 ≤ r * r * r * r ∧ r * r * r * r ≤ 281474976710656 := by
 obtain ⟨_, ⟨_, _⟩, p5, p6⟩ := Q14 (r := r) ⟨by omega, h.2⟩
 have a1 := Int.mul_le_mul (a := 16) (b := 16) (c := r) (d := r) h.1 h.1 (by decide) (by omega)
 have a2 := Int.mul_le_mul (a := 256) (b := 16) (c := r * r) (d := r) (by omega) h.1 (by decide) (by omega)
 have a3 := Int.mul_le_mul (a := 4096) (b := 16) (c := r * r * r) (d := r) (by omega) h.1 (by decide) (by omega)
 have a4 := (Q14 (r := r) ⟨by omega, h.2⟩).1
 exact ⟨⟨by omega, a4.2⟩, by omega, p6⟩
theorem Q7q (w h : Int) : Qfo 4 (Q91 w h) 4 = 8 * (w * h) := by
 show 0 + (-w * -h - -h * w) + (w * h - -h * w) + (w * h - h * -w) + (-w * -h - h * -w) = 8 * (w * h)
 simp only [Int.neg_mul, Int.mul_neg, Int.neg_neg, Int.mul_comm h w]
 omega
theorem Zd7 (w h : Int) : Qmm 4 (Q91 w h) 4 = 2 * (w * h) * (8 * (w * w + h * h)) := by
 show 0 + (-w * -h - -h * w) * ((-w * -w + -h * -h) + (-w * w + -h * -h) + (w * w + -h * -h)) + (w * h - -h * w) * ((w * w + -h * -h) + (w * w + -h * h) + (w * w + h * h)) + (w * h - h * -w) * ((w * w + h * h) + (w * -w + h * h) + (-w * -w + h * h)) + (-w * -h - h * -w) * ((-w * -w + h * h) + (-w * -w + h * -h) + (-w * -w + -h * -h)) = _
 simp only [Int.neg_mul, Int.mul_neg, Int.neg_neg, Int.mul_comm h w]
 have c : w * h + w * h = 2 * (w * h) := by omega
 have c' : w * h - -(w * h) = 2 * (w * h) := by omega
 simp only [c', Int.zero_add, ← Int.mul_add]
 congr 1
 omega
theorem Qqi {x : Int} (h : 16 ≤ x ∧ x ≤ 4096) : Qeh x = true := by unfold Qeh; rw [decide_eq_true h.1, decide_eq_true h.2]; rfl
theorem Q7k {r : Int} (h : 16 ≤ r ∧ r ≤ 4096) : Qca (Zin r) 0 zP = 0 := by
 show (bif Qeh r then (0 : Int) else 3) = 0
 rw [Qqi h]; rfl
theorem Q7l {w h : Int} (hw : 16 ≤ w ∧ w ≤ 4096) (hh : 16 ≤ h ∧ h ≤ 4096) : Qca (boxS w h) 0 zP = 0 := by
 show (bif Qeh w && Qeh h then (0 : Int) else 3) = 0
 rw [Qqi hw, Qqi hh]; rfl
def PW (v : VB) : Prop := (v.x.f = false ∧ v.y.f = false) ∧ (0 < v.x.v ∧ v.x.v ≤ 4611686018427387903) ∧ 0 < v.y.v ∧ v.y.v ≤ 4611686018427387903
theorem Zhn {m i d : Int} (hm : 1000 ≤ m ∧ m ≤ 4611686018427387903) (hi : 1000 ≤ i ∧ i ≤ 4611686018427387903) (hd : 1 ≤ d ∧ d ≤ 1000) : PW ⟨⟨Int.tdiv m d, false⟩, ⟨Int.tdiv i d, false⟩⟩ := by
 have key : ∀ x : Int, 1000 ≤ x ∧ x ≤ 4611686018427387903 → 0 < Int.tdiv x d ∧ Int.tdiv x d ≤ 4611686018427387903 := fun x hx => by
   have h0 := Q6c (m := x) (d := d) (by omega) (by omega)
   have h1 : Int.tdiv x d ≤ x := by
     rw [Int.tdiv_eq_ediv_of_nonneg (by omega)]
     exact Int.ediv_le_self _ (by omega)
   exact ⟨h0, by omega⟩
 exact ⟨⟨rfl, rfl⟩, key m hm, key i hi⟩
theorem Q10 {A M d : Int} (hA : 1 ≤ A ∧ A ≤ 1000000000) (hM : 64 ≤ M ∧ M ≤ 100000000000000000) (hd : 1 ≤ d ∧ d ≤ 1000) : PW (Qr1 A M d) := by
 obtain ⟨q, e1, l1, u1⟩ := Qmh (a := 131072) (b := A) (L := 1000) (U := 562949953421312) (by decide) (by omega) (by decide) (by omega) (by omega) (by decide)
 obtain ⟨p, e2, l2, u2⟩ := Qmh (a := 51539607552) (b := M) (L := 1000) (U := 3458764513820540928) (by decide) (by omega) (by decide) (by omega) (by omega) (by decide)
 unfold Qr1
 rw [e1, e2, Qka ⟨by show (-9223372036854775807 : Int) ≤ q; omega, by show q ≤ 9223372036854775807; omega⟩ (by omega) (by omega), Qka ⟨by show (-9223372036854775807 : Int) ≤ p; omega, by show p ≤ 9223372036854775807; omega⟩ (by omega) (by omega)]
 exact Zhn (by show 1000 ≤ q ∧ q ≤ _; omega) (by show 1000 ≤ p ∧ p ≤ _; omega) hd
theorem Zc2 {r d : Int} (hr : 16 ≤ r ∧ r ≤ 4096) (hd : 1 ≤ d ∧ d ≤ 1000) : PW (Qz5 r d) := by
 obtain ⟨⟨s1, s2⟩, s3, s4⟩ := Zlm hr
 obtain ⟨q, e1, l1, u1⟩ := Qmh (a := 65536) (b := r * r) (L := 16777216) (U := 1099511627776) (by decide) (by omega) (by decide) (by omega) (by omega) (by decide)
 obtain ⟨p, e2, l2, u2⟩ := Qmh (a := 8589934592) (b := r * r * r * r) (L := 131072) (U := 562949953421312) (by decide) (by omega) (by decide) (by omega) (by omega) (by decide)
 unfold Qz5
 rw [e1, e2, Qwy (by omega) (by omega), Qwy (by omega) (by omega)]
 rw [Qka ⟨by simp only; omega, by simp only; omega⟩ (by omega) (by omega), Qka ⟨by simp only; omega, by simp only; omega⟩ (by omega) (by omega)]
 exact Zhn ⟨by simp only; omega, by simp only; omega⟩ ⟨by simp only; omega, by simp only; omega⟩ hd
theorem Zik {p q : Int × Int} (h : 64 ≤ Qac p q) : 1 ≤ Qfn p p + Qfn p q + Qfn q q := by
 obtain ⟨a, b⟩ := p
 obtain ⟨c, d⟩ := q
 have h : 64 ≤ a * d - b * c := h
 show 1 ≤ (a * a + b * b) + (a * c + b * d) + (c * c + d * d)
 have e : 2 * ((a * a + b * b) + (a * c + b * d) + (c * c + d * d)) = a * a + b * b + c * c + d * d + (a + c) * (a + c) + (b + d) * (b + d) := by grind
 have h1 := Qbu a
 have h2 := Qbu b
 have h3 := Qbu c
 have h4 := Qbu d
 have h5 := Qbu (a + c)
 have h6 := Qbu (b + d)
 rcases Int.lt_or_le 0 (a * a + b * b) with hp | hp
 · omega
 · have za : a * a = 0 := by omega
   have zb : b * b = 0 := by omega
   have za : a = 0 := by rcases Int.mul_eq_zero.1 za with z | z <;> exact z
   have zb : b = 0 := by rcases Int.mul_eq_zero.1 zb with z | z <;> exact z
   subst za zb
   simp at h
theorem Q3k {n : Nat} {g : Nat → Int × Int} (hq : ∀ i, i < n → Q12 (g i).1 ∧ Q12 (g i).2) (hx : ∀ i, i < n → 64 ≤ Qac (g i) (g ((i + 1) % n))) : ∀ k : Nat, k ≤ n → 64 * (k : Int) ≤ Qfo n g k ∧ Qfo n g k ≤ 33554432 * (k : Int)
 | 0, _ => ⟨Int.le_refl _, Int.le_refl _⟩
 | k + 1, hk => by
   obtain ⟨l, u⟩ := Q3k hq hx k (by omega)
   have a := hx k (by omega)
   have b := (Qkd (hq k (by omega)) (hq ((k + 1) % n) (Nat.mod_lt _ (by omega)))).2
   show _ ≤ Qfo n g k + Qac (g k) (g ((k + 1) % n)) ∧ Qfo n g k + Qac (g k) (g ((k + 1) % n)) ≤ _
   omega
theorem Q9g {n : Nat} {g : Nat → Int × Int} (hq : ∀ i, i < n → Q12 (g i).1 ∧ Q12 (g i).2) (hx : ∀ i, i < n → 64 ≤ Qac (g i) (g ((i + 1) % n))) : ∀ k : Nat, k ≤ n → 64 * (k : Int) ≤ Qmm n g k ∧ Qmm n g k ≤ 4503599627370496 * (k : Int)
 | 0, _ => ⟨Int.le_refl _, Int.le_refl _⟩
 | k + 1, hk => by
   obtain ⟨l, u⟩ := Q9g hq hx k (by omega)
   have l2 : (k + 1) % n < n := Nat.mod_lt _ (by omega)
   have a := hx k (by omega)
   have b := (Qkd (hq k (by omega)) (hq _ l2)).2
   have c := Zik a
   have d1 := (Qi5 (hq k (by omega)) (hq k (by omega))).2
   have d2 := (Qi5 (hq k (by omega)) (hq _ l2)).2
   have d3 := (Qi5 (hq _ l2) (hq _ l2)).2
   have d4 : Qfn (g k) (g k) + Qfn (g k) (g ((k + 1) % n)) + Qfn (g ((k + 1) % n)) (g ((k + 1) % n)) ≤ 134217728 := by omega
   show _ ≤ Qmm n g k + Qac (g k) (g ((k + 1) % n)) * (Qfn (g k) (g k) + Qfn (g k) (g ((k + 1) % n)) + Qfn (g ((k + 1) % n)) (g ((k + 1) % n))) ∧ Qmm n g k + Qac (g k) (g ((k + 1) % n)) * (Qfn (g k) (g k) + Qfn (g k) (g ((k + 1) % n)) + Qfn (g ((k + 1) % n)) (g ((k + 1) % n))) ≤ _
   generalize Qfn (g k) (g k) + Qfn (g k) (g ((k + 1) % n)) + Qfn (g ((k + 1) % n)) (g ((k + 1) % n)) = q at *
   generalize Qac (g k) (g ((k + 1) % n)) = x at *
   have m1 := Int.mul_le_mul (a := 64) (b := 1) (c := x) (d := q) a c (by decide) (by omega)
   have m2 := Int.mul_le_mul (a := x) (b := q) (c := 33554432) (d := 134217728) b (by omega) (by omega) (by decide)
   omega
theorem Zhm {n : Nat} {g : Nat → Int × Int} {d : Int} (h1 : 1 ≤ n) (h8 : n ≤ 8) (hq : ∀ i, i < n → Q12 (g i).1 ∧ Q12 (g i).2) (hx : ∀ i, i < n → 64 ≤ Qac (g i) (g ((i + 1) % n))) (hd : 1 ≤ d ∧ d ≤ 1000) : PW (Qr1 (Qfo n g n) (Qmm n g n) d) := by
 have a := Q3k hq hx n (Nat.le_refl n)
 have m := Q9g hq hx n (Nat.le_refl n)
 exact Q10 (by omega) (by omega) hd
theorem chkP {n : Nat} {g : Nat → Int × Int} (h3 : 3 ≤ n) (h8 : n ≤ 8) (hp : ∀ i, i < n → Qgk (g i) = true) (hc : Qdt n g = true) : Qca Qx4 n g = 0 := by
 have h1 : (decide ((n : Int) < 3) || decide ((n : Int) > 8)) = false := by
   rw [decide_eq_false (by omega), decide_eq_false (by omega)]; rfl
 have hall : (List.range n).all (fun i => Qgk (g i)) = true := Qhe hp
 show (bif ((3 : Int) == 1) then _ else bif (3 : Int) == 2 then _ else bif (3 : Int) == 3 then (bif ((0 : Int) != 0 || ((0 : Int) != 0 || ((0 : Int) != 0 || (decide ((n : Int) < 3) || decide ((n : Int) > 8))))) then 4 else bif (List.range n).all (fun i => Qgk (g i)) then (bif Qdt n g then 0 else 5) else 3) else 8) = _
 rw [h1, hall, hc]
 rfl
theorem ptQ {p : Int × Int} (h : (-4096 ≤ p.1 ∧ p.1 ≤ 4096) ∧ -4096 ≤ p.2 ∧ p.2 ≤ 4096) : Qgk p = true ∧ Q12 p.1 ∧ Q12 p.2 := by
 obtain ⟨⟨_, _⟩, _, _⟩ := h
 refine ⟨?_, ⟨by omega, by omega⟩, by omega, by omega⟩
 unfold Qgk Qj4
 simp only [Bool.and_eq_true, decide_eq_true_eq]
 omega
theorem Zhr {k h : Int} (hk : 64 ≤ k ∧ k ≤ 4096) (hh : 64 ≤ h ∧ h ≤ 4096) : ∀ i, i < 3 → Qgk (G3 k h i) = true ∧ Q12 (G3 k h i).1 ∧ Q12 (G3 k h i).2 := fun i hi => by
 have hi' : i = 0 ∨ i = 1 ∨ i = 2 := by omega
 rcases hi' with rfl | rfl | rfl
 · exact ptQ (p := (-k, -h)) (by simp only; omega)
 · exact ptQ (p := (k, -h)) (by simp only; omega)
 · exact ptQ (p := (0, h)) (by simp only; omega)
theorem Zir {k h : Int} (hk : 64 ≤ k ∧ k ≤ 4096) (hh : 64 ≤ h ∧ h ≤ 4096) : ∀ i, i < 3 → 64 ≤ Qac (G3 k h i) (G3 k h ((i + 1) % 3)) := fun i hi => by
 have p1 : 64 * k ≤ k * h := by have := Int.mul_le_mul_of_nonneg_left hh.1 (show (0 : Int) ≤ k by omega); grind
 have hi' : i = 0 ∨ i = 1 ∨ i = 2 := by omega
 rcases hi' with rfl | rfl | rfl
 · show 64 ≤ Qac (-k, -h) (k, -h)
   unfold Qac Qaq
   grind
 · show 64 ≤ Qac (k, -h) (0, h)
   unfold Qac Qaq
   grind
 · show 64 ≤ Qac (0, h) (-k, -h)
   unfold Qac Qaq
   grind
theorem Zhq {k h a : Int} (hk : 64 ≤ k ∧ k ≤ 4096) (hh : 64 ≤ h ∧ h ≤ 4096) (ha : 2 * a ≤ k ∧ k ≤ 2 * a + 1) : ∀ i, i < 5 → Qgk (G5 k h a i) = true ∧ Q12 (G5 k h a i).1 ∧ Q12 (G5 k h a i).2 := fun i hi => by
 have hi' : i = 0 ∨ i = 1 ∨ i = 2 ∨ i = 3 ∨ i = 4 := by omega
 rcases hi' with rfl | rfl | rfl | rfl | rfl
 · exact ptQ (p := (-a, -h)) (by simp only; omega)
 · exact ptQ (p := (a, -h)) (by simp only; omega)
 · exact ptQ (p := (k, 0)) (by simp only; omega)
 · exact ptQ (p := (0, h)) (by simp only; omega)
 · exact ptQ (p := (-k, 0)) (by simp only; omega)
theorem Ziq {k h a : Int} (hk : 64 ≤ k ∧ k ≤ 4096) (hh : 64 ≤ h ∧ h ≤ 4096) (ha : 2 * a ≤ k ∧ k ≤ 2 * a + 1) : ∀ i, i < 5 → 64 ≤ Qac (G5 k h a i) (G5 k h a ((i + 1) % 5)) := fun i hi => by
 have p1 : 64 * k ≤ k * h := by have := Int.mul_le_mul_of_nonneg_left hh.1 (show (0 : Int) ≤ k by omega); grind
 have p3 : 64 * a ≤ a * h := by have := Int.mul_le_mul_of_nonneg_left hh.1 (show (0 : Int) ≤ a by omega); grind
 have hi' : i = 0 ∨ i = 1 ∨ i = 2 ∨ i = 3 ∨ i = 4 := by omega
 rcases hi' with rfl | rfl | rfl | rfl | rfl
 · show 64 ≤ Qac (-a, -h) (a, -h)
   unfold Qac Qaq
   grind
 · show 64 ≤ Qac (a, -h) (k, 0)
   unfold Qac Qaq
   grind
 · show 64 ≤ Qac (k, 0) (0, h)
   unfold Qac Qaq
   grind
 · show 64 ≤ Qac (0, h) (-k, 0)
   unfold Qac Qaq
   grind
 · show 64 ≤ Qac (-k, 0) (-a, -h)
   unfold Qac Qaq
   grind
theorem Zhp {k a : Int} (hk : 64 ≤ k ∧ k ≤ 4096) (ha : 2 * a ≤ k ∧ k ≤ 2 * a + 1) : ∀ i, i < 8 → Qgk (G8 k a i) = true ∧ Q12 (G8 k a i).1 ∧ Q12 (G8 k a i).2 := fun i hi => by
 have hi' : i = 0 ∨ i = 1 ∨ i = 2 ∨ i = 3 ∨ i = 4 ∨ i = 5 ∨ i = 6 ∨ i = 7 := by omega
 rcases hi' with rfl | rfl | rfl | rfl | rfl | rfl | rfl | rfl
 · exact ptQ (p := (k, -a)) (by simp only; omega)
 · exact ptQ (p := (k, a)) (by simp only; omega)
 · exact ptQ (p := (a, k)) (by simp only; omega)
 · exact ptQ (p := (-a, k)) (by simp only; omega)
 · exact ptQ (p := (-k, a)) (by simp only; omega)
 · exact ptQ (p := (-k, -a)) (by simp only; omega)
 · exact ptQ (p := (-a, -k)) (by simp only; omega)
 · exact ptQ (p := (a, -k)) (by simp only; omega)
theorem Zip {k a : Int} (hk : 64 ≤ k ∧ k ≤ 4096) (ha : 2 * a ≤ k ∧ k ≤ 2 * a + 1) : ∀ i, i < 8 → 64 ≤ Qac (G8 k a i) (G8 k a ((i + 1) % 8)) := fun i hi => by
 have p1 : 64 * k ≤ k * k := Int.mul_le_mul_of_nonneg_right hk.1 (by omega)
 have p2 : 2 * (a * k) ≤ k * k := by have := Int.mul_le_mul_of_nonneg_right ha.1 (show (0 : Int) ≤ k by omega); grind
 have p3 : k * k ≤ 2 * (a * k) + k := by have := Int.mul_le_mul_of_nonneg_right ha.2 (show (0 : Int) ≤ k by omega); grind
 have p4 : 2 * (a * a) ≤ a * k := by have := Int.mul_le_mul_of_nonneg_left ha.1 (show (0 : Int) ≤ a by omega); grind
 have p5 : a * k ≤ 2 * (a * a) + a := by have := Int.mul_le_mul_of_nonneg_left ha.2 (show (0 : Int) ≤ a by omega); grind
 have hi' : i = 0 ∨ i = 1 ∨ i = 2 ∨ i = 3 ∨ i = 4 ∨ i = 5 ∨ i = 6 ∨ i = 7 := by omega
 rcases hi' with rfl | rfl | rfl | rfl | rfl | rfl | rfl | rfl
 · show 64 ≤ Qac (k, -a) (k, a)
   unfold Qac Qaq
   grind
 · show 64 ≤ Qac (k, a) (a, k)
   unfold Qac Qaq
   grind
 · show 64 ≤ Qac (a, k) (-a, k)
   unfold Qac Qaq
   grind
 · show 64 ≤ Qac (-a, k) (-k, a)
   unfold Qac Qaq
   grind
 · show 64 ≤ Qac (-k, a) (-k, -a)
   unfold Qac Qaq
   grind
 · show 64 ≤ Qac (-k, -a) (-a, -k)
   unfold Qac Qaq
   grind
 · show 64 ≤ Qac (-a, -k) (a, -k)
   unfold Qac Qaq
   grind
 · show 64 ≤ Qac (a, -k) (k, -a)
   unfold Qac Qaq
   grind
structure MD where
 k : Int
 a : Int
 b : Int
 x : Int
 y : Int
 w : Int
def mdL (m : MD) : List SV := [.v (.int .i64 m.k), .v (.int .i64 m.a), .v (.int .i64 m.b), .v (.int .i64 m.x), .v (.int .i64 m.y), .v (.int .i64 m.w)]
def mdS (m : MD) : SV := .agg (mdL m)
def mdI (m : MD) : Prop := I64 m.k ∧ I64 m.a ∧ I64 m.b ∧ I64 m.x ∧ I64 m.y ∧ I64 m.w
def Qc3 (m : MD) (s : Int) : VB := kitV m.x m.y s
def Qnb (m : MD) : VB := Qtp (Qd0 m.w 8)
def Zcf : List SV → Option (Option Prop × SV)
 | [.agg [.v (.int .i64 k), .v (.int .i64 a), .v (.int .i64 b), .v (.int .i64 x), .v (.int .i64 y), .v (.int .i64 w)], .v (.int .i64 s)] => some (some (0 < s ∧ s < 1073741824), pS (Qc3 ⟨k, a, b, x, y, w⟩ s) (Qnb ⟨k, a, b, x, y, w⟩))
 | _ => none
theorem Zgc (m : MD) (s : Int) (R : SV→Prop) : (Qav Tryz.prog ΓG Qax Tryz.f23 [mdS m,iV s] R) = ((((0 : Int) < s)∧((s : Int) < 1073741824))∧((((0 : Int) < s)∧((s : Int) < 1073741824))∧((((0 : Int) < 8)∧((8 : Int) < 1073741824))∧((I64 (NB.v (Qd0 (MD.w m) 8)))∧(R (SV.agg [(yI (NB.v (Qd0 (MD.x m) s))),(yF false),(yI (NB.v (Qd0 (MD.y m) s))),(yF false),(yI (NB.v (VB.x (Qtp (Qd0 (MD.w m) 8))))),(yF (NB.f (VB.x (Qtp (Qd0 (MD.w m) 8))))),(yI (NB.v (VB.y (Qtp (Qd0 (MD.w m) 8))))),(yF (NB.f (VB.y (Qtp (Qd0 (MD.w m) 8)))))])))))):=by kernel_rfl
def ksZ (big : Bool) (x : Int) : Int := bif big then 16 + x % 4081 else 16 + (16 + x % 4081) % 600
def ksB (a : Int) : Bool := Int.tmod a 4 == 0
def ksX (a x : Int) : Int := ksZ (ksB a) x
def ksM (a x : Int) : Int := max 64 (ksX a x)
def ksS (m : MD) : ShB := bif m.k % 5 == 0 then ⟨1, ksX m.a m.a, 0, 0⟩ else bif m.k % 5 == 1 then ⟨2, 0, ksX m.a m.a, ksX m.a m.b⟩ else ⟨3, 0, 0, 0⟩
def ksN (m : MD) : Nat := bif m.k % 5 == 0 then 0 else bif m.k % 5 == 1 then 0 else bif m.k % 5 == 2 then 3 else bif m.k % 5 == 3 then 5 else 8
def ksG (m : MD) : Nat → Int × Int := bif m.k % 5 == 2 then G3 (ksM m.a m.a) (ksM m.a m.b) else bif m.k % 5 == 3 then G5 (ksM m.a m.a) (ksM m.a m.b) (ksM m.a m.a / 2) else G8 (ksM m.a m.a) (ksM m.a m.a / 2)
def ksE (q : Prop) (m : MD) : Eff := .nd q Nat 0 (fun c => .agg [.v (.int .i64 (ksS m).k), .v (.int .i64 (ksS m).r), .v (.int .i64 (ksS m).w), .v (.int .i64 (ksS m).h), .sl 1000 2 0 (ksN m) (ksN m + c)]) fun c => [(1000, spB (ksN m) (ksN m + c) (ksG m))]
def Zlo (args : List SV) (bs : List Blk) : Option Eff := match args, bs with
 | [.agg [.v (.int .i64 k), .v (.int .i64 a), .v (.int .i64 b), .v (.int .i64 x), .v (.int .i64 y), .v (.int .i64 w)]], [] => some (ksE (mdI ⟨k, a, b, x, y, w⟩) ⟨k, a, b, x, y, w⟩)
 | _, _ => none
theorem Zko (m : MD) (q : Prop) : (Qcu Tryz.prog ΓG Qax Tryz.f22 [mdS m] (Qaw []) 64 (fun y h' => Qhf [] (ksE q m) y h')) = (((I64 (MD.a m))∧(((0 : Int) < 4081)∧(I64 4081)))∧(((I64 (MD.b m))∧(((0 : Int) < 4081)∧(I64 4081)))∧(sel (Int.tmod (MD.a m) 4 != 0) (((I64 (MD.k m))∧(((0 : Int) < 5)∧(I64 5)))∧(sel (MD.k m % 5 == 0) (∃ c : Nat,((((yI 1) = (yI (ShB.k (ksS m))))∧(((yI (IntKind.wrap IntKind.i64 (16 + Int.tmod (IntKind.wrap IntKind.i64 (16 + MD.a m % 4081)) 600))) = (yI (ShB.r (ksS m))))∧(((yI 0) = (yI (ShB.w (ksS m))))∧(((yI 0) = (yI (ShB.h (ksS m))))∧(((SV.v (Value.slice none 0 0)) = (SV.v (Value.slice none 0 0)))∧(((0 : Nat) = 0)∧((((ksN m) : Nat) = 0)∧(((ksN m + c) : Nat) = 0))))))))∧(((((ksN m) : Nat) = 0)∧((((ksN m + c) : Nat) = 0)∧True))∧True))) (sel (MD.k m % 5 == 1) (∃ c : Nat,((((yI 2) = (yI (ShB.k (ksS m))))∧(((yI 0) = (yI (ShB.r (ksS m))))∧(((yI (IntKind.wrap IntKind.i64 (16 + Int.tmod (IntKind.wrap IntKind.i64 (16 + MD.a m % 4081)) 600))) = (yI (ShB.w (ksS m))))∧(((yI (IntKind.wrap IntKind.i64 (16 + Int.tmod (IntKind.wrap IntKind.i64 (16 + MD.b m % 4081)) 600))) = (yI (ShB.h (ksS m))))∧(((SV.v (Value.slice none 0 0)) = (SV.v (Value.slice none 0 0)))∧(((0 : Nat) = 0)∧((((ksN m) : Nat) = 0)∧(((ksN m + c) : Nat) = 0))))))))∧(((((ksN m) : Nat) = 0)∧((((ksN m + c) : Nat) = 0)∧True))∧True))) (sel (MD.k m % 5 == 2) (∃ c : Nat,((((yI 3) = (yI (ShB.k (ksS m))))∧(((yI 0) = (yI (ShB.r (ksS m))))∧(((yI 0) = (yI (ShB.w (ksS m))))∧(((yI 0) = (yI (ShB.h (ksS m))))∧((SV.sl 464 2 0 3 3) = (SV.sl 464 2 0 (ksN m) (ksN m + c)))))))∧(((3 : Nat) = (ksN m))∧((((ksN m + c) : Nat) ≤ 3)∧(∀ i : Nat,(((i : Nat) < (ksN m))→([(yI (bop (Nat.beq i 0) (IntKind.wrap IntKind.i64 (0 - max 64 (IntKind.wrap IntKind.i64 (16 + Int.tmod (IntKind.wrap IntKind.i64 (16 + MD.a m % 4081)) 600)))) (bop (Nat.beq i 1) (max 64 (IntKind.wrap IntKind.i64 (16 + Int.tmod (IntKind.wrap IntKind.i64 (16 + MD.a m % 4081)) 600))) 0))),(yI (bop (Nat.beq i 0) (IntKind.wrap IntKind.i64 (0 - max 64 (IntKind.wrap IntKind.i64 (16 + Int.tmod (IntKind.wrap IntKind.i64 (16 + MD.b m % 4081)) 600)))) (bop (Nat.beq i 1) (IntKind.wrap IntKind.i64 (0 - max 64 (IntKind.wrap IntKind.i64 (16 + Int.tmod (IntKind.wrap IntKind.i64 (16 + MD.b m % 4081)) 600)))) (max 64 (IntKind.wrap IntKind.i64 (16 + Int.tmod (IntKind.wrap IntKind.i64 (16 + MD.b m % 4081)) 600))))))] = [(yI (Prod.fst (ksG m i))),(yI (Prod.snd (ksG m i)))]))))))) (sel (MD.k m % 5 == 3) (∃ c : Nat,((((yI 3) = (yI (ShB.k (ksS m))))∧(((yI 0) = (yI (ShB.r (ksS m))))∧(((yI 0) = (yI (ShB.w (ksS m))))∧(((yI 0) = (yI (ShB.h (ksS m))))∧((SV.sl 536 2 0 5 5) = (SV.sl 536 2 0 (ksN m) (ksN m + c)))))))∧(((5 : Nat) = (ksN m))∧((((ksN m + c) : Nat) ≤ 5)∧(∀ i : Nat,(((i : Nat) < (ksN m))→([(yI (bop (Nat.beq i 0) (IntKind.wrap IntKind.i64 (Int.tdiv (IntKind.wrap IntKind.i64 (0 - max 64 (IntKind.wrap IntKind.i64 (16 + Int.tmod (IntKind.wrap IntKind.i64 (16 + MD.a m % 4081)) 600)))) 2)) (bop (Nat.beq i 1) (IntKind.wrap IntKind.i64 (Int.tdiv (max 64 (IntKind.wrap IntKind.i64 (16 + Int.tmod (IntKind.wrap IntKind.i64 (16 + MD.a m % 4081)) 600))) 2)) (bop (Nat.beq i 2) (max 64 (IntKind.wrap IntKind.i64 (16 + Int.tmod (IntKind.wrap IntKind.i64 (16 + MD.a m % 4081)) 600))) (bop (Nat.beq i 3) 0 (IntKind.wrap IntKind.i64 (0 - max 64 (IntKind.wrap IntKind.i64 (16 + Int.tmod (IntKind.wrap IntKind.i64 (16 + MD.a m % 4081)) 600))))))))),(yI (bop (Nat.beq i 0) (IntKind.wrap IntKind.i64 (0 - max 64 (IntKind.wrap IntKind.i64 (16 + Int.tmod (IntKind.wrap IntKind.i64 (16 + MD.b m % 4081)) 600)))) (bop (Nat.beq i 1) (IntKind.wrap IntKind.i64 (0 - max 64 (IntKind.wrap IntKind.i64 (16 + Int.tmod (IntKind.wrap IntKind.i64 (16 + MD.b m % 4081)) 600)))) (bop (Nat.beq i 2) 0 (bop (Nat.beq i 3) (max 64 (IntKind.wrap IntKind.i64 (16 + Int.tmod (IntKind.wrap IntKind.i64 (16 + MD.b m % 4081)) 600))) 0)))))] = [(yI (Prod.fst (ksG m i))),(yI (Prod.snd (ksG m i)))]))))))) (∃ c : Nat,((((yI 3) = (yI (ShB.k (ksS m))))∧(((yI 0) = (yI (ShB.r (ksS m))))∧(((yI 0) = (yI (ShB.w (ksS m))))∧(((yI 0) = (yI (ShB.h (ksS m))))∧((SV.sl 1048 2 0 8 8) = (SV.sl 1048 2 0 (ksN m) (ksN m + c)))))))∧(((8 : Nat) = (ksN m))∧((((ksN m + c) : Nat) ≤ 8)∧(∀ i : Nat,(((i : Nat) < (ksN m))→([(yI (bop (Nat.beq i 0) (max 64 (IntKind.wrap IntKind.i64 (16 + Int.tmod (IntKind.wrap IntKind.i64 (16 + MD.a m % 4081)) 600))) (bop (Nat.beq i 1) (max 64 (IntKind.wrap IntKind.i64 (16 + Int.tmod (IntKind.wrap IntKind.i64 (16 + MD.a m % 4081)) 600))) (bop (Nat.beq i 2) (IntKind.wrap IntKind.i64 (Int.tdiv (max 64 (IntKind.wrap IntKind.i64 (16 + Int.tmod (IntKind.wrap IntKind.i64 (16 + MD.a m % 4081)) 600))) 2)) (bop (Nat.beq i 3) (IntKind.wrap IntKind.i64 (Int.tdiv (IntKind.wrap IntKind.i64 (0 - max 64 (IntKind.wrap IntKind.i64 (16 + Int.tmod (IntKind.wrap IntKind.i64 (16 + MD.a m % 4081)) 600)))) 2)) (bop (Nat.beq i 4) (IntKind.wrap IntKind.i64 (0 - max 64 (IntKind.wrap IntKind.i64 (16 + Int.tmod (IntKind.wrap IntKind.i64 (16 + MD.a m % 4081)) 600)))) (bop (Nat.beq i 5) (IntKind.wrap IntKind.i64 (0 - max 64 (IntKind.wrap IntKind.i64 (16 + Int.tmod (IntKind.wrap IntKind.i64 (16 + MD.a m % 4081)) 600)))) (bop (Nat.beq i 6) (IntKind.wrap IntKind.i64 (Int.tdiv (IntKind.wrap IntKind.i64 (0 - max 64 (IntKind.wrap IntKind.i64 (16 + Int.tmod (IntKind.wrap IntKind.i64 (16 + MD.a m % 4081)) 600)))) 2)) (IntKind.wrap IntKind.i64 (Int.tdiv (max 64 (IntKind.wrap IntKind.i64 (16 + Int.tmod (IntKind.wrap IntKind.i64 (16 + MD.a m % 4081)) 600))) 2)))))))))),(yI (bop (Nat.beq i 0) (IntKind.wrap IntKind.i64 (Int.tdiv (IntKind.wrap IntKind.i64 (0 - max 64 (IntKind.wrap IntKind.i64 (16 + Int.tmod (IntKind.wrap IntKind.i64 (16 + MD.a m % 4081)) 600)))) 2)) (bop (Nat.beq i 1) (IntKind.wrap IntKind.i64 (Int.tdiv (max 64 (IntKind.wrap IntKind.i64 (16 + Int.tmod (IntKind.wrap IntKind.i64 (16 + MD.a m % 4081)) 600))) 2)) (bop (Nat.beq i 2) (max 64 (IntKind.wrap IntKind.i64 (16 + Int.tmod (IntKind.wrap IntKind.i64 (16 + MD.a m % 4081)) 600))) (bop (Nat.beq i 3) (max 64 (IntKind.wrap IntKind.i64 (16 + Int.tmod (IntKind.wrap IntKind.i64 (16 + MD.a m % 4081)) 600))) (bop (Nat.beq i 4) (IntKind.wrap IntKind.i64 (Int.tdiv (max 64 (IntKind.wrap IntKind.i64 (16 + Int.tmod (IntKind.wrap IntKind.i64 (16 + MD.a m % 4081)) 600))) 2)) (bop (Nat.beq i 5) (IntKind.wrap IntKind.i64 (Int.tdiv (IntKind.wrap IntKind.i64 (0 - max 64 (IntKind.wrap IntKind.i64 (16 + Int.tmod (IntKind.wrap IntKind.i64 (16 + MD.a m % 4081)) 600)))) 2)) (bop (Nat.beq i 6) (IntKind.wrap IntKind.i64 (0 - max 64 (IntKind.wrap IntKind.i64 (16 + Int.tmod (IntKind.wrap IntKind.i64 (16 + MD.a m % 4081)) 600)))) (IntKind.wrap IntKind.i64 (0 - max 64 (IntKind.wrap IntKind.i64 (16 + Int.tmod (IntKind.wrap IntKind.i64 (16 + MD.a m % 4081)) 600))))))))))))] = [(yI (Prod.fst (ksG m i))),(yI (Prod.snd (ksG m i)))])))))))))))) (((I64 (MD.k m))∧(((0 : Int) < 5)∧(I64 5)))∧(sel (MD.k m % 5 == 0) (∃ c : Nat,((((yI 1) = (yI (ShB.k (ksS m))))∧(((yI (IntKind.wrap IntKind.i64 (16 + MD.a m % 4081))) = (yI (ShB.r (ksS m))))∧(((yI 0) = (yI (ShB.w (ksS m))))∧(((yI 0) = (yI (ShB.h (ksS m))))∧(((SV.v (Value.slice none 0 0)) = (SV.v (Value.slice none 0 0)))∧(((0 : Nat) = 0)∧((((ksN m) : Nat) = 0)∧(((ksN m + c) : Nat) = 0))))))))∧(((((ksN m) : Nat) = 0)∧((((ksN m + c) : Nat) = 0)∧True))∧True))) (sel (MD.k m % 5 == 1) (∃ c : Nat,((((yI 2) = (yI (ShB.k (ksS m))))∧(((yI 0) = (yI (ShB.r (ksS m))))∧(((yI (IntKind.wrap IntKind.i64 (16 + MD.a m % 4081))) = (yI (ShB.w (ksS m))))∧(((yI (IntKind.wrap IntKind.i64 (16 + MD.b m % 4081))) = (yI (ShB.h (ksS m))))∧(((SV.v (Value.slice none 0 0)) = (SV.v (Value.slice none 0 0)))∧(((0 : Nat) = 0)∧((((ksN m) : Nat) = 0)∧(((ksN m + c) : Nat) = 0))))))))∧(((((ksN m) : Nat) = 0)∧((((ksN m + c) : Nat) = 0)∧True))∧True))) (sel (MD.k m % 5 == 2) (∃ c : Nat,((((yI 3) = (yI (ShB.k (ksS m))))∧(((yI 0) = (yI (ShB.r (ksS m))))∧(((yI 0) = (yI (ShB.w (ksS m))))∧(((yI 0) = (yI (ShB.h (ksS m))))∧((SV.sl 464 2 0 3 3) = (SV.sl 464 2 0 (ksN m) (ksN m + c)))))))∧(((3 : Nat) = (ksN m))∧((((ksN m + c) : Nat) ≤ 3)∧(∀ i : Nat,(((i : Nat) < (ksN m))→([(yI (bop (Nat.beq i 0) (IntKind.wrap IntKind.i64 (0 - max 64 (IntKind.wrap IntKind.i64 (16 + MD.a m % 4081)))) (bop (Nat.beq i 1) (max 64 (IntKind.wrap IntKind.i64 (16 + MD.a m % 4081))) 0))),(yI (bop (Nat.beq i 0) (IntKind.wrap IntKind.i64 (0 - max 64 (IntKind.wrap IntKind.i64 (16 + MD.b m % 4081)))) (bop (Nat.beq i 1) (IntKind.wrap IntKind.i64 (0 - max 64 (IntKind.wrap IntKind.i64 (16 + MD.b m % 4081)))) (max 64 (IntKind.wrap IntKind.i64 (16 + MD.b m % 4081))))))] = [(yI (Prod.fst (ksG m i))),(yI (Prod.snd (ksG m i)))]))))))) (sel (MD.k m % 5 == 3) (∃ c : Nat,((((yI 3) = (yI (ShB.k (ksS m))))∧(((yI 0) = (yI (ShB.r (ksS m))))∧(((yI 0) = (yI (ShB.w (ksS m))))∧(((yI 0) = (yI (ShB.h (ksS m))))∧((SV.sl 536 2 0 5 5) = (SV.sl 536 2 0 (ksN m) (ksN m + c)))))))∧(((5 : Nat) = (ksN m))∧((((ksN m + c) : Nat) ≤ 5)∧(∀ i : Nat,(((i : Nat) < (ksN m))→([(yI (bop (Nat.beq i 0) (IntKind.wrap IntKind.i64 (Int.tdiv (IntKind.wrap IntKind.i64 (0 - max 64 (IntKind.wrap IntKind.i64 (16 + MD.a m % 4081)))) 2)) (bop (Nat.beq i 1) (IntKind.wrap IntKind.i64 (Int.tdiv (max 64 (IntKind.wrap IntKind.i64 (16 + MD.a m % 4081))) 2)) (bop (Nat.beq i 2) (max 64 (IntKind.wrap IntKind.i64 (16 + MD.a m % 4081))) (bop (Nat.beq i 3) 0 (IntKind.wrap IntKind.i64 (0 - max 64 (IntKind.wrap IntKind.i64 (16 + MD.a m % 4081))))))))),(yI (bop (Nat.beq i 0) (IntKind.wrap IntKind.i64 (0 - max 64 (IntKind.wrap IntKind.i64 (16 + MD.b m % 4081)))) (bop (Nat.beq i 1) (IntKind.wrap IntKind.i64 (0 - max 64 (IntKind.wrap IntKind.i64 (16 + MD.b m % 4081)))) (bop (Nat.beq i 2) 0 (bop (Nat.beq i 3) (max 64 (IntKind.wrap IntKind.i64 (16 + MD.b m % 4081))) 0)))))] = [(yI (Prod.fst (ksG m i))),(yI (Prod.snd (ksG m i)))]))))))) (∃ c : Nat,((((yI 3) = (yI (ShB.k (ksS m))))∧(((yI 0) = (yI (ShB.r (ksS m))))∧(((yI 0) = (yI (ShB.w (ksS m))))∧(((yI 0) = (yI (ShB.h (ksS m))))∧((SV.sl 1048 2 0 8 8) = (SV.sl 1048 2 0 (ksN m) (ksN m + c)))))))∧(((8 : Nat) = (ksN m))∧((((ksN m + c) : Nat) ≤ 8)∧(∀ i : Nat,(((i : Nat) < (ksN m))→([(yI (bop (Nat.beq i 0) (max 64 (IntKind.wrap IntKind.i64 (16 + MD.a m % 4081))) (bop (Nat.beq i 1) (max 64 (IntKind.wrap IntKind.i64 (16 + MD.a m % 4081))) (bop (Nat.beq i 2) (IntKind.wrap IntKind.i64 (Int.tdiv (max 64 (IntKind.wrap IntKind.i64 (16 + MD.a m % 4081))) 2)) (bop (Nat.beq i 3) (IntKind.wrap IntKind.i64 (Int.tdiv (IntKind.wrap IntKind.i64 (0 - max 64 (IntKind.wrap IntKind.i64 (16 + MD.a m % 4081)))) 2)) (bop (Nat.beq i 4) (IntKind.wrap IntKind.i64 (0 - max 64 (IntKind.wrap IntKind.i64 (16 + MD.a m % 4081)))) (bop (Nat.beq i 5) (IntKind.wrap IntKind.i64 (0 - max 64 (IntKind.wrap IntKind.i64 (16 + MD.a m % 4081)))) (bop (Nat.beq i 6) (IntKind.wrap IntKind.i64 (Int.tdiv (IntKind.wrap IntKind.i64 (0 - max 64 (IntKind.wrap IntKind.i64 (16 + MD.a m % 4081)))) 2)) (IntKind.wrap IntKind.i64 (Int.tdiv (max 64 (IntKind.wrap IntKind.i64 (16 + MD.a m % 4081))) 2)))))))))),(yI (bop (Nat.beq i 0) (IntKind.wrap IntKind.i64 (Int.tdiv (IntKind.wrap IntKind.i64 (0 - max 64 (IntKind.wrap IntKind.i64 (16 + MD.a m % 4081)))) 2)) (bop (Nat.beq i 1) (IntKind.wrap IntKind.i64 (Int.tdiv (max 64 (IntKind.wrap IntKind.i64 (16 + MD.a m % 4081))) 2)) (bop (Nat.beq i 2) (max 64 (IntKind.wrap IntKind.i64 (16 + MD.a m % 4081))) (bop (Nat.beq i 3) (max 64 (IntKind.wrap IntKind.i64 (16 + MD.a m % 4081))) (bop (Nat.beq i 4) (IntKind.wrap IntKind.i64 (Int.tdiv (max 64 (IntKind.wrap IntKind.i64 (16 + MD.a m % 4081))) 2)) (bop (Nat.beq i 5) (IntKind.wrap IntKind.i64 (Int.tdiv (IntKind.wrap IntKind.i64 (0 - max 64 (IntKind.wrap IntKind.i64 (16 + MD.a m % 4081)))) 2)) (bop (Nat.beq i 6) (IntKind.wrap IntKind.i64 (0 - max 64 (IntKind.wrap IntKind.i64 (16 + MD.a m % 4081)))) (IntKind.wrap IntKind.i64 (0 - max 64 (IntKind.wrap IntKind.i64 (16 + MD.a m % 4081))))))))))))] = [(yI (Prod.fst (ksG m i))),(yI (Prod.snd (ksG m i)))]))))))))))))))):=by kernel_rfl
theorem Q5u (s : ShB) (b : Blk) (n c : Nat) (g : Nat→Int × Int) : (Qcu Tryz.prog Qbr Qax Tryz.f146 [shS s (.sl 0 2 0 n c)] (Qaw [rdB b n g]) 64 (fun y h' => Qhf [rdB b n g] (Zis s n g) y h')) = ((((((0 + n) * 16) : Nat) ≤ 140737488355328)∧(((0 : Nat) ≤ 0)∧(∀ y : Nat,(((y : Nat) < n)→True))))∧(∀ c_1 : Nat,(∃ c_2 : Nat,((((yI (ShB.k s)) = (yI (ShB.k s)))∧(((yI (ShB.r s)) = (yI (ShB.r s)))∧(((yI (ShB.w s)) = (yI (ShB.w s)))∧(((yI (ShB.h s)) = (yI (ShB.h s)))∧((SV.sl 104 2 0 (0 + n) (0 + n + c_1)) = (SV.sl 104 2 0 n (n + c_2)))))))∧((((0 + n) : Nat) = n)∧((((n + c_2) : Nat) ≤ (0 + n + c_1))∧(∀ i : Nat,(((i : Nat) < n)→([(yI (Prod.fst (g (0 + (i - 0))))),(yI (Prod.snd (g (0 + (i - 0)))))] = [(yI (Prod.fst (g i))),(yI (Prod.snd (g i)))]))))))))):=by kernel_rfl
noncomputable def Zkd : Qb8 := Qah (Qah ΓT 102 (Qen false Zeq)) 146 (Qen false Qo1)
def Qb0 (s : ShB) (pa pr : VB) (n : Nat) (g : Nat → Int × Int) (d : Int) : BD := ⟨s, pa, pr, Qoi, ⟨0, false⟩, Qth 0 s n g d, 0, false, false, 1⟩
def Zl3 (q : Prop) (s : ShB) (pa pr : VB) (n : Nat) (g : Nat → Int × Int) (d : Int) : Eff := .nd q Nat 0 (fun c => .tup [bdS (Qb0 s pa pr n g d) (.sl 1000 2 0 n (n + c)), iV 0]) fun c => [(1000, spB n (n + c) g)]
def Zls (args : List SV) (bs : List Blk) : Option Eff := match args, bs with
 | [.agg [.v (.int .i64 k), .v (.int .i64 r), .v (.int .i64 w), .v (.int .i64 h), .sl 0 2 0 n _], .agg [.v (.int .i64 a), .v (.bool f1), .v (.int .i64 b), .v (.bool f2), .v (.int .i64 c), .v (.bool f3), .v (.int .i64 d), .v (.bool f4)], .v (.int .i64 e), .v (.bool true)], [B] => bif okB B then some (Zl3 (Qti ⟨k, r, w, h⟩ ⟨⟨a, f1⟩, ⟨b, f2⟩⟩ ⟨⟨c, f3⟩, ⟨d, f4⟩⟩ n (Qbv B) ∧ Qcs n B ∧ 1 ≤ e ∧ e ≤ 1000) ⟨k, r, w, h⟩ ⟨⟨a, f1⟩, ⟨b, f2⟩⟩ ⟨⟨c, f3⟩, ⟨d, f4⟩⟩ n (Qbv B) e) else none
 | _, _ => none
@[reducible] noncomputable def Qt5 (s : ShB) (pa : VB) (pr : VB) (d : Int) (n : Nat) (g : Nat→Int × Int) := (((SV.v (.int .i64 (NB.v (VB.x pa)))) = (SV.v (.int .i64 (NB.v (VB.x (BD.pa (Qb0 s pa pr n g d)))))))∧(((SV.v (.bool (NB.f (VB.x pa)))) = (SV.v (.bool (NB.f (VB.x (BD.pa (Qb0 s pa pr n g d)))))))∧(((SV.v (.int .i64 (NB.v (VB.y pa)))) = (SV.v (.int .i64 (NB.v (VB.y (BD.pa (Qb0 s pa pr n g d)))))))∧(((SV.v (.bool (NB.f (VB.y pa)))) = (SV.v (.bool (NB.f (VB.y (BD.pa (Qb0 s pa pr n g d)))))))∧(((SV.v (.int .i64 (NB.v (VB.x pr)))) = (SV.v (.int .i64 (NB.v (VB.x (BD.pr (Qb0 s pa pr n g d)))))))∧(((SV.v (.bool (NB.f (VB.x pr)))) = (SV.v (.bool (NB.f (VB.x (BD.pr (Qb0 s pa pr n g d)))))))∧(((SV.v (.int .i64 (NB.v (VB.y pr)))) = (SV.v (.int .i64 (NB.v (VB.y (BD.pr (Qb0 s pa pr n g d)))))))∧(((SV.v (.bool (NB.f (VB.y pr)))) = (SV.v (.bool (NB.f (VB.y (BD.pr (Qb0 s pa pr n g d)))))))∧(((SV.v (.int .i64 0)) = (SV.v (.int .i64 (NB.v (VB.x (BD.v (Qb0 s pa pr n g d)))))))∧(((SV.v (.bool false)) = (SV.v (.bool false)))∧(((SV.v (.int .i64 0)) = (SV.v (.int .i64 (NB.v (VB.y (BD.v (Qb0 s pa pr n g d)))))))∧(((SV.v (.bool false)) = (SV.v (.bool false)))∧(((SV.v (.int .i64 0)) = (SV.v (.int .i64 (NB.v (BD.w (Qb0 s pa pr n g d))))))∧(((SV.v (.bool false)) = (SV.v (.bool false)))∧(((SV.v (.int .i64 (NB.v (VB.x (Qth (Qca s n fun i => gi [SV.v (.int .i64 (Prod.fst (g (0 + i)))),SV.v (.int .i64 (Prod.snd (g (0 + i))))]) s n (fun i => gi [SV.v (.int .i64 (Prod.fst (g (0 + i)))),SV.v (.int .i64 (Prod.snd (g (0 + i))))]) d))))) = (SV.v (.int .i64 (NB.v (VB.x (BD.m (Qb0 s pa pr n g d)))))))∧(((SV.v (.bool (NB.f (VB.x (Qth (Qca s n fun i => gi [SV.v (.int .i64 (Prod.fst (g (0 + i)))),SV.v (.int .i64 (Prod.snd (g (0 + i))))]) s n (fun i => gi [SV.v (.int .i64 (Prod.fst (g (0 + i)))),SV.v (.int .i64 (Prod.snd (g (0 + i))))]) d))))) = (SV.v (.bool (NB.f (VB.x (BD.m (Qb0 s pa pr n g d)))))))∧(((SV.v (.int .i64 (NB.v (VB.y (Qth (Qca s n fun i => gi [SV.v (.int .i64 (Prod.fst (g (0 + i)))),SV.v (.int .i64 (Prod.snd (g (0 + i))))]) s n (fun i => gi [SV.v (.int .i64 (Prod.fst (g (0 + i)))),SV.v (.int .i64 (Prod.snd (g (0 + i))))]) d))))) = (SV.v (.int .i64 (NB.v (VB.y (BD.m (Qb0 s pa pr n g d)))))))∧(((SV.v (.bool (NB.f (VB.y (Qth (Qca s n fun i => gi [SV.v (.int .i64 (Prod.fst (g (0 + i)))),SV.v (.int .i64 (Prod.snd (g (0 + i))))]) s n (fun i => gi [SV.v (.int .i64 (Prod.fst (g (0 + i)))),SV.v (.int .i64 (Prod.snd (g (0 + i))))]) d))))) = (SV.v (.bool (NB.f (VB.y (BD.m (Qb0 s pa pr n g d)))))))∧(((SV.v (.int .i64 0)) = (SV.v (.int .i64 (BD.st (Qb0 s pa pr n g d)))))∧(((SV.v (.bool false)) = (SV.v (.bool false)))∧(((SV.v (.bool false)) = (SV.v (.bool false)))∧((SV.v (.int .i64 1)) = (SV.v (.int .i64 (BD.ver (Qb0 s pa pr n g d))))))))))))))))))))))))))
@[reducible] noncomputable def Qt4 (s : ShB) (pa : VB) (pr : VB) (d : Int) (n : Nat) (g : Nat→Int × Int) := (((SV.v (.int .i64 0)) = (SV.v (.int .i64 (NB.v (VB.x (BD.pa (Qb0 s pa pr n g d)))))))∧(((SV.v (.bool false)) = (SV.v (.bool (NB.f (VB.x (BD.pa (Qb0 s pa pr n g d)))))))∧(((SV.v (.int .i64 0)) = (SV.v (.int .i64 (NB.v (VB.y (BD.pa (Qb0 s pa pr n g d)))))))∧(((SV.v (.bool false)) = (SV.v (.bool (NB.f (VB.y (BD.pa (Qb0 s pa pr n g d)))))))∧(((SV.v (.int .i64 0)) = (SV.v (.int .i64 (NB.v (VB.x (BD.pr (Qb0 s pa pr n g d)))))))∧(((SV.v (.bool false)) = (SV.v (.bool (NB.f (VB.x (BD.pr (Qb0 s pa pr n g d)))))))∧(((SV.v (.int .i64 0)) = (SV.v (.int .i64 (NB.v (VB.y (BD.pr (Qb0 s pa pr n g d)))))))∧(((SV.v (.bool false)) = (SV.v (.bool (NB.f (VB.y (BD.pr (Qb0 s pa pr n g d)))))))∧(((SV.v (.int .i64 0)) = (SV.v (.int .i64 (NB.v (VB.x (BD.v (Qb0 s pa pr n g d)))))))∧(((SV.v (.bool false)) = (SV.v (.bool false)))∧(((SV.v (.int .i64 0)) = (SV.v (.int .i64 (NB.v (VB.y (BD.v (Qb0 s pa pr n g d)))))))∧(((SV.v (.bool false)) = (SV.v (.bool false)))∧(((SV.v (.int .i64 0)) = (SV.v (.int .i64 (NB.v (BD.w (Qb0 s pa pr n g d))))))∧(((SV.v (.bool false)) = (SV.v (.bool false)))∧(((SV.v (.int .i64 0)) = (SV.v (.int .i64 (NB.v (VB.x (BD.m (Qb0 s pa pr n g d)))))))∧(((SV.v (.bool false)) = (SV.v (.bool (NB.f (VB.x (BD.m (Qb0 s pa pr n g d)))))))∧(((SV.v (.int .i64 0)) = (SV.v (.int .i64 (NB.v (VB.y (BD.m (Qb0 s pa pr n g d)))))))∧(((SV.v (.bool false)) = (SV.v (.bool (NB.f (VB.y (BD.m (Qb0 s pa pr n g d)))))))∧(((SV.v (.int .i64 0)) = (SV.v (.int .i64 (BD.st (Qb0 s pa pr n g d)))))∧(((SV.v (.bool false)) = (SV.v (.bool false)))∧(((SV.v (.bool false)) = (SV.v (.bool false)))∧((SV.v (.int .i64 0)) = (SV.v (.int .i64 (BD.ver (Qb0 s pa pr n g d))))))))))))))))))))))))))
@[reducible] noncomputable def Qt3 (s : ShB) (pa : VB) (pr : VB) (d : Int) (n : Nat) (g : Nat→Int × Int) (T_ : Prop) : Prop := ((SV.v (.int .i64 (ShB.k s))) = (SV.v (.int .i64 (ShB.k (BD.s (Qb0 s pa pr n g d))))))∧(((SV.v (.int .i64 (ShB.r s))) = (SV.v (.int .i64 (ShB.r (BD.s (Qb0 s pa pr n g d))))))∧(((SV.v (.int .i64 (ShB.w s))) = (SV.v (.int .i64 (ShB.w (BD.s (Qb0 s pa pr n g d))))))∧(((SV.v (.int .i64 (ShB.h s))) = (SV.v (.int .i64 (ShB.h (BD.s (Qb0 s pa pr n g d))))))∧(T_))))
@[reducible] noncomputable def Qkq (s : ShB) (n : Nat) (g : Nat→Int × Int) := (Qca s n fun i => gi [SV.v (.int .i64 (Prod.fst (g (0 + i)))),SV.v (.int .i64 (Prod.snd (g (0 + i))))])
@[reducible] noncomputable def Qt2 (s : ShB) (pa : VB) (pr : VB) (d : Int) (n : Nat) (g : Nat→Int × Int) (T_ : Prop) : Prop := ((SV.v (.int .i64 0)) = (SV.v (.int .i64 (ShB.k (BD.s (Qb0 s pa pr n g d))))))∧(((SV.v (.int .i64 0)) = (SV.v (.int .i64 (ShB.r (BD.s (Qb0 s pa pr n g d))))))∧(((SV.v (.int .i64 0)) = (SV.v (.int .i64 (ShB.w (BD.s (Qb0 s pa pr n g d))))))∧(((SV.v (.int .i64 0)) = (SV.v (.int .i64 (ShB.h (BD.s (Qb0 s pa pr n g d))))))∧(T_))))
theorem Zkw (s : ShB) (pa pr : VB) (d : Int) (q : Prop) (B : Blk) (n c : Nat) (g : Nat→Int × Int) : (Qcu Tryz.prog Zkd Qax Tryz.f61 [shS s (.sl 0 2 0 n c),pS pa pr,iV d,bV true] (Qaw [rdB B n g]) 64 (fun y h' => Qhf [rdB B n g] (Zl3 q s pa pr n g d) y h')) =
(((Qhi s)∧((Qb5 Qon (Qak n fun y => [yI (Prod.fst (g (0 + y))),yI (Prod.snd (g (0 + y)))]))∧(((n : Nat) = n)∧((n : Nat) < 1099511627776))))∧(sel ((Qkq s n g) != 0) (∃ c_1 : Nat,(((Qt2 s pa pr d n g ((((SV.v (Value.slice none 0 0)) = (SV.v (Value.slice none 0 0)))∧(((0 : Nat) = 0)∧(((n : Nat) = 0)∧(((n + c_1) : Nat) = 0))))∧(Qt4 s pa pr d n g)))∧((yI (Qkq s n g)) = (yI 0)))∧((((n : Nat) = 0)∧((((n + c_1) : Nat) = 0)∧True))∧True))) ((((Qhi s)∧((Qb5 Qon (Qak n fun y => [yI (Prod.fst (g (0 + y))),yI (Prod.snd (g (0 + y)))]))∧(((n : Nat) = n)∧((n : Nat) < 1099511627776))))∧(I64 d))∧(sel (Qp5 (Qkq s n g) d == 0) (((Qti s pa pr n (Qbv (Qap (rdB B n g) 2 0 n)))∧(Qcs n (Qap (rdB B n g) 2 0 n)))∧(∀ c_1 : Nat,((Qcs n (Qap (rdB B n g) 2 0 n))∧(∀ c_2 : Nat,(∃ c_3 : Nat,(((Qt3 s pa pr d n g (((SV.sl 416 2 0 n (n + c_2)) = (SV.sl 416 2 0 n (n + c_3)))∧(Qt5 s pa pr d n g)))∧((yI 0) = (yI 0)))∧(((n : Nat) = n)∧((((n + c_3) : Nat) ≤ (n + c_2))∧(∀ i : Nat,(((i : Nat) < n)→([(yI (Prod.fst (Qbv (Qap (rdB B n g) 2 0 n) i))),(yI (Prod.snd (Qbv (Qap (rdB B n g) 2 0 n) i)))] = [(yI (Prod.fst (g i))),(yI (Prod.snd (g i)))]))))))))))) (sel (Qp5 (Qkq s n g) d != 0) (∃ c_1 : Nat,(((Qt2 s pa pr d n g ((((SV.v (Value.slice none 0 0)) = (SV.v (Value.slice none 0 0)))∧(((0 : Nat) = 0)∧(((n : Nat) = 0)∧(((n + c_1) : Nat) = 0))))∧(Qt4 s pa pr d n g)))∧((yI (Qp5 (Qkq s n g) d)) = (yI 0)))∧((((n : Nat) = 0)∧((((n + c_1) : Nat) = 0)∧True))∧True))) ((Qcs n (Qap (rdB B n g) 2 0 n))∧(∀ c_1 : Nat,(∃ c_2 : Nat,(((Qt3 s pa pr d n g (((SV.sl 416 2 0 n (n + c_1)) = (SV.sl 416 2 0 n (n + c_2)))∧(Qt5 s pa pr d n g)))∧((yI 0) = (yI 0)))∧(((n : Nat) = n)∧((((n + c_2) : Nat) ≤ (n + c_1))∧(∀ i : Nat,(((i : Nat) < n)→([(yI (Prod.fst (Qbv (Qap (rdB B n g) 2 0 n) i))),(yI (Prod.snd (Qbv (Qap (rdB B n g) 2 0 n) i)))] = [(yI (Prod.fst (g i))),(yI (Prod.snd (g i)))])))))))))))))) := by kernel_rfl
theorem Qqz (n : Int) {s m : Int} (hm : IntKind.i64.wrap (s * 4294967296) = m) (h0 : 0 < m) : -m < (Qd0 n s).v ∧ (Qd0 n s).v < m := by
 show -m < Int.tmod n (IntKind.i64.wrap (s * 4294967296)) ∧ Int.tmod n (IntKind.i64.wrap (s * 4294967296)) < m
 rw [hm]
 have h := Int.natAbs_tmod n m
 have h1 : n.natAbs % m.natAbs < m.natAbs := Nat.mod_lt _ (by omega)
 omega
theorem Zic (n : Int) {s m : Int} (hm : IntKind.i64.wrap (s * 4294967296) = m) (h0 : 0 < m) (h1 : m < 9223372036854775807) : I64 (Qd0 n s).v := by
 have := Qqz n hm h0
 exact ⟨by omega, by omega⟩
theorem Q4f : Qai Tryz.prog 23 Zcf := Qao hm Qzv Tryz.func23 (Λ := fun _ => Qax) fun args p x h hp => by
 unfold Zcf at h
 split at h <;> try (cases h; done)
 rename_i k a b x y w s
 cases h
 have h1 : 0 < s ∧ s < 1073741824 := hp _ rfl
 exact ⟨rfl, rfl, Eq.mpr (Zgc ⟨k, a, b, x, y, w⟩ s _) ⟨h1, h1, ⟨by decide, by decide⟩, Zic w (m := 34359738368) (by rfl) (by decide) (by decide), rfl⟩⟩
theorem Qvi : Qdl Tryz.prog 146 Qo1 := Qc0 hm Qa0 Tryz.func146 (Λ := fun _ _ => Qax) fun args bs e hs hp => by
 unfold Qo1 at hs
 split at hs <;> try (cases hs; done)
 rename_i k r w hh n c b
 obtain ⟨hb, he⟩ := Qev hs
 subst he
 have hpre : Qcs n b := hp
 obtain ⟨hn, hg⟩ := Qg9 hpre
 refine ⟨[rdB b n (Qbv b)], ⟨Qe6 hb hpre, trivial⟩, ?_⟩
 refine Eq.mpr (Q5u ⟨k, r, w, hh⟩ b n c (Qbv b)) ?_
 rw [Nat.zero_add]
 exact ⟨⟨by omega, Nat.le_refl _, fun _ _ => trivial⟩, fun c1 => ⟨c1, ⟨rfl, rfl, rfl, rfl, rfl⟩, rfl, Nat.le_refl _, fun i _ => by show [SV.v (.int .i64 (Qbv b (0 + i)).1), SV.v (.int .i64 (Qbv b (0 + i)).2)] = _; rw [Nat.zero_add]⟩⟩
theorem w16 (x : Int) : IntKind.i64.wrap (16 + x % 4081) = 16 + x % 4081 := Qaf ⟨by omega, by omega⟩
theorem w600 (x : Int) : IntKind.i64.wrap (16 + Int.tmod (16 + x % 4081) 600) = 16 + (16 + x % 4081) % 600 := by
 rw [Int.tmod_eq_emod_of_nonneg (by omega), Qaf ⟨by omega, by omega⟩]
theorem wK {K : Int} (h : 64 ≤ K ∧ K ≤ 4096) : IntKind.i64.wrap (0 - K) = -K := by rw [Qaf ⟨by omega, by omega⟩]; omega
theorem wK2 {K : Int} (h : 64 ≤ K ∧ K ≤ 4096) : IntKind.i64.wrap (Int.tdiv K 2) = K / 2 := by
 rw [Int.tdiv_eq_ediv_of_nonneg (by omega), Qaf ⟨by omega, by omega⟩]
theorem wK3 {K : Int} (h : 64 ≤ K ∧ K ≤ 4096) : IntKind.i64.wrap (Int.tdiv (-K) 2) = -(K / 2) := by
 rw [Int.neg_tdiv, Int.tdiv_eq_ediv_of_nonneg (by omega), Qaf ⟨by omega, by omega⟩]
theorem Qo9 (t : Bool) (x : Int) : 16 ≤ ksZ t x ∧ ksZ t x ≤ 4096 := by
 unfold ksZ; cases t <;> simp only [cond_true, cond_false] <;> omega
theorem Zi3 {m : MD} {q : Prop} (h : mdI m) : Qcu Tryz.prog ΓG Qax Tryz.f22 [mdS m] (Qaw []) 64 (fun y h' => Qhf [] (ksE q m) y h') := by
 obtain ⟨hk, ha, hb, -⟩ := h
 have m4081 : (0 : Int) < 4081 ∧ I64 4081 := ⟨by decide, by decide, by decide⟩
 refine Eq.mpr (Zko m q) ⟨⟨ha, m4081⟩, ⟨hb, m4081⟩, ?_⟩
 rw [w16, w16]
 have hXA : ksX m.a m.a = ksZ (ksB m.a) m.a := rfl
 have hXB : ksX m.a m.b = ksZ (ksB m.a) m.b := rfl
 refine Qad (fun hs => ⟨⟨hk, by decide, by decide, by decide⟩, ?_⟩) fun hs => ⟨⟨hk, by decide, by decide, by decide⟩, ?_⟩
 · have hB : ksB m.a = false := by unfold ksB; simpa using hs
   rw [w600, w600, show 16 + (16 + m.a % 4081) % 600 = ksX m.a m.a from by rw [hXA, hB]; rfl, show 16 + (16 + m.b % 4081) % 600 = ksX m.a m.b from by rw [hXB, hB]; rfl]
   have hKA : 64 ≤ ksM m.a m.a ∧ ksM m.a m.a ≤ 4096 := by have := Qo9 (ksB m.a) m.a; unfold ksM; rw [hXA]; omega
   have hKB : 64 ≤ ksM m.a m.b ∧ ksM m.a m.b ≤ 4096 := by have := Qo9 (ksB m.a) m.b; unfold ksM; rw [hXB]; omega
   rw [show max 64 (ksX m.a m.a) = ksM m.a m.a from rfl, show max 64 (ksX m.a m.b) = ksM m.a m.b from rfl, wK hKA, wK hKB, wK2 hKA, wK3 hKA]
   refine Qad (fun h0 => ?_) fun h0 => Qad (fun h1 => ?_) fun h1 => Qad (fun h2 => ?_) fun h2 => Qad (fun h3 => ?_) fun h3 => ?_
   · have hS : ksS m = ⟨1, ksX m.a m.a, 0, 0⟩ := by unfold ksS; rw [h0]; rfl
     have hN : ksN m = 0 := by unfold ksN; rw [h0]; rfl
     rw [hS, hN]
     exact ⟨0, ⟨rfl, rfl, rfl, rfl, rfl, rfl, rfl, rfl⟩, ⟨rfl, rfl, trivial⟩, trivial⟩
   · have hS : ksS m = ⟨2, 0, ksX m.a m.a, ksX m.a m.b⟩ := by unfold ksS; rw [h0, h1]; rfl
     have hN : ksN m = 0 := by unfold ksN; rw [h0, h1]; rfl
     rw [hS, hN]
     exact ⟨0, ⟨rfl, rfl, rfl, rfl, rfl, rfl, rfl, rfl⟩, ⟨rfl, rfl, trivial⟩, trivial⟩
   · have hS : ksS m = ⟨3, 0, 0, 0⟩ := by unfold ksS; rw [h0, h1]; rfl
     have hN : ksN m = 3 := by unfold ksN; rw [h0, h1, h2]; rfl
     have hG : ksG m = G3 (ksM m.a m.a) (ksM m.a m.b) := by unfold ksG; rw [h2]; rfl
     rw [hS, hN, hG]
     refine ⟨0, ⟨rfl, rfl, rfl, rfl, rfl⟩, rfl, Nat.le_refl _, fun i hi => ?_⟩
     obtain rfl | rfl | rfl : i = 0 ∨ i = 1 ∨ i = 2 := by omega
     all_goals rfl
   · have hS : ksS m = ⟨3, 0, 0, 0⟩ := by unfold ksS; rw [h0, h1]; rfl
     have hN : ksN m = 5 := by unfold ksN; rw [h0, h1, h2, h3]; rfl
     have hG : ksG m = G5 (ksM m.a m.a) (ksM m.a m.b) (ksM m.a m.a / 2) := by unfold ksG; rw [h2, h3]; rfl
     rw [hS, hN, hG]
     refine ⟨0, ⟨rfl, rfl, rfl, rfl, rfl⟩, rfl, Nat.le_refl _, fun i hi => ?_⟩
     obtain rfl | rfl | rfl | rfl | rfl : i = 0 ∨ i = 1 ∨ i = 2 ∨ i = 3 ∨ i = 4 := by omega
     all_goals rfl
   · have hS : ksS m = ⟨3, 0, 0, 0⟩ := by unfold ksS; rw [h0, h1]; rfl
     have hN : ksN m = 8 := by unfold ksN; rw [h0, h1, h2, h3]; rfl
     have hG : ksG m = G8 (ksM m.a m.a) (ksM m.a m.a / 2) := by unfold ksG; rw [h2, h3]; rfl
     rw [hS, hN, hG]
     refine ⟨0, ⟨rfl, rfl, rfl, rfl, rfl⟩, rfl, Nat.le_refl _, fun i hi => ?_⟩
     obtain rfl | rfl | rfl | rfl | rfl | rfl | rfl | rfl : i = 0 ∨ i = 1 ∨ i = 2 ∨ i = 3 ∨ i = 4 ∨ i = 5 ∨ i = 6 ∨ i = 7 := by omega
     all_goals rfl
 · have hB : ksB m.a = true := by unfold ksB; simpa using hs
   rw [show 16 + m.a % 4081 = ksX m.a m.a from by rw [hXA, hB]; rfl, show 16 + m.b % 4081 = ksX m.a m.b from by rw [hXB, hB]; rfl]
   have hKA : 64 ≤ ksM m.a m.a ∧ ksM m.a m.a ≤ 4096 := by have := Qo9 (ksB m.a) m.a; unfold ksM; rw [hXA]; omega
   have hKB : 64 ≤ ksM m.a m.b ∧ ksM m.a m.b ≤ 4096 := by have := Qo9 (ksB m.a) m.b; unfold ksM; rw [hXB]; omega
   rw [show max 64 (ksX m.a m.a) = ksM m.a m.a from rfl, show max 64 (ksX m.a m.b) = ksM m.a m.b from rfl, wK hKA, wK hKB, wK2 hKA, wK3 hKA]
   refine Qad (fun h0 => ?_) fun h0 => Qad (fun h1 => ?_) fun h1 => Qad (fun h2 => ?_) fun h2 => Qad (fun h3 => ?_) fun h3 => ?_
   · have hS : ksS m = ⟨1, ksX m.a m.a, 0, 0⟩ := by unfold ksS; rw [h0]; rfl
     have hN : ksN m = 0 := by unfold ksN; rw [h0]; rfl
     rw [hS, hN]
     exact ⟨0, ⟨rfl, rfl, rfl, rfl, rfl, rfl, rfl, rfl⟩, ⟨rfl, rfl, trivial⟩, trivial⟩
   · have hS : ksS m = ⟨2, 0, ksX m.a m.a, ksX m.a m.b⟩ := by unfold ksS; rw [h0, h1]; rfl
     have hN : ksN m = 0 := by unfold ksN; rw [h0, h1]; rfl
     rw [hS, hN]
     exact ⟨0, ⟨rfl, rfl, rfl, rfl, rfl, rfl, rfl, rfl⟩, ⟨rfl, rfl, trivial⟩, trivial⟩
   · have hS : ksS m = ⟨3, 0, 0, 0⟩ := by unfold ksS; rw [h0, h1]; rfl
     have hN : ksN m = 3 := by unfold ksN; rw [h0, h1, h2]; rfl
     have hG : ksG m = G3 (ksM m.a m.a) (ksM m.a m.b) := by unfold ksG; rw [h2]; rfl
     rw [hS, hN, hG]
     refine ⟨0, ⟨rfl, rfl, rfl, rfl, rfl⟩, rfl, Nat.le_refl _, fun i hi => ?_⟩
     obtain rfl | rfl | rfl : i = 0 ∨ i = 1 ∨ i = 2 := by omega
     all_goals rfl
   · have hS : ksS m = ⟨3, 0, 0, 0⟩ := by unfold ksS; rw [h0, h1]; rfl
     have hN : ksN m = 5 := by unfold ksN; rw [h0, h1, h2, h3]; rfl
     have hG : ksG m = G5 (ksM m.a m.a) (ksM m.a m.b) (ksM m.a m.a / 2) := by unfold ksG; rw [h2, h3]; rfl
     rw [hS, hN, hG]
     refine ⟨0, ⟨rfl, rfl, rfl, rfl, rfl⟩, rfl, Nat.le_refl _, fun i hi => ?_⟩
     obtain rfl | rfl | rfl | rfl | rfl : i = 0 ∨ i = 1 ∨ i = 2 ∨ i = 3 ∨ i = 4 := by omega
     all_goals rfl
   · have hS : ksS m = ⟨3, 0, 0, 0⟩ := by unfold ksS; rw [h0, h1]; rfl
     have hN : ksN m = 8 := by unfold ksN; rw [h0, h1, h2, h3]; rfl
     have hG : ksG m = G8 (ksM m.a m.a) (ksM m.a m.a / 2) := by unfold ksG; rw [h2, h3]; rfl
     rw [hS, hN, hG]
     refine ⟨0, ⟨rfl, rfl, rfl, rfl, rfl⟩, rfl, Nat.le_refl _, fun i hi => ?_⟩
     obtain rfl | rfl | rfl | rfl | rfl | rfl | rfl | rfl : i = 0 ∨ i = 1 ∨ i = 2 ∨ i = 3 ∨ i = 4 ∨ i = 5 ∨ i = 6 ∨ i = 7 := by omega
     all_goals rfl
theorem Q7x : Qdl Tryz.prog 22 Zlo := Qc0 hm Qzv Tryz.func22 (Λ := fun _ _ => Qax) fun args bs e hs hp => by
 unfold Zlo at hs
 split at hs <;> try (cases hs; done)
 rename_i k a b x y w
 cases hs
 exact ⟨[], trivial, Zi3 (m := ⟨k, a, b, x, y, w⟩) hp⟩
theorem Zau : ∀ f g, Zkd f = some g → g.ok Tryz.prog f := Qab (Qab Qhm (Qfa Tryz.func102 (by kernel_rfl) (by kernel_rfl) Q36)) (Qfa Tryz.func146 (by kernel_rfl) (by kernel_rfl) Qvi)
theorem Qz4 {d : Int} (h : 1 ≤ d ∧ d ≤ 1000) : Qp5 0 d = 0 := by
 unfold Qp5
 rw [decide_eq_false (p := d < 1) (by omega), decide_eq_false (p := d > 1000) (by omega)]; rfl
theorem Zi7 {s : ShB} {pa pr : VB} {d : Int} {q : Prop} {B : Blk} {n c : Nat} {g : Nat → Int × Int} (h : Qti s pa pr n g) (hd : 1 ≤ d ∧ d ≤ 1000) (hn : n < 1099511627776) (hg : ∀ i, i < n → I64 (g i).1 ∧ I64 (g i).2) : Qcu Tryz.prog Zkd Qax Tryz.f61 [shS s (.sl 0 2 0 n c), pS pa pr, iV d, bV true] (Qaw [rdB B n g]) 64 (fun y h' => Qhf [rdB B n g] (Zl3 q s pa pr n g d) y h') := by
 have hc : Qca s n g = 0 := h.2.2.2.1
 have hs : Qhi s := h.1
 have h_vc := Zkw s pa pr d q B n c g
 repeat (first | unfold Qt2 at h_vc | unfold Qkq at h_vc | unfold Qt3 at h_vc | unfold Qt4 at h_vc | unfold Qt5 at h_vc)
 refine Eq.mpr h_vc ?_
 rw [Qg1, Qgs, hc, Qz4 hd]
 have hr : Qb5 Qon (Qak n fun y => [SV.v (.int .i64 (g (0 + y)).1), SV.v (.int .i64 (g (0 + y)).2)]) := okAll_rows.2 fun i hi => (by rw [Nat.zero_add]; exact hg i hi)
 refine ⟨⟨hs, hr, rfl, hn⟩, sF rfl ⟨⟨⟨hs, hr, rfl, hn⟩, ⟨by omega, by omega⟩⟩, sT rfl ⟨⟨h, Qj1 hn hg⟩, fun c1 => ⟨Qj1 hn hg, fun c2 => ⟨c2, ⟨?_, rfl⟩, rfl, Nat.le_refl _, fun i hi => rfl⟩⟩⟩⟩⟩
 exact ⟨rfl, rfl, rfl, rfl, rfl, rfl, rfl, rfl, rfl, rfl, rfl, rfl, rfl, rfl, rfl, rfl, rfl, rfl, rfl, rfl, rfl, rfl, rfl, rfl, rfl, rfl, rfl⟩
theorem Q76 : Qdl Tryz.prog 61 Zls := Qc0 hm Zau Tryz.func61 (Λ := fun _ _ => Qax) fun args bs e hs hp => by
 unfold Zls at hs
 split at hs <;> try (cases hs; done)
 rename_i k r w h n cp a f1 b f2 c f3 d f4 e B
 obtain ⟨hB, he⟩ := Qev hs
 subst he
 obtain ⟨hq, hpre, hd⟩ : Qti _ _ _ n (Qbv B) ∧ Qcs n B ∧ 1 ≤ e ∧ e ≤ 1000 := hp
 obtain ⟨hn, hg⟩ := Qg9 hpre
 exact ⟨[rdB B n (Qbv B)], ⟨Qe6 hB hpre, trivial⟩, Zi7 (s := ⟨k, r, w, h⟩) (pa := ⟨⟨a, f1⟩, ⟨b, f2⟩⟩) (pr := ⟨⟨c, f3⟩, ⟨d, f4⟩⟩) hq hd hn hg⟩
def bL (l : List Int) (c : Nat) : Blk := { elem := 5, size := 1, rw := true, lock := false, lit := false, flat := true, n := l.length, row := fun i => [.v (.int .u8 (l.getD i 0))], ext := c }
def bOk (b : Blk) : Bool := Nat.beq b.elem 5 && Nat.beq b.size 1 && b.rw && !b.dead && b.flat && !b.whole
def Zl2 : SV := .v (.slice none 0 0)
def buB (fl : Bool) (a b : SV) : Blk := { elem := 169, size := 2, rw := true, lock := false, lit := true, flat := fl, n := 1, row := fun _ => [a, b], ext := 1, whole := true }
def Q90 (fl : Bool) (b : Blk) : Bool := Nat.beq b.elem 169 && Nat.beq b.size 2 && b.rw && !b.dead && Nat.beq b.n 1 && Nat.beq b.ext 1 && b.whole && (b.flat == fl)
inductive BuS where
 | fresh
 | used (l : List Int) (c : Nat) (p : Prop)
def Qco (n c : Nat) (D : Blk) : Prop := D.n = n ∧ D.ext = c ∧ n < 70368744177664 ∧ ∀ i, i < n → Qh2 (D.row i)
def Q7p : List Blk → Option BuS
 | [B] => match B.row 0 with
   | [.v (.pointer none), .v (.slice none 0 0)] => bif Q90 true B then some .fresh else none
   | _ => none
 | [B, D] => match B.row 0 with
   | [.vp 0 0, .sl 1 1 0 n c] => bif Q90 false B && bOk D then some (.used (Qan n D.row) c (Qco n c D)) else none
   | _ => none
 | _ => none
def usB (n c : Nat) : Blk := buB false (.vp 0 0) (.sl 1 1 0 n c)
def Q6z (n c : Nat) : Blk := buB false (.vp 0 0) (.sl 1000 1 0 n c)
def idCtr : Ctr := { writes := false, run := fun args _ _ => match args with | [x] => some (.det none x []) | _ => none }
def Q1p (args : List SV) (bs : List Blk) : Option Eff := match args with
 | [.vp 0 0] => match Q7p bs with
   | some .fresh => some (.det none (.tup []) [(0, buB false (.vp 0 0) Zl2)])
   | some (.used l c p) => some (.det (some p) (.tup []) [(0, usB l.length c), (1, bL l c)])
   | none => none
 | _ => none
def Q09 (args : List SV) (bs : List Blk) : Option Eff := match args with
 | [.vp 0 0, .v (.int .u8 x)] => match Q7p bs with
   | some .fresh => some (.nd True Nat 0 (fun _ => .v .nilIface) fun c' => [(0, Q6z 1 (1 + c')), (1000, bL [x] (1 + c'))])
   | some (.used l c p) => some (.nd p Nat 0 (fun _ => .v .nilIface) fun c' => [(0, Q6z (l.length + 1) (l.length + 1 + c')), (1, Qdi (bL l c)), (1000, bL (l ++ [x]) (l.length + 1 + c'))])
   | none => none
 | _ => none
def roB (e : Nat) (l : List Int) : Blk := { elem := e, size := 1, rw := false, lock := false, lit := false, flat := true, n := l.length, row := fun i => [.v (.int .u8 (l.getD i 0))], ext := 0 }
def Zey (S : Blk) : Bool := S.flat && !S.rw && !S.dead && Nat.beq S.size 1 && Nat.beq S.ext 0 && !S.whole
def Q06 (args : List SV) (bs : List Blk) : Option Eff := match args, bs with
 | [.vp 0 0, .sl 1 1 0 m _], [B, S] => match Q7p [B] with
   | some .fresh => bif Zey S then some (.nd (S.n = m ∧ 0 < m ∧ m < 70368744177664 ∧ ∀ i, i < m → Qh2 (S.row i)) Nat 0 (fun _ => .tup [.v (.int .i64 m), .v .nilIface]) fun c' => [(0, Q6z m (m + c')), (1000, bL (Qan m S.row) (m + c'))]) else none
   | _ => none
 | [.vp 0 0, .sl 2 1 0 m _], [B, D, S] => match Q7p [B, D] with
   | some (.used l c p) => bif Zey S then some (.nd (p ∧ S.n = m ∧ m < 70368744177664 ∧ ∀ i, i < m → Qh2 (S.row i)) Nat 0 (fun _ => .tup [.v (.int .i64 m), .v .nilIface]) fun c' => [(0, Q6z (l.length + m) (l.length + m + c')), (1, Qdi (bL l c)), (1000, bL (l ++ Qan m S.row) (l.length + m + c'))]) else none
   | _ => none
 | _, _ => none
def Quf (args : List SV) (bs : List Blk) : Option Eff := match args with
 | [.vp 0 0] => match Q7p bs with
   | some (.used l c p) => some (.det (some (p ∧ 0 < l.length ∧ l.length ≤ c)) (.v (.string (strOfNums l))) [(0, usB l.length c), (1, Qdi (bL l c))])
   | _ => none
 | _ => none
def Zfj : Qb8 := Qah ΓC 232 idCtr
def Zej : Qb8 := Qah Zfj 160 (Qen true Q1p)
def ΓT2 : Qb8 := Qah (Qah (Qah Zej 83 (Qen true Q09)) 84 (Qen true Q06)) 86 (Qen true Quf)
def fB : Blk := buB true (.v (.pointer none)) Zl2
theorem Q54 : (Qcu Tryz.prog Zfj Qax Tryz.f160 [.vp 0 0] (Qaw [fB]) 64 (fun y h' => Qhf [fB] (.det none (.tup []) [(0,buB false (.vp 0 0) Zl2)]) y h')) = (True∧(((1 : Nat) = 1)∧(((1 : Nat) ≤ 1)∧(((SV.vp 0 0) = (SV.vp 0 0))∧((SV.v (Value.slice none 0 0)) = (SV.v (Value.slice none 0 0))))))):=by kernel_rfl
theorem Q53 (c : Nat) (l : List Int) : (Qcu Tryz.prog Zfj Qax Tryz.f160 [.vp 0 0] (Qaw [usB l.length c,bL l c]) 64 (fun y h' => Qhf [usB l.length c,bL l c] (.det none (.tup []) [(0,usB l.length c),(1,bL l c)]) y h')) = (True∧((((1 : Nat) = 1)∧(((1 : Nat) ≤ 1)∧(((SV.vp 0 0) = (SV.vp 0 0))∧((SV.sl 1 1 0 (List.length l) c) = (SV.sl 1 1 0 (List.length l) c)))))∧((((List.length l) : Nat) = (List.length l))∧(((c : Nat) ≤ c)∧(∀ i : Nat,(((i : Nat) < (List.length l))→([(yU (List.getD l i 0))] = [(yU (List.getD l i 0))]))))))):=by kernel_rfl
theorem Q5i (x : Int) : (Qcu Tryz.prog Zej Qax Tryz.f83 [.vp 0 0,.v (.int .u8 x)] (Qaw [fB]) 64 (fun y h' => Qhf [fB] (.nd True Nat 0 (fun _ => .v .nilIface) fun c' => [(0,Q6z 1 (1 + c')),(1000,bL [x] (1 + c'))]) y h')) = (((1 : Nat) ≤ 140737488355328)∧(∀ c : Nat,(∃ c_1 : Nat,(((SV.v Value.nilIface) = (SV.v Value.nilIface))∧((((1 : Nat) = 1)∧(((1 : Nat) ≤ 1)∧(((SV.vp 0 0) = (SV.vp 0 0))∧((SV.sl 144 1 0 1 (1 + c)) = (SV.sl 144 1 0 1 (1 + c_1))))))∧(((1 : Nat) = (List.length [x]))∧((((1 + c_1) : Nat) ≤ (1 + c))∧(∀ i : Nat,(((i : Nat) < (List.length [x]))→([(yU x)] = [(yU (List.getD [x] i 0))])))))))))):=by kernel_rfl
theorem Q5h (c : Nat) (l : List Int) (x : Int) : (Qcu Tryz.prog Zej Qax Tryz.f83 [.vp 0 0,.v (.int .u8 x)] (Qaw [usB l.length c,bL l c]) 64 (fun y h' => Qhf [usB l.length c,bL l c] (.nd True Nat 0 (fun _ => .v .nilIface) fun c' => [(0,Q6z (l.length + 1) (l.length + 1 + c')),(1,Qdi (bL l c)),(1000,bL (l++[x]) (l.length + 1 + c'))]) y h')) =
((Qco (List.length l) c {elem:=5,size:=1,rw:=true,lock:=false,lit:=false,flat:=true,n:=List.length l,row:=fun i => [yU (List.getD l i 0)],ext:=c})∧((((((List.length (Qan (List.length l) fun i => [yU (List.getD l i 0)]) + 1) * 1) : Nat) ≤ 140737488355328)∧((((0 + c) : Nat) ≤ c)∧(∀ y : Nat,(((y : Nat) < 1)→True))))∧(∀ c_1 : Nat,(∃ c_2 : Nat,(((SV.v Value.nilIface) = (SV.v Value.nilIface))∧((((1 : Nat) = 1)∧(((1 : Nat) ≤ 1)∧(((SV.vp 0 0) = (SV.vp 0 0))∧((SV.sl 144 1 0 (List.length (Qan (List.length l) fun i => [yU (List.getD l i 0)]) + 1) (List.length (Qan (List.length l) fun i => [yU (List.getD l i 0)]) + 1 + c_1)) = (SV.sl 144 1 0 (List.length l + 1) (List.length l + 1 + c_2))))))∧((((List.length (Qan (List.length l) fun i => [yU (List.getD l i 0)]) + 1) : Nat) = (List.length (l++[x])))∧((((List.length l + 1 + c_2) : Nat) ≤ (List.length (Qan (List.length l) fun i => [yU (List.getD l i 0)]) + 1 + c_1))∧(∀ i : Nat,(((i : Nat) < (List.length (l++[x])))→([(yU (bop (Nat.blt i (List.length (Qan (List.length l) fun i => [yU (List.getD l i 0)]))) (List.getD (Qan (List.length l) fun i => [yU (List.getD l i 0)]) (0 + i) 0) x))] = [(yU (List.getD (l++[x]) i 0))]))))))))))) := by kernel_rfl
theorem Q5g (e : Nat) (r : List Int) (c0 : Nat) : (Qcu Tryz.prog Zej Qax Tryz.f84 [.vp 0 0,.sl 1 1 0 r.length c0] (Qaw [fB,roB e r]) 64 (fun y h' => Qhf [fB,roB e r] (.nd True Nat 0 (fun _ => .tup [.v (.int .i64 r.length),.v .nilIface]) fun c' => [(0,Q6z r.length (r.length + c')),(1000,bL r (r.length + c'))]) y h')) = ((((List.length r * 1) : Nat) ≤ 140737488355328)∧(∀ c : Nat,(∃ c_1 : Nat,((((yI ((↑(List.length r) : Int))) = (yI ((↑(List.length r) : Int))))∧((SV.v Value.nilIface) = (SV.v Value.nilIface)))∧((((1 : Nat) = 1)∧(((1 : Nat) ≤ 1)∧(((SV.vp 0 0) = (SV.vp 0 0))∧((SV.sl 144 1 0 (List.length r) (List.length r + c)) = (SV.sl 144 1 0 (List.length r) (List.length r + c_1))))))∧((((List.length r) : Nat) = (List.length r))∧((((List.length r + c_1) : Nat) ≤ (List.length r + c))∧(∀ i : Nat,(((i : Nat) < (List.length r))→([(yU (List.getD r (0 + i) 0))] = [(yU (List.getD r i 0))])))))))))):=by kernel_rfl
theorem Q5f (e : Nat) (c : Nat) (l r : List Int) (c0 : Nat) : (Qcu Tryz.prog Zej Qax Tryz.f84 [.vp 0 0,.sl 2 1 0 r.length c0] (Qaw [usB l.length c,bL l c,roB e r]) 64 (fun y h' => Qhf [usB l.length c,bL l c,roB e r] (.nd True Nat 0 (fun _ => .tup [.v (.int .i64 r.length),.v .nilIface]) fun c' => [(0,Q6z (l.length + r.length) (l.length + r.length + c')),(1,Qdi (bL l c)),(1000,bL (l++r) (l.length + r.length + c'))]) y h')) = ((Qco (List.length l) c {elem:=5,size:=1,rw:=true,lock:=false,lit:=false,flat:=true,n:=List.length l,row:=fun i => [yU (List.getD l i 0)],ext:=c})∧((((((List.length (Qan (List.length l) fun i => [yU (List.getD l i 0)]) + List.length r) * 1) : Nat) ≤ 140737488355328)∧((((0 + c) : Nat) ≤ c)∧(∀ y : Nat,(((y : Nat) < (List.length r))→True))))∧(∀ c_1 : Nat,(∃ c_2 : Nat,((((yI ((↑(List.length r) : Int))) = (yI ((↑(List.length r) : Int))))∧((SV.v Value.nilIface) = (SV.v Value.nilIface)))∧((((1 : Nat) = 1)∧(((1 : Nat) ≤ 1)∧(((SV.vp 0 0) = (SV.vp 0 0))∧((SV.sl 144 1 0 (List.length (Qan (List.length l) fun i => [yU (List.getD l i 0)]) + List.length r) (List.length (Qan (List.length l) fun i => [yU (List.getD l i 0)]) + List.length r + c_1)) = (SV.sl 144 1 0 (List.length l + List.length r) (List.length l + List.length r + c_2))))))∧((((List.length (Qan (List.length l) fun i => [yU (List.getD l i 0)]) + List.length r) : Nat) = (List.length (l++r)))∧((((List.length l + List.length r + c_2) : Nat) ≤ (List.length (Qan (List.length l) fun i => [yU (List.getD l i 0)]) + List.length r + c_1))∧(∀ i : Nat,(((i : Nat) < (List.length (l++r)))→([(yU (bop (Nat.blt i (List.length (Qan (List.length l) fun i => [yU (List.getD l i 0)]))) (List.getD (Qan (List.length l) fun i => [yU (List.getD l i 0)]) (0 + i) 0) (List.getD r (0 + (i - List.length (Qan (List.length l) fun i => [yU (List.getD l i 0)]))) 0)))] = [(yU (List.getD (l++r) i 0))]))))))))))):=by kernel_rfl
theorem Q5k (c : Nat) (l : List Int) : (Qcu Tryz.prog Zfj Qax Tryz.f86 [.vp 0 0] (Qaw [usB l.length c,bL l c]) 64 (fun y h' => Qhf [usB l.length c,bL l c] (.det none (.v (.string (strOfNums l))) [(0,usB l.length c),(1,Qdi (bL l c))]) y h')) = ((((0 : Nat) < (List.length l))∧(((List.length l) : Nat) ≤ c))∧((((0 : Int) < ((↑(List.length l) : Int)))∧(((((↑(List.length l) : Int)) : Int) ≤ ((↑(List.length l) : Int)))∧(((((↑(List.length l) : Int)) : Int) ≤ 4611686018427387904)∧(∀ y : Nat,(((y : Nat) < (Int.toNat (↑(List.length l) : Int)))→True)))))∧(((SV.v (.string (Q0r (Int.toNat (↑(List.length l) : Int)) fun i => [yU (List.getD l i 0)]))) = (SV.v (.string (strOfNums l))))∧((((1 : Nat) = 1)∧(((1 : Nat) ≤ 1)∧(((SV.vp 0 0) = (SV.vp 0 0))∧((SV.sl 1 1 0 (List.length l) c) = (SV.sl 1 1 0 (List.length l) c)))))∧True)))):=by kernel_rfl
theorem Qiq (l : List Int) : (Qan l.length fun i => [SV.v (.int .u8 (l.getD i 0))]) = l := by
 apply List.ext_getElem?
 intro i
 simp only [Qan, List.getElem?_map]
 by_cases h : i < l.length
 · rw [List.getElem?_range' h]
   simp [SE.Qpp, List.getD, List.getElem?_eq_getElem h]
 · rw [List.getElem?_eq_none (by simp; omega), List.getElem?_eq_none (by omega)]
   rfl
theorem Qfz (n : Nat) (row : Nat → List SV) : (Qan n row).length = n := by simp [Qan]
theorem Qn6 {n : Nat} {row : Nat → List SV} (hb : ∀ i, i < n → Qh2 (row i)) (i : Nat) (hi : i < n) : row i = [.v (.int .u8 ((Qan n row).getD i 0))] := by
 have h3 := hb i hi
 unfold Qh2 at h3
 split at h3
 · rename_i k hk
   rw [hk]
   simp [Qan, List.getD, List.getElem?_range' hi, SE.Qpp, hk]
 · exact h3.elim
theorem Zb6 {n c : Nat} {D : Blk} (h1 : bOk D = true) (h2 : Qco n c D) : BlkSame D (bL (Qan n D.row) c) := by
 simp only [bOk, Bool.and_eq_true, Bool.not_eq_true'] at h1
 obtain ⟨⟨⟨⟨⟨a1, a2⟩, a3⟩, a4⟩, a5⟩, a6⟩ := h1
 obtain ⟨b1, b2, _, b4⟩ := h2
 exact ⟨Nat.eq_of_beq_eq_true a2, a3, a5, by rw [b1]; exact (Qfz _ _).symm, b2, a4, Nat.eq_of_beq_eq_true a1, a6, fun i hi => Qn6 b4 i (by omega)⟩
theorem Qv4 {fl : Bool} {a b : SV} {B : Blk} (h1 : Q90 fl B = true) (h2 : B.row 0 = [a, b]) : BlkSame B (buB fl a b) := by
 simp only [Q90, Bool.and_eq_true, Bool.not_eq_true', beq_iff_eq] at h1
 obtain ⟨⟨⟨⟨⟨⟨⟨a1, a2⟩, a3⟩, a4⟩, a5⟩, a6⟩, a7⟩, a8⟩ := h1
 have hn := Nat.eq_of_beq_eq_true a5
 exact ⟨Nat.eq_of_beq_eq_true a2, a3, a8, hn, Nat.eq_of_beq_eq_true a6, a4, Nat.eq_of_beq_eq_true a1, a7, fun i hi => by
   have : i = 0 := by omega
   subst this
   exact h2⟩
theorem Qli {bs : List Blk} (h : Q7p bs = some .fresh) : Qef bs [fB] := by
 unfold Q7p at h
 split at h
 · split at h <;> try (cases h; done)
   rename_i B _ hB
   cases hb : Q90 true B with
   | false => rw [hb] at h; cases h
   | true => exact ⟨Qv4 hb hB, trivial⟩
 · split at h <;> try (cases h; done)
   rename_i B D _ n c hB
   cases hb : (Q90 false B && bOk D) with
   | false => rw [hb] at h; cases h
   | true => rw [hb] at h; cases h
 · cases h
theorem Qkh {bs : List Blk} {l : List Int} {c : Nat} {p : Prop} (h : Q7p bs = some (.used l c p)) (hp : p) : Qef bs [usB l.length c, bL l c] ∧ l.length < 70368744177664 := by
 unfold Q7p at h
 split at h
 · split at h <;> try (cases h; done)
   rename_i B _ hB
   cases hb : Q90 true B with
   | false => rw [hb] at h; cases h
   | true => rw [hb] at h; cases h
 · split at h <;> try (cases h; done)
   rename_i B D _ n c' hB
   cases hb : (Q90 false B && bOk D) with
   | false => rw [hb] at h; cases h
   | true =>
     rw [hb] at h
     cases h
     rw [Bool.and_eq_true] at hb
     rw [Qfz]
     exact ⟨⟨Qv4 hb.1 hB, Zb6 hb.2 hp, trivial⟩, hp.2.2.1⟩
 · cases h
theorem Qpo (l : List Int) (c : Nat) (h : l.length < 70368744177664) : Qco l.length c { elem := 5, size := 1, rw := true, lock := false, lit := false, flat := true, n := l.length, row := fun i => [SV.v (.int .u8 (l.getD i 0))], ext := c } :=
 ⟨rfl, rfl, h, fun _ _ => trivial⟩
theorem Qwa (l r : List Int) (i : Nat) (_ : i < (l ++ r).length) : (bop (Nat.blt i l.length) (l.getD (0 + i) 0) (r.getD (0 + (i - l.length)) 0)) = (l ++ r).getD i 0 := by
 rw [Nat.zero_add, Nat.zero_add]
 by_cases h : i < l.length
 · rw [show Nat.blt i l.length = true from Nat.ble_eq_true_of_le h]
   simp [bop, List.getD, List.getElem?_append_left h]
 · have : Nat.blt i l.length = false := by
     cases hb : Nat.blt i l.length with
     | false => rfl
     | true => exact absurd (Nat.le_of_ble_eq_true hb) h
   rw [this]
   simp [bop, List.getD, List.getElem?_append_right (Nat.le_of_not_lt h)]
theorem Qv3 {S : Blk} {m : Nat} (hS : Zey S = true) (h1 : S.n = m) (h2 : ∀ i, i < m → Qh2 (S.row i)) : BlkSame S (roB S.elem (Qan m S.row)) := by
 simp only [Zey, Bool.and_eq_true, Bool.not_eq_true'] at hS
 obtain ⟨⟨⟨⟨⟨a1, a2⟩, a3⟩, a4⟩, a5⟩, a6⟩ := hS
 exact ⟨Nat.eq_of_beq_eq_true a4, a2, a1, by rw [h1]; exact (Qfz _ _).symm, Nat.eq_of_beq_eq_true a5, a3, rfl, a6, fun i hi => Qn6 h2 i (by omega)⟩
theorem Q75 : idCtr.ok Tryz.prog 232 := Ctr.ok_of (fun _ _ _ _ => rfl) fun args h base e he δ w vals ha hr hp hf => by
 show Qkk Tryz.prog δ h w e _
 simp only [idCtr] at he
 split at he <;> try (cases he; done)
 rename_i x
 cases he
 match vals, ha with
 | [r], ha =>
   simp only [Qa9, and_true] at ha
   rw [run_callFunc_extern Tryz.func232 (by kernel_rfl) (by kernel_rfl) (by kernel_rfl) (e := Extern.AbiNoEscape.same) (by kernel_rfl)]
   exact ⟨x, [], δ, ⟨rfl, rfl⟩, ha, Upd.same hr⟩
 | [], ha => simp only [Qa9] at ha
 | _ :: _ :: _, ha => simp [Qa9] at ha
theorem Qtv : ∀ f g, Zfj f = some g → g.ok Tryz.prog f := Qab Qde Q75
theorem Qzd : Qdl Tryz.prog 160 Q1p := Qc0 hm Qtv Tryz.func160 (Λ := fun _ _ => Qax) fun args bs e hs hp => by
 unfold Q1p at hs
 split at hs <;> try (cases hs; done)
 split at hs <;> try (cases hs; done)
 · rename_i hb
   cases hs
   refine ⟨_, Qli hb, ?_⟩
   rw [Q54]
   simp
 · rename_i l c p hb
   cases hs
   refine ⟨_, (Qkh hb (hp _ rfl)).1, ?_⟩
   show Qcu _ _ _ _ _ _ _ (fun y h' => Qhf [usB l.length c, bL l c] (.det none (.tup []) [(0, usB l.length c), (1, bL l c)]) y h')
   rw [Q53]
   simp
theorem Qtu : ∀ f g, Zej f = some g → g.ok Tryz.prog f := Qab Qtv (Qfa Tryz.func160 (by kernel_rfl) (by kernel_rfl) Qzd)
theorem Qym : Qdl Tryz.prog 83 Q09 := Qc0 hm Qtu Tryz.func83 (Λ := fun _ _ => Qax) fun args bs e hs hp => by
 unfold Q09 at hs
 split at hs <;> try (cases hs; done)
 rename_i x
 split at hs <;> try (cases hs; done)
 · rename_i hb
   cases hs
   refine ⟨_, Qli hb, ?_⟩
   rw [Q5i]
   refine ⟨by omega, fun c => ⟨c, rfl, ⟨rfl, Nat.le_refl _, rfl, rfl⟩, rfl, Nat.le_refl _, fun i hi => ?_⟩⟩
   have : i = 0 := by simp at hi; omega
   subst this; rfl
 · rename_i l c p hb
   cases hs
   obtain ⟨h1, h2⟩ := Qkh hb hp
   refine ⟨_, h1, ?_⟩
   show Qcu _ _ _ _ _ _ _ (fun y h' => Qhf [usB l.length c, bL l c] (.nd True Nat 0 (fun _ => .v .nilIface) fun c' => [(0, Q6z (l.length + 1) (l.length + 1 + c')), (1, Qdi (bL l c)), (1000, bL (l ++ [x]) (l.length + 1 + c'))]) y h')
   rw [Q5h, Qiq]
   refine ⟨Qpo _ _ h2, ⟨by omega, by omega, fun _ _ => trivial⟩, fun c' => ⟨c', rfl, ⟨rfl, Nat.le_refl _, rfl, rfl⟩, by simp, Nat.le_refl _, fun i hi => ?_⟩⟩
   have := Qwa l [x] i hi
   rw [← this]
   have hx : ∀ k, k = 0 → ([x] : List Int).getD (0 + k) 0 = x := fun k hk => by subst hk; rfl
   by_cases hl : i < l.length
   · rw [show Nat.blt i l.length = true from Nat.ble_eq_true_of_le hl]
     rfl
   · rw [hx (i - l.length) (by simp at hi; omega)]
theorem Qyk : Qdl Tryz.prog 84 Q06 := Qc0 hm Qtu Tryz.func84 (Λ := fun _ _ => Qax) fun args bs e hs hp => by
 unfold Q06 at hs
 split at hs <;> try (cases hs; done)
 · rename_i m c0 B S
   split at hs <;> try (cases hs; done)
   rename_i hb
   cases hS : Zey S with
   | false => rw [hS] at hs; cases hs
   | true =>
     rw [hS] at hs
     cases hs
     obtain ⟨p1, p2, p3, p4⟩ := hp
     refine ⟨[fB, roB S.elem (Qan m S.row)], ⟨(Qli hb).1, Qv3 hS p1 p4, trivial⟩, ?_⟩
     have e1 := Qfz m S.row
     have key := Q5g S.elem (Qan m S.row) c0
     rw [e1] at key
     refine Eq.mpr key ?_
     refine ⟨by omega, fun c => ⟨c, ⟨rfl, rfl⟩, ⟨rfl, Nat.le_refl _, rfl, rfl⟩, rfl, Nat.le_refl _, fun i hi => ?_⟩⟩
     rw [Nat.zero_add]
 · rename_i m c0 B D S
   split at hs <;> try (cases hs; done)
   rename_i l c p hb
   cases hS : Zey S with
   | false => rw [hS] at hs; cases hs
   | true =>
     rw [hS] at hs
     cases hs
     obtain ⟨p0, p1, p3, p4⟩ := hp
     obtain ⟨h1, h2⟩ := Qkh hb p0
     refine ⟨[usB l.length c, bL l c, roB S.elem (Qan m S.row)], ⟨h1.1, h1.2.1, Qv3 hS p1 p4, trivial⟩, ?_⟩
     have e1 := Qfz m S.row
     have key := Q5f S.elem c l (Qan m S.row) c0
     rw [Qiq, e1] at key
     refine Eq.mpr key ?_
     refine ⟨Qpo _ _ h2, ⟨by omega, by omega, fun _ _ => trivial⟩, fun c' => ⟨c', ⟨rfl, rfl⟩, ⟨rfl, Nat.le_refl _, rfl, rfl⟩, by simp [e1], Nat.le_refl _, fun i hi => ?_⟩⟩
     rw [Qwa l (Qan m S.row) i hi]
theorem Qva : Qdl Tryz.prog 86 Quf := Qc0 hm Qtv Tryz.func86 (Λ := fun _ _ => Qax) fun args bs e hs hp => by
 unfold Quf at hs
 split at hs <;> try (cases hs; done)
 split at hs <;> try (cases hs; done)
 rename_i l c p hb
 cases hs
 obtain ⟨p0, p1, p2⟩ := hp _ rfl
 obtain ⟨h1, h2⟩ := Qkh hb p0
 refine ⟨_, h1, ?_⟩
 show Qcu _ _ _ _ _ _ _ (fun y h' => Qhf [usB l.length c, bL l c] (.det none (.v (.string (strOfNums l))) [(0, usB l.length c), (1, Qdi (bL l c))]) y h')
 rw [Q5k, Qqb, Int.toNat_natCast, Qiq]
 exact ⟨⟨p1, p2⟩, ⟨by omega, Int.le_refl _, by omega, fun _ _ => trivial⟩, rfl, ⟨rfl, Nat.le_refl _, rfl, rfl⟩, trivial⟩
theorem Zar : ∀ f g, ΓT2 f = some g → g.ok Tryz.prog f := Qab (Qab (Qab Qtu (Qfa Tryz.func83 (by kernel_rfl) (by kernel_rfl) Qym)) (Qfa Tryz.func84 (by kernel_rfl) (by kernel_rfl) Qyk)) (Qfa Tryz.func86 (by kernel_rfl) (by kernel_rfl) Qva)
def Q7f : Nat → Nat → List Int
 | 0, _ => []
 | k + 1, n => if n < 10 then [48 + (n : Int)] else Q7f k (n / 10) ++ [48 + ((n % 10 : Nat) : Int)]
def Qcq (n : Nat) : List Int := Q7f 20 n
def Qhd (n k i : Nat) : Int := if 20 - k ≤ i ∧ i < 20 then 48 + ((n / 10 ^ (19 - i) % 10 : Nat) : Int) else 0
def arB (f : Nat → Int) : Blk := { elem := 0, size := 1, rw := true, lock := false, lit := false, flat := true, n := 20, row := fun i => [.v (.int .u8 (f i))] }
noncomputable def Zag (n : Nat) : Nat → Option LoopSpec := Qcp Qax Tryz.f85 0 Nat (fun k => k < 20 ∧ (k = 0 ∨ n / 10 ^ k ≠ 0)) (fun k => 20 - k) [(0, fun k => .v (.int .u64 ((n / 10 ^ k : Nat) : Int))), (4, fun k => .v (.int .i64 (20 - k))), (6, fun k => .v (.int .i64 k))] [(72, fun k => arB (Qhd n k))]
def Qqn (args : List SV) (bs : List Blk) : Option Eff := match args, bs with
 | [.v (.int .u64 n)], [] => some (.det (some (U64 n)) (.sl 1000 1 0 (Qcq n.toNat).length (Qcq n.toNat).length) [(1000, bL (Qcq n.toNat) (Qcq n.toNat).length)])
 | _, _ => none
theorem Q0f (n : Nat) : (Qcu Tryz.prog Qbr (Zag n) Tryz.f85 [.v (.int .u64 (n : Int))] (Qaw []) 64 (fun y h' => Qhf [] (.det none (.sl 1000 1 0 (Qcq n).length (Qcq n).length) [(1000,bL (Qcq n) (Qcq n).length)]) y h')) =
((∃ x : Nat,((((x : Nat) < 20)∧(x = 0 ∨ n / 10 ^ x ≠ 0))∧((((SV.v (.int .u64 ((↑n : Int)))) = (SV.v (.int .u64 ((↑(n / 10 ^ x) : Int)))))∧(((yI 20) = (yI (20 - (↑x : Int))))∧((yI 0) = (yI ((↑x : Int))))))∧(((20 : Nat) = 20)∧(((20 : Nat) ≤ 20)∧(∀ i : Nat,(((i : Nat) < 20)→([(yU 0)] = [(yU (Qhd n x i))]))))))))∧(∀ x : Nat,((((x : Nat) < 20)∧(x = 0 ∨ n / 10 ^ x ≠ 0))→(sel (decide ((↑x : Int) < 20)) ((((0 : Int) ≤ (IntKind.wrap IntKind.i64 (20 - (↑x : Int) - 1)))∧(((IntKind.wrap IntKind.i64 (20 - (↑x : Int) - 1)) : Int) < 20))∧(sel (IntKind.wrap IntKind.u64 (Int.tdiv (↑(n / 10 ^ x) : Int) 10) == 0) ((((0 : Int) ≤ (IntKind.wrap IntKind.i64 (20 - IntKind.wrap IntKind.i64 (20 - (↑x : Int) - 1))))∧((((IntKind.wrap IntKind.i64 (20 - IntKind.wrap IntKind.i64 (20 - (↑x : Int) - 1))) : Int) ≤ (IntKind.wrap IntKind.i64 (20 - IntKind.wrap IntKind.i64 (20 - (↑x : Int) - 1))))∧(((1 * IntKind.wrap IntKind.i64 (20 - IntKind.wrap IntKind.i64 (20 - (↑x : Int) - 1))) : Int) ≤ 140737488355328)))∧((((0 : Int) ≤ (Option.getD (some (IntKind.wrap IntKind.i64 (20 - (↑x : Int) - 1))) 0))∧((((Option.getD (some (IntKind.wrap IntKind.i64 (20 - (↑x : Int) - 1))) 0) : Int) ≤ 20)∧((20 : Int) ≤ 20)))∧((∀ y : Nat,(((y : Nat) < (20 - Int.toNat (Option.getD (some (IntKind.wrap IntKind.i64 (20 - (↑x : Int) - 1))) 0)))→True))∧(((SV.sl 256 1 0 (Int.toNat (IntKind.wrap IntKind.i64 (20 - IntKind.wrap IntKind.i64 (20 - (↑x : Int) - 1)))) (Int.toNat (IntKind.wrap IntKind.i64 (20 - IntKind.wrap IntKind.i64 (20 - (↑x : Int) - 1))))) = (SV.sl 256 1 0 (List.length (Qcq n)) (List.length (Qcq n))))∧((((Int.toNat (IntKind.wrap IntKind.i64 (20 - IntKind.wrap IntKind.i64 (20 - (↑x : Int) - 1)))) : Nat) = (List.length (Qcq n)))∧((((List.length (Qcq n)) : Nat) ≤ (Int.toNat (IntKind.wrap IntKind.i64 (20 - IntKind.wrap IntKind.i64 (20 - (↑x : Int) - 1)))))∧(∀ i : Nat,(((i : Nat) < (List.length (Qcq n)))→([(yU (bop (Nat.ble 0 i&&Nat.blt i (0 + min (Int.toNat (IntKind.wrap IntKind.i64 (20 - IntKind.wrap IntKind.i64 (20 - (↑x : Int) - 1)))) (20 - Int.toNat (Option.getD (some (IntKind.wrap IntKind.i64 (20 - (↑x : Int) - 1))) 0)))) (bop (Nat.beq (Int.toNat (Option.getD (some (IntKind.wrap IntKind.i64 (20 - (↑x : Int) - 1))) 0) + (i - 0)) (Int.toNat (IntKind.wrap IntKind.i64 (20 - (↑x : Int) - 1)))) (IntKind.wrap IntKind.u8 (IntKind.wrap IntKind.u64 (48 + Int.tmod (↑(n / 10 ^ x) : Int) 10))) (Qhd n x (Int.toNat (Option.getD (some (IntKind.wrap IntKind.i64 (20 - (↑x : Int) - 1))) 0) + (i - 0)))) 0))] = [(yU (List.getD (Qcq n) i 0))]))))))))) (∃ x' : Nat,(((((x' : Nat) < 20)∧(x' = 0 ∨ n / 10 ^ x' ≠ 0))∧((((SV.v (.int .u64 (IntKind.wrap IntKind.u64 (Int.tdiv (↑(n / 10 ^ x) : Int) 10)))) = (SV.v (.int .u64 ((↑(n / 10 ^ x') : Int)))))∧(((yI (IntKind.wrap IntKind.i64 (20 - (↑x : Int) - 1))) = (yI (20 - (↑x' : Int))))∧((yI (IntKind.wrap IntKind.i64 ((↑x : Int) + 1))) = (yI ((↑x' : Int))))))∧(((20 : Nat) = 20)∧(((20 : Nat) ≤ 20)∧(∀ i : Nat,(((i : Nat) < 20)→([(yU (bop (Nat.beq i (Int.toNat (IntKind.wrap IntKind.i64 (20 - (↑x : Int) - 1)))) (IntKind.wrap IntKind.u8 (IntKind.wrap IntKind.u64 (48 + Int.tmod (↑(n / 10 ^ x) : Int) 10))) (Qhd n x i)))] = [(yU (Qhd n x' i))])))))))∧(((20 - x') : Nat) < (20 - x)))))) ((((0 : Int) ≤ (IntKind.wrap IntKind.i64 (20 - (20 - (↑x : Int)))))∧((((IntKind.wrap IntKind.i64 (20 - (20 - (↑x : Int)))) : Int) ≤ (IntKind.wrap IntKind.i64 (20 - (20 - (↑x : Int)))))∧(((1 * IntKind.wrap IntKind.i64 (20 - (20 - (↑x : Int)))) : Int) ≤ 140737488355328)))∧((((0 : Int) ≤ (Option.getD (some (20 - (↑x : Int))) 0))∧((((Option.getD (some (20 - (↑x : Int))) 0) : Int) ≤ 20)∧((20 : Int) ≤ 20)))∧((∀ y : Nat,(((y : Nat) < (20 - Int.toNat (Option.getD (some (20 - (↑x : Int))) 0)))→True))∧(((SV.sl 256 1 0 (Int.toNat (IntKind.wrap IntKind.i64 (20 - (20 - (↑x : Int))))) (Int.toNat (IntKind.wrap IntKind.i64 (20 - (20 - (↑x : Int)))))) = (SV.sl 256 1 0 (List.length (Qcq n)) (List.length (Qcq n))))∧((((Int.toNat (IntKind.wrap IntKind.i64 (20 - (20 - (↑x : Int))))) : Nat) = (List.length (Qcq n)))∧((((List.length (Qcq n)) : Nat) ≤ (Int.toNat (IntKind.wrap IntKind.i64 (20 - (20 - (↑x : Int))))))∧(∀ i : Nat,(((i : Nat) < (List.length (Qcq n)))→([(yU (bop (Nat.ble 0 i&&Nat.blt i (0 + min (Int.toNat (IntKind.wrap IntKind.i64 (20 - (20 - (↑x : Int))))) (20 - Int.toNat (Option.getD (some (20 - (↑x : Int))) 0)))) (Qhd n x (Int.toNat (Option.getD (some (20 - (↑x : Int))) 0) + (i - 0))) 0))] = [(yU (List.getD (Qcq n) i 0))]))))))))))))) := by kernel_rfl
theorem Qsv : ∀ (f k n : Nat), k < f → (k = 0 ∨ n / 10 ^ k ≠ 0) → n / 10 ^ (k + 1) = 0 → (Q7f f n).length = k + 1 ∧ ∀ i, i ≤ k → (Q7f f n).getD i 0 = 48 + ((n / 10 ^ (k - i) % 10 : Nat) : Int)
 | 0, k, n, h, _, _ => by omega
 | f + 1, k, n, hf, h1, h2 => by
   unfold Q7f
   by_cases hn : n < 10
   · have hk : k = 0 := by
       rcases h1 with h1 | h1
       · exact h1
       · rcases Nat.eq_zero_or_pos k with h0 | h0
         · exact h0
         · exfalso
           apply h1
           have : 10 ^ 1 ≤ 10 ^ k := Nat.pow_le_pow_right (by decide) h0
           exact Nat.div_eq_of_lt (by omega)
     subst hk
     rw [if_pos hn]
     refine ⟨rfl, fun i hi => ?_⟩
     have : i = 0 := by omega
     subst this
     simp
     omega
   · rw [if_neg hn]
     have hk : k ≠ 0 := fun h0 => by
       subst h0
       rw [Nat.zero_add, Nat.pow_one] at h2
       omega
     obtain ⟨k', rfl⟩ : ∃ k', k = k' + 1 := ⟨k - 1, by omega⟩
     have e : ∀ j, n / 10 / 10 ^ j = n / 10 ^ (j + 1) := fun j => by rw [Nat.div_div_eq_div_mul, Nat.pow_succ, Nat.mul_comm]
     obtain ⟨g1, g2⟩ := Qsv f k' (n / 10) (by omega) (by rw [e]; rcases h1 with h1 | h1 <;> first | (exact absurd h1 hk) | exact .inr h1) (by rw [e]; exact h2)
     refine ⟨by simp [g1], fun i hi => ?_⟩
     by_cases hik : i ≤ k'
     · have := g2 i hik
       rw [e, show k' - i + 1 = k' + 1 - i by omega] at this
       rw [← this]
       simp only [List.getD]
       rw [List.getElem?_append_left (by omega)]
     · have : i = k' + 1 := by omega
       subst this
       simp only [List.getD]
       rw [List.getElem?_append_right (by omega), g1]
       simp
theorem Q27 {k n : Nat} (hk : k < 20) (h1 : k = 0 ∨ n / 10 ^ k ≠ 0) (h2 : n / 10 ^ (k + 1) = 0) : (Qcq n).length = k + 1 ∧ ∀ i, i ≤ k → (Qcq n).getD i 0 = 48 + ((n / 10 ^ (k - i) % 10 : Nat) : Int) := Qsv 20 k n hk h1 h2
theorem Zg8 (a : Nat) : Int.tdiv (a : Int) 10 = ((a / 10 : Nat) : Int) := by
 rw [Int.tdiv_eq_ediv_of_nonneg (by omega)]; omega
theorem Zg6 (a : Nat) : Int.tmod (a : Int) 10 = ((a % 10 : Nat) : Int) := by
 rw [Int.tmod_eq_emod_of_nonneg (by omega)]; omega
theorem Qtc : Qdl Tryz.prog 85 Qqn := Qc0 hm Qa0 Tryz.func85 (Λ := fun args _ => match args with | [.v (.int .u64 n)] => Zag n.toNat | _ => Qax) fun args bs e hs hp => by
 unfold Qqn at hs
 split at hs <;> try (cases hs; done)
 rename_i n0
 cases hs
 obtain ⟨h0, h1⟩ := hp _ rfl
 obtain ⟨n, rfl⟩ := Int.eq_ofNat_of_zero_le h0
 rw [Int.toNat_natCast]
 refine ⟨[], trivial, ?_⟩
 have hn : n < 18446744073709551616 := by omega
 show Qcu _ _ (Zag (Int.toNat (n : Int))) _ _ _ _ _
 rw [Int.toNat_natCast]
 refine Eq.mpr (Q0f n) ?_
 refine ⟨⟨0, ⟨by omega, .inl rfl⟩, ⟨by simp, by simp, by simp⟩, rfl, Nat.le_refl _, fun i hi => ?_⟩, fun x hx => ?_⟩
 · unfold Qhd; rw [if_neg (by omega)]
 obtain ⟨hx1, hx2⟩ := hx
 have w1 : IntKind.i64.wrap (20 - (x : Int) - 1) = 19 - x := by rw [Qaf ⟨by omega, by omega⟩]; omega
 have w2 : IntKind.i64.wrap (20 - (19 - (x : Int))) = x + 1 := by rw [Qaf ⟨by omega, by omega⟩]; omega
 have hle : n / 10 ^ x ≤ n := Nat.div_le_self _ _
 have e1 : n / 10 ^ (x + 1) = n / 10 ^ x / 10 := by rw [Nat.div_div_eq_div_mul, Nat.pow_succ]
 have w3 : IntKind.u64.wrap (Int.tdiv ((n / 10 ^ x : Nat) : Int) 10) = ((n / 10 ^ (x + 1) : Nat) : Int) := by rw [Zg8, Qbx, e1]; generalize n / 10 ^ x = a at hle; omega
 have w4 : IntKind.u8.wrap (IntKind.u64.wrap (48 + Int.tmod ((n / 10 ^ x : Nat) : Int) 10)) = 48 + ((n / 10 ^ x % 10 : Nat) : Int) := by rw [Zg6, Qbx, Qtz]; generalize n / 10 ^ x = a; omega
 have w5 : IntKind.i64.wrap ((x : Int) + 1) = x + 1 := Qaf ⟨by omega, by omega⟩
 have t1 : Int.toNat (19 - (x : Int)) = 19 - x := by omega
 have t2 : Int.toNat ((x : Int) + 1) = x + 1 := by omega
 simp only [w1, w2, w3, w4, w5, Option.getD_some, t1, t2]
 refine Qad (fun _ => ?_) fun h => absurd (of_decide_eq_false h) (by omega)
 -- what is laid
 have hrow : ∀ i, i < 20 → bop (Nat.beq i (19 - x)) (48 + ((n / 10 ^ x % 10 : Nat) : Int)) (Qhd n x i) = Qhd n (x + 1) i := fun i hi => by
   by_cases he : i = 19 - x
   · subst he
     rw [Nat.beq_refl]
     rw [show ∀ a b : Int, bop true a b = a from fun _ _ => rfl]
     unfold Qhd
     rw [if_pos ⟨by omega, by omega⟩, show 19 - (19 - x) = x by omega]
   · rw [Qb6 he]
     rw [show ∀ a b : Int, bop false a b = b from fun _ _ => rfl]
     unfold Qhd
     by_cases hc : 20 - x ≤ i
     · rw [if_pos ⟨by omega, hi⟩, if_pos ⟨by omega, hi⟩]
     · rw [if_neg (by omega), if_neg (by omega)]
 refine ⟨⟨by omega, by omega⟩, Qad (fun hz => ?_) fun hz => ?_⟩
 · have hz : n / 10 ^ (x + 1) = 0 := by have h := eq_of_beq hz; generalize n / 10 ^ (x + 1) = a at h; omega
   obtain ⟨l1, l2⟩ := Q27 hx1 hx2 hz
   refine ⟨⟨by omega, by omega, by omega⟩, ⟨by omega, by omega, by omega⟩, fun _ _ => trivial, by rw [l1], l1.symm, by omega, fun i hi => ?_⟩
   rw [l1] at hi
   have hb : (Nat.ble 0 i && Nat.blt i (0 + min (x + 1) (20 - (19 - x)))) = true := by
     rw [Nat.ble_eq_true_of_le (Nat.zero_le i), Bool.true_and]
     exact Nat.ble_eq_true_of_le (by omega)
   rw [hb]
   show [SV.v (.int .u8 (bop (Nat.beq (19 - x + (i - 0)) (19 - x)) _ _))] = _
   rw [hrow (19 - x + (i - 0)) (by omega), l2 i (by omega)]
   unfold Qhd
   rw [if_pos ⟨by omega, by omega⟩, show 19 - (19 - x + (i - 0)) = x - i by omega]
 · have hz : n / 10 ^ (x + 1) ≠ 0 := fun h => by rw [h] at hz; exact absurd hz (by decide)
   have hx3 : x + 1 < 20 := by
     rcases Nat.lt_or_ge (x + 1) 20 with h | h
     · exact h
     · exfalso
       apply hz
       have : 10 ^ 20 ≤ 10 ^ (x + 1) := Nat.pow_le_pow_right (by decide) h
       exact Nat.div_eq_of_lt (Nat.lt_of_lt_of_le (by omega) this)
   refine ⟨x + 1, ⟨⟨hx3, .inr hz⟩, ⟨rfl, Qbh (by omega), Qbh (by omega)⟩, by trivial, Nat.le_refl _, fun i hi => ?_⟩, by omega⟩
   rw [hrow i hi]
def Qjj : Nat → Nat → List Int
 | 0, _ => []
 | k + 1, r => if r = 0 then [] else (48 + ((r * 10 / 4294967296 : Nat) : Int)) :: Qjj k (r * 10 % 4294967296)
def Zb5 (v : Int) : List Int := if v < 0 then [45] else []
def Q67 (v : Int) : List Int := Zb5 v ++ Qcq (Int.toNat (Qag v / 4294967296))
def Q6s (v : Int) : Nat := Int.toNat (Qag v % 4294967296)
def Qwi (v : Int) : List Int := if Q6s v = 0 then [] else 46 :: Qjj 32 (Q6s v)
def Qoo (f : Bool) : List Int := if f then [33] else []
def Q0o (v : Int) (f : Bool) : List Int := Q67 v ++ Qwi v ++ Qoo f
def Zb9 : List SV → Option (Option Prop × SV)
 | [.agg [.v (.int .i64 v), .v (.bool f)]] => some (some (I64 v), .v (.string (strOfNums (Q0o (Qaa v) (Qat v f)))))
 | _ => none
structure TX where
 k : Nat
 r : Nat
 l : List Int
 c : Nat
def invT (T : List Int) (x : TX) : Prop := x.k ≤ 32 ∧ x.r < 4294967296 ∧ x.r % 2 ^ x.k = 0 ∧ x.l.length ≤ x.c ∧ x.l.length ≤ 40 + x.k ∧ x.l ++ Qjj (32 - x.k) x.r = T
noncomputable def Q8o (T : List Int) : Nat → Option LoopSpec := Qki Qax Tryz.f21 0 TX (invT T) (fun x => 32 - x.k) [(5, fun x => .v (.int .u64 x.r))] [(104, fun x => buB false (.vp 104 0) (.sl 40 1 0 x.l.length x.c))] [(40, fun x => bL x.l x.c, Q65 104 1)]
def ΓU : Qb8 := Qah ΓT2 85 (Qen false Qqn)
@[reducible] noncomputable def Qcc (v : Int) := (Qan (1 + List.length (Qcq (Int.toNat (Qag (Qaa v) / 4294967296)))) fun i => [SV.v (.int .u8 (List.getD ((Qan 1 fun i => [SV.v (.int .u8 (List.getD [45] i 0))])++Qan (List.length (Qcq (Int.toNat (Qag (Qaa v) / 4294967296)))) fun y => [SV.v (.int .u8 (List.getD (Qcq (Int.toNat (Qag (Qaa v) / 4294967296))) (0 + y) 0))]) i 0))])
@[reducible] noncomputable def Qcb (v : Int) := (Qan (List.length (Qcq (Int.toNat (Qag (Qaa v) / 4294967296)))) fun i => [SV.v (.int .u8 (List.getD (Qan (List.length (Qcq (Int.toNat (Qag (Qaa v) / 4294967296)))) fun y => [SV.v (.int .u8 (List.getD (Qcq (Int.toNat (Qag (Qaa v) / 4294967296))) (0 + y) 0))]) i 0))])
@[reducible] noncomputable def Qgm (v : Int) := ((Qan 1 fun i => [SV.v (.int .u8 (List.getD [45] i 0))])++Qan (List.length (Qcq (Int.toNat (Qag (Qaa v) / 4294967296)))) fun y => [SV.v (.int .u8 (List.getD (Qcq (Int.toNat (Qag (Qaa v) / 4294967296))) (0 + y) 0))])
@[reducible] noncomputable def Qgl (v : Int) := (Qan (List.length (Qcq (Int.toNat (Qag (Qaa v) / 4294967296)))) fun y => [SV.v (.int .u8 (List.getD (Qcq (Int.toNat (Qag (Qaa v) / 4294967296))) (0 + y) 0))])
@[reducible] noncomputable def Qdr (v : Int) := (List.length (Qcq (Int.toNat (Qag (Qaa v) / 4294967296))))
theorem Zfs (v : Int) (f : Bool) (T : List Int) (R : SV→Prop) : (Qav Tryz.prog ΓU (Q8o T) Tryz.f21 [Qcy v f] R) =
(sel (decide (Qaa v < 0)) (True∧(∀ c : Nat,((I64 (Qaa v))∧((U64 (Qag (Qaa v) / 4294967296))∧(((Qco 1 (1 + c) {elem:=5,size:=1,rw:=true,lock:=false,lit:=false,flat:=true,n:=1,row:=fun i => [yU (List.getD [45] i 0)],ext:=1 + c})∧((((Qdr v) : Nat) = (Qdr v))∧((((Qdr v) : Nat) < 70368744177664)∧(∀ i : Nat,(((i : Nat) < (Qdr v))→True)))))∧(∀ c_1 : Nat,(sel (bits BinOp.and IntKind.u64 (Qag (Qaa v)) 4294967295 != 0) ((Qco (1 + List.length (Qcq (Int.toNat (Qag (Qaa v) / 4294967296)))) (1 + List.length (Qcq (Int.toNat (Qag (Qaa v) / 4294967296))) + c_1) {elem:=5,size:=1,rw:=true,lock:=false,lit:=false,flat:=true,n:=List.length (Qgm v),row:=fun i => [yU (List.getD (Qgm v) i 0)],ext:=1 + List.length (Qcq (Int.toNat (Qag (Qaa v) / 4294967296))) + c_1})∧(∀ c_2 : Nat,((∃ x : TX,(((((TX.k x) : Nat) ≤ 32)∧((((TX.r x) : Nat) < 4294967296)∧((((TX.r x % 2 ^ TX.k x) : Nat) = 0)∧((((List.length (TX.l x)) : Nat) ≤ (TX.c x))∧((((List.length (TX.l x)) : Nat) ≤ (40 + TX.k x))∧(TX.l x++Qjj (32 - TX.k x) (TX.r x) = T))))))∧(((SV.v (.int .u64 (bits BinOp.and IntKind.u64 (Qag (Qaa v)) 4294967295))) = (SV.v (.int .u64 ((↑(TX.r x) : Int)))))∧((((1 : Nat) = 1)∧(((1 : Nat) ≤ 1)∧(((SV.vp 104 0) = (SV.vp 104 0))∧((SV.sl 264 1 0 (List.length (Qcc v) + 1) (List.length (Qcc v) + 1 + c_2)) = (SV.sl 264 1 0 (List.length (TX.l x)) (TX.c x))))))∧((((List.length ((Qcc v)++[46])) : Nat) = (List.length (TX.l x)))∧((((TX.c x) : Nat) ≤ (List.length (Qcc v) + 1 + c_2))∧(∀ i : Nat,(((i : Nat) < (List.length (TX.l x)))→([(yU (List.getD ((Qcc v)++[46]) i 0))] = [(yU (List.getD (TX.l x) i 0))])))))))))∧(∀ x : TX,(((((TX.k x) : Nat) ≤ 32)∧((((TX.r x) : Nat) < 4294967296)∧((((TX.r x % 2 ^ TX.k x) : Nat) = 0)∧((((List.length (TX.l x)) : Nat) ≤ (TX.c x))∧((((List.length (TX.l x)) : Nat) ≤ (40 + TX.k x))∧(TX.l x++Qjj (32 - TX.k x) (TX.r x) = T))))))→(sel ((↑(TX.r x) : Int) != 0) ((Qco (List.length (TX.l x)) (TX.c x) {elem:=5,size:=1,rw:=true,lock:=false,lit:=false,flat:=true,n:=List.length (TX.l x),row:=fun i => [yU (List.getD (TX.l x) i 0)],ext:=TX.c x})∧(∀ c_3 : Nat,(∃ x' : TX,((((((TX.k x') : Nat) ≤ 32)∧((((TX.r x') : Nat) < 4294967296)∧((((TX.r x' % 2 ^ TX.k x') : Nat) = 0)∧((((List.length (TX.l x')) : Nat) ≤ (TX.c x'))∧((((List.length (TX.l x')) : Nat) ≤ (40 + TX.k x'))∧(TX.l x'++Qjj (32 - TX.k x') (TX.r x') = T))))))∧(((SV.v (.int .u64 (bits BinOp.and IntKind.u64 (IntKind.wrap IntKind.u64 ((↑(TX.r x) : Int) * 10)) 4294967295))) = (SV.v (.int .u64 ((↑(TX.r x') : Int)))))∧((((1 : Nat) = 1)∧(((1 : Nat) ≤ 1)∧(((SV.vp 104 0) = (SV.vp 104 0))∧((SV.sl 344 1 0 (List.length (Qan (List.length (TX.l x)) fun i => [yU (List.getD (TX.l x) i 0)]) + 1) (List.length (Qan (List.length (TX.l x)) fun i => [yU (List.getD (TX.l x) i 0)]) + 1 + c_3)) = (SV.sl 344 1 0 (List.length (TX.l x')) (TX.c x'))))))∧((((List.length ((Qan (List.length (TX.l x)) fun i => [yU (List.getD (TX.l x) i 0)])++[IntKind.wrap IntKind.u8 (IntKind.wrap IntKind.u64 (48 + IntKind.wrap IntKind.u64 ((↑(TX.r x) : Int) * 10) / 4294967296))])) : Nat) = (List.length (TX.l x')))∧((((TX.c x') : Nat) ≤ (List.length (Qan (List.length (TX.l x)) fun i => [yU (List.getD (TX.l x) i 0)]) + 1 + c_3))∧(∀ i : Nat,(((i : Nat) < (List.length (TX.l x')))→([(yU (List.getD ((Qan (List.length (TX.l x)) fun i => [yU (List.getD (TX.l x) i 0)])++[IntKind.wrap IntKind.u8 (IntKind.wrap IntKind.u64 (48 + IntKind.wrap IntKind.u64 ((↑(TX.r x) : Int) * 10) / 4294967296))]) i 0))] = [(yU (List.getD (TX.l x') i 0))]))))))))∧(((32 - TX.k x') : Nat) < (32 - TX.k x)))))) (sel (Qat v f) ((Qco (List.length (TX.l x)) (TX.c x) {elem:=5,size:=1,rw:=true,lock:=false,lit:=false,flat:=true,n:=List.length (TX.l x),row:=fun i => [yU (List.getD (TX.l x) i 0)],ext:=TX.c x})∧(∀ c_3 : Nat,(((Qco (List.length (Qan (List.length (TX.l x)) fun i => [yU (List.getD (TX.l x) i 0)]) + 1) (List.length (Qan (List.length (TX.l x)) fun i => [yU (List.getD (TX.l x) i 0)]) + 1 + c_3) {elem:=5,size:=1,rw:=true,lock:=false,lit:=false,flat:=true,n:=List.length ((Qan (List.length (TX.l x)) fun i => [yU (List.getD (TX.l x) i 0)])++[33]),row:=fun i => [yU (List.getD ((Qan (List.length (TX.l x)) fun i => [yU (List.getD (TX.l x) i 0)])++[33]) i 0)],ext:=List.length (Qan (List.length (TX.l x)) fun i => [yU (List.getD (TX.l x) i 0)]) + 1 + c_3})∧(((0 : Nat) < (List.length (Qan (List.length (Qan (List.length (TX.l x)) fun i => [yU (List.getD (TX.l x) i 0)]) + 1) fun i => [yU (List.getD ((Qan (List.length (TX.l x)) fun i => [yU (List.getD (TX.l x) i 0)])++[33]) i 0)])))∧(((List.length (Qan (List.length (Qan (List.length (TX.l x)) fun i => [yU (List.getD (TX.l x) i 0)]) + 1) fun i => [yU (List.getD ((Qan (List.length (TX.l x)) fun i => [yU (List.getD (TX.l x) i 0)])++[33]) i 0)])) : Nat) ≤ (List.length (Qan (List.length (TX.l x)) fun i => [yU (List.getD (TX.l x) i 0)]) + 1 + c_3))))∧(R (SV.v (.string (strOfNums (Qan (List.length (Qan (List.length (TX.l x)) fun i => [yU (List.getD (TX.l x) i 0)]) + 1) fun i => [yU (List.getD ((Qan (List.length (TX.l x)) fun i => [yU (List.getD (TX.l x) i 0)])++[33]) i 0)])))))))) (((Qco (List.length (TX.l x)) (TX.c x) {elem:=5,size:=1,rw:=true,lock:=false,lit:=false,flat:=true,n:=List.length (TX.l x),row:=fun i => [yU (List.getD (TX.l x) i 0)],ext:=TX.c x})∧(((0 : Nat) < (List.length (Qan (List.length (TX.l x)) fun i => [yU (List.getD (TX.l x) i 0)])))∧(((List.length (Qan (List.length (TX.l x)) fun i => [yU (List.getD (TX.l x) i 0)])) : Nat) ≤ (TX.c x))))∧(R (SV.v (.string (strOfNums (Qan (List.length (TX.l x)) fun i => [yU (List.getD (TX.l x) i 0)]))))))))))))) (sel (Qat v f) ((Qco (1 + List.length (Qcq (Int.toNat (Qag (Qaa v) / 4294967296)))) (1 + List.length (Qcq (Int.toNat (Qag (Qaa v) / 4294967296))) + c_1) {elem:=5,size:=1,rw:=true,lock:=false,lit:=false,flat:=true,n:=List.length (Qgm v),row:=fun i => [yU (List.getD (Qgm v) i 0)],ext:=1 + List.length (Qcq (Int.toNat (Qag (Qaa v) / 4294967296))) + c_1})∧(∀ c_2 : Nat,(((Qco (List.length (Qcc v) + 1) (List.length (Qcc v) + 1 + c_2) {elem:=5,size:=1,rw:=true,lock:=false,lit:=false,flat:=true,n:=List.length ((Qcc v)++[33]),row:=fun i => [yU (List.getD ((Qcc v)++[33]) i 0)],ext:=List.length (Qcc v) + 1 + c_2})∧(((0 : Nat) < (List.length (Qan (List.length (Qcc v) + 1) fun i => [yU (List.getD ((Qcc v)++[33]) i 0)])))∧(((List.length (Qan (List.length (Qcc v) + 1) fun i => [yU (List.getD ((Qcc v)++[33]) i 0)])) : Nat) ≤ (List.length (Qcc v) + 1 + c_2))))∧(R (SV.v (.string (strOfNums (Qan (List.length (Qcc v) + 1) fun i => [yU (List.getD ((Qcc v)++[33]) i 0)])))))))) (((Qco (1 + List.length (Qcq (Int.toNat (Qag (Qaa v) / 4294967296)))) (1 + List.length (Qcq (Int.toNat (Qag (Qaa v) / 4294967296))) + c_1) {elem:=5,size:=1,rw:=true,lock:=false,lit:=false,flat:=true,n:=List.length (Qgm v),row:=fun i => [yU (List.getD (Qgm v) i 0)],ext:=1 + List.length (Qcq (Int.toNat (Qag (Qaa v) / 4294967296))) + c_1})∧(((0 : Nat) < (List.length (Qcc v)))∧(((List.length (Qcc v)) : Nat) ≤ (1 + List.length (Qcq (Int.toNat (Qag (Qaa v) / 4294967296))) + c_1))))∧(R (SV.v (.string (strOfNums (Qcc v)))))))))))))) ((I64 (Qaa v))∧((U64 (Qag (Qaa v) / 4294967296))∧(((((Qdr v) : Nat) = (Qdr v))∧(((0 : Nat) < (Qdr v))∧((((Qdr v) : Nat) < 70368744177664)∧(∀ i : Nat,(((i : Nat) < (Qdr v))→True)))))∧(∀ c : Nat,(sel (bits BinOp.and IntKind.u64 (Qag (Qaa v)) 4294967295 != 0) ((Qco (Qdr v) (List.length (Qcq (Int.toNat (Qag (Qaa v) / 4294967296))) + c) {elem:=5,size:=1,rw:=true,lock:=false,lit:=false,flat:=true,n:=List.length (Qgl v),row:=fun i => [yU (List.getD (Qgl v) i 0)],ext:=List.length (Qcq (Int.toNat (Qag (Qaa v) / 4294967296))) + c})∧(∀ c_1 : Nat,((∃ x : TX,(((((TX.k x) : Nat) ≤ 32)∧((((TX.r x) : Nat) < 4294967296)∧((((TX.r x % 2 ^ TX.k x) : Nat) = 0)∧((((List.length (TX.l x)) : Nat) ≤ (TX.c x))∧((((List.length (TX.l x)) : Nat) ≤ (40 + TX.k x))∧(TX.l x++Qjj (32 - TX.k x) (TX.r x) = T))))))∧(((SV.v (.int .u64 (bits BinOp.and IntKind.u64 (Qag (Qaa v)) 4294967295))) = (SV.v (.int .u64 ((↑(TX.r x) : Int)))))∧((((1 : Nat) = 1)∧(((1 : Nat) ≤ 1)∧(((SV.vp 104 0) = (SV.vp 104 0))∧((SV.sl 264 1 0 (List.length (Qcb v) + 1) (List.length (Qcb v) + 1 + c_1)) = (SV.sl 264 1 0 (List.length (TX.l x)) (TX.c x))))))∧((((List.length ((Qcb v)++[46])) : Nat) = (List.length (TX.l x)))∧((((TX.c x) : Nat) ≤ (List.length (Qcb v) + 1 + c_1))∧(∀ i : Nat,(((i : Nat) < (List.length (TX.l x)))→([(yU (List.getD ((Qcb v)++[46]) i 0))] = [(yU (List.getD (TX.l x) i 0))])))))))))∧(∀ x : TX,(((((TX.k x) : Nat) ≤ 32)∧((((TX.r x) : Nat) < 4294967296)∧((((TX.r x % 2 ^ TX.k x) : Nat) = 0)∧((((List.length (TX.l x)) : Nat) ≤ (TX.c x))∧((((List.length (TX.l x)) : Nat) ≤ (40 + TX.k x))∧(TX.l x++Qjj (32 - TX.k x) (TX.r x) = T))))))→(sel ((↑(TX.r x) : Int) != 0) ((Qco (List.length (TX.l x)) (TX.c x) {elem:=5,size:=1,rw:=true,lock:=false,lit:=false,flat:=true,n:=List.length (TX.l x),row:=fun i => [yU (List.getD (TX.l x) i 0)],ext:=TX.c x})∧(∀ c_2 : Nat,(∃ x' : TX,((((((TX.k x') : Nat) ≤ 32)∧((((TX.r x') : Nat) < 4294967296)∧((((TX.r x' % 2 ^ TX.k x') : Nat) = 0)∧((((List.length (TX.l x')) : Nat) ≤ (TX.c x'))∧((((List.length (TX.l x')) : Nat) ≤ (40 + TX.k x'))∧(TX.l x'++Qjj (32 - TX.k x') (TX.r x') = T))))))∧(((SV.v (.int .u64 (bits BinOp.and IntKind.u64 (IntKind.wrap IntKind.u64 ((↑(TX.r x) : Int) * 10)) 4294967295))) = (SV.v (.int .u64 ((↑(TX.r x') : Int)))))∧((((1 : Nat) = 1)∧(((1 : Nat) ≤ 1)∧(((SV.vp 104 0) = (SV.vp 104 0))∧((SV.sl 344 1 0 (List.length (Qan (List.length (TX.l x)) fun i => [yU (List.getD (TX.l x) i 0)]) + 1) (List.length (Qan (List.length (TX.l x)) fun i => [yU (List.getD (TX.l x) i 0)]) + 1 + c_2)) = (SV.sl 344 1 0 (List.length (TX.l x')) (TX.c x'))))))∧((((List.length ((Qan (List.length (TX.l x)) fun i => [yU (List.getD (TX.l x) i 0)])++[IntKind.wrap IntKind.u8 (IntKind.wrap IntKind.u64 (48 + IntKind.wrap IntKind.u64 ((↑(TX.r x) : Int) * 10) / 4294967296))])) : Nat) = (List.length (TX.l x')))∧((((TX.c x') : Nat) ≤ (List.length (Qan (List.length (TX.l x)) fun i => [yU (List.getD (TX.l x) i 0)]) + 1 + c_2))∧(∀ i : Nat,(((i : Nat) < (List.length (TX.l x')))→([(yU (List.getD ((Qan (List.length (TX.l x)) fun i => [yU (List.getD (TX.l x) i 0)])++[IntKind.wrap IntKind.u8 (IntKind.wrap IntKind.u64 (48 + IntKind.wrap IntKind.u64 ((↑(TX.r x) : Int) * 10) / 4294967296))]) i 0))] = [(yU (List.getD (TX.l x') i 0))]))))))))∧(((32 - TX.k x') : Nat) < (32 - TX.k x)))))) (sel (Qat v f) ((Qco (List.length (TX.l x)) (TX.c x) {elem:=5,size:=1,rw:=true,lock:=false,lit:=false,flat:=true,n:=List.length (TX.l x),row:=fun i => [yU (List.getD (TX.l x) i 0)],ext:=TX.c x})∧(∀ c_2 : Nat,(((Qco (List.length (Qan (List.length (TX.l x)) fun i => [yU (List.getD (TX.l x) i 0)]) + 1) (List.length (Qan (List.length (TX.l x)) fun i => [yU (List.getD (TX.l x) i 0)]) + 1 + c_2) {elem:=5,size:=1,rw:=true,lock:=false,lit:=false,flat:=true,n:=List.length ((Qan (List.length (TX.l x)) fun i => [yU (List.getD (TX.l x) i 0)])++[33]),row:=fun i => [yU (List.getD ((Qan (List.length (TX.l x)) fun i => [yU (List.getD (TX.l x) i 0)])++[33]) i 0)],ext:=List.length (Qan (List.length (TX.l x)) fun i => [yU (List.getD (TX.l x) i 0)]) + 1 + c_2})∧(((0 : Nat) < (List.length (Qan (List.length (Qan (List.length (TX.l x)) fun i => [yU (List.getD (TX.l x) i 0)]) + 1) fun i => [yU (List.getD ((Qan (List.length (TX.l x)) fun i => [yU (List.getD (TX.l x) i 0)])++[33]) i 0)])))∧(((List.length (Qan (List.length (Qan (List.length (TX.l x)) fun i => [yU (List.getD (TX.l x) i 0)]) + 1) fun i => [yU (List.getD ((Qan (List.length (TX.l x)) fun i => [yU (List.getD (TX.l x) i 0)])++[33]) i 0)])) : Nat) ≤ (List.length (Qan (List.length (TX.l x)) fun i => [yU (List.getD (TX.l x) i 0)]) + 1 + c_2))))∧(R (SV.v (.string (strOfNums (Qan (List.length (Qan (List.length (TX.l x)) fun i => [yU (List.getD (TX.l x) i 0)]) + 1) fun i => [yU (List.getD ((Qan (List.length (TX.l x)) fun i => [yU (List.getD (TX.l x) i 0)])++[33]) i 0)])))))))) (((Qco (List.length (TX.l x)) (TX.c x) {elem:=5,size:=1,rw:=true,lock:=false,lit:=false,flat:=true,n:=List.length (TX.l x),row:=fun i => [yU (List.getD (TX.l x) i 0)],ext:=TX.c x})∧(((0 : Nat) < (List.length (Qan (List.length (TX.l x)) fun i => [yU (List.getD (TX.l x) i 0)])))∧(((List.length (Qan (List.length (TX.l x)) fun i => [yU (List.getD (TX.l x) i 0)])) : Nat) ≤ (TX.c x))))∧(R (SV.v (.string (strOfNums (Qan (List.length (TX.l x)) fun i => [yU (List.getD (TX.l x) i 0)]))))))))))))) (sel (Qat v f) ((Qco (Qdr v) (List.length (Qcq (Int.toNat (Qag (Qaa v) / 4294967296))) + c) {elem:=5,size:=1,rw:=true,lock:=false,lit:=false,flat:=true,n:=List.length (Qgl v),row:=fun i => [yU (List.getD (Qgl v) i 0)],ext:=List.length (Qcq (Int.toNat (Qag (Qaa v) / 4294967296))) + c})∧(∀ c_1 : Nat,(((Qco (List.length (Qcb v) + 1) (List.length (Qcb v) + 1 + c_1) {elem:=5,size:=1,rw:=true,lock:=false,lit:=false,flat:=true,n:=List.length ((Qcb v)++[33]),row:=fun i => [yU (List.getD ((Qcb v)++[33]) i 0)],ext:=List.length (Qcb v) + 1 + c_1})∧(((0 : Nat) < (List.length (Qan (List.length (Qcb v) + 1) fun i => [yU (List.getD ((Qcb v)++[33]) i 0)])))∧(((List.length (Qan (List.length (Qcb v) + 1) fun i => [yU (List.getD ((Qcb v)++[33]) i 0)])) : Nat) ≤ (List.length (Qcb v) + 1 + c_1))))∧(R (SV.v (.string (strOfNums (Qan (List.length (Qcb v) + 1) fun i => [yU (List.getD ((Qcb v)++[33]) i 0)])))))))) (((Qco (Qdr v) (List.length (Qcq (Int.toNat (Qag (Qaa v) / 4294967296))) + c) {elem:=5,size:=1,rw:=true,lock:=false,lit:=false,flat:=true,n:=List.length (Qgl v),row:=fun i => [yU (List.getD (Qgl v) i 0)],ext:=List.length (Qcq (Int.toNat (Qag (Qaa v) / 4294967296))) + c})∧(((0 : Nat) < (List.length (Qcb v)))∧(((List.length (Qcb v)) : Nat) ≤ (List.length (Qcq (Int.toNat (Qag (Qaa v) / 4294967296))) + c))))∧(R (SV.v (.string (strOfNums (Qcb v))))))))))))) := by kernel_rfl
theorem Zfi : ∀ f g, ΓU f = some g → g.ok Tryz.prog f := Qab Zar (Qfa Tryz.func85 (by kernel_rfl) (by kernel_rfl) Qtc)
theorem Qu4 {n : Nat} {L : List Int} (h : n = L.length) : (Qan n fun i => [SV.v (.int .u8 (L.getD i 0))]) = L := by subst h; exact Qiq L
theorem Qu3 {n c m c' : Nat} {g : Nat → Int} : Qco n c { elem := 5, size := 1, rw := true, lock := false, lit := false, flat := true, n := m, row := fun i => [SV.v (.int .u8 (g i))], ext := c' } ↔ (m = n ∧ c' = c ∧ n < 70368744177664) := by
 simp [Qco, Qh2]
theorem Q7g {n : Nat} : 1 ≤ (Qcq n).length ∧ (Qcq n).length ≤ 20 := by
 have key : ∀ f n, (Q7f f n).length ≤ f := by
   intro f
   induction f with
   | zero => intro n; simp [Q7f]
   | succ f ih =>
     intro n
     unfold Q7f
     split
     · simp
     · simp; exact ih _
 refine ⟨?_, key 20 n⟩
 unfold Qcq Q7f
 split <;> simp
theorem Qpb (k : Nat) : Qjj k 0 = [] := by cases k <;> simp [Qjj]
theorem Q3y : Qai Tryz.prog 21 Zb9 := Qao hm Zfi Tryz.func21 (Λ := fun args => match args with | [.agg [.v (.int .i64 v), _]] => Q8o (Q67 (Qaa v) ++ Qwi (Qaa v)) | _ => Qax) fun args p x h hp => by
 unfold Zb9 at h
 split at h <;> try (cases h; done)
 rename_i v f
 cases h
 have hv : I64 v := hp _ rfl
 refine ⟨rfl, rfl, ?_⟩
 refine Eq.mpr (Zfs v f _ _) ?_
 repeat (first | unfold Qdr | unfold Qgl | unfold Qgm | unfold Qcb | unfold Qcc)
 refine ?_
 have hs := Qei hv
 have hd := Q7g (n := Int.toNat (Qag (Qaa v) / 4294967296))
 simp only [Nat.zero_add, Qu4, Qu3, List.length_append, List.length_cons, List.length_nil, and_true, true_and, Nat.le_refl, implies_true]
 have hi := Qcd hv
 have hu := Qds hi
 generalize hd' : Qcq (Int.toNat (Qag (Qaa v) / 4294967296)) = D at hd
 have hh : Q67 (Qaa v) = Zb5 (Qaa v) ++ D := by unfold Q67; rw [hd']
 have hm := Qeq hu
 generalize hrest : Q6s (Qaa v) = r0
 have hr0 : (r0 : Int) = Qag (Qaa v) % 4294967296 := by rw [← hrest]; unfold Q6s; obtain ⟨_, _⟩ := hu; omega
 have hp0 : Qwi (Qaa v) = if r0 = 0 then [] else 46 :: Qjj 32 r0 := by unfold Qwi; rw [hrest]
 rw [hm, ← hr0]
 have ht : Q0o (Qaa v) (Qat v f) = Zb5 (Qaa v) ++ D ++ (if r0 = 0 then [] else 46 :: Qjj 32 r0) ++ Qoo (Qat v f) := by unfold Q0o; rw [hh, hp0]
 rw [hh, hp0, ht]
 have hlt : r0 < 4294967296 := by omega
 have hone : ∀ x : TX, x.r ≠ 0 → x.k ≤ 32 → x.r < 4294967296 → x.r % 2 ^ x.k = 0 → x.k < 32 := fun x h1 h2 h3 h4 => by
   rcases Nat.lt_or_ge x.k 32 with h | h
   · exact h
   · exfalso
     have : x.k = 32 := by omega
     rw [this] at h4
     apply h1
     omega
 have hstep : ∀ x : TX, x.r ≠ 0 → x.r < 4294967296 → bits .and .u64 (IntKind.u64.wrap ((x.r : Int) * 10)) 4294967295 = ((x.r * 10 % 4294967296 : Nat) : Int) ∧ IntKind.u8.wrap (IntKind.u64.wrap (48 + IntKind.u64.wrap ((x.r : Int) * 10) / 4294967296)) = 48 + ((x.r * 10 / 4294967296 : Nat) : Int) := fun x h1 h2 => by
   have e : IntKind.u64.wrap ((x.r : Int) * 10) = (x.r : Int) * 10 := by rw [Qbx]; omega
   have e3 : (x.r : Int) * 10 / 4294967296 = ((x.r * 10 / 4294967296 : Nat) : Int) := by omega
   have e4 : x.r * 10 / 4294967296 ≤ 9 := by omega
   rw [e, Qeq ⟨by omega, by omega⟩, Qbx, Qtz, e3]
   generalize x.r * 10 / 4294967296 = q at e4
   constructor <;> omega
 have hdiv : ∀ x : TX, x.k < 32 → x.r % 2 ^ x.k = 0 → x.r * 10 % 4294967296 % 2 ^ (x.k + 1) = 0 := fun x h1 h2 => by
   have d1 : 2 ^ x.k ∣ x.r := Nat.dvd_of_mod_eq_zero h2
   have d2 : 2 ^ (x.k + 1) ∣ x.r * 10 := by
     rw [Nat.pow_succ]
     exact Nat.mul_dvd_mul d1 (by decide)
   have d3 : 2 ^ (x.k + 1) ∣ 4294967296 := by
     have := Nat.pow_dvd_pow 2 (show x.k + 1 ≤ 32 by omega)
     simpa using this
   exact Nat.mod_eq_zero_of_dvd ((Nat.dvd_mod_iff d3).2 d2)
 refine Qad (fun hs1 => fun c => ⟨hi, ⟨by obtain ⟨_, _⟩ := hu; omega, by obtain ⟨_, _⟩ := hu; omega⟩, ⟨by omega, by omega⟩, fun c1 => Qad (fun hr => ⟨by omega, fun c2 => ⟨?_, fun x hx => ?_⟩⟩) fun hr => ?_⟩) fun hs1 => ⟨hi, ⟨by obtain ⟨_, _⟩ := hu; omega, by obtain ⟨_, _⟩ := hu; omega⟩, ⟨by omega, by omega⟩, fun c => Qad (fun hr => ⟨by omega, fun c1 => ⟨?_, fun x hx => ?_⟩⟩) fun hr => ?_⟩
 · -- into the loop
   have hr : r0 ≠ 0 := fun h => by rw [h] at hr; exact absurd hr (by decide)
   rw [show Zb5 (Qaa v) = [45] from if_pos (of_decide_eq_true hs1)]
   refine ⟨⟨0, r0, [45] ++ D ++ [46], 1 + D.length + 1 + c2⟩, ⟨by simp, hlt, by simp [Nat.mod_one], by simp <;> omega, by simp <;> omega, by rw [if_neg hr]; simp⟩, rfl, ?_, by simp <;> omega, Nat.le_refl _, fun i hi => rfl⟩
   simp <;> omega
 · -- a round
   obtain ⟨x1, x2, x3, x4, x5, x6⟩ := hx
   refine Qad (fun hxr => ⟨by omega, fun c3 => ?_⟩) fun hxr => ?_
   · have hxr : x.r ≠ 0 := fun h => by rw [h] at hxr; exact absurd hxr (by decide)
     have hk := hone x hxr x1 x2 x3
     obtain ⟨e1, e2⟩ := hstep x hxr x2
     rw [e1, e2]
     refine ⟨⟨x.k + 1, x.r * 10 % 4294967296, x.l ++ [48 + ((x.r * 10 / 4294967296 : Nat) : Int)], x.l.length + 1 + c3⟩, ⟨⟨hk, Nat.mod_lt _ (by decide), hdiv x hk x3, by simp <;> omega, by simp <;> omega, ?_⟩, rfl, by simp, by simp, Nat.le_refl _, fun i hi => rfl⟩, by simp <;> omega⟩
     rw [← x6, show 32 - x.k = (32 - (x.k + 1)) + 1 by omega]
     simp [Qjj, hxr]
   · have hxr : x.r = 0 := by have := eq_of_beq (show ((x.r : Int) == 0) = true by simpa using hxr); omega
     rw [hxr, Qpb, List.append_nil] at x6
     have x7 : 1 ≤ x.l.length := by rw [x6]; simp <;> omega
     have hr : r0 ≠ 0 := fun h => by rw [h] at hr; exact absurd hr (by decide)
     refine Qad (fun hf => ⟨by omega, fun c3 => ⟨⟨by omega, by omega, by omega⟩, ?_⟩⟩) fun hf => ⟨⟨by omega, by omega, by omega⟩, ?_⟩
     · rw [x6]; unfold Qoo; rw [hf]; simp
     · rw [x6]; unfold Qoo; rw [hf]; simp
 · -- no loop
   have hr : r0 = 0 := by have := eq_of_beq (show ((r0 : Int) == 0) = true by simpa using hr); omega
   rw [show Zb5 (Qaa v) = [45] from if_pos (of_decide_eq_true hs1)]
   rw [if_pos hr]
   refine Qad (fun hf => ⟨by omega, fun c2 => ⟨⟨by omega, by omega, by omega⟩, ?_⟩⟩) fun hf => ⟨⟨by omega, by omega, by omega⟩, ?_⟩
   · unfold Qoo; rw [hf]; simp
   · unfold Qoo; rw [hf]; simp
 · -- into the loop
   have hr : r0 ≠ 0 := fun h => by rw [h] at hr; exact absurd hr (by decide)
   rw [show Zb5 (Qaa v) = [] from if_neg (of_decide_eq_false hs1)]
   refine ⟨⟨0, r0, D ++ [46], D.length + 1 + c1⟩, ⟨by simp, hlt, by simp [Nat.mod_one], by simp <;> omega, by simp <;> omega, by rw [if_neg hr]; simp⟩, rfl, ?_, by simp, Nat.le_refl _, fun i hi => rfl⟩
   simp
 · -- a round
   obtain ⟨x1, x2, x3, x4, x5, x6⟩ := hx
   refine Qad (fun hxr => ⟨by omega, fun c3 => ?_⟩) fun hxr => ?_
   · have hxr : x.r ≠ 0 := fun h => by rw [h] at hxr; exact absurd hxr (by decide)
     have hk := hone x hxr x1 x2 x3
     obtain ⟨e1, e2⟩ := hstep x hxr x2
     rw [e1, e2]
     refine ⟨⟨x.k + 1, x.r * 10 % 4294967296, x.l ++ [48 + ((x.r * 10 / 4294967296 : Nat) : Int)], x.l.length + 1 + c3⟩, ⟨⟨hk, Nat.mod_lt _ (by decide), hdiv x hk x3, by simp <;> omega, by simp <;> omega, ?_⟩, rfl, by simp, by simp, Nat.le_refl _, fun i hi => rfl⟩, by simp <;> omega⟩
     rw [← x6, show 32 - x.k = (32 - (x.k + 1)) + 1 by omega]
     simp [Qjj, hxr]
   · have hxr : x.r = 0 := by have := eq_of_beq (show ((x.r : Int) == 0) = true by simpa using hxr); omega
     rw [hxr, Qpb, List.append_nil] at x6
     have x7 : 1 ≤ x.l.length := by rw [x6]; simp <;> omega
     have hr : r0 ≠ 0 := fun h => by rw [h] at hr; exact absurd hr (by decide)
     refine Qad (fun hf => ⟨by omega, fun c3 => ⟨⟨by omega, by omega, by omega⟩, ?_⟩⟩) fun hf => ⟨⟨by omega, by omega, by omega⟩, ?_⟩
     · rw [x6]; unfold Qoo; rw [hf]; simp
     · rw [x6]; unfold Qoo; rw [hf]; simp
 · -- no loop
   have hr : r0 = 0 := by have := eq_of_beq (show ((r0 : Int) == 0) = true by simpa using hr); omega
   rw [show Zb5 (Qaa v) = [] from if_neg (of_decide_eq_false hs1)]
   rw [if_pos hr]
   refine Qad (fun hf => ⟨by omega, fun c1 => ⟨⟨by omega, by omega, by omega⟩, ?_⟩⟩) fun hf => ⟨⟨by omega, by omega, by omega⟩, ?_⟩
   · unfold Qoo; rw [hf]; simp
   · unfold Qoo; rw [hf]; simp
theorem Qtk (a b c d : Int) : a * b * (c * d) = a * c * (b * d) := by rw [Int.mul_assoc, Int.mul_assoc, Int.mul_left_comm b c d]
theorem Qvw (A : Int) {n : Int} (hn : 0 < n) : ∃ a P, 0 ≤ a ∧ 0 ≤ P ∧ ((A = a ∧ Int.tdiv (A * 4294967296) n = P) ∨ (A = -a ∧ Int.tdiv (A * 4294967296) n = -P)) ∧ P * n ≤ a * 4294967296 ∧ a * 4294967296 < (P + 1) * n := by
 have key : ∀ a : Int, 0 ≤ a → 0 ≤ a * 4294967296 / n ∧ a * 4294967296 / n * n ≤ a * 4294967296 ∧ a * 4294967296 < (a * 4294967296 / n + 1) * n := fun a h => ⟨Int.ediv_nonneg (by omega) (by omega), Int.ediv_mul_le _ (by omega), Int.lt_ediv_add_one_mul_self _ hn⟩
 by_cases h : 0 ≤ A
 · obtain ⟨k1, k2, k3⟩ := key A h
   exact ⟨A, _, h, k1, .inl ⟨rfl, Int.tdiv_eq_ediv_of_nonneg (by omega)⟩, k2, k3⟩
 · obtain ⟨k1, k2, k3⟩ := key (-A) (by omega)
   refine ⟨-A, _, by omega, k1, .inr ⟨by omega, ?_⟩, k2, k3⟩
   rw [show A * 4294967296 = -(-A * 4294967296) by omega, Int.neg_tdiv, Int.tdiv_eq_ediv_of_nonneg (by omega)]
theorem Q6i {A a : Int} (h : A = a ∨ A = -a) : A * A = a * a := by
 rcases h with rfl | rfl
 · rfl
 · rw [Int.neg_mul, Int.mul_neg, Int.neg_neg]
theorem Q2d {a b n P Q : Int} (ha : 0 ≤ a) (hb : 0 ≤ b) (hP : 0 ≤ P) (hQ : 0 ≤ Q) (hn : 16777216 ≤ n) (h1 : n * n ≤ a * a + b * b) (h2 : a * a + b * b < (n + 1) * (n + 1)) (p1 : P * n ≤ a * 4294967296) (p2 : a * 4294967296 < (P + 1) * n) (q1 : Q * n ≤ b * 4294967296) (q2 : b * 4294967296 < (Q + 1) * n) :
   18446744004990074880 ≤ P * P + Q * Q ∧ P * P + Q * Q ≤ 18446748471756062720 ∧ P ≤ 8589934592 ∧ Q ≤ 8589934592 := by
 have s1 := Ql1 (Int.mul_nonneg hP (show 0 ≤ n by omega)) p1
 have s2 := Ql1 (Int.mul_nonneg hQ (show 0 ≤ n by omega)) q1
 have s3 := Zb3 (show 0 ≤ a * 4294967296 by omega) p2
 have s4 := Zb3 (show 0 ≤ b * 4294967296 by omega) q2
 rw [Qtk P n P n, Qtk a 4294967296 a 4294967296] at s1
 rw [Qtk Q n Q n, Qtk b 4294967296 b 4294967296] at s2
 rw [Qtk (P + 1) n (P + 1) n, Qtk a 4294967296 a 4294967296] at s3
 rw [Qtk (Q + 1) n (Q + 1) n, Qtk b 4294967296 b 4294967296] at s4
 have e1 : (n + 1) * (n + 1) = n * n + 2 * n + 1 := by rw [Int.add_mul, Int.mul_add]; omega
 have n2 : 16777216 * n ≤ n * n := Int.mul_le_mul_of_nonneg_right hn (by omega)
 rw [e1] at h2
 have d1 : P * P * (n * n) + Q * Q * (n * n) = (P * P + Q * Q) * (n * n) := (Int.add_mul _ _ _).symm
 have d2 : (P + 1) * (P + 1) * (n * n) + (Q + 1) * (Q + 1) * (n * n) = ((P + 1) * (P + 1) + (Q + 1) * (Q + 1)) * (n * n) := (Int.add_mul _ _ _).symm
 have up : P * P + Q * Q ≤ 18446748471756062720 := by
   refine Int.not_lt.1 fun h => ?_
   have := Int.mul_le_mul_of_nonneg_right (show 18446748471756062720 ≤ P * P + Q * Q by omega) (show 0 ≤ n * n by omega)
   omega
 have pP : P ≤ 8589934592 := by
   refine Int.not_lt.1 fun h => ?_
   have := Ql1 (show (0 : Int) ≤ 8589934592 by decide) (Int.le_of_lt h)
   have := Qbu Q
   omega
 have pQ : Q ≤ 8589934592 := by
   refine Int.not_lt.1 fun h => ?_
   have := Ql1 (show (0 : Int) ≤ 8589934592 by decide) (Int.le_of_lt h)
   have := Qbu P
   omega
 refine ⟨?_, up, pP, pQ⟩
 have lo : 18446744073709551616 < (P + 1) * (P + 1) + (Q + 1) * (Q + 1) := by
   refine Int.not_le.1 fun h => ?_
   have := Int.mul_le_mul_of_nonneg_right h (show 0 ≤ n * n by omega)
   omega
 have e2 : (P + 1) * (P + 1) = P * P + 2 * P + 1 := by rw [Int.add_mul, Int.mul_add]; omega
 have e3 : (Q + 1) * (Q + 1) = Q * Q + 2 * Q + 1 := by rw [Int.add_mul, Int.mul_add]; omega
 omega
def P62 (x : Int) : Prop := -4611686018427387904 ≤ x ∧ x ≤ 4611686018427387904
theorem sq62 {x : Int} (h : P62 x) : 0 ≤ x * x ∧ x * x ≤ 21267647932558653966460912964485513216 := by
 refine ⟨Qbu x, ?_⟩
 have := Qj5 (p := x) (q := x) (P := 4611686018427387904) (Q := 4611686018427387904) (by decide) h.1 h.2 h.1 h.2
 exact this.2
theorem Q2u {A B : Int} (hA : P62 A) (hB : P62 B) : 0 ≤ isq (A * A + B * B) ∧ isq (A * A + B * B) ≤ 9223372036854775807 ∧ isq (A * A + B * B) * isq (A * A + B * B) ≤ A * A + B * B ∧ A * A + B * B < (isq (A * A + B * B) + 1) * (isq (A * A + B * B) + 1) := by
 obtain ⟨a1, a2⟩ := sq62 hA
 obtain ⟨b1, b2⟩ := sq62 hB
 obtain ⟨i1, _, i3, i4⟩ := Qnr (m := A * A + B * B) (by omega) (by omega)
 refine ⟨i1, Int.not_lt.1 fun h => ?_, i3, i4⟩
 have := Ql1 (show (0 : Int) ≤ 9223372036854775808 by decide) (show (9223372036854775808 : Int) ≤ isq (A * A + B * B) by omega)
 omega
theorem Zif {A B : Int} (hA : P62 A) (hB : P62 B) : Qrv ⟨A, false⟩ ⟨B, false⟩ = ⟨isq (A * A + B * B), false⟩ := by
 have sA : Sd A := ⟨by have := hA.1; omega, by have := hA.2; omega⟩
 have sB : Sd B := ⟨by have := hB.1; omega, by have := hB.2; omega⟩
 obtain ⟨i1, i2, _⟩ := Q2u hA hB
 unfold Qrv
 rw [sA.self, sB.self, sA.flag, sB.flag]
 exact Qh7 ⟨by show _ ≤ isq _; omega, i2⟩
theorem Zdb {A B n : Int} (hA : P62 A) (hB : P62 B) (hn : n = isq (A * A + B * B)) (h24 : 16777216 ≤ n) : ∃ p q : Int, Qdh ⟨A, false⟩ ⟨n, false⟩ = ⟨p, false⟩ ∧ Qdh ⟨B, false⟩ ⟨n, false⟩ = ⟨q, false⟩ ∧ (-8589934592 ≤ p ∧ p ≤ 8589934592) ∧ (-8589934592 ≤ q ∧ q ≤ 8589934592) ∧ 18446744004990074880 ≤ p * p + q * q ∧ p * p + q * q ≤ 18446748471756062720 ∧ (A ≤ 0 → p ≤ 0) ∧ (0 < A → 0 ≤ p ∧ (p = 0 → A * 4294967296 < n)) := by
 obtain ⟨i1, i2, i3, i4⟩ := Q2u hA hB
 rw [← hn] at i1 i2 i3 i4
 obtain ⟨a, P, a0, P0, eA, p1, p2⟩ := Qvw A (n := n) (by omega)
 obtain ⟨b, Q, b0, Q0, eB, q1, q2⟩ := Qvw B (n := n) (by omega)
 have sa := Q6i (eA.imp (·.1) (·.1))
 have sb := Q6i (eB.imp (·.1) (·.1))
 obtain ⟨c1, c2, c3, c4⟩ := Q2d a0 b0 P0 Q0 h24 (by omega) (by omega) p1 p2 q1 q2
 have sn : Sd n := ⟨by omega, by omega⟩
 have dv : ∀ X Y : Int, P62 X → Int.tdiv (X * 4294967296) n = Y → -8589934592 ≤ Y ∧ Y ≤ 8589934592 → Qdh ⟨X, false⟩ ⟨n, false⟩ = ⟨Y, false⟩ := fun X Y hX hY hb => by
   have sX : Sd X := ⟨by have := hX.1; omega, by have := hX.2; omega⟩
   have e : Q89 X n = Y := hY
   show (⟨Qdd (Qaa X) (Qaa n), Qjf (Qaa X) (Qaa n) || (Qat X false || Qat n false)⟩ : NB) = _
   rw [sX.self, sn.self, sX.flag, sn.flag]
   unfold Qdd Qjf
   rw [if_neg (by omega), if_neg (by omega), e, Qgj ⟨by omega, by omega⟩, Qgi ⟨by omega, by omega⟩]
   rfl
 have sp := Q6i (A := Int.tdiv (A * 4294967296) n) (a := P) (eA.imp (·.2) (·.2))
 have sq := Q6i (A := Int.tdiv (B * 4294967296) n) (a := Q) (eB.imp (·.2) (·.2))
 refine ⟨_, _, dv A _ hA rfl (by rcases eA with ⟨_, h⟩ | ⟨_, h⟩ <;> rw [h] <;> omega), dv B _ hB rfl (by rcases eB with ⟨_, h⟩ | ⟨_, h⟩ <;> rw [h] <;> omega), by rcases eA with ⟨_, h⟩ | ⟨_, h⟩ <;> rw [h] <;> omega, by rcases eB with ⟨_, h⟩ | ⟨_, h⟩ <;> rw [h] <;> omega, by rw [sp, sq]; exact c1, by rw [sp, sq]; exact c2, fun h => ?_, fun h => ?_⟩
 · rcases eA with ⟨h1, h2⟩ | ⟨h1, h2⟩
   · have : a = 0 := by omega
     subst this
     rw [h2]
     rcases Int.lt_or_le 0 P with h' | h'
     · have := Int.mul_le_mul_of_nonneg_right (show 1 ≤ P by omega) (show 0 ≤ n by omega)
       omega
     · exact h'
   · omega
 · rcases eA with ⟨h1, h2⟩ | ⟨h1, h2⟩
   · refine ⟨by omega, fun h0 => ?_⟩
     have : P = 0 := by omega
     subst this
     omega
   · omega
theorem Ziz {A B : Int} (hA : P62 A) (hB : P62 B) (h : 16777216 ≤ A ∨ A ≤ -16777216 ∨ 16777216 ≤ B ∨ B ≤ -16777216) : 16777216 ≤ isq (A * A + B * B) := by
 obtain ⟨i1, i2, i3, i4⟩ := Q2u hA hB
 refine Int.not_lt.1 fun hl => ?_
 have := Ql1 (show 0 ≤ isq (A * A + B * B) + 1 by omega) (show isq (A * A + B * B) + 1 ≤ 16777216 by omega)
 have a0 := Qbu A
 have b0 := Qbu B
 have key : ∀ x : Int, 16777216 ≤ x ∨ x ≤ -16777216 → 281474976710656 ≤ x * x := fun x hx => by
   rcases hx with hx | hx
   · exact Ql1 (a := 16777216) (by decide) hx
   · have := Ql1 (a := 16777216) (b := -x) (by decide) (by omega)
     rw [Int.neg_mul, Int.mul_neg, Int.neg_neg] at this
     exact this
 rcases h with h | h | h | h
 · have := key A (.inl h); omega
 · have := key A (.inr h); omega
 · have := key B (.inl h); omega
 · have := key B (.inr h); omega
def P42 (x : Int) : Prop := -4398046511104 < x ∧ x < 4398046511104
theorem P42.i {x : Int} (h : P42 x) : I64 x := by obtain ⟨_, _⟩ := h; exact ⟨by omega, by omega⟩
def Qgv (r : VB) : Prop := r.x.f = false ∧ r.y.f = false ∧ (-8589934592 ≤ r.x.v ∧ r.x.v ≤ 8589934592) ∧ (-8589934592 ≤ r.y.v ∧ r.y.v ≤ 8589934592) ∧ Qpn r = 0
def P33 (x : Int) : Prop := -8589934592 ≤ x ∧ x ≤ 8589934592
def P41 (x : Int) : Prop := -2199023255552 ≤ x ∧ x ≤ 2199023255552
theorem P33.sd {x : Int} (h : P33 x) : Sd x := by obtain ⟨_, _⟩ := h; exact ⟨by omega, by omega⟩
theorem P41.sd {x : Int} (h : P41 x) : Sd x := by obtain ⟨_, _⟩ := h; exact ⟨by omega, by omega⟩
theorem P33.p41 {x : Int} (h : P33 x) : P41 x := by obtain ⟨_, _⟩ := h; exact ⟨by omega, by omega⟩
theorem P33.neg {x : Int} (h : P33 x) : P33 (-x) := by obtain ⟨_, _⟩ := h; exact ⟨by omega, by omega⟩
theorem dot4 {a b c d : Int} (ha : P33 a) (hb : P41 b) (hc : P33 c) (hd : P41 d) : ∃ q : Int, Qcl ⟨a, false⟩ ⟨b, false⟩ ⟨c, false⟩ ⟨d, false⟩ = ⟨q, false⟩ ∧ (-4294967295 ≤ a * b + c * d - q * 4294967296 ∧ a * b + c * d - q * 4294967296 ≤ 4294967295) ∧ (-8796093022208 ≤ q ∧ q ≤ 8796093022208) := by
 have m1 := Qj5 (p := a) (q := b) (P := 8589934592) (Q := 2199023255552) (by decide) ha.1 ha.2 hb.1 hb.2
 have m2 := Qj5 (p := c) (q := d) (P := 8589934592) (Q := 2199023255552) (by decide) hc.1 hc.2 hd.1 hd.2
 have t1 := Int.tmod_add_tdiv_mul (a * b + c * d) 4294967296
 have t2 := Int.natAbs_tmod (a * b + c * d) 4294967296
 have t3 : (a * b + c * d).natAbs % (4294967296 : Int).natAbs < (4294967296 : Int).natAbs := Nat.mod_lt _ (by decide)
 refine ⟨Int.tdiv (a * b + c * d) 4294967296, ?_, by omega, by omega⟩
 unfold Qcl Qyc
 rw [ha.sd.self, hb.sd.self, hc.sd.self, hd.sd.self, ha.sd.flag, hb.sd.flag, hc.sd.flag, hd.sd.flag]
 exact Qh7 ⟨by omega, by omega⟩
theorem Zl4 {s : Int} (h : P33 s) : Qc1 ⟨s, false⟩ = ⟨-s, false⟩ := Qsh h.sd
theorem Zd5 (a b c d : Int) : (a * c + -b * d) * (a * c + -b * d) + (b * c + a * d) * (b * c + a * d) = (a * a + b * b) * (c * c + d * d) := by
 have e1 : a * c * (b * d) = b * c * (a * d) := by rw [Qtk a c b d, Qtk b c a d, Int.mul_comm a b]
 have e2 : b * d * (a * c) = a * d * (b * c) := by rw [Qtk b d a c, Qtk a d b c, Int.mul_comm b a]
 have s1 := Qtk a c a c
 have s2 := Qtk b d b d
 have s3 := Qtk b c b c
 have s4 := Qtk a d a d
 simp only [Int.neg_mul, Int.add_mul, Int.mul_add, Int.mul_neg, Int.neg_neg] at *
 omega
theorem Q9s {p q : Int} (hp : P33 p) (hq : P33 q) : (Qcl ⟨p, false⟩ ⟨p, false⟩ ⟨q, false⟩ ⟨q, false⟩).v = (p * p + q * q) / 4294967296 := by
 have m1 := Qj5 (p := p) (q := p) (P := 8589934592) (Q := 8589934592) (by decide) hp.1 hp.2 hp.1 hp.2
 have m2 := Qj5 (p := q) (q := q) (P := 8589934592) (Q := 8589934592) (by decide) hq.1 hq.2 hq.1 hq.2
 have n1 := Qbu p
 have n2 := Qbu q
 show Qas (Qyc (Qaa p) (Qaa p) (Qaa q) (Qaa q)) = _
 rw [hp.sd.self, hq.sd.self]
 unfold Qyc
 rw [Int.tdiv_eq_ediv_of_nonneg (by omega), Qgj ⟨by omega, by omega⟩]
theorem Q2c {p q : Int} (hp : P33 p) (hq : P33 q) : Qjr ⟨⟨p, false⟩, ⟨q, false⟩⟩ = false := by
 show (Qat p false || Qat q false) = false
 rw [hp.sd.flag, hq.sd.flag]; rfl
theorem Q9z {p q : Int} (hp : P33 p) (hq : P33 q) (l : 18446462598732840960 ≤ p * p + q * q) (u : p * p + q * q ≤ 18447025548686262272) : Qpn ⟨⟨p, false⟩, ⟨q, false⟩⟩ = 0 := by
 have hd := Q9s hp hq
 unfold Qpn
 rw [Q2c hp hq, cond_false, hd, decide_eq_false (by omega), decide_eq_false (by omega)]; rfl
theorem Zix {p q : Int} (hp : P33 p) (hq : P33 q) (h : Qpn ⟨⟨p, false⟩, ⟨q, false⟩⟩ = 0) : 18446462598732840960 ≤ p * p + q * q ∧ p * p + q * q ≤ 18447025552981229568 := by
 have hd := Q9s hp hq
 unfold Qpn at h
 rw [Q2c hp hq, cond_false, hd] at h
 by_cases h1 : (p * p + q * q) / 4294967296 - 4294967296 > 65536
 · rw [decide_eq_true h1] at h; cases h
 · by_cases h2 : 4294967296 - (p * p + q * q) / 4294967296 > 65536
   · rw [decide_eq_true h2, Bool.or_true] at h; cases h
   · omega
theorem Q96 {a : NB} (hf : a.f = false) (ha : Sd a.v) : Qgv (Qtp a) := by
 have e1 := Qud a
 have e2 := Q3a a
 rw [ha.flag, hf] at e1 e2
 have b1 := Quc a
 have b2 : -4294967296 ≤ (Ql6 a).v ∧ (Ql6 a).v ≤ 4294967296 := Quc _
 have c := Qxu a
 have f1 : (Qi0 a).f = false := by rw [e1]
 have f2 : (Ql6 a).f = false := by rw [e2]
 have g1 : Qi0 a = ⟨(Qi0 a).v, false⟩ := by rw [← f1]
 have g2 : Ql6 a = ⟨(Ql6 a).v, false⟩ := by rw [← f2]
 refine ⟨f2, f1, ⟨by show _ ≤ (Ql6 a).v; omega, by show (Ql6 a).v ≤ _; omega⟩, ⟨by show _ ≤ (Qi0 a).v; omega, by show (Qi0 a).v ≤ _; omega⟩, ?_⟩
 show Qpn ⟨Ql6 a, Qi0 a⟩ = 0
 rw [g1, g2]
 exact Q9z ⟨by omega, by omega⟩ ⟨by omega, by omega⟩ (by omega) (by omega)
theorem Qo6 {r : VB} (h : Qgv r) : ∃ c s : Int, r = ⟨⟨c, false⟩, ⟨s, false⟩⟩ ∧ P33 c ∧ P33 s ∧ 18446462598732840960 ≤ c * c + s * s ∧ c * c + s * s ≤ 18447025552981229568 := by
 obtain ⟨⟨c, f⟩, ⟨s, g⟩⟩ := r
 obtain ⟨h1, h2, h3, h4, h5⟩ := h
 simp only at h1 h2 h3 h4
 subst h1 h2
 exact ⟨c, s, rfl, h3, h4, Zix h3 h4 h5⟩
theorem Zit {a r : VB} (ha : Qgv a) (hr : Qgv r) : Qgv (Q44 a r) := by
 obtain ⟨ac, sa, rfl, a1, a2, a3, a4⟩ := Qo6 ha
 obtain ⟨rc, rs, rfl, r1, r2, r3, r4⟩ := Qo6 hr
 obtain ⟨X, eX, kX, bX⟩ := dot4 a1 r1.p41 a2.neg r2.p41
 obtain ⟨Y, eY, kY, bY⟩ := dot4 a2 r1.p41 a1 r2.p41
 have hid := Zd5 ac sa rc rs
 have big := Int.mul_le_mul a3 r3 (by decide) (by omega)
 rw [← hid] at big
 generalize ac * rc + -sa * rs = T at *
 generalize sa * rc + ac * rs = U at *
 have hX : P62 X := ⟨by omega, by omega⟩
 have hY : P62 Y := ⟨by omega, by omega⟩
 have h24 : 16777216 ≤ X ∨ X ≤ -16777216 ∨ 16777216 ≤ Y ∨ Y ≤ -16777216 := by
   refine Classical.byContradiction fun hn => ?_
   have m1 := Qj5 (p := T) (q := T) (P := 144115188075855872) (Q := 144115188075855872) (by decide) (by omega) (by omega) (by omega) (by omega)
   have m2 := Qj5 (p := U) (q := U) (P := 144115188075855872) (Q := 144115188075855872) (by decide) (by omega) (by omega) (by omega) (by omega)
   omega
 have hn := Ziz hX hY h24
 obtain ⟨p, q, e1, e2, b1, b2, l, u, _⟩ := Zdb hX hY rfl hn
 have hyp := Zif hX hY
 have e : Q44 ⟨⟨ac, false⟩, ⟨sa, false⟩⟩ ⟨⟨rc, false⟩, ⟨rs, false⟩⟩ = ⟨⟨p, false⟩, ⟨q, false⟩⟩ := by
   unfold Q44
   simp only
   rw [Zl4 a2, eX, eY, hyp]
   simp only
   rw [beq_eq_false_iff_ne.2 (by omega : isq (X * X + Y * Y) ≠ 0), cond_false, e1, e2]
 rw [e]
 exact ⟨rfl, rfl, b1, b2, Q9z b1 b2 (by omega) (by omega)⟩
def P38 (x : Int) : Prop := -274877906944 < x ∧ x < 274877906944
theorem P38.p41 {x : Int} (h : P38 x) : P41 x := by obtain ⟨_, _⟩ := h; exact ⟨by omega, by omega⟩
theorem P38.i {x : Int} (h : P38 x) : I64 x := by obtain ⟨_, _⟩ := h; exact ⟨by omega, by omega⟩
structure TD where
 m : MD
 v : Int
 u : Int
 w : Int
 d : Int
def thL (t : TD) (st : Int) : List SV := [.v (.int .i64 t.m.k), .v (.int .i64 t.m.a), .v (.int .i64 t.m.b), .v (.int .i64 t.m.x), .v (.int .i64 t.m.y), .v (.int .i64 t.m.w), .v (.int .i64 t.v), .v (.int .i64 t.u), .v (.int .i64 t.w), .v (.int .i64 t.d), .v (.int .i64 st)]
def thS (t : TD) (st : Int) : SV := .agg (thL t st)
def thD (t : TD) : Int := 1 + t.d % 1000
def Qur (t : TD) : BD := Qb0 (ksS t.m) (Qc3 t.m 100) (Qnb t.m) (ksN t.m) (ksG t.m) (thD t)
def Qbc (t : TD) : BD := ⟨ksS t.m, Qc3 t.m 100, Qnb t.m, ⟨Qd0 t.v 200, Qd0 t.u 200⟩, Qd0 t.w 60, (Qur t).m, 0, false, false, 1⟩
def Zmd (q : Prop) (t : TD) : Eff := .nd q Nat 0 (fun c => bdS (Qbc t) (.sl 1000 2 0 (ksN t.m) (ksN t.m + c))) fun c => [(1000, spB (ksN t.m) (ksN t.m + c) (ksG t.m))]
def thI (t : TD) : Prop := mdI t.m ∧ I64 t.v ∧ I64 t.u ∧ I64 t.w ∧ I64 t.d
def Zlz (args : List SV) (bs : List Blk) : Option Eff := match args, bs with
 | [.agg [.v (.int .i64 k), .v (.int .i64 a), .v (.int .i64 b), .v (.int .i64 x), .v (.int .i64 y), .v (.int .i64 w), .v (.int .i64 v), .v (.int .i64 u), .v (.int .i64 o), .v (.int .i64 d), .v (.int .i64 st)], .v (.int .i64 sp)], [] => bif decide (st = 1) && decide (sp = 100) then some (Zmd (thI ⟨⟨k, a, b, x, y, w⟩, v, u, o, d⟩) ⟨⟨k, a, b, x, y, w⟩, v, u, o, d⟩) else none
 | _, _ => none
noncomputable def Zki : Qb8 := Qah (Qah (Qah ΓT 22 (Qen false Zlo)) 23 (Qaj Zcf)) 61 (Qen false Zls)
theorem Zlf (t : TD) (q : Prop) : (Qcu Tryz.prog Zki Qax Tryz.f7 [thS t 1,iV 100] (Qaw []) 64 (fun y h' => Qhf [] (Zmd q t) y h')) =
(((I64 1)∧(((0 : Int) < 4)∧(I64 4)))∧(((I64 (TD.d t))∧(((0 : Int) < 1000)∧(I64 1000)))∧((mdI (TD.m t))∧(∀ c : Nat,((((0 : Int) < 100)∧((100 : Int) < 1073741824))∧(((Qti (ksS (TD.m t)) (Qc3 (TD.m t) 100) (Qnb (TD.m t)) (ksN (TD.m t)) (Qbv (Qap (SE.Qcq (Can.es {es:=[],bs:=[],ro:=true}) 192 (spB (ksN (TD.m t)) (ksN (TD.m t) + c) (ksG (TD.m t)))) 2 0 (ksN (TD.m t)))))∧((Qcs (ksN (TD.m t)) (Qap (SE.Qcq (Can.es {es:=[],bs:=[],ro:=true}) 192 (spB (ksN (TD.m t)) (ksN (TD.m t) + c) (ksG (TD.m t)))) 2 0 (ksN (TD.m t))))∧(((1 : Int) ≤ (IntKind.wrap IntKind.i64 (1 + TD.d t % 1000)))∧(((IntKind.wrap IntKind.i64 (1 + TD.d t % 1000)) : Int) ≤ 1000))))∧(∀ c_1 : Nat,((((0 : Int) < 200)∧((200 : Int) < 1073741824))∧((((0 : Int) < 200)∧((200 : Int) < 1073741824))∧((((0 : Int) < 60)∧((60 : Int) < 1073741824))∧(∃ c_2 : Nat,((((yI (ShB.k (BD.s (Qb0 (ksS (TD.m t)) (Qc3 (TD.m t) 100) (Qnb (TD.m t)) (ksN (TD.m t)) (Qbv (Qap (SE.Qcq (Can.es {es:=[],bs:=[],ro:=true}) 192 (spB (ksN (TD.m t)) (ksN (TD.m t) + c) (ksG (TD.m t)))) 2 0 (ksN (TD.m t)))) (IntKind.wrap IntKind.i64 (1 + TD.d t % 1000)))))) = (yI (ShB.k (BD.s (Qbc t)))))∧(((yI (ShB.r (BD.s (Qb0 (ksS (TD.m t)) (Qc3 (TD.m t) 100) (Qnb (TD.m t)) (ksN (TD.m t)) (Qbv (Qap (SE.Qcq (Can.es {es:=[],bs:=[],ro:=true}) 192 (spB (ksN (TD.m t)) (ksN (TD.m t) + c) (ksG (TD.m t)))) 2 0 (ksN (TD.m t)))) (IntKind.wrap IntKind.i64 (1 + TD.d t % 1000)))))) = (yI (ShB.r (BD.s (Qbc t)))))∧(((yI (ShB.w (BD.s (Qb0 (ksS (TD.m t)) (Qc3 (TD.m t) 100) (Qnb (TD.m t)) (ksN (TD.m t)) (Qbv (Qap (SE.Qcq (Can.es {es:=[],bs:=[],ro:=true}) 192 (spB (ksN (TD.m t)) (ksN (TD.m t) + c) (ksG (TD.m t)))) 2 0 (ksN (TD.m t)))) (IntKind.wrap IntKind.i64 (1 + TD.d t % 1000)))))) = (yI (ShB.w (BD.s (Qbc t)))))∧(((yI (ShB.h (BD.s (Qb0 (ksS (TD.m t)) (Qc3 (TD.m t) 100) (Qnb (TD.m t)) (ksN (TD.m t)) (Qbv (Qap (SE.Qcq (Can.es {es:=[],bs:=[],ro:=true}) 192 (spB (ksN (TD.m t)) (ksN (TD.m t) + c) (ksG (TD.m t)))) 2 0 (ksN (TD.m t)))) (IntKind.wrap IntKind.i64 (1 + TD.d t % 1000)))))) = (yI (ShB.h (BD.s (Qbc t)))))∧(((SV.sl 256 2 0 (ksN (TD.m t)) (ksN (TD.m t) + c_1)) = (SV.sl 256 2 0 (ksN (TD.m t)) (ksN (TD.m t) + c_2)))∧(((yI (NB.v (VB.x (BD.pa (Qb0 (ksS (TD.m t)) (Qc3 (TD.m t) 100) (Qnb (TD.m t)) (ksN (TD.m t)) (Qbv (Qap (SE.Qcq (Can.es {es:=[],bs:=[],ro:=true}) 192 (spB (ksN (TD.m t)) (ksN (TD.m t) + c) (ksG (TD.m t)))) 2 0 (ksN (TD.m t)))) (IntKind.wrap IntKind.i64 (1 + TD.d t % 1000))))))) = (yI (NB.v (VB.x (BD.pa (Qbc t))))))∧(((yF false) = (yF false))∧(((yI (NB.v (VB.y (BD.pa (Qb0 (ksS (TD.m t)) (Qc3 (TD.m t) 100) (Qnb (TD.m t)) (ksN (TD.m t)) (Qbv (Qap (SE.Qcq (Can.es {es:=[],bs:=[],ro:=true}) 192 (spB (ksN (TD.m t)) (ksN (TD.m t) + c) (ksG (TD.m t)))) 2 0 (ksN (TD.m t)))) (IntKind.wrap IntKind.i64 (1 + TD.d t % 1000))))))) = (yI (NB.v (VB.y (BD.pa (Qbc t))))))∧(((yF false) = (yF false))∧(((yI (NB.v (VB.x (BD.pr (Qb0 (ksS (TD.m t)) (Qc3 (TD.m t) 100) (Qnb (TD.m t)) (ksN (TD.m t)) (Qbv (Qap (SE.Qcq (Can.es {es:=[],bs:=[],ro:=true}) 192 (spB (ksN (TD.m t)) (ksN (TD.m t) + c) (ksG (TD.m t)))) 2 0 (ksN (TD.m t)))) (IntKind.wrap IntKind.i64 (1 + TD.d t % 1000))))))) = (yI (NB.v (VB.x (BD.pr (Qbc t))))))∧(((yF (NB.f (VB.x (BD.pr (Qb0 (ksS (TD.m t)) (Qc3 (TD.m t) 100) (Qnb (TD.m t)) (ksN (TD.m t)) (Qbv (Qap (SE.Qcq (Can.es {es:=[],bs:=[],ro:=true}) 192 (spB (ksN (TD.m t)) (ksN (TD.m t) + c) (ksG (TD.m t)))) 2 0 (ksN (TD.m t)))) (IntKind.wrap IntKind.i64 (1 + TD.d t % 1000))))))) = (yF (NB.f (VB.x (BD.pr (Qbc t))))))∧(((yI (NB.v (VB.y (BD.pr (Qb0 (ksS (TD.m t)) (Qc3 (TD.m t) 100) (Qnb (TD.m t)) (ksN (TD.m t)) (Qbv (Qap (SE.Qcq (Can.es {es:=[],bs:=[],ro:=true}) 192 (spB (ksN (TD.m t)) (ksN (TD.m t) + c) (ksG (TD.m t)))) 2 0 (ksN (TD.m t)))) (IntKind.wrap IntKind.i64 (1 + TD.d t % 1000))))))) = (yI (NB.v (VB.y (BD.pr (Qbc t))))))∧(((yF (NB.f (VB.y (BD.pr (Qb0 (ksS (TD.m t)) (Qc3 (TD.m t) 100) (Qnb (TD.m t)) (ksN (TD.m t)) (Qbv (Qap (SE.Qcq (Can.es {es:=[],bs:=[],ro:=true}) 192 (spB (ksN (TD.m t)) (ksN (TD.m t) + c) (ksG (TD.m t)))) 2 0 (ksN (TD.m t)))) (IntKind.wrap IntKind.i64 (1 + TD.d t % 1000))))))) = (yF (NB.f (VB.y (BD.pr (Qbc t))))))∧(((yI (NB.v (Qd0 (TD.v t) 200))) = (yI (NB.v (VB.x (BD.v (Qbc t))))))∧(((yF false) = (yF false))∧(((yI (NB.v (Qd0 (TD.u t) 200))) = (yI (NB.v (VB.y (BD.v (Qbc t))))))∧(((yF false) = (yF false))∧(((yI (NB.v (Qd0 (TD.w t) 60))) = (yI (NB.v (BD.w (Qbc t)))))∧(((yF false) = (yF false))∧(((yI (NB.v (VB.x (BD.m (Qb0 (ksS (TD.m t)) (Qc3 (TD.m t) 100) (Qnb (TD.m t)) (ksN (TD.m t)) (Qbv (Qap (SE.Qcq (Can.es {es:=[],bs:=[],ro:=true}) 192 (spB (ksN (TD.m t)) (ksN (TD.m t) + c) (ksG (TD.m t)))) 2 0 (ksN (TD.m t)))) (IntKind.wrap IntKind.i64 (1 + TD.d t % 1000))))))) = (yI (NB.v (VB.x (BD.m (Qbc t))))))∧(((yF (NB.f (VB.x (BD.m (Qb0 (ksS (TD.m t)) (Qc3 (TD.m t) 100) (Qnb (TD.m t)) (ksN (TD.m t)) (Qbv (Qap (SE.Qcq (Can.es {es:=[],bs:=[],ro:=true}) 192 (spB (ksN (TD.m t)) (ksN (TD.m t) + c) (ksG (TD.m t)))) 2 0 (ksN (TD.m t)))) (IntKind.wrap IntKind.i64 (1 + TD.d t % 1000))))))) = (yF (NB.f (VB.x (BD.m (Qbc t))))))∧(((yI (NB.v (VB.y (BD.m (Qb0 (ksS (TD.m t)) (Qc3 (TD.m t) 100) (Qnb (TD.m t)) (ksN (TD.m t)) (Qbv (Qap (SE.Qcq (Can.es {es:=[],bs:=[],ro:=true}) 192 (spB (ksN (TD.m t)) (ksN (TD.m t) + c) (ksG (TD.m t)))) 2 0 (ksN (TD.m t)))) (IntKind.wrap IntKind.i64 (1 + TD.d t % 1000))))))) = (yI (NB.v (VB.y (BD.m (Qbc t))))))∧(((yF (NB.f (VB.y (BD.m (Qb0 (ksS (TD.m t)) (Qc3 (TD.m t) 100) (Qnb (TD.m t)) (ksN (TD.m t)) (Qbv (Qap (SE.Qcq (Can.es {es:=[],bs:=[],ro:=true}) 192 (spB (ksN (TD.m t)) (ksN (TD.m t) + c) (ksG (TD.m t)))) 2 0 (ksN (TD.m t)))) (IntKind.wrap IntKind.i64 (1 + TD.d t % 1000))))))) = (yF (NB.f (VB.y (BD.m (Qbc t))))))∧(((yI (BD.st (Qb0 (ksS (TD.m t)) (Qc3 (TD.m t) 100) (Qnb (TD.m t)) (ksN (TD.m t)) (Qbv (Qap (SE.Qcq (Can.es {es:=[],bs:=[],ro:=true}) 192 (spB (ksN (TD.m t)) (ksN (TD.m t) + c) (ksG (TD.m t)))) 2 0 (ksN (TD.m t)))) (IntKind.wrap IntKind.i64 (1 + TD.d t % 1000))))) = (yI (BD.st (Qbc t))))∧(((yF false) = (yF false))∧(((yF false) = (yF false))∧((yI (BD.ver (Qb0 (ksS (TD.m t)) (Qc3 (TD.m t) 100) (Qnb (TD.m t)) (ksN (TD.m t)) (Qbv (Qap (SE.Qcq (Can.es {es:=[],bs:=[],ro:=true}) 192 (spB (ksN (TD.m t)) (ksN (TD.m t) + c) (ksG (TD.m t)))) 2 0 (ksN (TD.m t)))) (IntKind.wrap IntKind.i64 (1 + TD.d t % 1000))))) = (yI (BD.ver (Qbc t))))))))))))))))))))))))))))))∧((((ksN (TD.m t)) : Nat) = (ksN (TD.m t)))∧((((ksN (TD.m t) + c_2) : Nat) ≤ (ksN (TD.m t) + c_1))∧(∀ i : Nat,(((i : Nat) < (ksN (TD.m t)))→([(yI (Prod.fst (Qbv (Qap (SE.Qcq (Can.es {es:=[],bs:=[],ro:=true}) 192 (spB (ksN (TD.m t)) (ksN (TD.m t) + c) (ksG (TD.m t)))) 2 0 (ksN (TD.m t))) i))),(yI (Prod.snd (Qbv (Qap (SE.Qcq (Can.es {es:=[],bs:=[],ro:=true}) 192 (spB (ksN (TD.m t)) (ksN (TD.m t) + c) (ksG (TD.m t)))) 2 0 (ksN (TD.m t))) i)))] = [(yI (Prod.fst (ksG (TD.m t) i))),(yI (Prod.snd (ksG (TD.m t) i)))]))))))))))))))))) := by kernel_rfl
theorem Qig (es : List Ent) (b n c k : Nat) (g : Nat → Int × Int) : Qbv (Qap (Go.SE.Qcq es b (spB n c g)) 2 0 k) = g := funext fun i => by
 show gi [SV.v (.int .i64 (g (0 + i)).1), SV.v (.int .i64 (g (0 + i)).2)] = g i
 rw [Nat.zero_add]; rfl
theorem Qqr {es : List Ent} {b n c : Nat} {g : Nat → Int × Int} (hn : n < 1099511627776) (hg : ∀ i, i < n → I64 (g i).1 ∧ I64 (g i).2) : Qcs n (Qap (Go.SE.Qcq es b (spB n c g)) 2 0 n) := Qp4 hn hg fun _ => rfl
theorem Q63 (m : MD) : (ksS m = Zin (ksX m.a m.a) ∧ ksN m = 0) ∨ (ksS m = boxS (ksX m.a m.a) (ksX m.a m.b) ∧ ksN m = 0) ∨ (ksS m = Qx4 ∧ ksN m = 3 ∧ ksG m = G3 (ksM m.a m.a) (ksM m.a m.b)) ∨ (ksS m = Qx4 ∧ ksN m = 5 ∧ ksG m = G5 (ksM m.a m.a) (ksM m.a m.b) (ksM m.a m.a / 2)) ∨ (ksS m = Qx4 ∧ ksN m = 8 ∧ ksG m = G8 (ksM m.a m.a) (ksM m.a m.a / 2)) := by
 unfold ksS ksN ksG
 cases h0 : m.k % 5 == 0 with
 | true => exact Or.inl ⟨rfl, rfl⟩
 | false =>
   cases h1 : m.k % 5 == 1 with
   | true => exact Or.inr (Or.inl ⟨rfl, rfl⟩)
   | false =>
     cases h2 : m.k % 5 == 2 with
     | true => exact Or.inr (Or.inr (Or.inl ⟨rfl, rfl, rfl⟩))
     | false =>
       cases h3 : m.k % 5 == 3 with
       | true => exact Or.inr (Or.inr (Or.inr (Or.inl ⟨rfl, rfl, rfl⟩)))
       | false => exact Or.inr (Or.inr (Or.inr (Or.inr ⟨rfl, rfl, rfl⟩)))
theorem Q9m (a x : Int) : 64 ≤ ksM a x ∧ ksM a x ≤ 4096 := by
 have := Qo9 (ksB a) x
 unfold ksM ksX; omega
theorem Q9l (a x : Int) : 16 ≤ ksX a x ∧ ksX a x ≤ 4096 := Qo9 (ksB a) x
theorem Zkj (s : ShB) (n : Nat) (g : Nat → Int × Int) {d : Int} (h : 1 ≤ d ∧ d ≤ 1000) : Qth 0 s n g d = bif s.k == 1 then Qz5 s.r d else Qr1 (Qfo (Qa7 0 s n) (Qbl s g) (Qa7 0 s n)) (Qmm (Qa7 0 s n) (Qbl s g) (Qa7 0 s n)) d := by
 unfold Qth; rw [Qz4 h]; rfl
def Qsk (m : MD) : Prop := Qhi (ksS m) ∧ Qca (ksS m) (ksN m) (ksG m) = 0 ∧ (∀ d, 1 ≤ d ∧ d ≤ 1000 → PW (Qth 0 (ksS m) (ksN m) (ksG m) d)) ∧ ksN m ≤ 8 ∧ Qa7 0 (ksS m) (ksN m) ≤ 8 ∧ ∀ i, i < ksN m → I64 (ksG m i).1 ∧ I64 (ksG m i).2
theorem z_i : I64 0 := ⟨by decide, by decide⟩
theorem s_i {x : Int} (h : -9223372036854775808 ≤ x ∧ x ≤ 9223372036854775807) : I64 x := ⟨by omega, by omega⟩
theorem q_i {x : Int} (h : Q12 x) : I64 x := by
 obtain ⟨_, _⟩ := h
 exact ⟨by omega, by omega⟩
theorem Qnc {m : MD} {n : Nat} {g : Nat → Int × Int} (e1 : ksS m = Qx4) (e2 : ksN m = n) (e3 : ksG m = g) (h3 : 3 ≤ n) (h8 : n ≤ 8) (hp : ∀ i, i < n → Qgk (g i) = true ∧ Q12 (g i).1 ∧ Q12 (g i).2) (hc : Qdt n g = true) (hx : ∀ i, i < n → 64 ≤ Qac (g i) (g ((i + 1) % n))) : Qsk m := by
 unfold Qsk
 rw [e1, e2, e3]
 refine ⟨⟨⟨s_i (by show _ ≤ (3 : Int) ∧ (3 : Int) ≤ _; omega), z_i⟩, z_i, z_i⟩, chkP h3 h8 (fun i hi => (hp i hi).1) hc, fun d hd => ?_, h8, h8, fun i hi => ⟨q_i (hp i hi).2.1, q_i (hp i hi).2.2⟩⟩
 rw [Zkj Qx4 n g hd]
 show PW (Qr1 (Qfo n g n) (Qmm n g n) d)
 exact Zhm (by omega) h8 (fun i hi => (hp i hi).2) hx hd
theorem Qji (m : MD) : Qsk m := by
 have hA := Q9l m.a m.a
 have hB := Q9l m.a m.b
 have hK := Q9m m.a m.a
 have hH := Q9m m.a m.b
 have hh : 2 * (ksM m.a m.a / 2) ≤ ksM m.a m.a ∧ ksM m.a m.a ≤ 2 * (ksM m.a m.a / 2) + 1 := by omega
 rcases Q63 m with ⟨e1, e2⟩ | ⟨e1, e2⟩ | ⟨e1, e2, e3⟩ | ⟨e1, e2, e3⟩ | ⟨e1, e2, e3⟩
 · unfold Qsk
   rw [e1, e2]
   refine ⟨⟨⟨s_i (by show _ ≤ (1 : Int) ∧ (1 : Int) ≤ _; omega), s_i (by show _ ≤ ksX m.a m.a ∧ ksX m.a m.a ≤ _; omega)⟩, z_i, z_i⟩, Q7k hA, fun d hd => ?_, by omega, Nat.zero_le _, fun i hi => absurd hi (Nat.not_lt_zero _)⟩
   rw [Zkj _ _ _ hd]
   exact Zc2 hA hd
 · unfold Qsk
   rw [e1, e2]
   refine ⟨⟨⟨s_i (by show _ ≤ (2 : Int) ∧ (2 : Int) ≤ _; omega), z_i⟩, s_i (by show _ ≤ ksX m.a m.a ∧ ksX m.a m.a ≤ _; omega), s_i (by show _ ≤ ksX m.a m.b ∧ ksX m.a m.b ≤ _; omega)⟩, Q7l hA hB, fun d hd => ?_, by omega, by show 4 ≤ 8; omega, fun i hi => absurd hi (Nat.not_lt_zero _)⟩
   rw [Zkj _ _ _ hd]
   show PW (Qr1 (Qfo 4 (Q91 (ksX m.a m.a) (ksX m.a m.b)) 4) (Qmm 4 (Q91 (ksX m.a m.a) (ksX m.a m.b)) 4) d)
   rw [Q7q, Zd7]
   generalize ksX m.a m.a = w at *
   generalize ksX m.a m.b = h at *
   have ml : ∀ {a b c d : Int}, a ≤ b → c ≤ d → 0 ≤ c → 0 ≤ b → a * c ≤ b * d := fun h1 h2 h3 h4 => Int.mul_le_mul h1 h2 h3 h4
   have a1 : 16 * 16 ≤ w * h := ml hA.1 hB.1 (by omega) (by omega)
   have a2 : w * h ≤ 4096 * 4096 := ml hA.2 hB.2 (by omega) (by omega)
   have b1 : 16 * 16 ≤ w * w := ml hA.1 hA.1 (by omega) (by omega)
   have b2 : w * w ≤ 4096 * 4096 := ml hA.2 hA.2 (by omega) (by omega)
   have c1 : 16 * 16 ≤ h * h := ml hB.1 hB.1 (by omega) (by omega)
   have c2 : h * h ≤ 4096 * 4096 := ml hB.2 hB.2 (by omega) (by omega)
   generalize w * h = P at *
   have d1 : 512 * 4096 ≤ 2 * P * (8 * (w * w + h * h)) := ml (by omega) (by omega) (by omega) (by omega)
   have d2 : 2 * P * (8 * (w * w + h * h)) ≤ 33554432 * 268435456 := ml (by omega) (by omega) (by omega) (by omega)
   exact Q10 ⟨by omega, by omega⟩ ⟨by omega, by omega⟩ hd
 · exact Qnc e1 e2 e3 (by omega) (by omega) (Zhr hK hH) (Zd4 hK hH) (Zir hK hH)
 · exact Qnc e1 e2 e3 (by omega) (by omega) (Zhq hK hH hh) (Zd3 hK hH hh) (Ziq hK hH hh)
 · exact Qnc e1 e2 e3 (by omega) (by omega) (Zhp hK hh) (Zd2 hK hh) (Zip hK hh)
theorem wD (t : TD) : IntKind.i64.wrap (1 + t.d % 1000) = thD t := Qaf ⟨by omega, by omega⟩
theorem Q0n (t : TD) : 1 ≤ thD t ∧ thD t ≤ 1000 := by unfold thD; omega
theorem Qsb (x : Int) : -429496729600 < (Qd0 x 100).v ∧ (Qd0 x 100).v < 429496729600 := Qqz x (by rfl) (by decide)
theorem Q2v (x : Int) : Qzf (Qd0 x 100) = true := by
 have h := Qsb x
 have e : (Qyj (Qd0 x 100)) = ⟨Qag (Qd0 x 100).v, false⟩ := by
   unfold Qyj
   rw [Qcf (by omega), Qcr (by omega)]; rfl
 unfold Qzf
 rw [e]
 show (!(false || decide (Qag (Qd0 x 100).v > 17592186044416))) = true
 rw [decide_eq_false (by unfold Qag; split <;> omega)]; rfl
theorem Q1v (m : MD) : Qgv (Qnb m) := Q96 rfl (by
 have := Qqz m.w (s := 8) (m := 34359738368) (by rfl) (by decide)
 exact ⟨by omega, by omega⟩)
theorem Q6q {r : VB} (h : Qgv r) : I64 r.x.v ∧ I64 r.y.v := by
 obtain ⟨_, _, ⟨_, _⟩, ⟨_, _⟩, _⟩ := h
 exact ⟨⟨by omega, by omega⟩, ⟨by omega, by omega⟩⟩
theorem Zhu (m : MD) : Qti (ksS m) (Qc3 m 100) (Qnb m) (ksN m) (ksG m) := by
 obtain ⟨h1, h2, h3, h4, h5, h6⟩ := Qji m
 have hx := Qsb m.x
 have hy := Qsb m.y
 exact ⟨h1, ⟨⟨by show _ ≤ (Qd0 m.x 100).v; omega, by show (Qd0 m.x 100).v < _; omega⟩, ⟨by show _ ≤ (Qd0 m.y 100).v; omega, by show (Qd0 m.y 100).v < _; omega⟩⟩, Q6q (Q1v m), h2, (Q1v m).2.2.2.2, Q2v m.x, Q2v m.y, by omega⟩
theorem Za1 : ∀ f g, Zki f = some g → g.ok Tryz.prog f := Qab (Qab (Qab Qhm (Qfa Tryz.func22 (by kernel_rfl) (by kernel_rfl) Q7x)) (Qal Tryz.func23 (by kernel_rfl) (by kernel_rfl) Q4f)) (Qfa Tryz.func61 (by kernel_rfl) (by kernel_rfl) Q76)
theorem Zjc {t : TD} {q : Prop} (h : thI t) : Qcu Tryz.prog Zki Qax Tryz.f7 [thS t 1, iV 100] (Qaw []) 64 (fun y h' => Qhf [] (Zmd q t) y h') := by
 obtain ⟨hm, hv, hu, hw, hd⟩ := h
 obtain ⟨h1, h2, h3, h4, h5, h6⟩ := Qji t.m
 have hP := Zhu t.m
 refine Eq.mpr (Zlf t q) ?_
 have hn : ksN t.m < 1099511627776 := by omega
 rw [wD]
 refine ⟨⟨⟨by decide, by decide⟩, by decide, by decide, by decide⟩, ⟨hd, by decide, by decide, by decide⟩, hm, fun c => ⟨⟨by decide, by decide⟩, ⟨?_, Qqr hn h6, (Q0n t).1, (Q0n t).2⟩, fun c1 => ⟨⟨by decide, by decide⟩, ⟨by decide, by decide⟩, ⟨by decide, by decide⟩, c1, ?_, rfl, Nat.le_refl _, fun i hi => ?_⟩⟩⟩
 · rw [Qig]; exact hP
 · rw [Qig]
   exact ⟨rfl, rfl, rfl, rfl, rfl, rfl, rfl, rfl, rfl, rfl, rfl, rfl, rfl, rfl, rfl, rfl, rfl, rfl, rfl, rfl, rfl, rfl, rfl, rfl, rfl, rfl, rfl⟩
 · rw [Qig]
theorem Q8k : Qdl Tryz.prog 7 Zlz := Qc0 hm Za1 Tryz.func7 (Λ := fun _ _ => Qax) fun args bs e hs hp => by
 unfold Zlz at hs
 split at hs <;> try (cases hs; done)
 rename_i k a b x y w v u o d st sp
 obtain ⟨hB, he⟩ := Qev hs
 subst he
 rw [Bool.and_eq_true] at hB
 obtain rfl : st = 1 := of_decide_eq_true hB.1
 obtain rfl : sp = 100 := of_decide_eq_true hB.2
 exact ⟨[], trivial, Zjc (t := ⟨⟨k, a, b, x, y, w⟩, v, u, o, d⟩) hp⟩
end Go.Proofs.YteekigmbopdfjaaGreat
end
