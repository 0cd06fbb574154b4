/-
 What the proof uses, part 13.
-/
import Derived.Test.YtjdldadmaaeimaaZd12
set_option maxRecDepth 100000
set_option linter.unusedSimpArgs false
set_option linter.unusedVariables false

section
namespace Go.Proofs.Ytjdldadmaaeimaa
open Go.SE Go.RowKit
structure CV where
 id : Int
 bs : Int
 bg : Int
 ver : Int
 sk : Int
 sr : Int
 sw : Int
 sh : Int
 p0v : Int
 p0f : Bool
 p1v : Int
 p1f : Bool
 p2v : Int
 p2f : Bool
 p3v : Int
 p3f : Bool
 v0v : Int
 v0f : Bool
 v1v : Int
 v1f : Bool
 w0v : Int
 w0f : Bool
 dn : Int
 mv : Bool
 a0v : Int
 a0f : Bool
 a1v : Int
 a1f : Bool
 t0v : Int
 t0f : Bool
 t1v : Int
 t1f : Bool
 gr : Int
 b0 : Int
 b1 : Int
 b2 : Int
 b3 : Int
 f0 : Int
 f1 : Int
 u0 : Int
 u1 : Int
def caS (k : Int) (c : CV) (pts : SV) : SV := .agg [.v (.int .i64 k), .v (.int .i64 c.id), .v (.int .i64 c.bs), .v (.int .i64 c.bg), .v (.int .i64 c.ver), .v (.int .i64 c.sk), .v (.int .i64 c.sr), .v (.int .i64 c.sw), .v (.int .i64 c.sh), pts, .v (.int .i64 c.p0v), .v (.bool c.p0f), .v (.int .i64 c.p1v), .v (.bool c.p1f), .v (.int .i64 c.p2v), .v (.bool c.p2f), .v (.int .i64 c.p3v), .v (.bool c.p3f), .v (.int .i64 c.v0v), .v (.bool c.v0f), .v (.int .i64 c.v1v), .v (.bool c.v1f), .v (.int .i64 c.w0v), .v (.bool c.w0f), .v (.int .i64 c.dn), .v (.bool c.mv), .v (.int .i64 c.a0v), .v (.bool c.a0f), .v (.int .i64 c.a1v), .v (.bool c.a1f), .v (.int .i64 c.t0v), .v (.bool c.t0f), .v (.int .i64 c.t1v), .v (.bool c.t1f), .v (.int .i64 c.gr), .v (.int .i64 c.b0), .v (.int .i64 c.b1), .v (.int .i64 c.b2), .v (.int .i64 c.b3), .v (.int .i64 c.f0), .v (.int .i64 c.f1), .v (.int .i64 c.u0), .v (.int .i64 c.u1)]
def zCV : CV := ⟨0, 0, 0, 0, 0, 0, 0, 0, 0, false, 0, false, 0, false, 0, false, 0, false, 0, false, 0, false, 0, false, 0, false, 0, false, 0, false, 0, false, 0, 0, 0, 0, 0, 0, 0, 0, 0⟩
def uc1 (c : CV) : CV := ⟨c.id, 0, 0, 0, c.sk, c.sr, c.sw, c.sh, c.p0v, c.p0f, c.p1v, c.p1f, c.p2v, c.p2f, c.p3v, c.p3f, c.v0v, c.v0f, c.v1v, c.v1f, c.w0v, c.w0f, c.dn, c.mv, 0, false, 0, false, 0, false, 0, false, 0, 0, 0, 0, 0, 0, 0, 0, 0⟩
def uc2 (c : CV) : CV := ⟨c.id, c.bs, c.bg, c.ver, 0, 0, 0, 0, 0, false, 0, false, 0, false, 0, false, 0, false, 0, false, 0, false, 0, false, 0, false, 0, false, 0, false, 0, false, 0, 0, 0, 0, 0, 0, 0, 0, 0⟩
def uc3 (c : CV) : CV := ⟨c.id, c.bs, c.bg, c.ver, 0, 0, 0, 0, 0, false, 0, false, 0, false, 0, false, 0, false, 0, false, 0, false, 0, false, c.a0v, c.a0f, c.a1v, c.a1f, c.t0v, c.t0f, c.t1v, c.t1f, 0, 0, 0, 0, 0, 0, 0, 0, 0⟩
def uc4 (c : CV) : CV := ⟨c.id, c.bs, c.bg, c.ver, 0, 0, 0, 0, 0, false, 0, false, 0, false, 0, false, 0, false, 0, false, 0, false, 0, false, c.a0v, c.a0f, c.a1v, c.a1f, 0, false, 0, false, 0, 0, 0, 0, 0, 0, 0, 0, 0⟩
def uc5 (c : CV) : CV := ⟨c.id, 0, 0, 0, 0, 0, 0, 0, 0, false, 0, false, 0, false, 0, false, 0, false, 0, false, 0, false, 0, false, 0, false, 0, false, c.t0v, c.t0f, c.t1v, c.t1f, c.gr, 0, 0, 0, 0, 0, 0, 0, 0⟩
def uc6 (c : CV) : CV := ⟨c.id, 0, 0, 0, 0, 0, 0, 0, 0, false, 0, false, 0, false, 0, false, 0, false, 0, false, 0, false, 0, false, 0, false, 0, false, 0, false, 0, false, c.gr, 0, 0, 0, 0, 0, 0, 0, 0⟩
def uc7 (c : CV) : CV := ⟨c.id, c.bs, c.bg, 0, 0, 0, 0, 0, 0, false, 0, false, 0, false, 0, false, 0, false, 0, false, 0, false, 0, false, 0, false, 0, false, 0, false, 0, false, 0, 0, 0, 0, 0, 0, 0, 0, 0⟩
def uc8 (c : CV) : CV := ⟨c.id, 0, 0, 0, 0, 0, 0, 0, 0, false, 0, false, 0, false, 0, false, 0, false, 0, false, 0, false, 0, false, 0, false, 0, false, 0, false, 0, false, 0, c.b0, c.b1, c.b2, c.b3, 0, 0, 0, 0⟩
def uc9 (c : CV) : CV := ⟨c.id, 0, 0, 0, 0, 0, 0, 0, 0, false, 0, false, 0, false, 0, false, 0, false, 0, false, 0, false, 0, false, 0, false, 0, false, 0, false, 0, false, 0, 0, 0, 0, 0, c.f0, c.f1, c.u0, c.u1⟩
def Qho (c : CV) : CV := ⟨c.id, 0, 0, 0, 0, 0, 0, 0, 0, false, 0, false, 0, false, 0, false, 0, false, 0, false, 0, false, 0, false, 0, false, 0, false, 0, false, 0, false, 0, 0, 0, 0, 0, 0, 0, 0, 0⟩
def ptB (e n : Nat) (x y : Nat → Int) (xt : Nat) (wh : Bool) : Blk := { elem := e, size := 2, rw := false, lock := false, lit := false, flat := true, n := n, row := fun i => [.v (.int .i64 (x i)), .v (.int .i64 (y i))], ext := xt, whole := wh }
noncomputable def Qdi : Nat → Option LoopSpec := Qsx (Qsx Qas 21 [(5, fun _ => 128), (7, fun _ => 128)]) 13 [(13, fun _ => 128), (15, fun _ => 128), (17, fun _ => 128), (19, fun _ => 128), (21, fun _ => 128), (23, fun _ => 128)]
theorem Q8q (q : Option Prop) (c : CV) (e n m cap xt : Nat) (x y : Nat→Int) (wh : Bool) : (Qa6 Try.prog Qaq Qdi Try.f69 [caS 1 c (.sl 0 2 0 n cap)] (Qac [ptB e m x y xt wh]) 64 (fun y' h' => Qbh [ptB e m x y xt wh] (.det q (.tup [caS 1 (uc1 c) (.sl 0 2 0 n cap),bV true]) []) y' h')) =
(((((yI 1) = (yI 1))∧(((yI (CV.id c)) = (yI (CV.id (uc1 c))))∧((zI = (yI (CV.bs (uc1 c))))∧((zI = (yI (CV.bg (uc1 c))))∧((zI = (yI (CV.ver (uc1 c))))∧(((yI (CV.sk c)) = (yI (CV.sk (uc1 c))))∧(((yI (CV.sr c)) = (yI (CV.sr (uc1 c))))∧(((yI (CV.sw c)) = (yI (CV.sw (uc1 c))))∧(((yI (CV.sh c)) = (yI (CV.sh (uc1 c))))∧(((SV.sl 0 2 0 n cap) = (SV.sl 0 2 0 n cap))∧(((yI (CV.p0v c)) = (yI (CV.p0v (uc1 c))))∧(((yF (CV.p0f c)) = (yF (CV.p0f (uc1 c))))∧(((yI (CV.p1v c)) = (yI (CV.p1v (uc1 c))))∧(((yF (CV.p1f c)) = (yF (CV.p1f (uc1 c))))∧(((yI (CV.p2v c)) = (yI (CV.p2v (uc1 c))))∧(((yF (CV.p2f c)) = (yF (CV.p2f (uc1 c))))∧(((yI (CV.p3v c)) = (yI (CV.p3v (uc1 c))))∧(((yF (CV.p3f c)) = (yF (CV.p3f (uc1 c))))∧(((yI (CV.v0v c)) = (yI (CV.v0v (uc1 c))))∧(((yF (CV.v0f c)) = (yF (CV.v0f (uc1 c))))∧(((yI (CV.v1v c)) = (yI (CV.v1v (uc1 c))))∧(((yF (CV.v1f c)) = (yF (CV.v1f (uc1 c))))∧(((yI (CV.w0v c)) = (yI (CV.w0v (uc1 c))))∧(((yF (CV.w0f c)) = (yF (CV.w0f (uc1 c))))∧(((yI (CV.dn c)) = (yI (CV.dn (uc1 c))))∧(((yF (CV.mv c)) = (yF (CV.mv (uc1 c))))∧((zI = (yI (CV.a0v (uc1 c))))∧((zF = zF)∧((zI = (yI (CV.a1v (uc1 c))))∧((zF = zF)∧((zI = (yI (CV.t0v (uc1 c))))∧((zF = zF)∧((zI = (yI (CV.t1v (uc1 c))))∧((zF = zF)∧((zI = (yI (CV.gr (uc1 c))))∧((zI = (yI (CV.b0 (uc1 c))))∧((zI = (yI (CV.b1 (uc1 c))))∧((zI = (yI (CV.b2 (uc1 c))))∧((zI = (yI (CV.b3 (uc1 c))))∧((zI = (yI (CV.f0 (uc1 c))))∧((zI = (yI (CV.f1 (uc1 c))))∧((zI = (yI (CV.u0 (uc1 c))))∧(zI = (yI (CV.u1 (uc1 c))))))))))))))))))))))))))))))))))))))))))))))∧((yF true) = (yF true)))∧True) := by kernel_rfl
theorem Q8p (q : Option Prop) (c : CV) (e n m cap xt : Nat) (x y : Nat→Int) (wh : Bool) : (Qa6 Try.prog Qaq Qdi Try.f69 [caS 2 c (.sl 0 2 0 n cap)] (Qac [ptB e m x y xt wh]) 64 (fun y' h' => Qbh [ptB e m x y xt wh] (.det q (.tup [caS 2 (uc2 c) (Qa8),bV true]) []) y' h')) =
(((((yI 2) = (yI 2))∧(((yI (CV.id c)) = (yI (CV.id (uc2 c))))∧(((yI (CV.bs c)) = (yI (CV.bs (uc2 c))))∧(((yI (CV.bg c)) = (yI (CV.bg (uc2 c))))∧(((yI (CV.ver c)) = (yI (CV.ver (uc2 c))))∧((zI = (yI (CV.sk (uc2 c))))∧((zI = (yI (CV.sr (uc2 c))))∧((zI = (yI (CV.sw (uc2 c))))∧((zI = (yI (CV.sh (uc2 c))))∧((zS = zS)∧((zI = (yI (CV.p0v (uc2 c))))∧((zF = zF)∧((zI = (yI (CV.p1v (uc2 c))))∧((zF = zF)∧((zI = (yI (CV.p2v (uc2 c))))∧((zF = zF)∧((zI = (yI (CV.p3v (uc2 c))))∧((zF = zF)∧((zI = (yI (CV.v0v (uc2 c))))∧((zF = zF)∧((zI = (yI (CV.v1v (uc2 c))))∧((zF = zF)∧((zI = (yI (CV.w0v (uc2 c))))∧((zF = zF)∧((zI = (yI (CV.dn (uc2 c))))∧((zF = zF)∧((zI = (yI (CV.a0v (uc2 c))))∧((zF = zF)∧((zI = (yI (CV.a1v (uc2 c))))∧((zF = zF)∧((zI = (yI (CV.t0v (uc2 c))))∧((zF = zF)∧((zI = (yI (CV.t1v (uc2 c))))∧((zF = zF)∧((zI = (yI (CV.gr (uc2 c))))∧((zI = (yI (CV.b0 (uc2 c))))∧((zI = (yI (CV.b1 (uc2 c))))∧((zI = (yI (CV.b2 (uc2 c))))∧((zI = (yI (CV.b3 (uc2 c))))∧((zI = (yI (CV.f0 (uc2 c))))∧((zI = (yI (CV.f1 (uc2 c))))∧((zI = (yI (CV.u0 (uc2 c))))∧(zI = (yI (CV.u1 (uc2 c))))))))))))))))))))))))))))))))))))))))))))))∧((yF true) = (yF true)))∧True) := by kernel_rfl
theorem Q8o (q : Option Prop) (c : CV) (e n m cap xt : Nat) (x y : Nat→Int) (wh : Bool) : (Qa6 Try.prog Qaq Qdi Try.f69 [caS 3 c (.sl 0 2 0 n cap)] (Qac [ptB e m x y xt wh]) 64 (fun y' h' => Qbh [ptB e m x y xt wh] (.det q (.tup [caS 3 (uc3 c) (Qa8),bV true]) []) y' h')) =
(((((yI 3) = (yI 3))∧(((yI (CV.id c)) = (yI (CV.id (uc3 c))))∧(((yI (CV.bs c)) = (yI (CV.bs (uc3 c))))∧(((yI (CV.bg c)) = (yI (CV.bg (uc3 c))))∧(((yI (CV.ver c)) = (yI (CV.ver (uc3 c))))∧((zI = (yI (CV.sk (uc3 c))))∧((zI = (yI (CV.sr (uc3 c))))∧((zI = (yI (CV.sw (uc3 c))))∧((zI = (yI (CV.sh (uc3 c))))∧((zS = zS)∧((zI = (yI (CV.p0v (uc3 c))))∧((zF = zF)∧((zI = (yI (CV.p1v (uc3 c))))∧((zF = zF)∧((zI = (yI (CV.p2v (uc3 c))))∧((zF = zF)∧((zI = (yI (CV.p3v (uc3 c))))∧((zF = zF)∧((zI = (yI (CV.v0v (uc3 c))))∧((zF = zF)∧((zI = (yI (CV.v1v (uc3 c))))∧((zF = zF)∧((zI = (yI (CV.w0v (uc3 c))))∧((zF = zF)∧((zI = (yI (CV.dn (uc3 c))))∧((zF = zF)∧(((yI (CV.a0v c)) = (yI (CV.a0v (uc3 c))))∧(((yF (CV.a0f c)) = (yF (CV.a0f (uc3 c))))∧(((yI (CV.a1v c)) = (yI (CV.a1v (uc3 c))))∧(((yF (CV.a1f c)) = (yF (CV.a1f (uc3 c))))∧(((yI (CV.t0v c)) = (yI (CV.t0v (uc3 c))))∧(((yF (CV.t0f c)) = (yF (CV.t0f (uc3 c))))∧(((yI (CV.t1v c)) = (yI (CV.t1v (uc3 c))))∧(((yF (CV.t1f c)) = (yF (CV.t1f (uc3 c))))∧((zI = (yI (CV.gr (uc3 c))))∧((zI = (yI (CV.b0 (uc3 c))))∧((zI = (yI (CV.b1 (uc3 c))))∧((zI = (yI (CV.b2 (uc3 c))))∧((zI = (yI (CV.b3 (uc3 c))))∧((zI = (yI (CV.f0 (uc3 c))))∧((zI = (yI (CV.f1 (uc3 c))))∧((zI = (yI (CV.u0 (uc3 c))))∧(zI = (yI (CV.u1 (uc3 c))))))))))))))))))))))))))))))))))))))))))))))∧((yF true) = (yF true)))∧True) := by kernel_rfl
theorem Q8n (q : Option Prop) (c : CV) (e n m cap xt : Nat) (x y : Nat→Int) (wh : Bool) : (Qa6 Try.prog Qaq Qdi Try.f69 [caS 4 c (.sl 0 2 0 n cap)] (Qac [ptB e m x y xt wh]) 64 (fun y' h' => Qbh [ptB e m x y xt wh] (.det q (.tup [caS 4 (uc4 c) (Qa8),bV true]) []) y' h')) =
(((((yI 4) = (yI 4))∧(((yI (CV.id c)) = (yI (CV.id (uc4 c))))∧(((yI (CV.bs c)) = (yI (CV.bs (uc4 c))))∧(((yI (CV.bg c)) = (yI (CV.bg (uc4 c))))∧(((yI (CV.ver c)) = (yI (CV.ver (uc4 c))))∧((zI = (yI (CV.sk (uc4 c))))∧((zI = (yI (CV.sr (uc4 c))))∧((zI = (yI (CV.sw (uc4 c))))∧((zI = (yI (CV.sh (uc4 c))))∧((zS = zS)∧((zI = (yI (CV.p0v (uc4 c))))∧((zF = zF)∧((zI = (yI (CV.p1v (uc4 c))))∧((zF = zF)∧((zI = (yI (CV.p2v (uc4 c))))∧((zF = zF)∧((zI = (yI (CV.p3v (uc4 c))))∧((zF = zF)∧((zI = (yI (CV.v0v (uc4 c))))∧((zF = zF)∧((zI = (yI (CV.v1v (uc4 c))))∧((zF = zF)∧((zI = (yI (CV.w0v (uc4 c))))∧((zF = zF)∧((zI = (yI (CV.dn (uc4 c))))∧((zF = zF)∧(((yI (CV.a0v c)) = (yI (CV.a0v (uc4 c))))∧(((yF (CV.a0f c)) = (yF (CV.a0f (uc4 c))))∧(((yI (CV.a1v c)) = (yI (CV.a1v (uc4 c))))∧(((yF (CV.a1f c)) = (yF (CV.a1f (uc4 c))))∧((zI = (yI (CV.t0v (uc4 c))))∧((zF = zF)∧((zI = (yI (CV.t1v (uc4 c))))∧((zF = zF)∧((zI = (yI (CV.gr (uc4 c))))∧((zI = (yI (CV.b0 (uc4 c))))∧((zI = (yI (CV.b1 (uc4 c))))∧((zI = (yI (CV.b2 (uc4 c))))∧((zI = (yI (CV.b3 (uc4 c))))∧((zI = (yI (CV.f0 (uc4 c))))∧((zI = (yI (CV.f1 (uc4 c))))∧((zI = (yI (CV.u0 (uc4 c))))∧(zI = (yI (CV.u1 (uc4 c))))))))))))))))))))))))))))))))))))))))))))))∧((yF true) = (yF true)))∧True) := by kernel_rfl
theorem Q8m (q : Option Prop) (c : CV) (e n m cap xt : Nat) (x y : Nat→Int) (wh : Bool) : (Qa6 Try.prog Qaq Qdi Try.f69 [caS 5 c (.sl 0 2 0 n cap)] (Qac [ptB e m x y xt wh]) 64 (fun y' h' => Qbh [ptB e m x y xt wh] (.det q (.tup [caS 5 (uc5 c) (Qa8),bV true]) []) y' h')) =
(((((yI 5) = (yI 5))∧(((yI (CV.id c)) = (yI (CV.id (uc5 c))))∧((zI = (yI (CV.bs (uc5 c))))∧((zI = (yI (CV.bg (uc5 c))))∧((zI = (yI (CV.ver (uc5 c))))∧((zI = (yI (CV.sk (uc5 c))))∧((zI = (yI (CV.sr (uc5 c))))∧((zI = (yI (CV.sw (uc5 c))))∧((zI = (yI (CV.sh (uc5 c))))∧((zS = zS)∧((zI = (yI (CV.p0v (uc5 c))))∧((zF = zF)∧((zI = (yI (CV.p1v (uc5 c))))∧((zF = zF)∧((zI = (yI (CV.p2v (uc5 c))))∧((zF = zF)∧((zI = (yI (CV.p3v (uc5 c))))∧((zF = zF)∧((zI = (yI (CV.v0v (uc5 c))))∧((zF = zF)∧((zI = (yI (CV.v1v (uc5 c))))∧((zF = zF)∧((zI = (yI (CV.w0v (uc5 c))))∧((zF = zF)∧((zI = (yI (CV.dn (uc5 c))))∧((zF = zF)∧((zI = (yI (CV.a0v (uc5 c))))∧((zF = zF)∧((zI = (yI (CV.a1v (uc5 c))))∧((zF = zF)∧(((yI (CV.t0v c)) = (yI (CV.t0v (uc5 c))))∧(((yF (CV.t0f c)) = (yF (CV.t0f (uc5 c))))∧(((yI (CV.t1v c)) = (yI (CV.t1v (uc5 c))))∧(((yF (CV.t1f c)) = (yF (CV.t1f (uc5 c))))∧(((yI (CV.gr c)) = (yI (CV.gr (uc5 c))))∧((zI = (yI (CV.b0 (uc5 c))))∧((zI = (yI (CV.b1 (uc5 c))))∧((zI = (yI (CV.b2 (uc5 c))))∧((zI = (yI (CV.b3 (uc5 c))))∧((zI = (yI (CV.f0 (uc5 c))))∧((zI = (yI (CV.f1 (uc5 c))))∧((zI = (yI (CV.u0 (uc5 c))))∧(zI = (yI (CV.u1 (uc5 c))))))))))))))))))))))))))))))))))))))))))))))∧((yF true) = (yF true)))∧True) := by kernel_rfl
theorem Q8l (q : Option Prop) (c : CV) (e n m cap xt : Nat) (x y : Nat→Int) (wh : Bool) : (Qa6 Try.prog Qaq Qdi Try.f69 [caS 6 c (.sl 0 2 0 n cap)] (Qac [ptB e m x y xt wh]) 64 (fun y' h' => Qbh [ptB e m x y xt wh] (.det q (.tup [caS 6 (uc6 c) (Qa8),bV true]) []) y' h')) =
(((((yI 6) = (yI 6))∧(((yI (CV.id c)) = (yI (CV.id (uc6 c))))∧((zI = (yI (CV.bs (uc6 c))))∧((zI = (yI (CV.bg (uc6 c))))∧((zI = (yI (CV.ver (uc6 c))))∧((zI = (yI (CV.sk (uc6 c))))∧((zI = (yI (CV.sr (uc6 c))))∧((zI = (yI (CV.sw (uc6 c))))∧((zI = (yI (CV.sh (uc6 c))))∧((zS = zS)∧((zI = (yI (CV.p0v (uc6 c))))∧((zF = zF)∧((zI = (yI (CV.p1v (uc6 c))))∧((zF = zF)∧((zI = (yI (CV.p2v (uc6 c))))∧((zF = zF)∧((zI = (yI (CV.p3v (uc6 c))))∧((zF = zF)∧((zI = (yI (CV.v0v (uc6 c))))∧((zF = zF)∧((zI = (yI (CV.v1v (uc6 c))))∧((zF = zF)∧((zI = (yI (CV.w0v (uc6 c))))∧((zF = zF)∧((zI = (yI (CV.dn (uc6 c))))∧((zF = zF)∧((zI = (yI (CV.a0v (uc6 c))))∧((zF = zF)∧((zI = (yI (CV.a1v (uc6 c))))∧((zF = zF)∧((zI = (yI (CV.t0v (uc6 c))))∧((zF = zF)∧((zI = (yI (CV.t1v (uc6 c))))∧((zF = zF)∧(((yI (CV.gr c)) = (yI (CV.gr (uc6 c))))∧((zI = (yI (CV.b0 (uc6 c))))∧((zI = (yI (CV.b1 (uc6 c))))∧((zI = (yI (CV.b2 (uc6 c))))∧((zI = (yI (CV.b3 (uc6 c))))∧((zI = (yI (CV.f0 (uc6 c))))∧((zI = (yI (CV.f1 (uc6 c))))∧((zI = (yI (CV.u0 (uc6 c))))∧(zI = (yI (CV.u1 (uc6 c))))))))))))))))))))))))))))))))))))))))))))))∧((yF true) = (yF true)))∧True) := by kernel_rfl
theorem Q8k (q : Option Prop) (c : CV) (e n m cap xt : Nat) (x y : Nat→Int) (wh : Bool) : (Qa6 Try.prog Qaq Qdi Try.f69 [caS 7 c (.sl 0 2 0 n cap)] (Qac [ptB e m x y xt wh]) 64 (fun y' h' => Qbh [ptB e m x y xt wh] (.det q (.tup [caS 7 (uc7 c) (Qa8),bV true]) []) y' h')) =
(((((yI 7) = (yI 7))∧(((yI (CV.id c)) = (yI (CV.id (uc7 c))))∧(((yI (CV.bs c)) = (yI (CV.bs (uc7 c))))∧(((yI (CV.bg c)) = (yI (CV.bg (uc7 c))))∧((zI = (yI (CV.ver (uc7 c))))∧((zI = (yI (CV.sk (uc7 c))))∧((zI = (yI (CV.sr (uc7 c))))∧((zI = (yI (CV.sw (uc7 c))))∧((zI = (yI (CV.sh (uc7 c))))∧((zS = zS)∧((zI = (yI (CV.p0v (uc7 c))))∧((zF = zF)∧((zI = (yI (CV.p1v (uc7 c))))∧((zF = zF)∧((zI = (yI (CV.p2v (uc7 c))))∧((zF = zF)∧((zI = (yI (CV.p3v (uc7 c))))∧((zF = zF)∧((zI = (yI (CV.v0v (uc7 c))))∧((zF = zF)∧((zI = (yI (CV.v1v (uc7 c))))∧((zF = zF)∧((zI = (yI (CV.w0v (uc7 c))))∧((zF = zF)∧((zI = (yI (CV.dn (uc7 c))))∧((zF = zF)∧((zI = (yI (CV.a0v (uc7 c))))∧((zF = zF)∧((zI = (yI (CV.a1v (uc7 c))))∧((zF = zF)∧((zI = (yI (CV.t0v (uc7 c))))∧((zF = zF)∧((zI = (yI (CV.t1v (uc7 c))))∧((zF = zF)∧((zI = (yI (CV.gr (uc7 c))))∧((zI = (yI (CV.b0 (uc7 c))))∧((zI = (yI (CV.b1 (uc7 c))))∧((zI = (yI (CV.b2 (uc7 c))))∧((zI = (yI (CV.b3 (uc7 c))))∧((zI = (yI (CV.f0 (uc7 c))))∧((zI = (yI (CV.f1 (uc7 c))))∧((zI = (yI (CV.u0 (uc7 c))))∧(zI = (yI (CV.u1 (uc7 c))))))))))))))))))))))))))))))))))))))))))))))∧((yF true) = (yF true)))∧True) := by kernel_rfl
theorem Q8j (q : Option Prop) (c : CV) (e n m cap xt : Nat) (x y : Nat→Int) (wh : Bool) : (Qa6 Try.prog Qaq Qdi Try.f69 [caS 8 c (.sl 0 2 0 n cap)] (Qac [ptB e m x y xt wh]) 64 (fun y' h' => Qbh [ptB e m x y xt wh] (.det q (.tup [caS 8 (uc8 c) (Qa8),bV true]) []) y' h')) =
(((((yI 8) = (yI 8))∧(((yI (CV.id c)) = (yI (CV.id (uc8 c))))∧((zI = (yI (CV.bs (uc8 c))))∧((zI = (yI (CV.bg (uc8 c))))∧((zI = (yI (CV.ver (uc8 c))))∧((zI = (yI (CV.sk (uc8 c))))∧((zI = (yI (CV.sr (uc8 c))))∧((zI = (yI (CV.sw (uc8 c))))∧((zI = (yI (CV.sh (uc8 c))))∧((zS = zS)∧((zI = (yI (CV.p0v (uc8 c))))∧((zF = zF)∧((zI = (yI (CV.p1v (uc8 c))))∧((zF = zF)∧((zI = (yI (CV.p2v (uc8 c))))∧((zF = zF)∧((zI = (yI (CV.p3v (uc8 c))))∧((zF = zF)∧((zI = (yI (CV.v0v (uc8 c))))∧((zF = zF)∧((zI = (yI (CV.v1v (uc8 c))))∧((zF = zF)∧((zI = (yI (CV.w0v (uc8 c))))∧((zF = zF)∧((zI = (yI (CV.dn (uc8 c))))∧((zF = zF)∧((zI = (yI (CV.a0v (uc8 c))))∧((zF = zF)∧((zI = (yI (CV.a1v (uc8 c))))∧((zF = zF)∧((zI = (yI (CV.t0v (uc8 c))))∧((zF = zF)∧((zI = (yI (CV.t1v (uc8 c))))∧((zF = zF)∧((zI = (yI (CV.gr (uc8 c))))∧(((yI (CV.b0 c)) = (yI (CV.b0 (uc8 c))))∧(((yI (CV.b1 c)) = (yI (CV.b1 (uc8 c))))∧(((yI (CV.b2 c)) = (yI (CV.b2 (uc8 c))))∧(((yI (CV.b3 c)) = (yI (CV.b3 (uc8 c))))∧((zI = (yI (CV.f0 (uc8 c))))∧((zI = (yI (CV.f1 (uc8 c))))∧((zI = (yI (CV.u0 (uc8 c))))∧(zI = (yI (CV.u1 (uc8 c))))))))))))))))))))))))))))))))))))))))))))))∧((yF true) = (yF true)))∧True) := by kernel_rfl
theorem Q8i (q : Option Prop) (c : CV) (e n m cap xt : Nat) (x y : Nat→Int) (wh : Bool) : (Qa6 Try.prog Qaq Qdi Try.f69 [caS 9 c (.sl 0 2 0 n cap)] (Qac [ptB e m x y xt wh]) 64 (fun y' h' => Qbh [ptB e m x y xt wh] (.det q (.tup [caS 9 (uc9 c) (Qa8),bV true]) []) y' h')) =
(((((yI 9) = (yI 9))∧(((yI (CV.id c)) = (yI (CV.id (uc9 c))))∧((zI = (yI (CV.bs (uc9 c))))∧((zI = (yI (CV.bg (uc9 c))))∧((zI = (yI (CV.ver (uc9 c))))∧((zI = (yI (CV.sk (uc9 c))))∧((zI = (yI (CV.sr (uc9 c))))∧((zI = (yI (CV.sw (uc9 c))))∧((zI = (yI (CV.sh (uc9 c))))∧((zS = zS)∧((zI = (yI (CV.p0v (uc9 c))))∧((zF = zF)∧((zI = (yI (CV.p1v (uc9 c))))∧((zF = zF)∧((zI = (yI (CV.p2v (uc9 c))))∧((zF = zF)∧((zI = (yI (CV.p3v (uc9 c))))∧((zF = zF)∧((zI = (yI (CV.v0v (uc9 c))))∧((zF = zF)∧((zI = (yI (CV.v1v (uc9 c))))∧((zF = zF)∧((zI = (yI (CV.w0v (uc9 c))))∧((zF = zF)∧((zI = (yI (CV.dn (uc9 c))))∧((zF = zF)∧((zI = (yI (CV.a0v (uc9 c))))∧((zF = zF)∧((zI = (yI (CV.a1v (uc9 c))))∧((zF = zF)∧((zI = (yI (CV.t0v (uc9 c))))∧((zF = zF)∧((zI = (yI (CV.t1v (uc9 c))))∧((zF = zF)∧((zI = (yI (CV.gr (uc9 c))))∧((zI = (yI (CV.b0 (uc9 c))))∧((zI = (yI (CV.b1 (uc9 c))))∧((zI = (yI (CV.b2 (uc9 c))))∧((zI = (yI (CV.b3 (uc9 c))))∧(((yI (CV.f0 c)) = (yI (CV.f0 (uc9 c))))∧(((yI (CV.f1 c)) = (yI (CV.f1 (uc9 c))))∧(((yI (CV.u0 c)) = (yI (CV.u0 (uc9 c))))∧((yI (CV.u1 c)) = (yI (CV.u1 (uc9 c))))))))))))))))))))))))))))))))))))))))))))))∧((yF true) = (yF true)))∧True) := by kernel_rfl
theorem Q2k (q : Option Prop) (c : CV) (e n m cap xt : Nat) (x y : Nat→Int) (wh : Bool) : (Qa6 Try.prog Qaq Qdi Try.f69 [caS 10 c (.sl 0 2 0 n cap)] (Qac [ptB e m x y xt wh]) 64 (fun y' h' => Qbh [ptB e m x y xt wh] (.det q (.tup [caS 10 (Qho c) (Qa8),bV true]) []) y' h')) =
(((((yI 10) = (yI 10))∧(((yI (CV.id c)) = (yI (CV.id (Qho c))))∧((zI = (yI (CV.bs (Qho c))))∧((zI = (yI (CV.bg (Qho c))))∧((zI = (yI (CV.ver (Qho c))))∧((zI = (yI (CV.sk (Qho c))))∧((zI = (yI (CV.sr (Qho c))))∧((zI = (yI (CV.sw (Qho c))))∧((zI = (yI (CV.sh (Qho c))))∧((zS = zS)∧((zI = (yI (CV.p0v (Qho c))))∧((zF = zF)∧((zI = (yI (CV.p1v (Qho c))))∧((zF = zF)∧((zI = (yI (CV.p2v (Qho c))))∧((zF = zF)∧((zI = (yI (CV.p3v (Qho c))))∧((zF = zF)∧((zI = (yI (CV.v0v (Qho c))))∧((zF = zF)∧((zI = (yI (CV.v1v (Qho c))))∧((zF = zF)∧((zI = (yI (CV.w0v (Qho c))))∧((zF = zF)∧((zI = (yI (CV.dn (Qho c))))∧((zF = zF)∧((zI = (yI (CV.a0v (Qho c))))∧((zF = zF)∧((zI = (yI (CV.a1v (Qho c))))∧((zF = zF)∧((zI = (yI (CV.t0v (Qho c))))∧((zF = zF)∧((zI = (yI (CV.t1v (Qho c))))∧((zF = zF)∧((zI = (yI (CV.gr (Qho c))))∧((zI = (yI (CV.b0 (Qho c))))∧((zI = (yI (CV.b1 (Qho c))))∧((zI = (yI (CV.b2 (Qho c))))∧((zI = (yI (CV.b3 (Qho c))))∧((zI = (yI (CV.f0 (Qho c))))∧((zI = (yI (CV.f1 (Qho c))))∧((zI = (yI (CV.u0 (Qho c))))∧(zI = (yI (CV.u1 (Qho c))))))))))))))))))))))))))))))))))))))))))))))∧((yF true) = (yF true)))∧True) := by kernel_rfl
@[reducible] noncomputable def Qdz  (T_ : Prop) : Prop := (zI = zI)∧((zI = zI)∧((zI = zI)∧((zI = zI)∧((zS = zS)∧((zI = zI)∧((zF = zF)∧((zI = zI)∧((zF = zF)∧((zI = zI)∧((zF = zF)∧((zI = zI)∧((zF = zF)∧((zI = zI)∧((zF = zF)∧((zI = zI)∧((zF = zF)∧((zI = zI)∧((zF = zF)∧((zI = zI)∧(T_))))))))))))))))))))
@[reducible] noncomputable def Qiq  := ((zI = zI)∧((zF = zF)∧((zI = zI)∧((zF = zF)∧((zI = zI)∧((zF = zF)∧((zI = zI)∧((zF = zF)∧((zI = zI)∧((zI = zI)∧((zI = zI)∧((zI = zI)∧((zI = zI)∧((zI = zI)∧((zI = zI)∧((zI = zI)∧(zI = zI)))))))))))))))))
@[reducible] noncomputable def Qhj (k : Int) (c : CV) (T_ : Prop) : Prop := ((SV.v (.int .i64 k)) = zI)∧(((SV.v (.int .i64 (CV.id c))) = zI)∧((zI = zI)∧((zI = zI)∧((zI = zI)∧(T_)))))
@[reducible] noncomputable def Qkq (k : Int) (c : CV) (T_ : Prop) : Prop := ((SV.v (.int .i64 k)) = zI)∧(((SV.v (.int .i64 (CV.id c))) = zI)∧(((SV.v (.int .i64 (CV.bs c))) = zI)∧(((SV.v (.int .i64 (CV.bg c))) = zI)∧(T_))))
theorem Q8h (q : Option Prop) (k : Int) (c : CV) (e n m cap xt : Nat) (x y : Nat→Int) (wh : Bool) : (Qa6 Try.prog Qaq Qdi Try.f69 [caS k c (.sl 0 2 0 n cap)] (Qac [ptB e m x y xt wh]) 64 (fun y' h' => Qbh [ptB e m x y xt wh] (.det q (.tup [caS 0 zCV Qa8,bV false]) []) y' h')) =
(sel (k == 1) (((Qhj k c (((yI (CV.sk c)) = zI)∧(((yI (CV.sr c)) = zI)∧(((yI (CV.sw c)) = zI)∧(((yI (CV.sh c)) = zI)∧(((SV.sl 0 2 0 n cap) = zS)∧(((yI (CV.p0v c)) = zI)∧(((yF (CV.p0f c)) = zF)∧(((yI (CV.p1v c)) = zI)∧(((yF (CV.p1f c)) = zF)∧(((yI (CV.p2v c)) = zI)∧(((yF (CV.p2f c)) = zF)∧(((yI (CV.p3v c)) = zI)∧(((yF (CV.p3f c)) = zF)∧(((yI (CV.v0v c)) = zI)∧(((yF (CV.v0f c)) = zF)∧(((yI (CV.v1v c)) = zI)∧(((yF (CV.v1f c)) = zF)∧(((yI (CV.w0v c)) = zI)∧(((yF (CV.w0f c)) = zF)∧(((yI (CV.dn c)) = zI)∧(((yF (CV.mv c)) = zF)∧(Qiq)))))))))))))))))))))))∧((yF true) = zF))∧True) (sel (k == 3) (((Qkq k c (((yI (CV.ver c)) = zI)∧(Qdz ((zF = zF)∧(((yI (CV.a0v c)) = zI)∧(((yF (CV.a0f c)) = zF)∧(((yI (CV.a1v c)) = zI)∧(((yF (CV.a1f c)) = zF)∧(((yI (CV.t0v c)) = zI)∧(((yF (CV.t0f c)) = zF)∧(((yI (CV.t1v c)) = zI)∧(((yF (CV.t1f c)) = zF)∧((zI = zI)∧((zI = zI)∧((zI = zI)∧((zI = zI)∧((zI = zI)∧((zI = zI)∧((zI = zI)∧((zI = zI)∧(zI = zI)))))))))))))))))))))∧((yF true) = zF))∧True) (sel (k == 4) (((Qkq k c (((yI (CV.ver c)) = zI)∧(Qdz ((zF = zF)∧(((yI (CV.a0v c)) = zI)∧(((yF (CV.a0f c)) = zF)∧(((yI (CV.a1v c)) = zI)∧(((yF (CV.a1f c)) = zF)∧((zI = zI)∧((zF = zF)∧((zI = zI)∧((zF = zF)∧((zI = zI)∧((zI = zI)∧((zI = zI)∧((zI = zI)∧((zI = zI)∧((zI = zI)∧((zI = zI)∧((zI = zI)∧(zI = zI)))))))))))))))))))))∧((yF true) = zF))∧True) (sel (k == 2) (((Qkq k c (((yI (CV.ver c)) = zI)∧(Qdz ((zF = zF)∧(Qiq)))))∧((yF true) = zF))∧True) (sel (k == 7) (((Qkq k c ((zI = zI)∧(Qdz ((zF = zF)∧(Qiq)))))∧((yF true) = zF))∧True) (sel (k == 5) (((Qhj k c (Qdz ((zF = zF)∧((zI = zI)∧((zF = zF)∧((zI = zI)∧((zF = zF)∧(((yI (CV.t0v c)) = zI)∧(((yF (CV.t0f c)) = zF)∧(((yI (CV.t1v c)) = zI)∧(((yF (CV.t1f c)) = zF)∧(((yI (CV.gr c)) = zI)∧((zI = zI)∧((zI = zI)∧((zI = zI)∧((zI = zI)∧((zI = zI)∧((zI = zI)∧((zI = zI)∧(zI = zI))))))))))))))))))))∧((yF true) = zF))∧True) (sel (k == 6) (((Qhj k c (Qdz ((zF = zF)∧((zI = zI)∧((zF = zF)∧((zI = zI)∧((zF = zF)∧((zI = zI)∧((zF = zF)∧((zI = zI)∧((zF = zF)∧(((yI (CV.gr c)) = zI)∧((zI = zI)∧((zI = zI)∧((zI = zI)∧((zI = zI)∧((zI = zI)∧((zI = zI)∧((zI = zI)∧(zI = zI))))))))))))))))))))∧((yF true) = zF))∧True) (sel (k == 8) (((Qhj k c (Qdz ((zF = zF)∧((zI = zI)∧((zF = zF)∧((zI = zI)∧((zF = zF)∧((zI = zI)∧((zF = zF)∧((zI = zI)∧((zF = zF)∧((zI = zI)∧(((yI (CV.b0 c)) = zI)∧(((yI (CV.b1 c)) = zI)∧(((yI (CV.b2 c)) = zI)∧(((yI (CV.b3 c)) = zI)∧((zI = zI)∧((zI = zI)∧((zI = zI)∧(zI = zI))))))))))))))))))))∧((yF true) = zF))∧True) (sel (k == 9) (((Qhj k c (Qdz ((zF = zF)∧((zI = zI)∧((zF = zF)∧((zI = zI)∧((zF = zF)∧((zI = zI)∧((zF = zF)∧((zI = zI)∧((zF = zF)∧((zI = zI)∧((zI = zI)∧((zI = zI)∧((zI = zI)∧((zI = zI)∧(((yI (CV.f0 c)) = zI)∧(((yI (CV.f1 c)) = zI)∧(((yI (CV.u0 c)) = zI)∧((yI (CV.u1 c)) = zI))))))))))))))))))))∧((yF true) = zF))∧True) (sel (k == 10) (((Qhj k c (Qdz ((zF = zF)∧(Qiq))))∧((yF true) = zF))∧True) ((((zI = zI)∧((zI = zI)∧((zI = zI)∧((zI = zI)∧((zI = zI)∧(Qdz ((zF = zF)∧(Qiq))))))))∧(zF = zF))∧True))))))))))) := by kernel_rfl
noncomputable def cP1 (s : ByteArray) (k : Int) : Pz := (shP s (k + 1 + 4)).seq ((psP s (Qag s (k + 1 + 4))).seq ((vcP s (Qag s (k + 1 + 4) + 8 + 1 + 8 + 1 + 8 + 1 + 8 + 1)).seq ((nuP s (Qag s (k + 1 + 4) + 8 + 1 + 8 + 1 + 8 + 1 + 8 + 1 + 8 + 1 + 8 + 1)).seq ((tkP s (Qag s (k + 1 + 4) + 8 + 1 + 8 + 1 + 8 + 1 + 8 + 1 + 8 + 1 + 8 + 1 + 8 + 1) 8).seq ((upP s (Qag s (k + 1 + 4) + 8 + 1 + 8 + 1 + 8 + 1 + 8 + 1 + 8 + 1 + 8 + 1 + 8 + 1 + 8) 1 1).seq (enP s (Qag s (k + 1 + 4) + 8 + 1 + 8 + 1 + 8 + 1 + 8 + 1 + 8 + 1 + 8 + 1 + 8 + 1 + 8 + 1)))))))
def cE1 (s : ByteArray) (k : Int) : Int := Qag s (k + 1 + 4) + 8 + 1 + 8 + 1 + 8 + 1 + 8 + 1 + 8 + 1 + 8 + 1 + 8 + 1 + 8 + 1
noncomputable def cV1 (s : ByteArray) (k : Int) : CV := ⟨rdT s (k + 1) 4, 0, 0, 0, (Qjt s (k + 1 + 4)).k, (Qjt s (k + 1 + 4)).r, (Qjt s (k + 1 + 4)).w, (Qjt s (k + 1 + 4)).h, rdI s (Qag s (k + 1 + 4)), rdF s (Qag s (k + 1 + 4) + 8), rdI s (Qag s (k + 1 + 4) + 8 + 1), rdF s (Qag s (k + 1 + 4) + 8 + 1 + 8), rdI s (Qag s (k + 1 + 4) + 8 + 1 + 8 + 1), rdF s (Qag s (k + 1 + 4) + 8 + 1 + 8 + 1 + 8), rdI s (Qag s (k + 1 + 4) + 8 + 1 + 8 + 1 + 8 + 1), rdF s (Qag s (k + 1 + 4) + 8 + 1 + 8 + 1 + 8 + 1 + 8), rdI s (Qag s (k + 1 + 4) + 8 + 1 + 8 + 1 + 8 + 1 + 8 + 1), rdF s (Qag s (k + 1 + 4) + 8 + 1 + 8 + 1 + 8 + 1 + 8 + 1 + 8), rdI s (Qag s (k + 1 + 4) + 8 + 1 + 8 + 1 + 8 + 1 + 8 + 1 + 8 + 1), rdF s (Qag s (k + 1 + 4) + 8 + 1 + 8 + 1 + 8 + 1 + 8 + 1 + 8 + 1 + 8), rdI s (Qag s (k + 1 + 4) + 8 + 1 + 8 + 1 + 8 + 1 + 8 + 1 + 8 + 1 + 8 + 1), rdF s (Qag s (k + 1 + 4) + 8 + 1 + 8 + 1 + 8 + 1 + 8 + 1 + 8 + 1 + 8 + 1 + 8), rdI s (Qag s (k + 1 + 4) + 8 + 1 + 8 + 1 + 8 + 1 + 8 + 1 + 8 + 1 + 8 + 1 + 8 + 1), rdF s (Qag s (k + 1 + 4) + 8 + 1 + 8 + 1 + 8 + 1 + 8 + 1 + 8 + 1 + 8 + 1 + 8 + 1 + 8), 0, false, 0, false, 0, false, 0, false, 0, 0, 0, 0, 0, 0, 0, 0, 0⟩
noncomputable def cP2 (s : ByteArray) (k : Int) : Pz := (haP s (k + 1 + 4)).seq ((upP s (k + 1 + 4 + 4 + 4) 1099511627776 8).seq (enP s (k + 1 + 4 + 4 + 4 + 8)))
def cE2 (s : ByteArray) (k : Int) : Int := k + 1 + 4 + 4 + 4 + 8
noncomputable def cV2 (s : ByteArray) (k : Int) : CV := ⟨rdT s (k + 1) 4, rdT s (k + 1 + 4) 4, rdT s (k + 1 + 4 + 4) 4, rdT s (k + 1 + 4 + 4 + 4) 8, 0, 0, 0, 0, 0, false, 0, false, 0, false, 0, false, 0, false, 0, false, 0, false, 0, false, 0, false, 0, false, 0, false, 0, false, 0, 0, 0, 0, 0, 0, 0, 0, 0⟩
noncomputable def cP3 (s : ByteArray) (k : Int) : Pz := (haP s (k + 1 + 4)).seq ((upP s (k + 1 + 4 + 4 + 4) 1099511627776 8).seq ((vcP s (k + 1 + 4 + 4 + 4 + 8)).seq ((vcP s (k + 1 + 4 + 4 + 4 + 8 + 8 + 1 + 8 + 1)).seq (enP s (k + 1 + 4 + 4 + 4 + 8 + 8 + 1 + 8 + 1 + 8 + 1 + 8 + 1)))))
def cE3 (s : ByteArray) (k : Int) : Int := k + 1 + 4 + 4 + 4 + 8 + 8 + 1 + 8 + 1 + 8 + 1 + 8 + 1
noncomputable def cV3 (s : ByteArray) (k : Int) : CV := ⟨rdT s (k + 1) 4, rdT s (k + 1 + 4) 4, rdT s (k + 1 + 4 + 4) 4, rdT s (k + 1 + 4 + 4 + 4) 8, 0, 0, 0, 0, 0, false, 0, false, 0, false, 0, false, 0, false, 0, false, 0, false, 0, false, rdI s (k + 1 + 4 + 4 + 4 + 8), rdF s (k + 1 + 4 + 4 + 4 + 8 + 8), rdI s (k + 1 + 4 + 4 + 4 + 8 + 8 + 1), rdF s (k + 1 + 4 + 4 + 4 + 8 + 8 + 1 + 8), rdI s (k + 1 + 4 + 4 + 4 + 8 + 8 + 1 + 8 + 1), rdF s (k + 1 + 4 + 4 + 4 + 8 + 8 + 1 + 8 + 1 + 8), rdI s (k + 1 + 4 + 4 + 4 + 8 + 8 + 1 + 8 + 1 + 8 + 1), rdF s (k + 1 + 4 + 4 + 4 + 8 + 8 + 1 + 8 + 1 + 8 + 1 + 8), 0, 0, 0, 0, 0, 0, 0, 0, 0⟩
noncomputable def cP4 (s : ByteArray) (k : Int) : Pz := (haP s (k + 1 + 4)).seq ((upP s (k + 1 + 4 + 4 + 4) 1099511627776 8).seq ((vcP s (k + 1 + 4 + 4 + 4 + 8)).seq (enP s (k + 1 + 4 + 4 + 4 + 8 + 8 + 1 + 8 + 1))))
def cE4 (s : ByteArray) (k : Int) : Int := k + 1 + 4 + 4 + 4 + 8 + 8 + 1 + 8 + 1
noncomputable def cV4 (s : ByteArray) (k : Int) : CV := ⟨rdT s (k + 1) 4, rdT s (k + 1 + 4) 4, rdT s (k + 1 + 4 + 4) 4, rdT s (k + 1 + 4 + 4 + 4) 8, 0, 0, 0, 0, 0, false, 0, false, 0, false, 0, false, 0, false, 0, false, 0, false, 0, false, rdI s (k + 1 + 4 + 4 + 4 + 8), rdF s (k + 1 + 4 + 4 + 4 + 8 + 8), rdI s (k + 1 + 4 + 4 + 4 + 8 + 8 + 1), rdF s (k + 1 + 4 + 4 + 4 + 8 + 8 + 1 + 8), 0, false, 0, false, 0, 0, 0, 0, 0, 0, 0, 0, 0⟩
noncomputable def cP5 (s : ByteArray) (k : Int) : Pz := (upP s (k + 1 + 4) 2147483647 4).seq ((vcP s (k + 1 + 4 + 4)).seq (enP s (k + 1 + 4 + 4 + 8 + 1 + 8 + 1)))
def cE5 (s : ByteArray) (k : Int) : Int := k + 1 + 4 + 4 + 8 + 1 + 8 + 1
noncomputable def cV5 (s : ByteArray) (k : Int) : CV := ⟨rdT s (k + 1) 4, 0, 0, 0, 0, 0, 0, 0, 0, false, 0, false, 0, false, 0, false, 0, false, 0, false, 0, false, 0, false, 0, false, 0, false, rdI s (k + 1 + 4 + 4), rdF s (k + 1 + 4 + 4 + 8), rdI s (k + 1 + 4 + 4 + 8 + 1), rdF s (k + 1 + 4 + 4 + 8 + 1 + 8), rdT s (k + 1 + 4) 4, 0, 0, 0, 0, 0, 0, 0, 0⟩
noncomputable def cP6 (s : ByteArray) (k : Int) : Pz := (upP s (k + 1 + 4) 2147483647 4).seq (enP s (k + 1 + 4 + 4))
def cE6 (s : ByteArray) (k : Int) : Int := k + 1 + 4 + 4
noncomputable def cV6 (s : ByteArray) (k : Int) : CV := ⟨rdT s (k + 1) 4, 0, 0, 0, 0, 0, 0, 0, 0, false, 0, false, 0, false, 0, false, 0, false, 0, false, 0, false, 0, false, 0, false, 0, false, 0, false, 0, false, rdT s (k + 1 + 4) 4, 0, 0, 0, 0, 0, 0, 0, 0⟩
noncomputable def cP7 (s : ByteArray) (k : Int) : Pz := (haP s (k + 1 + 4)).seq (enP s (k + 1 + 4 + 4 + 4))
def cE7 (s : ByteArray) (k : Int) : Int := k + 1 + 4 + 4 + 4
noncomputable def cV7 (s : ByteArray) (k : Int) : CV := ⟨rdT s (k + 1) 4, rdT s (k + 1 + 4) 4, rdT s (k + 1 + 4 + 4) 4, 0, 0, 0, 0, 0, 0, false, 0, false, 0, false, 0, false, 0, false, 0, false, 0, false, 0, false, 0, false, 0, false, 0, false, 0, false, 0, 0, 0, 0, 0, 0, 0, 0, 0⟩
noncomputable def cP8 (s : ByteArray) (k : Int) : Pz := (spP s (k + 1 + 4)).seq ((spP s (k + 1 + 4 + 8 + 8)).seq (enP s (k + 1 + 4 + 8 + 8 + 8 + 8)))
def cE8 (s : ByteArray) (k : Int) : Int := k + 1 + 4 + 8 + 8 + 8 + 8
noncomputable def cV8 (s : ByteArray) (k : Int) : CV := ⟨rdT s (k + 1) 4, 0, 0, 0, 0, 0, 0, 0, 0, false, 0, false, 0, false, 0, false, 0, false, 0, false, 0, false, 0, false, 0, false, 0, false, 0, false, 0, false, 0, rdI s (k + 1 + 4), rdI s (k + 1 + 4 + 8), rdI s (k + 1 + 4 + 8 + 8), rdI s (k + 1 + 4 + 8 + 8 + 8), 0, 0, 0, 0⟩
noncomputable def cP9 (s : ByteArray) (k : Int) : Pz := (spP s (k + 1 + 4)).seq ((spP s (k + 1 + 4 + 8 + 8)).seq (enP s (k + 1 + 4 + 8 + 8 + 8 + 8)))
def cE9 (s : ByteArray) (k : Int) : Int := k + 1 + 4 + 8 + 8 + 8 + 8
noncomputable def cV9 (s : ByteArray) (k : Int) : CV := ⟨rdT s (k + 1) 4, 0, 0, 0, 0, 0, 0, 0, 0, false, 0, false, 0, false, 0, false, 0, false, 0, false, 0, false, 0, false, 0, false, 0, false, 0, false, 0, false, 0, 0, 0, 0, 0, rdI s (k + 1 + 4), rdI s (k + 1 + 4 + 8), rdI s (k + 1 + 4 + 8 + 8), rdI s (k + 1 + 4 + 8 + 8 + 8)⟩
noncomputable def Zef (s : ByteArray) (k : Int) : Pz := enP s (k + 1 + 4)
def cE10 (s : ByteArray) (k : Int) : Int := k + 1 + 4
noncomputable def Q7b (s : ByteArray) (k : Int) : CV := ⟨rdT s (k + 1) 4, 0, 0, 0, 0, 0, 0, 0, 0, false, 0, false, 0, false, 0, false, 0, false, 0, false, 0, false, 0, false, 0, false, 0, false, 0, false, 0, false, 0, 0, 0, 0, 0, 0, 0, 0, 0⟩
noncomputable def caR (s : ByteArray) (k : Int) : Pz := bif rdT s k 1 == 1 then cP1 s k else (bif rdT s k 1 == 2 then cP2 s k else (bif rdT s k 1 == 3 then cP3 s k else (bif rdT s k 1 == 4 then cP4 s k else (bif rdT s k 1 == 5 then cP5 s k else (bif rdT s k 1 == 6 then cP6 s k else (bif rdT s k 1 == 7 then cP7 s k else (bif rdT s k 1 == 8 then cP8 s k else (bif rdT s k 1 == 9 then cP9 s k else (Zef s k)))))))))
def caN (s : ByteArray) (k : Int) : Nat := bif rdT s k 1 == 1 then shC s (k + 1 + 4) else 0
def Qec (s : ByteArray) (k : Int) : Int := bif rdT s k 1 == 1 then cE1 s k else (bif rdT s k 1 == 2 then cE2 s k else (bif rdT s k 1 == 3 then cE3 s k else (bif rdT s k 1 == 4 then cE4 s k else (bif rdT s k 1 == 5 then cE5 s k else (bif rdT s k 1 == 6 then cE6 s k else (bif rdT s k 1 == 7 then cE7 s k else (bif rdT s k 1 == 8 then cE8 s k else (bif rdT s k 1 == 9 then cE9 s k else (cE10 s k)))))))))
noncomputable def caV (s : ByteArray) (k : Int) : CV := bif rdT s k 1 == 1 then cV1 s k else (bif rdT s k 1 == 2 then cV2 s k else (bif rdT s k 1 == 3 then cV3 s k else (bif rdT s k 1 == 4 then cV4 s k else (bif rdT s k 1 == 5 then cV5 s k else (bif rdT s k 1 == 6 then cV6 s k else (bif rdT s k 1 == 7 then cV7 s k else (bif rdT s k 1 == 8 then cV8 s k else (bif rdT s k 1 == 9 then cV9 s k else (Q7b s k)))))))))
noncomputable def caP (s : ByteArray) (k : Int) : Pz := (kiP s k 1).seq ((upP s (k + 1) 2147483647 4).seq (caR s k))
noncomputable def Qoi (s : ByteArray) (k : Int) : Nat → Int × Int := Qf6 s (shA (k + 1 + 4))
noncomputable def caE (s : ByteArray) (k : Int) : Eff := .nd (Qai s k) Nat 0 (fun c => caS (rdT s k 1) (caV s k) (.sl 1000 2 0 (caN s k) (caN s k + c))) fun c => [(0, rdB s (Qec s k)), (1000, spW (caN s k) (caN s k + c) (Qoi s k))]
noncomputable def ΓT7 : Qb6 := Qap (Qap (Qap Zho 122 (Qui shE shP)) 120 (Qjv Qyy Qwz)) 131 (Qjv (t0 Qmh) (p0 enP))
@[reducible] noncomputable def Qd0 (s : ByteArray) (k : Int) (T_ : Prop) : Prop := (zI = (SV.v (.int .i64 (CV.p0v (caV s k)))))∧((zF = (SV.v (.bool (CV.p0f (caV s k)))))∧((zI = (SV.v (.int .i64 (CV.p1v (caV s k)))))∧((zF = (SV.v (.bool (CV.p1f (caV s k)))))∧((zI = (SV.v (.int .i64 (CV.p2v (caV s k)))))∧((zF = (SV.v (.bool (CV.p2f (caV s k)))))∧((zI = (SV.v (.int .i64 (CV.p3v (caV s k)))))∧((zF = (SV.v (.bool (CV.p3f (caV s k)))))∧((zI = (SV.v (.int .i64 (CV.v0v (caV s k)))))∧((zF = (SV.v (.bool (CV.v0f (caV s k)))))∧((zI = (SV.v (.int .i64 (CV.v1v (caV s k)))))∧((zF = (SV.v (.bool (CV.v1f (caV s k)))))∧((zI = (SV.v (.int .i64 (CV.w0v (caV s k)))))∧((zF = (SV.v (.bool (CV.w0f (caV s k)))))∧((zI = (SV.v (.int .i64 (CV.dn (caV s k)))))∧((zF = (SV.v (.bool (CV.mv (caV s k)))))∧(T_))))))))))))))))
@[reducible] noncomputable def Qev (s : ByteArray) (k : Int) := ((zI = (SV.v (.int .i64 (CV.b0 (caV s k)))))∧((zI = (SV.v (.int .i64 (CV.b1 (caV s k)))))∧((zI = (SV.v (.int .i64 (CV.b2 (caV s k)))))∧((zI = (SV.v (.int .i64 (CV.b3 (caV s k)))))∧((zI = (SV.v (.int .i64 (CV.f0 (caV s k)))))∧((zI = (SV.v (.int .i64 (CV.f1 (caV s k)))))∧((zI = (SV.v (.int .i64 (CV.u0 (caV s k)))))∧(zI = (SV.v (.int .i64 (CV.u1 (caV s k))))))))))))
@[reducible] noncomputable def Qfr (s : ByteArray) (k : Int) (T_ : Prop) : Prop := (zI = (SV.v (.int .i64 (CV.a0v (caV s k)))))∧((zF = (SV.v (.bool (CV.a0f (caV s k)))))∧((zI = (SV.v (.int .i64 (CV.a1v (caV s k)))))∧((zF = (SV.v (.bool (CV.a1f (caV s k)))))∧((zI = (SV.v (.int .i64 (CV.t0v (caV s k)))))∧((zF = (SV.v (.bool (CV.t0f (caV s k)))))∧((zI = (SV.v (.int .i64 (CV.t1v (caV s k)))))∧((zF = (SV.v (.bool (CV.t1f (caV s k)))))∧(T_))))))))
@[reducible] noncomputable def Qhl (s : ByteArray) (k : Int) (T_ : Prop) : Prop := ((SV.v (.int .i64 (rdT s k 1))) = (SV.v (.int .i64 (rdT s k 1))))∧(((SV.v (.int .i64 (rdT s (k + 1) 4))) = (SV.v (.int .i64 (CV.id (caV s k)))))∧((zI = (SV.v (.int .i64 (CV.bs (caV s k)))))∧((zI = (SV.v (.int .i64 (CV.bg (caV s k)))))∧((zI = (SV.v (.int .i64 (CV.ver (caV s k)))))∧((zI = (SV.v (.int .i64 (CV.sk (caV s k)))))∧((zI = (SV.v (.int .i64 (CV.sr (caV s k)))))∧((zI = (SV.v (.int .i64 (CV.sw (caV s k)))))∧(T_))))))))
@[reducible] noncomputable def Qbb (s : ByteArray) (k : Int) := (Prod.snd (Qln s (Prod.snd (Qak s (Prod.snd (Qaj s (k + 1)))))))
@[reducible] noncomputable def Qbf (s : ByteArray) (k : Int) := (SV.v (Value.iface 169 (Value.agg #[.int .i64 (Pz.er (caP s k))])))
@[reducible] noncomputable def Qkr (s : ByteArray) (k : Int) (T_ : Prop) : Prop := ((SV.v (.int .i64 (rdT s k 1))) = (SV.v (.int .i64 (rdT s k 1))))∧(((SV.v (.int .i64 (rdT s (k + 1) 4))) = (SV.v (.int .i64 (CV.id (caV s k)))))∧(((SV.v (.int .i64 (rdT s (Prod.snd (Qaj s (k + 1))) 4))) = (SV.v (.int .i64 (CV.bs (caV s k)))))∧(((SV.v (.int .i64 (rdT s (Prod.snd (Qaj s (k + 1)) + 4) 4))) = (SV.v (.int .i64 (CV.bg (caV s k)))))∧(((SV.v (.int .i64 (rdT s (Prod.snd (Qak s (Prod.snd (Qaj s (k + 1))))) 8))) = (SV.v (.int .i64 (CV.ver (caV s k)))))∧((zI = (SV.v (.int .i64 (CV.sk (caV s k)))))∧((zI = (SV.v (.int .i64 (CV.sr (caV s k)))))∧((zI = (SV.v (.int .i64 (CV.sw (caV s k)))))∧(T_))))))))
@[reducible] noncomputable def Qch (s : ByteArray) (k : Int) := (Prod.snd (Qfw s (Prod.snd (Qdt s (Prod.snd (Qe2 s (Qag s (Prod.snd (Qaj s (k + 1))))))))))
@[reducible] noncomputable def Qis (s : ByteArray) (k : Int) := (((Qai s (Prod.snd (Qaj s (k + 1))))∧True)∧((Pz.bad (caP s k) = true)∧(((SV.v (Value.iface 169 (Value.agg #[.int .i64 (Pz.er (p0 haP [] s (Prod.snd (Qaj s (k + 1)))))]))) = (Qbf s k))∧True)))
@[reducible] noncomputable def Qlu (s : ByteArray) (k : Int) (T_ : Prop) : Prop := ((SV.v (.int .i64 (rdI s (Qbb s k)))) = (SV.v (.int .i64 (CV.a0v (caV s k)))))∧(((SV.v (.bool (rdF s (Prod.snd (Qln s (Prod.snd (Qak s (Prod.snd (Qaj s (k + 1)))))) + 8)))) = (SV.v (.bool (CV.a0f (caV s k)))))∧(((SV.v (.int .i64 (rdI s (Prod.snd (Qln s (Prod.snd (Qak s (Prod.snd (Qaj s (k + 1)))))) + 8 + 1)))) = (SV.v (.int .i64 (CV.a1v (caV s k)))))∧(((SV.v (.bool (rdF s (Prod.snd (Qln s (Prod.snd (Qak s (Prod.snd (Qaj s (k + 1)))))) + 8 + 1 + 8)))) = (SV.v (.bool (CV.a1f (caV s k)))))∧(T_))))
@[reducible] noncomputable def Qji (s : ByteArray) (k : Int) := (((Qai s (Prod.snd (Qak s (Prod.snd (Qaj s (k + 1))))))∧True)∧((Pz.bad (caP s k) = true)∧(((SV.v (Value.iface 169 (Value.agg #[.int .i64 (Pz.er (p0 Qo1 [] s (Prod.snd (Qak s (Prod.snd (Qaj s (k + 1)))))))]))) = (Qbf s k))∧True)))
@[reducible] noncomputable def Qc4 (s : ByteArray) (k : Int) := (Prod.snd (Qhb s (Prod.snd (Qhb s (Prod.snd (Qaj s (k + 1)))))))
@[reducible] noncomputable def Qcv (s : ByteArray) (k : Int) := (Prod.snd (Qe2 s (Qag s (Prod.snd (Qaj s (k + 1))))))
theorem Q9e (s : ByteArray) (k : Int) : (Qf9 Try.prog ΓT7 Qas Try.f85 [.vp 0 0] (Qac [rdB s k]) 64 (fun y h' => (caP s k).bad = false∧Qbh [rdB s k] (caE s k) y h') (fun y h' => (caP s k).bad = true∧Qbh [rdB s k] (.det none (pE (caP s k).er) [(0,Qbz (rdB s k))]) y h')) =
(sel (Pz.bad (kiP s k 1)) (((Qai s k)∧True)∧((Pz.bad (caP s k) = true)∧(((SV.v (Value.iface 169 (Value.agg #[.int .i64 (Pz.er (Qwz [yI 1] s k))]))) = (Qbf s k))∧True))) (((Qai s k)∧True)∧(sel (Pz.bad (Qcx s (k + 1))) (((Qai s (k + 1))∧True)∧((Pz.bad (caP s k) = true)∧(((SV.v (Value.iface 169 (Value.agg #[.int .i64 (Pz.er (p0 Qcx [] s (k + 1)))]))) = (Qbf s k))∧True))) (((Qai s (k + 1))∧True)∧(sel (rdT s k 1 == 1) (sel (Pz.bad (shP s (Prod.snd (Qaj s (k + 1))))) ((Qai s (Prod.snd (Qaj s (k + 1))))∧((Pz.bad (caP s k) = true)∧(((SV.v (Value.iface 169 (Value.agg #[.int .i64 (Pz.er (shP s (Prod.snd (Qaj s (k + 1)))))]))) = (Qbf s k))∧True))) ((Qai s (Prod.snd (Qaj s (k + 1))))∧(∀ c : Nat,(sel (Pz.bad (psP s (Qag s (Prod.snd (Qaj s (k + 1)))))) (((Qai s (Qag s (Prod.snd (Qaj s (k + 1)))))∧True)∧((Pz.bad (caP s k) = true)∧(((SV.v (Value.iface 169 (Value.agg #[.int .i64 (Pz.er (p0 psP [] s (Qag s (Prod.snd (Qaj s (k + 1))))))]))) = (Qbf s k))∧True))) (((Qai s (Qag s (Prod.snd (Qaj s (k + 1)))))∧True)∧(sel (Pz.bad (vcP s (Qcv s k))) (((Qai s (Qcv s k))∧True)∧((Pz.bad (caP s k) = true)∧(((SV.v (Value.iface 169 (Value.agg #[.int .i64 (Pz.er (p0 vcP [] s (Qcv s k)))]))) = (Qbf s k))∧True))) (((Qai s (Qcv s k))∧True)∧(sel (Pz.bad (nuP s (Prod.snd (Qdt s (Qcv s k))))) (((Qai s (Prod.snd (Qdt s (Qcv s k))))∧True)∧((Pz.bad (caP s k) = true)∧(((SV.v (Value.iface 169 (Value.agg #[.int .i64 (Pz.er (p0 nuP [] s (Prod.snd (Qdt s (Qcv s k)))))]))) = (Qbf s k))∧True))) (((Qai s (Prod.snd (Qdt s (Qcv s k))))∧True)∧(sel (Pz.bad (Qn1 s (Qch s k))) (((Qai s (Qch s k))∧True)∧((Pz.bad (caP s k) = true)∧(((SV.v (Value.iface 169 (Value.agg #[.int .i64 (Pz.er (p0 Qn1 [] s (Qch s k)))]))) = (Qbf s k))∧True))) (((Qai s (Qch s k))∧True)∧(sel (Pz.bad (Qkf s (Prod.snd (Qee s (Qch s k))))) (((Qai s (Prod.snd (Qee s (Qch s k))))∧True)∧((Pz.bad (caP s k) = true)∧(((SV.v (Value.iface 169 (Value.agg #[.int .i64 (Pz.er (p0 Qkf [] s (Prod.snd (Qee s (Qch s k)))))]))) = (Qbf s k))∧True))) (((Qai s (Prod.snd (Qee s (Qch s k))))∧True)∧(sel (Pz.bad (enP s (Prod.snd (Qdf s (Prod.snd (Qee s (Qch s k))))))) (((Qai s (Prod.snd (Qdf s (Prod.snd (Qee s (Qch s k))))))∧True)∧((Pz.bad (caP s k) = true)∧(((SV.v (Value.iface 169 (Value.agg #[.int .i64 (Pz.er (p0 enP [] s (Prod.snd (Qdf s (Prod.snd (Qee s (Qch s k)))))))]))) = (Qbf s k))∧True))) (((Qai s (Prod.snd (Qdf s (Prod.snd (Qee s (Qch s k))))))∧True)∧((Pz.bad (caP s k) = false)∧(∃ c_1 : Nat,((((yI (rdT s k 1)) = (yI (rdT s k 1)))∧(((yI (rdT s (k + 1) 4)) = (yI (CV.id (caV s k))))∧((zI = (yI (CV.bs (caV s k))))∧((zI = (yI (CV.bg (caV s k))))∧((zI = (yI (CV.ver (caV s k))))∧(((yI (ShB.k (Qjt s (Prod.snd (Qaj s (k + 1)))))) = (yI (CV.sk (caV s k))))∧(((yI (ShB.r (Qjt s (Prod.snd (Qaj s (k + 1)))))) = (yI (CV.sr (caV s k))))∧(((yI (ShB.w (Qjt s (Prod.snd (Qaj s (k + 1)))))) = (yI (CV.sw (caV s k))))∧(((yI (ShB.h (Qjt s (Prod.snd (Qaj s (k + 1)))))) = (yI (CV.sh (caV s k))))∧(((SV.sl 176 2 0 (shC s (Prod.snd (Qaj s (k + 1)))) (shC s (Prod.snd (Qaj s (k + 1))) + c)) = (SV.sl 176 2 0 (caN s k) (caN s k + c_1)))∧(((yI (rdI s (Qag s (Prod.snd (Qaj s (k + 1)))))) = (yI (CV.p0v (caV s k))))∧(((yF (rdF s (Qag s (Prod.snd (Qaj s (k + 1))) + 8))) = (yF (CV.p0f (caV s k))))∧(((yI (rdI s (Qag s (Prod.snd (Qaj s (k + 1))) + 8 + 1))) = (yI (CV.p1v (caV s k))))∧(((yF (rdF s (Qag s (Prod.snd (Qaj s (k + 1))) + 8 + 1 + 8))) = (yF (CV.p1f (caV s k))))∧(((yI (rdI s (Qag s (Prod.snd (Qaj s (k + 1))) + 8 + 1 + 8 + 1))) = (yI (CV.p2v (caV s k))))∧(((yF (rdF s (Qag s (Prod.snd (Qaj s (k + 1))) + 8 + 1 + 8 + 1 + 8))) = (yF (CV.p2f (caV s k))))∧(((yI (rdI s (Qag s (Prod.snd (Qaj s (k + 1))) + 8 + 1 + 8 + 1 + 8 + 1))) = (yI (CV.p3v (caV s k))))∧(((yF (rdF s (Qag s (Prod.snd (Qaj s (k + 1))) + 8 + 1 + 8 + 1 + 8 + 1 + 8))) = (yF (CV.p3f (caV s k))))∧(((yI (rdI s (Qcv s k))) = (yI (CV.v0v (caV s k))))∧(((yF (rdF s (Prod.snd (Qe2 s (Qag s (Prod.snd (Qaj s (k + 1))))) + 8))) = (yF (CV.v0f (caV s k))))∧(((yI (rdI s (Prod.snd (Qe2 s (Qag s (Prod.snd (Qaj s (k + 1))))) + 8 + 1))) = (yI (CV.v1v (caV s k))))∧(((yF (rdF s (Prod.snd (Qe2 s (Qag s (Prod.snd (Qaj s (k + 1))))) + 8 + 1 + 8))) = (yF (CV.v1f (caV s k))))∧(((yI (rdI s (Prod.snd (Qdt s (Qcv s k))))) = (yI (CV.w0v (caV s k))))∧(((yF (rdF s (Prod.snd (Qdt s (Qcv s k)) + 8))) = (yF (CV.w0f (caV s k))))∧(((yI (rdI s (Qch s k))) = (yI (CV.dn (caV s k))))∧(((yF (rdF s (Prod.snd (Qee s (Qch s k))))) = (yF (CV.mv (caV s k))))∧(Qfr s k ((zI = (yI (CV.gr (caV s k))))∧(Qev s k)))))))))))))))))))))))))))))∧((((1 : Nat) = 1)∧(((1 : Nat) ≤ 1)∧(∀ i : Nat,(((i : Nat) < 1)→([(SV.v (.string s)),(yI (Prod.snd (Qmh s (Prod.snd (Qdf s (Prod.snd (Qee s (Qch s k))))))))] = [(SV.v (.string s)),(yI (Qec s k))])))))∧((((shC s (Prod.snd (Qaj s (k + 1)))) : Nat) = (caN s k))∧((((caN s k + c_1) : Nat) ≤ (shC s (Prod.snd (Qaj s (k + 1))) + c))∧(∀ i : Nat,(((i : Nat) < (caN s k))→([(yI (Prod.fst (Qf6 s (shA (Prod.snd (Qaj s (k + 1)))) i))),(yI (Prod.snd (Qf6 s (shA (Prod.snd (Qaj s (k + 1)))) i)))] = [(yI (Prod.fst (Qoi s k i))),(yI (Prod.snd (Qoi s k i)))])))))))))))))))))))))))) (sel (rdT s k 1 == 2) (sel (Pz.bad (haP s (Prod.snd (Qaj s (k + 1))))) (Qis s k) (((Qai s (Prod.snd (Qaj s (k + 1))))∧True)∧(sel (Pz.bad (Qo1 s (Prod.snd (Qak s (Prod.snd (Qaj s (k + 1))))))) (Qji s k) (((Qai s (Prod.snd (Qak s (Prod.snd (Qaj s (k + 1))))))∧True)∧(sel (Pz.bad (enP s (Qbb s k))) (((Qai s (Qbb s k))∧True)∧((Pz.bad (caP s k) = true)∧(((SV.v (Value.iface 169 (Value.agg #[.int .i64 (Pz.er (p0 enP [] s (Qbb s k)))]))) = (Qbf s k))∧True))) (((Qai s (Qbb s k))∧True)∧((Pz.bad (caP s k) = false)∧(∃ c : Nat,((Qkr s k ((zI = (yI (CV.sh (caV s k))))∧(((zS = zS)∧(((0 : Nat) = 0)∧((((caN s k) : Nat) = 0)∧(((caN s k + c) : Nat) = 0))))∧(Qd0 s k (Qfr s k ((zI = (yI (CV.gr (caV s k))))∧(Qev s k)))))))∧((((1 : Nat) = 1)∧(((1 : Nat) ≤ 1)∧(∀ i : Nat,(((i : Nat) < 1)→([(SV.v (.string s)),(yI (Prod.snd (Qmh s (Qbb s k))))] = [(SV.v (.string s)),(yI (Qec s k))])))))∧(((((caN s k) : Nat) = 0)∧((((caN s k + c) : Nat) = 0)∧True))∧True))))))))))) (sel (rdT s k 1 == 3) (sel (Pz.bad (haP s (Prod.snd (Qaj s (k + 1))))) (Qis s k) (((Qai s (Prod.snd (Qaj s (k + 1))))∧True)∧(sel (Pz.bad (Qo1 s (Prod.snd (Qak s (Prod.snd (Qaj s (k + 1))))))) (Qji s k) (((Qai s (Prod.snd (Qak s (Prod.snd (Qaj s (k + 1))))))∧True)∧(sel (Pz.bad (vcP s (Qbb s k))) (((Qai s (Qbb s k))∧True)∧((Pz.bad (caP s k) = true)∧(((SV.v (Value.iface 169 (Value.agg #[.int .i64 (Pz.er (p0 vcP [] s (Qbb s k)))]))) = (Qbf s k))∧True))) (((Qai s (Qbb s k))∧True)∧(sel (Pz.bad (vcP s (Prod.snd (Qdt s (Qbb s k))))) (((Qai s (Prod.snd (Qdt s (Qbb s k))))∧True)∧((Pz.bad (caP s k) = true)∧(((SV.v (Value.iface 169 (Value.agg #[.int .i64 (Pz.er (p0 vcP [] s (Prod.snd (Qdt s (Qbb s k)))))]))) = (Qbf s k))∧True))) (((Qai s (Prod.snd (Qdt s (Qbb s k))))∧True)∧(sel (Pz.bad (enP s (Prod.snd (Qdt s (Prod.snd (Qdt s (Qbb s k))))))) (((Qai s (Prod.snd (Qdt s (Prod.snd (Qdt s (Qbb s k))))))∧True)∧((Pz.bad (caP s k) = true)∧(((SV.v (Value.iface 169 (Value.agg #[.int .i64 (Pz.er (p0 enP [] s (Prod.snd (Qdt s (Prod.snd (Qdt s (Qbb s k)))))))]))) = (Qbf s k))∧True))) (((Qai s (Prod.snd (Qdt s (Prod.snd (Qdt s (Qbb s k))))))∧True)∧((Pz.bad (caP s k) = false)∧(∃ c : Nat,((Qkr s k ((zI = (yI (CV.sh (caV s k))))∧(((zS = zS)∧(((0 : Nat) = 0)∧((((caN s k) : Nat) = 0)∧(((caN s k + c) : Nat) = 0))))∧(Qd0 s k (Qlu s k (((yI (rdI s (Prod.snd (Qdt s (Qbb s k))))) = (yI (CV.t0v (caV s k))))∧(((yF (rdF s (Prod.snd (Qdt s (Qbb s k)) + 8))) = (yF (CV.t0f (caV s k))))∧(((yI (rdI s (Prod.snd (Qdt s (Qbb s k)) + 8 + 1))) = (yI (CV.t1v (caV s k))))∧(((yF (rdF s (Prod.snd (Qdt s (Qbb s k)) + 8 + 1 + 8))) = (yF (CV.t1f (caV s k))))∧((zI = (yI (CV.gr (caV s k))))∧(Qev s k)))))))))))∧((((1 : Nat) = 1)∧(((1 : Nat) ≤ 1)∧(∀ i : Nat,(((i : Nat) < 1)→([(SV.v (.string s)),(yI (Prod.snd (Qmh s (Prod.snd (Qdt s (Prod.snd (Qdt s (Qbb s k))))))))] = [(SV.v (.string s)),(yI (Qec s k))])))))∧(((((caN s k) : Nat) = 0)∧((((caN s k + c) : Nat) = 0)∧True))∧True))))))))))))))) (sel (rdT s k 1 == 4) (sel (Pz.bad (haP s (Prod.snd (Qaj s (k + 1))))) (Qis s k) (((Qai s (Prod.snd (Qaj s (k + 1))))∧True)∧(sel (Pz.bad (Qo1 s (Prod.snd (Qak s (Prod.snd (Qaj s (k + 1))))))) (Qji s k) (((Qai s (Prod.snd (Qak s (Prod.snd (Qaj s (k + 1))))))∧True)∧(sel (Pz.bad (vcP s (Qbb s k))) (((Qai s (Qbb s k))∧True)∧((Pz.bad (caP s k) = true)∧(((SV.v (Value.iface 169 (Value.agg #[.int .i64 (Pz.er (p0 vcP [] s (Qbb s k)))]))) = (Qbf s k))∧True))) (((Qai s (Qbb s k))∧True)∧(sel (Pz.bad (enP s (Prod.snd (Qdt s (Qbb s k))))) (((Qai s (Prod.snd (Qdt s (Qbb s k))))∧True)∧((Pz.bad (caP s k) = true)∧(((SV.v (Value.iface 169 (Value.agg #[.int .i64 (Pz.er (p0 enP [] s (Prod.snd (Qdt s (Qbb s k)))))]))) = (Qbf s k))∧True))) (((Qai s (Prod.snd (Qdt s (Qbb s k))))∧True)∧((Pz.bad (caP s k) = false)∧(∃ c : Nat,((Qkr s k ((zI = (yI (CV.sh (caV s k))))∧(((zS = zS)∧(((0 : Nat) = 0)∧((((caN s k) : Nat) = 0)∧(((caN s k + c) : Nat) = 0))))∧(Qd0 s k (Qlu s k ((zI = (yI (CV.t0v (caV s k))))∧((zF = (yF (CV.t0f (caV s k))))∧((zI = (yI (CV.t1v (caV s k))))∧((zF = (yF (CV.t1f (caV s k))))∧((zI = (yI (CV.gr (caV s k))))∧(Qev s k)))))))))))∧((((1 : Nat) = 1)∧(((1 : Nat) ≤ 1)∧(∀ i : Nat,(((i : Nat) < 1)→([(SV.v (.string s)),(yI (Prod.snd (Qmh s (Prod.snd (Qdt s (Qbb s k))))))] = [(SV.v (.string s)),(yI (Qec s k))])))))∧(((((caN s k) : Nat) = 0)∧((((caN s k + c) : Nat) = 0)∧True))∧True))))))))))))) (sel (rdT s k 1 == 5) (sel (Pz.bad (Qcx s (Prod.snd (Qaj s (k + 1))))) (((Qai s (Prod.snd (Qaj s (k + 1))))∧True)∧((Pz.bad (caP s k) = true)∧(((SV.v (Value.iface 169 (Value.agg #[.int .i64 (Pz.er (p0 Qcx [] s (Prod.snd (Qaj s (k + 1)))))]))) = (Qbf s k))∧True))) (((Qai s (Prod.snd (Qaj s (k + 1))))∧True)∧(sel (Pz.bad (vcP s (Prod.snd (Qaj s (Prod.snd (Qaj s (k + 1))))))) (((Qai s (Prod.snd (Qaj s (Prod.snd (Qaj s (k + 1))))))∧True)∧((Pz.bad (caP s k) = true)∧(((SV.v (Value.iface 169 (Value.agg #[.int .i64 (Pz.er (p0 vcP [] s (Prod.snd (Qaj s (Prod.snd (Qaj s (k + 1)))))))]))) = (Qbf s k))∧True))) (((Qai s (Prod.snd (Qaj s (Prod.snd (Qaj s (k + 1))))))∧True)∧(sel (Pz.bad (enP s (Prod.snd (Qdt s (Prod.snd (Qaj s (Prod.snd (Qaj s (k + 1))))))))) (((Qai s (Prod.snd (Qdt s (Prod.snd (Qaj s (Prod.snd (Qaj s (k + 1))))))))∧True)∧((Pz.bad (caP s k) = true)∧(((SV.v (Value.iface 169 (Value.agg #[.int .i64 (Pz.er (p0 enP [] s (Prod.snd (Qdt s (Prod.snd (Qaj s (Prod.snd (Qaj s (k + 1)))))))))]))) = (Qbf s k))∧True))) (((Qai s (Prod.snd (Qdt s (Prod.snd (Qaj s (Prod.snd (Qaj s (k + 1))))))))∧True)∧((Pz.bad (caP s k) = false)∧(∃ c : Nat,((Qhl s k ((zI = (yI (CV.sh (caV s k))))∧(((zS = zS)∧(((0 : Nat) = 0)∧((((caN s k) : Nat) = 0)∧(((caN s k + c) : Nat) = 0))))∧(Qd0 s k ((zI = (yI (CV.a0v (caV s k))))∧((zF = (yF (CV.a0f (caV s k))))∧((zI = (yI (CV.a1v (caV s k))))∧((zF = (yF (CV.a1f (caV s k))))∧(((yI (rdI s (Prod.snd (Qaj s (Prod.snd (Qaj s (k + 1))))))) = (yI (CV.t0v (caV s k))))∧(((yF (rdF s (Prod.snd (Qaj s (Prod.snd (Qaj s (k + 1)))) + 8))) = (yF (CV.t0f (caV s k))))∧(((yI (rdI s (Prod.snd (Qaj s (Prod.snd (Qaj s (k + 1)))) + 8 + 1))) = (yI (CV.t1v (caV s k))))∧(((yF (rdF s (Prod.snd (Qaj s (Prod.snd (Qaj s (k + 1)))) + 8 + 1 + 8))) = (yF (CV.t1f (caV s k))))∧(((yI (rdT s (Prod.snd (Qaj s (k + 1))) 4)) = (yI (CV.gr (caV s k))))∧(Qev s k))))))))))))))∧((((1 : Nat) = 1)∧(((1 : Nat) ≤ 1)∧(∀ i : Nat,(((i : Nat) < 1)→([(SV.v (.string s)),(yI (Prod.snd (Qmh s (Prod.snd (Qdt s (Prod.snd (Qaj s (Prod.snd (Qaj s (k + 1))))))))))] = [(SV.v (.string s)),(yI (Qec s k))])))))∧(((((caN s k) : Nat) = 0)∧((((caN s k + c) : Nat) = 0)∧True))∧True))))))))))) (sel (rdT s k 1 == 6) (sel (Pz.bad (Qcx s (Prod.snd (Qaj s (k + 1))))) (((Qai s (Prod.snd (Qaj s (k + 1))))∧True)∧((Pz.bad (caP s k) = true)∧(((SV.v (Value.iface 169 (Value.agg #[.int .i64 (Pz.er (p0 Qcx [] s (Prod.snd (Qaj s (k + 1)))))]))) = (Qbf s k))∧True))) (((Qai s (Prod.snd (Qaj s (k + 1))))∧True)∧(sel (Pz.bad (enP s (Prod.snd (Qaj s (Prod.snd (Qaj s (k + 1))))))) (((Qai s (Prod.snd (Qaj s (Prod.snd (Qaj s (k + 1))))))∧True)∧((Pz.bad (caP s k) = true)∧(((SV.v (Value.iface 169 (Value.agg #[.int .i64 (Pz.er (p0 enP [] s (Prod.snd (Qaj s (Prod.snd (Qaj s (k + 1)))))))]))) = (Qbf s k))∧True))) (((Qai s (Prod.snd (Qaj s (Prod.snd (Qaj s (k + 1))))))∧True)∧((Pz.bad (caP s k) = false)∧(∃ c : Nat,((Qhl s k ((zI = (yI (CV.sh (caV s k))))∧(((zS = zS)∧(((0 : Nat) = 0)∧((((caN s k) : Nat) = 0)∧(((caN s k + c) : Nat) = 0))))∧(Qd0 s k (Qfr s k (((yI (rdT s (Prod.snd (Qaj s (k + 1))) 4)) = (yI (CV.gr (caV s k))))∧(Qev s k)))))))∧((((1 : Nat) = 1)∧(((1 : Nat) ≤ 1)∧(∀ i : Nat,(((i : Nat) < 1)→([(SV.v (.string s)),(yI (Prod.snd (Qmh s (Prod.snd (Qaj s (Prod.snd (Qaj s (k + 1))))))))] = [(SV.v (.string s)),(yI (Qec s k))])))))∧(((((caN s k) : Nat) = 0)∧((((caN s k + c) : Nat) = 0)∧True))∧True))))))))) (sel (rdT s k 1 == 7) (sel (Pz.bad (haP s (Prod.snd (Qaj s (k + 1))))) (Qis s k) (((Qai s (Prod.snd (Qaj s (k + 1))))∧True)∧(sel (Pz.bad (enP s (Prod.snd (Qak s (Prod.snd (Qaj s (k + 1))))))) (((Qai s (Prod.snd (Qak s (Prod.snd (Qaj s (k + 1))))))∧True)∧((Pz.bad (caP s k) = true)∧(((SV.v (Value.iface 169 (Value.agg #[.int .i64 (Pz.er (p0 enP [] s (Prod.snd (Qak s (Prod.snd (Qaj s (k + 1)))))))]))) = (Qbf s k))∧True))) (((Qai s (Prod.snd (Qak s (Prod.snd (Qaj s (k + 1))))))∧True)∧((Pz.bad (caP s k) = false)∧(∃ c : Nat,((((yI (rdT s k 1)) = (yI (rdT s k 1)))∧(((yI (rdT s (k + 1) 4)) = (yI (CV.id (caV s k))))∧(((yI (rdT s (Prod.snd (Qaj s (k + 1))) 4)) = (yI (CV.bs (caV s k))))∧(((yI (rdT s (Prod.snd (Qaj s (k + 1)) + 4) 4)) = (yI (CV.bg (caV s k))))∧((zI = (yI (CV.ver (caV s k))))∧((zI = (yI (CV.sk (caV s k))))∧((zI = (yI (CV.sr (caV s k))))∧((zI = (yI (CV.sw (caV s k))))∧((zI = (yI (CV.sh (caV s k))))∧(((zS = zS)∧(((0 : Nat) = 0)∧((((caN s k) : Nat) = 0)∧(((caN s k + c) : Nat) = 0))))∧(Qd0 s k (Qfr s k ((zI = (yI (CV.gr (caV s k))))∧(Qev s k))))))))))))))∧((((1 : Nat) = 1)∧(((1 : Nat) ≤ 1)∧(∀ i : Nat,(((i : Nat) < 1)→([(SV.v (.string s)),(yI (Prod.snd (Qmh s (Prod.snd (Qak s (Prod.snd (Qaj s (k + 1))))))))] = [(SV.v (.string s)),(yI (Qec s k))])))))∧(((((caN s k) : Nat) = 0)∧((((caN s k + c) : Nat) = 0)∧True))∧True))))))))) (sel (rdT s k 1 == 8) (sel (Pz.bad (spP s (Prod.snd (Qaj s (k + 1))))) (((Qai s (Prod.snd (Qaj s (k + 1))))∧True)∧((Pz.bad (caP s k) = true)∧(((SV.v (Value.iface 169 (Value.agg #[.int .i64 (Pz.er (p0 spP [] s (Prod.snd (Qaj s (k + 1)))))]))) = (Qbf s k))∧True))) (((Qai s (Prod.snd (Qaj s (k + 1))))∧True)∧(sel (Pz.bad (spP s (Prod.snd (Qhb s (Prod.snd (Qaj s (k + 1))))))) (((Qai s (Prod.snd (Qhb s (Prod.snd (Qaj s (k + 1))))))∧True)∧((Pz.bad (caP s k) = true)∧(((SV.v (Value.iface 169 (Value.agg #[.int .i64 (Pz.er (p0 spP [] s (Prod.snd (Qhb s (Prod.snd (Qaj s (k + 1)))))))]))) = (Qbf s k))∧True))) (((Qai s (Prod.snd (Qhb s (Prod.snd (Qaj s (k + 1))))))∧True)∧(sel (Pz.bad (enP s (Qc4 s k))) (((Qai s (Qc4 s k))∧True)∧((Pz.bad (caP s k) = true)∧(((SV.v (Value.iface 169 (Value.agg #[.int .i64 (Pz.er (p0 enP [] s (Qc4 s k)))]))) = (Qbf s k))∧True))) (((Qai s (Qc4 s k))∧True)∧((Pz.bad (caP s k) = false)∧(∃ c : Nat,((Qhl s k ((zI = (yI (CV.sh (caV s k))))∧(((zS = zS)∧(((0 : Nat) = 0)∧((((caN s k) : Nat) = 0)∧(((caN s k + c) : Nat) = 0))))∧(Qd0 s k (Qfr s k ((zI = (yI (CV.gr (caV s k))))∧(((yI (rdI s (Prod.snd (Qaj s (k + 1))))) = (yI (CV.b0 (caV s k))))∧(((yI (rdI s (Prod.snd (Qaj s (k + 1)) + 8))) = (yI (CV.b1 (caV s k))))∧(((yI (rdI s (Prod.snd (Qhb s (Prod.snd (Qaj s (k + 1))))))) = (yI (CV.b2 (caV s k))))∧(((yI (rdI s (Prod.snd (Qhb s (Prod.snd (Qaj s (k + 1)))) + 8))) = (yI (CV.b3 (caV s k))))∧((zI = (yI (CV.f0 (caV s k))))∧((zI = (yI (CV.f1 (caV s k))))∧((zI = (yI (CV.u0 (caV s k))))∧(zI = (yI (CV.u1 (caV s k)))))))))))))))))∧((((1 : Nat) = 1)∧(((1 : Nat) ≤ 1)∧(∀ i : Nat,(((i : Nat) < 1)→([(SV.v (.string s)),(yI (Prod.snd (Qmh s (Qc4 s k))))] = [(SV.v (.string s)),(yI (Qec s k))])))))∧(((((caN s k) : Nat) = 0)∧((((caN s k + c) : Nat) = 0)∧True))∧True))))))))))) (sel (rdT s k 1 == 9) (sel (Pz.bad (spP s (Prod.snd (Qaj s (k + 1))))) (((Qai s (Prod.snd (Qaj s (k + 1))))∧True)∧((Pz.bad (caP s k) = true)∧(((SV.v (Value.iface 169 (Value.agg #[.int .i64 (Pz.er (p0 spP [] s (Prod.snd (Qaj s (k + 1)))))]))) = (Qbf s k))∧True))) (((Qai s (Prod.snd (Qaj s (k + 1))))∧True)∧(sel (Pz.bad (spP s (Prod.snd (Qhb s (Prod.snd (Qaj s (k + 1))))))) (((Qai s (Prod.snd (Qhb s (Prod.snd (Qaj s (k + 1))))))∧True)∧((Pz.bad (caP s k) = true)∧(((SV.v (Value.iface 169 (Value.agg #[.int .i64 (Pz.er (p0 spP [] s (Prod.snd (Qhb s (Prod.snd (Qaj s (k + 1)))))))]))) = (Qbf s k))∧True))) (((Qai s (Prod.snd (Qhb s (Prod.snd (Qaj s (k + 1))))))∧True)∧(sel (Pz.bad (enP s (Qc4 s k))) (((Qai s (Qc4 s k))∧True)∧((Pz.bad (caP s k) = true)∧(((SV.v (Value.iface 169 (Value.agg #[.int .i64 (Pz.er (p0 enP [] s (Qc4 s k)))]))) = (Qbf s k))∧True))) (((Qai s (Qc4 s k))∧True)∧((Pz.bad (caP s k) = false)∧(∃ c : Nat,((Qhl s k ((zI = (yI (CV.sh (caV s k))))∧(((zS = zS)∧(((0 : Nat) = 0)∧((((caN s k) : Nat) = 0)∧(((caN s k + c) : Nat) = 0))))∧(Qd0 s k (Qfr s k ((zI = (yI (CV.gr (caV s k))))∧((zI = (yI (CV.b0 (caV s k))))∧((zI = (yI (CV.b1 (caV s k))))∧((zI = (yI (CV.b2 (caV s k))))∧((zI = (yI (CV.b3 (caV s k))))∧(((yI (rdI s (Prod.snd (Qaj s (k + 1))))) = (yI (CV.f0 (caV s k))))∧(((yI (rdI s (Prod.snd (Qaj s (k + 1)) + 8))) = (yI (CV.f1 (caV s k))))∧(((yI (rdI s (Prod.snd (Qhb s (Prod.snd (Qaj s (k + 1))))))) = (yI (CV.u0 (caV s k))))∧((yI (rdI s (Prod.snd (Qhb s (Prod.snd (Qaj s (k + 1)))) + 8))) = (yI (CV.u1 (caV s k)))))))))))))))))∧((((1 : Nat) = 1)∧(((1 : Nat) ≤ 1)∧(∀ i : Nat,(((i : Nat) < 1)→([(SV.v (.string s)),(yI (Prod.snd (Qmh s (Qc4 s k))))] = [(SV.v (.string s)),(yI (Qec s k))])))))∧(((((caN s k) : Nat) = 0)∧((((caN s k + c) : Nat) = 0)∧True))∧True))))))))))) (sel (Pz.bad (enP s (Prod.snd (Qaj s (k + 1))))) (((Qai s (Prod.snd (Qaj s (k + 1))))∧True)∧((Pz.bad (caP s k) = true)∧(((SV.v (Value.iface 169 (Value.agg #[.int .i64 (Pz.er (p0 enP [] s (Prod.snd (Qaj s (k + 1)))))]))) = (Qbf s k))∧True))) (((Qai s (Prod.snd (Qaj s (k + 1))))∧True)∧((Pz.bad (caP s k) = false)∧(∃ c : Nat,((Qhl s k ((zI = (yI (CV.sh (caV s k))))∧(((zS = zS)∧(((0 : Nat) = 0)∧((((caN s k) : Nat) = 0)∧(((caN s k + c) : Nat) = 0))))∧(Qd0 s k (Qfr s k ((zI = (yI (CV.gr (caV s k))))∧(Qev s k)))))))∧((((1 : Nat) = 1)∧(((1 : Nat) ≤ 1)∧(∀ i : Nat,(((i : Nat) < 1)→([(SV.v (.string s)),(yI (Prod.snd (Qmh s (Prod.snd (Qaj s (k + 1))))))] = [(SV.v (.string s)),(yI (Qec s k))])))))∧(((((caN s k) : Nat) = 0)∧((((caN s k + c) : Nat) = 0)∧True))∧True)))))))))))))))))))) := by kernel_rfl
theorem Zgl {s : ByteArray} {k low : Int} (hp : Qai s k) (h : (kiP s k low).bad = false) : Qai s (k + 1) := Qgp hp (by omega) (Qck h).1
theorem Q7q : ∀ f g, ΓT7 f = some g → g.ok Try.prog f := Qah (Qah (Qah Qtg (Qwp Try.func122 (by kernel_rfl) (by kernel_rfl) Qwm)) (Qkd Try.func120 (by kernel_rfl) (by kernel_rfl) Qpy)) (Qkd Try.func131 (by kernel_rfl) (by kernel_rfl) Qtb)
theorem Qxx : Qcg Try.prog 85 (sTe caE) (Qlh (p0 caP)) (Q35 caP) := Qqd Q7q Try.func85 (Λ := fun _ _ => Qas) (fun s k h => h) fun s k hp => by
 have h_vc := Q9e s k
 repeat (first | unfold Qcv at h_vc | unfold Qc4 at h_vc | unfold Qji at h_vc | unfold Qlu at h_vc | unfold Qis at h_vc | unfold Qch at h_vc | unfold Qkr at h_vc | unfold Qbf at h_vc | unfold Qbb at h_vc | unfold Qhl at h_vc | unfold Qfr at h_vc | unfold Qev at h_vc | unfold Qd0 at h_vc)
 refine Eq.mpr h_vc (Qab (fun h => ⟨⟨hp, trivial⟩, pan (Qa2 h)⟩) fun h1 => ⟨⟨hp, trivial⟩, ?_⟩)
 have p1 : Qai s (k + 1) := Zgl hp h1
 rw [show caP s k = (upP s (k + 1) 2147483647 4).seq (caR s k) from Qa1 h1]
 refine Qab (fun h => ⟨⟨p1, trivial⟩, pan (Qa2 h)⟩) fun h2 => ⟨⟨p1, trivial⟩, ?_⟩
 have h2 : (upP s (k + 1) 2147483647 4).bad = false := h2
 have p2 : Qai s (k + 1 + 4) := Qcm p1 (by omega) h2
 rw [Qa1 h2]
 refine Qab (fun e1 => ?_) fun e1 => Qab (fun e2 => ?_) fun e2 => Qab (fun e3 => ?_) fun e3 => Qab (fun e4 => ?_) fun e4 => Qab (fun e5 => ?_) fun e5 => Qab (fun e6 => ?_) fun e6 => Qab (fun e7 => ?_) fun e7 => Qab (fun e8 => ?_) fun e8 => Qab (fun e9 => ?_) fun e9 => ?_
 · have qcaR : caR s k = cP1 s k := by unfold caR; rw [e1, cond_true]
   have qcaV : caV s k = cV1 s k := by unfold caV; rw [e1, cond_true]
   have qcaEnd : Qec s k = cE1 s k := by unfold Qec; rw [e1, cond_true]
   have qcaN : caN s k = shC s (k + 1 + 4) := by unfold caN; rw [e1, cond_true]
   rw [qcaR, qcaV, qcaEnd, qcaN]
   unfold cP1
   refine Qab (fun h => ⟨p2, pan (Qa2 h)⟩) fun g0 => ⟨p2, fun c => ?_⟩
   have g0 : (shP s (k + 1 + 4)).bad = false := g0
   have p2_g0 : Qai s (Qag s (k + 1 + 4)) := Qy7 p2 g0
   rw [Qa1 g0]
   refine Qab (fun h => ⟨⟨p2_g0, trivial⟩, pan (Qa2 h)⟩) fun g1 => ⟨⟨p2_g0, trivial⟩, ?_⟩
   have g1 : (psP s (Qag s (k + 1 + 4))).bad = false := g1
   have p2_g0_g1 : Qai s (Qag s (k + 1 + 4) + 8 + 1 + 8 + 1 + 8 + 1 + 8 + 1) := Qz4 p2_g0 g1
   rw [Qa1 g1]
   refine Qab (fun h => ⟨⟨p2_g0_g1, trivial⟩, pan (Qa2 h)⟩) fun g2 => ⟨⟨p2_g0_g1, trivial⟩, ?_⟩
   have g2 : (vcP s (Qag s (k + 1 + 4) + 8 + 1 + 8 + 1 + 8 + 1 + 8 + 1)).bad = false := g2
   have p2_g0_g1_g2 : Qai s (Qag s (k + 1 + 4) + 8 + 1 + 8 + 1 + 8 + 1 + 8 + 1 + 8 + 1 + 8 + 1) := Qjy p2_g0_g1 g2
   rw [Qa1 g2]
   refine Qab (fun h => ⟨⟨p2_g0_g1_g2, trivial⟩, pan (Qa2 h)⟩) fun g3 => ⟨⟨p2_g0_g1_g2, trivial⟩, ?_⟩
   have g3 : (nuP s (Qag s (k + 1 + 4) + 8 + 1 + 8 + 1 + 8 + 1 + 8 + 1 + 8 + 1 + 8 + 1)).bad = false := g3
   have p2_g0_g1_g2_g3 : Qai s (Qag s (k + 1 + 4) + 8 + 1 + 8 + 1 + 8 + 1 + 8 + 1 + 8 + 1 + 8 + 1 + 8 + 1) := Qg2 p2_g0_g1_g2 g3
   rw [Qa1 g3]
   refine Qab (fun h => ⟨⟨p2_g0_g1_g2_g3, trivial⟩, pan (Qa2 h)⟩) fun g4 => ⟨⟨p2_g0_g1_g2_g3, trivial⟩, ?_⟩
   have g4 : (tkP s (Qag s (k + 1 + 4) + 8 + 1 + 8 + 1 + 8 + 1 + 8 + 1 + 8 + 1 + 8 + 1 + 8 + 1) 8).bad = false := g4
   have p2_g0_g1_g2_g3_g4 : Qai s (Qag s (k + 1 + 4) + 8 + 1 + 8 + 1 + 8 + 1 + 8 + 1 + 8 + 1 + 8 + 1 + 8 + 1 + 8) := Qgp p2_g0_g1_g2_g3 (by omega) g4
   rw [Qa1 g4]
   refine Qab (fun h => ⟨⟨p2_g0_g1_g2_g3_g4, trivial⟩, pan (Qa2 h)⟩) fun g5 => ⟨⟨p2_g0_g1_g2_g3_g4, trivial⟩, ?_⟩
   have g5 : (upP s (Qag s (k + 1 + 4) + 8 + 1 + 8 + 1 + 8 + 1 + 8 + 1 + 8 + 1 + 8 + 1 + 8 + 1 + 8) 1 1).bad = false := g5
   have p2_g0_g1_g2_g3_g4_g5 : Qai s (Qag s (k + 1 + 4) + 8 + 1 + 8 + 1 + 8 + 1 + 8 + 1 + 8 + 1 + 8 + 1 + 8 + 1 + 8 + 1) := Qcm p2_g0_g1_g2_g3_g4 (by omega) g5
   rw [Qa1 g5]
   exact Qab (fun h => ⟨⟨p2_g0_g1_g2_g3_g4_g5, trivial⟩, pan ⟨h, rfl⟩⟩) fun h => ⟨⟨p2_g0_g1_g2_g3_g4_g5, trivial⟩, ⟨h, c, by repeat (first | exact rfl | refine ⟨rfl, ?_⟩ | refine ⟨⟨rfl, rfl, rfl, rfl⟩, ?_⟩), ⟨rfl, Nat.le_refl _, fun _ _ => rfl⟩, rfl, Nat.le_refl _, fun _ _ => rfl⟩⟩
 · have qcaR : caR s k = cP2 s k := by unfold caR; rw [e1, cond_false, e2, cond_true]
   have qcaV : caV s k = cV2 s k := by unfold caV; rw [e1, cond_false, e2, cond_true]
   have qcaEnd : Qec s k = cE2 s k := by unfold Qec; rw [e1, cond_false, e2, cond_true]
   have qcaN : caN s k = 0 := by unfold caN; rw [e1, cond_false]
   rw [qcaR, qcaV, qcaEnd, qcaN]
   unfold cP2
   refine Qab (fun h => ⟨⟨p2, trivial⟩, pan (Qa2 h)⟩) fun g0 => ⟨⟨p2, trivial⟩, ?_⟩
   have g0 : (haP s (k + 1 + 4)).bad = false := g0
   have p2_g0 : Qai s (k + 1 + 4 + 4 + 4) := Qi8 p2 g0
   rw [Qa1 g0]
   refine Qab (fun h => ⟨⟨p2_g0, trivial⟩, pan (Qa2 h)⟩) fun g1 => ⟨⟨p2_g0, trivial⟩, ?_⟩
   have g1 : (upP s (k + 1 + 4 + 4 + 4) 1099511627776 8).bad = false := g1
   have p2_g0_g1 : Qai s (k + 1 + 4 + 4 + 4 + 8) := Qcm p2_g0 (by omega) g1
   rw [Qa1 g1]
   exact Qab (fun h => ⟨⟨p2_g0_g1, trivial⟩, pan ⟨h, rfl⟩⟩) fun h => ⟨⟨p2_g0_g1, trivial⟩, ⟨h, 0, by repeat (first | exact rfl | refine ⟨rfl, ?_⟩ | refine ⟨⟨rfl, rfl, rfl, rfl⟩, ?_⟩), ⟨rfl, Nat.le_refl _, fun _ _ => rfl⟩, ⟨rfl, rfl, trivial⟩, trivial⟩⟩
 · have qcaR : caR s k = cP3 s k := by unfold caR; rw [e1, cond_false, e2, cond_false, e3, cond_true]
   have qcaV : caV s k = cV3 s k := by unfold caV; rw [e1, cond_false, e2, cond_false, e3, cond_true]
   have qcaEnd : Qec s k = cE3 s k := by unfold Qec; rw [e1, cond_false, e2, cond_false, e3, cond_true]
   have qcaN : caN s k = 0 := by unfold caN; rw [e1, cond_false]
   rw [qcaR, qcaV, qcaEnd, qcaN]
   unfold cP3
   refine Qab (fun h => ⟨⟨p2, trivial⟩, pan (Qa2 h)⟩) fun g0 => ⟨⟨p2, trivial⟩, ?_⟩
   have g0 : (haP s (k + 1 + 4)).bad = false := g0
   have p2_g0 : Qai s (k + 1 + 4 + 4 + 4) := Qi8 p2 g0
   rw [Qa1 g0]
   refine Qab (fun h => ⟨⟨p2_g0, trivial⟩, pan (Qa2 h)⟩) fun g1 => ⟨⟨p2_g0, trivial⟩, ?_⟩
   have g1 : (upP s (k + 1 + 4 + 4 + 4) 1099511627776 8).bad = false := g1
   have p2_g0_g1 : Qai s (k + 1 + 4 + 4 + 4 + 8) := Qcm p2_g0 (by omega) g1
   rw [Qa1 g1]
   refine Qab (fun h => ⟨⟨p2_g0_g1, trivial⟩, pan (Qa2 h)⟩) fun g2 => ⟨⟨p2_g0_g1, trivial⟩, ?_⟩
   have g2 : (vcP s (k + 1 + 4 + 4 + 4 + 8)).bad = false := g2
   have p2_g0_g1_g2 : Qai s (k + 1 + 4 + 4 + 4 + 8 + 8 + 1 + 8 + 1) := Qjy p2_g0_g1 g2
   rw [Qa1 g2]
   refine Qab (fun h => ⟨⟨p2_g0_g1_g2, trivial⟩, pan (Qa2 h)⟩) fun g3 => ⟨⟨p2_g0_g1_g2, trivial⟩, ?_⟩
   have g3 : (vcP s (k + 1 + 4 + 4 + 4 + 8 + 8 + 1 + 8 + 1)).bad = false := g3
   have p2_g0_g1_g2_g3 : Qai s (k + 1 + 4 + 4 + 4 + 8 + 8 + 1 + 8 + 1 + 8 + 1 + 8 + 1) := Qjy p2_g0_g1_g2 g3
   rw [Qa1 g3]
   exact Qab (fun h => ⟨⟨p2_g0_g1_g2_g3, trivial⟩, pan ⟨h, rfl⟩⟩) fun h => ⟨⟨p2_g0_g1_g2_g3, trivial⟩, ⟨h, 0, by repeat (first | exact rfl | refine ⟨rfl, ?_⟩ | refine ⟨⟨rfl, rfl, rfl, rfl⟩, ?_⟩), ⟨rfl, Nat.le_refl _, fun _ _ => rfl⟩, ⟨rfl, rfl, trivial⟩, trivial⟩⟩
 · have qcaR : caR s k = cP4 s k := by unfold caR; rw [e1, cond_false, e2, cond_false, e3, cond_false, e4, cond_true]
   have qcaV : caV s k = cV4 s k := by unfold caV; rw [e1, cond_false, e2, cond_false, e3, cond_false, e4, cond_true]
   have qcaEnd : Qec s k = cE4 s k := by unfold Qec; rw [e1, cond_false, e2, cond_false, e3, cond_false, e4, cond_true]
   have qcaN : caN s k = 0 := by unfold caN; rw [e1, cond_false]
   rw [qcaR, qcaV, qcaEnd, qcaN]
   unfold cP4
   refine Qab (fun h => ⟨⟨p2, trivial⟩, pan (Qa2 h)⟩) fun g0 => ⟨⟨p2, trivial⟩, ?_⟩
   have g0 : (haP s (k + 1 + 4)).bad = false := g0
   have p2_g0 : Qai s (k + 1 + 4 + 4 + 4) := Qi8 p2 g0
   rw [Qa1 g0]
   refine Qab (fun h => ⟨⟨p2_g0, trivial⟩, pan (Qa2 h)⟩) fun g1 => ⟨⟨p2_g0, trivial⟩, ?_⟩
   have g1 : (upP s (k + 1 + 4 + 4 + 4) 1099511627776 8).bad = false := g1
   have p2_g0_g1 : Qai s (k + 1 + 4 + 4 + 4 + 8) := Qcm p2_g0 (by omega) g1
   rw [Qa1 g1]
   refine Qab (fun h => ⟨⟨p2_g0_g1, trivial⟩, pan (Qa2 h)⟩) fun g2 => ⟨⟨p2_g0_g1, trivial⟩, ?_⟩
   have g2 : (vcP s (k + 1 + 4 + 4 + 4 + 8)).bad = false := g2
   have p2_g0_g1_g2 : Qai s (k + 1 + 4 + 4 + 4 + 8 + 8 + 1 + 8 + 1) := Qjy p2_g0_g1 g2
   rw [Qa1 g2]
   exact Qab (fun h => ⟨⟨p2_g0_g1_g2, trivial⟩, pan ⟨h, rfl⟩⟩) fun h => ⟨⟨p2_g0_g1_g2, trivial⟩, ⟨h, 0, by repeat (first | exact rfl | refine ⟨rfl, ?_⟩ | refine ⟨⟨rfl, rfl, rfl, rfl⟩, ?_⟩), ⟨rfl, Nat.le_refl _, fun _ _ => rfl⟩, ⟨rfl, rfl, trivial⟩, trivial⟩⟩
 · have qcaR : caR s k = cP5 s k := by unfold caR; rw [e1, cond_false, e2, cond_false, e3, cond_false, e4, cond_false, e5, cond_true]
   have qcaV : caV s k = cV5 s k := by unfold caV; rw [e1, cond_false, e2, cond_false, e3, cond_false, e4, cond_false, e5, cond_true]
   have qcaEnd : Qec s k = cE5 s k := by unfold Qec; rw [e1, cond_false, e2, cond_false, e3, cond_false, e4, cond_false, e5, cond_true]
   have qcaN : caN s k = 0 := by unfold caN; rw [e1, cond_false]
   rw [qcaR, qcaV, qcaEnd, qcaN]
   unfold cP5
   refine Qab (fun h => ⟨⟨p2, trivial⟩, pan (Qa2 h)⟩) fun g0 => ⟨⟨p2, trivial⟩, ?_⟩
   have g0 : (upP s (k + 1 + 4) 2147483647 4).bad = false := g0
   have p2_g0 : Qai s (k + 1 + 4 + 4) := Qcm p2 (by omega) g0
   rw [Qa1 g0]
   refine Qab (fun h => ⟨⟨p2_g0, trivial⟩, pan (Qa2 h)⟩) fun g1 => ⟨⟨p2_g0, trivial⟩, ?_⟩
   have g1 : (vcP s (k + 1 + 4 + 4)).bad = false := g1
   have p2_g0_g1 : Qai s (k + 1 + 4 + 4 + 8 + 1 + 8 + 1) := Qjy p2_g0 g1
   rw [Qa1 g1]
   exact Qab (fun h => ⟨⟨p2_g0_g1, trivial⟩, pan ⟨h, rfl⟩⟩) fun h => ⟨⟨p2_g0_g1, trivial⟩, ⟨h, 0, by repeat (first | exact rfl | refine ⟨rfl, ?_⟩ | refine ⟨⟨rfl, rfl, rfl, rfl⟩, ?_⟩), ⟨rfl, Nat.le_refl _, fun _ _ => rfl⟩, ⟨rfl, rfl, trivial⟩, trivial⟩⟩
 · have qcaR : caR s k = cP6 s k := by unfold caR; rw [e1, cond_false, e2, cond_false, e3, cond_false, e4, cond_false, e5, cond_false, e6, cond_true]
   have qcaV : caV s k = cV6 s k := by unfold caV; rw [e1, cond_false, e2, cond_false, e3, cond_false, e4, cond_false, e5, cond_false, e6, cond_true]
   have qcaEnd : Qec s k = cE6 s k := by unfold Qec; rw [e1, cond_false, e2, cond_false, e3, cond_false, e4, cond_false, e5, cond_false, e6, cond_true]
   have qcaN : caN s k = 0 := by unfold caN; rw [e1, cond_false]
   rw [qcaR, qcaV, qcaEnd, qcaN]
   unfold cP6
   refine Qab (fun h => ⟨⟨p2, trivial⟩, pan (Qa2 h)⟩) fun g0 => ⟨⟨p2, trivial⟩, ?_⟩
   have g0 : (upP s (k + 1 + 4) 2147483647 4).bad = false := g0
   have p2_g0 : Qai s (k + 1 + 4 + 4) := Qcm p2 (by omega) g0
   rw [Qa1 g0]
   exact Qab (fun h => ⟨⟨p2_g0, trivial⟩, pan ⟨h, rfl⟩⟩) fun h => ⟨⟨p2_g0, trivial⟩, ⟨h, 0, by repeat (first | exact rfl | refine ⟨rfl, ?_⟩ | refine ⟨⟨rfl, rfl, rfl, rfl⟩, ?_⟩), ⟨rfl, Nat.le_refl _, fun _ _ => rfl⟩, ⟨rfl, rfl, trivial⟩, trivial⟩⟩
 · have qcaR : caR s k = cP7 s k := by unfold caR; rw [e1, cond_false, e2, cond_false, e3, cond_false, e4, cond_false, e5, cond_false, e6, cond_false, e7, cond_true]
   have qcaV : caV s k = cV7 s k := by unfold caV; rw [e1, cond_false, e2, cond_false, e3, cond_false, e4, cond_false, e5, cond_false, e6, cond_false, e7, cond_true]
   have qcaEnd : Qec s k = cE7 s k := by unfold Qec; rw [e1, cond_false, e2, cond_false, e3, cond_false, e4, cond_false, e5, cond_false, e6, cond_false, e7, cond_true]
   have qcaN : caN s k = 0 := by unfold caN; rw [e1, cond_false]
   rw [qcaR, qcaV, qcaEnd, qcaN]
   unfold cP7
   refine Qab (fun h => ⟨⟨p2, trivial⟩, pan (Qa2 h)⟩) fun g0 => ⟨⟨p2, trivial⟩, ?_⟩
   have g0 : (haP s (k + 1 + 4)).bad = false := g0
   have p2_g0 : Qai s (k + 1 + 4 + 4 + 4) := Qi8 p2 g0
   rw [Qa1 g0]
   exact Qab (fun h => ⟨⟨p2_g0, trivial⟩, pan ⟨h, rfl⟩⟩) fun h => ⟨⟨p2_g0, trivial⟩, ⟨h, 0, by repeat (first | exact rfl | refine ⟨rfl, ?_⟩ | refine ⟨⟨rfl, rfl, rfl, rfl⟩, ?_⟩), ⟨rfl, Nat.le_refl _, fun _ _ => rfl⟩, ⟨rfl, rfl, trivial⟩, trivial⟩⟩
 · have qcaR : caR s k = cP8 s k := by unfold caR; rw [e1, cond_false, e2, cond_false, e3, cond_false, e4, cond_false, e5, cond_false, e6, cond_false, e7, cond_false, e8, cond_true]
   have qcaV : caV s k = cV8 s k := by unfold caV; rw [e1, cond_false, e2, cond_false, e3, cond_false, e4, cond_false, e5, cond_false, e6, cond_false, e7, cond_false, e8, cond_true]
   have qcaEnd : Qec s k = cE8 s k := by unfold Qec; rw [e1, cond_false, e2, cond_false, e3, cond_false, e4, cond_false, e5, cond_false, e6, cond_false, e7, cond_false, e8, cond_true]
   have qcaN : caN s k = 0 := by unfold caN; rw [e1, cond_false]
   rw [qcaR, qcaV, qcaEnd, qcaN]
   unfold cP8
   refine Qab (fun h => ⟨⟨p2, trivial⟩, pan (Qa2 h)⟩) fun g0 => ⟨⟨p2, trivial⟩, ?_⟩
   have g0 : (spP s (k + 1 + 4)).bad = false := g0
   have p2_g0 : Qai s (k + 1 + 4 + 8 + 8) := Qr4 p2 g0
   rw [Qa1 g0]
   refine Qab (fun h => ⟨⟨p2_g0, trivial⟩, pan (Qa2 h)⟩) fun g1 => ⟨⟨p2_g0, trivial⟩, ?_⟩
   have g1 : (spP s (k + 1 + 4 + 8 + 8)).bad = false := g1
   have p2_g0_g1 : Qai s (k + 1 + 4 + 8 + 8 + 8 + 8) := Qr4 p2_g0 g1
   rw [Qa1 g1]
   exact Qab (fun h => ⟨⟨p2_g0_g1, trivial⟩, pan ⟨h, rfl⟩⟩) fun h => ⟨⟨p2_g0_g1, trivial⟩, ⟨h, 0, by repeat (first | exact rfl | refine ⟨rfl, ?_⟩ | refine ⟨⟨rfl, rfl, rfl, rfl⟩, ?_⟩), ⟨rfl, Nat.le_refl _, fun _ _ => rfl⟩, ⟨rfl, rfl, trivial⟩, trivial⟩⟩
 · have qcaR : caR s k = cP9 s k := by unfold caR; rw [e1, cond_false, e2, cond_false, e3, cond_false, e4, cond_false, e5, cond_false, e6, cond_false, e7, cond_false, e8, cond_false, e9, cond_true]
   have qcaV : caV s k = cV9 s k := by unfold caV; rw [e1, cond_false, e2, cond_false, e3, cond_false, e4, cond_false, e5, cond_false, e6, cond_false, e7, cond_false, e8, cond_false, e9, cond_true]
   have qcaEnd : Qec s k = cE9 s k := by unfold Qec; rw [e1, cond_false, e2, cond_false, e3, cond_false, e4, cond_false, e5, cond_false, e6, cond_false, e7, cond_false, e8, cond_false, e9, cond_true]
   have qcaN : caN s k = 0 := by unfold caN; rw [e1, cond_false]
   rw [qcaR, qcaV, qcaEnd, qcaN]
   unfold cP9
   refine Qab (fun h => ⟨⟨p2, trivial⟩, pan (Qa2 h)⟩) fun g0 => ⟨⟨p2, trivial⟩, ?_⟩
   have g0 : (spP s (k + 1 + 4)).bad = false := g0
   have p2_g0 : Qai s (k + 1 + 4 + 8 + 8) := Qr4 p2 g0
   rw [Qa1 g0]
   refine Qab (fun h => ⟨⟨p2_g0, trivial⟩, pan (Qa2 h)⟩) fun g1 => ⟨⟨p2_g0, trivial⟩, ?_⟩
   have g1 : (spP s (k + 1 + 4 + 8 + 8)).bad = false := g1
   have p2_g0_g1 : Qai s (k + 1 + 4 + 8 + 8 + 8 + 8) := Qr4 p2_g0 g1
   rw [Qa1 g1]
   exact Qab (fun h => ⟨⟨p2_g0_g1, trivial⟩, pan ⟨h, rfl⟩⟩) fun h => ⟨⟨p2_g0_g1, trivial⟩, ⟨h, 0, by repeat (first | exact rfl | refine ⟨rfl, ?_⟩ | refine ⟨⟨rfl, rfl, rfl, rfl⟩, ?_⟩), ⟨rfl, Nat.le_refl _, fun _ _ => rfl⟩, ⟨rfl, rfl, trivial⟩, trivial⟩⟩
 · have qcaR : caR s k = Zef s k := by unfold caR; rw [e1, cond_false, e2, cond_false, e3, cond_false, e4, cond_false, e5, cond_false, e6, cond_false, e7, cond_false, e8, cond_false, e9, cond_false]
   have qcaV : caV s k = Q7b s k := by unfold caV; rw [e1, cond_false, e2, cond_false, e3, cond_false, e4, cond_false, e5, cond_false, e6, cond_false, e7, cond_false, e8, cond_false, e9, cond_false]
   have qcaEnd : Qec s k = cE10 s k := by unfold Qec; rw [e1, cond_false, e2, cond_false, e3, cond_false, e4, cond_false, e5, cond_false, e6, cond_false, e7, cond_false, e8, cond_false, e9, cond_false]
   have qcaN : caN s k = 0 := by unfold caN; rw [e1, cond_false]
   rw [qcaR, qcaV, qcaEnd, qcaN]
   unfold Zef
   exact Qab (fun h => ⟨⟨p2, trivial⟩, pan ⟨h, rfl⟩⟩) fun h => ⟨⟨p2, trivial⟩, ⟨h, 0, by repeat (first | exact rfl | refine ⟨rfl, ?_⟩ | refine ⟨⟨rfl, rfl, rfl, rfl⟩, ?_⟩), ⟨rfl, Nat.le_refl _, fun _ _ => rfl⟩, ⟨rfl, rfl, trivial⟩, trivial⟩⟩
def cntStr : ByteArray := ⟨#[10, 0, 0, 0, 7]⟩
def Zgy : SV := .agg ([iV 10, iV 7, iV 0, iV 0, iV 0] ++ Qvg ++ (zN ++ zN ++ zN ++ zN) ++ (zN ++ zN) ++ zN ++ [iV 0, bV false] ++ (zN ++ zN) ++ (zN ++ zN) ++ [iV 0] ++ [iV 0, iV 0, iV 0, iV 0] ++ [iV 0, iV 0] ++ [iV 0, iV 0])
def Qug : List SV → ByteArray → Int → Option (Prop × SV × Int)
 | [], s, k => some (k = 0 ∧ s = cntStr, Zgy, 5)
 | _, _, _ => none
def ΓQ0 : Qb6 := Qap (Qap (Qap Qaq 120 (Qca true (Qvp Que))) 121 (Qca true (Qvp Qrf))) 131 (Qca true (Qvp Zj4))
theorem Q3x : (Qa6 Try.prog ΓQ0 Qas Try.f85 [.vp 0 0] (Qac [rdB cntStr 0]) 64 (fun y h' => Qbh [rdB cntStr 0] (.det none Zgy [(0,rdB cntStr 5)]) y h')) = (((rdQ cntStr 0 1)∧(((10 : Int) = 10)∧((1 : Int) ≤ 10)))∧(((rdQ cntStr 1 4)∧((7 : Int) ≤ 2147483647))∧(((5 : Int) = 5)∧((((yI 10) = (yI 10))∧(((yI 7) = (yI 7))∧((zI = zI)∧((zI = zI)∧((zI = zI)∧((zI = zI)∧((zI = zI)∧((zI = zI)∧((zI = zI)∧((zS = zS)∧((zI = zI)∧((zF = zF)∧((zI = zI)∧((zF = zF)∧((zI = zI)∧((zF = zF)∧((zI = zI)∧((zF = zF)∧((zI = zI)∧((zF = zF)∧((zI = zI)∧((zF = zF)∧((zI = zI)∧((zF = zF)∧((zI = zI)∧((zF = zF)∧((zI = zI)∧((zF = zF)∧((zI = zI)∧((zF = zF)∧((zI = zI)∧((zF = zF)∧((zI = zI)∧((zF = zF)∧((zI = zI)∧((zI = zI)∧((zI = zI)∧((zI = zI)∧((zI = zI)∧((zI = zI)∧((zI = zI)∧((zI = zI)∧(zI = zI)))))))))))))))))))))))))))))))))))))))))))∧(((1 : Nat) = 1)∧(((1 : Nat) ≤ 1)∧(∀ i : Nat,(((i : Nat) < 1)→([(SV.v (.string cntStr)),(yI 5)] = [(SV.v (.string cntStr)),(yI 5)]))))))))):=by kernel_rfl
def Zh8 : Qb6 := Qap Qaq 85 (Qca true (Qvp Qug))
def dA (fn : Func) : Code := match fn.body with
 | some (.seq a _) => a
 | _ => .skip
def dB (fn : Func) : Code := match fn.body with
 | some (.seq _ (.seq _ b)) => b
 | _ => .skip
def dC (fn : Func) : Code := match fn.body with
 | some (.seq _ b) => b
 | _ => .skip
def Qzh (args : List SV) (bs : List Blk) : Option Eff := match args, bs with
 | [.v (.string s)], [] => some (.det (some (s = cntStr)) (.tup [Zgy, iV 0]) [])
 | _, _ => none
theorem Q80 (q : Option Prop) : (Qow Try.prog Zh8 Qas Try.f38 Try.f84 (dA Try.f38) (dB Try.f38) (dC Try.f84) 3 5 [.v (.string cntStr)] (Qac []) 64 (fun y h' => Qbh [] (.det q (.tup [Zgy,iV 0]) []) y h')) = ((((0 : Int) = 0)∧(cntStr = cntStr))∧(((((yI 10) = (yI 10))∧(((yI 7) = (yI 7))∧((zI = zI)∧((zI = zI)∧((zI = zI)∧((zI = zI)∧((zI = zI)∧((zI = zI)∧((zI = zI)∧((zS = zS)∧((zI = zI)∧((zF = zF)∧((zI = zI)∧((zF = zF)∧((zI = zI)∧((zF = zF)∧((zI = zI)∧((zF = zF)∧((zI = zI)∧((zF = zF)∧((zI = zI)∧((zF = zF)∧((zI = zI)∧((zF = zF)∧((zI = zI)∧((zF = zF)∧((zI = zI)∧((zF = zF)∧((zI = zI)∧((zF = zF)∧((zI = zI)∧((zF = zF)∧((zI = zI)∧((zF = zF)∧((zI = zI)∧((zI = zI)∧((zI = zI)∧((zI = zI)∧((zI = zI)∧((zI = zI)∧((zI = zI)∧((zI = zI)∧(zI = zI)))))))))))))))))))))))))))))))))))))))))))∧(zI = zI))∧True)):=by kernel_rfl
theorem Q0w : ∃ o rid, Try.f38.body = some (.seq (dA Try.f38) (.seq (.region rid #[o] false) (dB Try.f38))) ∧ o.guard = none ∧ o.dst = none ∧ ∀ (a : Act) (w : World), (execOp a.eval o).run Try.prog w = .ok (.defer { target := .fn (.func 84) #[], args := #[a.eval (.tmp 3)] }) w :=
 ⟨_, _, rfl, rfl, rfl, fun a w => by simp [execOp, resolve, Act.eval, Deferred.ofValue]⟩
theorem Qnd : ∃ o rid, Try.f84.body = some (.seq (.region rid #[o] false) (dC Try.f84)) ∧ o.guard = none ∧ o.dst = some 5 ∧ ∀ (ρ : Operand → Value) (w : World), (execOp ρ o).run Try.prog w = .ok .recover w :=
 ⟨_, _, rfl, rfl, rfl, fun ρ w => rfl⟩
theorem Qnc : cntStr.size = 5 := rfl
theorem Q7v : ∀ f g, ΓQ0 f = some g → g.ok Try.prog f := Qah (Qah (Qah Qax (Qcf Try.func120 (by kernel_rfl) (by kernel_rfl) Qu5)) (Qcf Try.func121 (by kernel_rfl) (by kernel_rfl) Qs7)) (Qcf Try.func131 (by kernel_rfl) (by kernel_rfl) Qxn)
theorem Qvb : Qbt Try.prog 85 (Qvp Qug) := Ql3 Q7v Try.func85 (Λ := fun _ _ _ => Qas) fun rest s k q x k' h hq => by
 unfold Qug at h
 split at h <;> try (cases h; done)
 cases h
 obtain ⟨rfl, rfl⟩ := hq
 rw [Q3x]
 refine ⟨⟨⟨⟨by omega, by omega⟩, ⟨by omega, by rw [Qnc]; omega⟩, by rw [Qnc]; omega⟩, rfl, by omega⟩, ⟨⟨⟨by omega, by omega⟩, ⟨by omega, by rw [Qnc]; omega⟩, by rw [Qnc]; omega⟩, by omega⟩, rfl, ?_, rfl, Nat.le_refl _, fun _ _ => rfl⟩
 repeat (first | exact rfl | refine ⟨rfl, ?_⟩)
theorem Q7u : ∀ f g, Zh8 f = some g → g.ok Try.prog f := Qah Qax (Qcf Try.func85 (by kernel_rfl) (by kernel_rfl) Qvb)
theorem Qp9 (q : Option Prop) : Qow Try.prog Zh8 Qas Try.f38 Try.f84 (dA Try.f38) (dB Try.f38) (dC Try.f84) 3 5 [.v (.string cntStr)] (Qac []) 64 (fun y h' => Qbh [] (.det q (.tup [Zgy, iV 0]) []) y h') := by
 rw [Q80]
 refine ⟨⟨rfl, rfl⟩, ⟨?_, rfl⟩, trivial⟩
 repeat (first | exact rfl | refine ⟨rfl, ?_⟩)
theorem Qxm : Qbt Try.prog 38 Qzh := Qjo fun args bs e hs hp => by
 unfold Qzh at hs
 split at hs
 · rename_i s
   have he := Option.some.inj hs
   subst he
   have hx : s = cntStr := hp _ rfl
   subst hx
   obtain ⟨o, rid, b1, b2, b3, b4⟩ := Q0w
   obtain ⟨o2, rid2, d1, d2, d3, d4⟩ := Qnd
   exact ⟨[], trivial, fun δ w vals ha hr ht => Qk6 hm Q7u Try.func38 Try.func84 b1 b4 b2 b3 (by kernel_rfl) d1 d4 d2 d3 rfl (by kernel_rfl) (by kernel_rfl) ha hr ht (Qp9 _)⟩
 · cases hs
noncomputable def rkK (s : ByteArray) : Int := bif (caP s 0).bad then 0 else rdT s 0 1
noncomputable def rkV (s : ByteArray) : CV := bif (caP s 0).bad then zCV else caV s 0
noncomputable def rkN (s : ByteArray) : Nat := bif (caP s 0).bad then 0 else caN s 0
noncomputable def rkE (s : ByteArray) : Int := bif (caP s 0).bad then (caP s 0).er else 0
noncomputable def Qzt (s : ByteArray) : Nat → Int × Int := Qoi s 0
noncomputable def rcE (s : ByteArray) : Eff := .nd (s.size ≤ 1099511627776) Nat 0 (fun c => .tup [caS (rkK s) (rkV s) (.sl 1000 2 0 (rkN s) (rkN s + c)), iV (rkE s)]) fun c => [(1000, spW (rkN s) (rkN s + c) (Qzt s))]
noncomputable def Zh3 : Qb6 := Qap Qaq 85 (Qui caE caP)
noncomputable def Qtx (args : List SV) (bs : List Blk) : Option Eff := match args, bs with
 | [.v (.string s)], [] => some (rcE s)
 | _, _ => none
theorem Q27 (s : ByteArray) : (Qow Try.prog Zh3 Qas Try.f38 Try.f84 (dA Try.f38) (dB Try.f38) (dC Try.f84) 3 5 [.v (.string s)] (Qac []) 64 (fun y h' => Qbh [] (rcE s) y h')) =
(sel (Pz.bad (caP s 0)) ((Qai s 0)∧(∃ c : Nat,((((zI = (yI (rkK s)))∧((zI = (yI (CV.id (rkV s))))∧((zI = (yI (CV.bs (rkV s))))∧((zI = (yI (CV.bg (rkV s))))∧((zI = (yI (CV.ver (rkV s))))∧((zI = (yI (CV.sk (rkV s))))∧((zI = (yI (CV.sr (rkV s))))∧((zI = (yI (CV.sw (rkV s))))∧((zI = (yI (CV.sh (rkV s))))∧(((zS = zS)∧(((0 : Nat) = 0)∧((((rkN s) : Nat) = 0)∧(((rkN s + c) : Nat) = 0))))∧((zI = (yI (CV.p0v (rkV s))))∧((zF = (yF (CV.p0f (rkV s))))∧((zI = (yI (CV.p1v (rkV s))))∧((zF = (yF (CV.p1f (rkV s))))∧((zI = (yI (CV.p2v (rkV s))))∧((zF = (yF (CV.p2f (rkV s))))∧((zI = (yI (CV.p3v (rkV s))))∧((zF = (yF (CV.p3f (rkV s))))∧((zI = (yI (CV.v0v (rkV s))))∧((zF = (yF (CV.v0f (rkV s))))∧((zI = (yI (CV.v1v (rkV s))))∧((zF = (yF (CV.v1f (rkV s))))∧((zI = (yI (CV.w0v (rkV s))))∧((zF = (yF (CV.w0f (rkV s))))∧((zI = (yI (CV.dn (rkV s))))∧((zF = (yF (CV.mv (rkV s))))∧((zI = (yI (CV.a0v (rkV s))))∧((zF = (yF (CV.a0f (rkV s))))∧((zI = (yI (CV.a1v (rkV s))))∧((zF = (yF (CV.a1f (rkV s))))∧((zI = (yI (CV.t0v (rkV s))))∧((zF = (yF (CV.t0f (rkV s))))∧((zI = (yI (CV.t1v (rkV s))))∧((zF = (yF (CV.t1f (rkV s))))∧((zI = (yI (CV.gr (rkV s))))∧((zI = (yI (CV.b0 (rkV s))))∧((zI = (yI (CV.b1 (rkV s))))∧((zI = (yI (CV.b2 (rkV s))))∧((zI = (yI (CV.b3 (rkV s))))∧((zI = (yI (CV.f0 (rkV s))))∧((zI = (yI (CV.f1 (rkV s))))∧((zI = (yI (CV.u0 (rkV s))))∧(zI = (yI (CV.u1 (rkV s))))))))))))))))))))))))))))))))))))))))))))))∧((yI (Pz.er (caP s 0))) = (yI (rkE s))))∧(((((rkN s) : Nat) = 0)∧((((rkN s + c) : Nat) = 0)∧True))∧True)))) ((Qai s 0)∧(∀ c : Nat,(∃ c_1 : Nat,(((((yI (rdT s 0 1)) = (yI (rkK s)))∧(((yI (CV.id (caV s 0))) = (yI (CV.id (rkV s))))∧(((yI (CV.bs (caV s 0))) = (yI (CV.bs (rkV s))))∧(((yI (CV.bg (caV s 0))) = (yI (CV.bg (rkV s))))∧(((yI (CV.ver (caV s 0))) = (yI (CV.ver (rkV s))))∧(((yI (CV.sk (caV s 0))) = (yI (CV.sk (rkV s))))∧(((yI (CV.sr (caV s 0))) = (yI (CV.sr (rkV s))))∧(((yI (CV.sw (caV s 0))) = (yI (CV.sw (rkV s))))∧(((yI (CV.sh (caV s 0))) = (yI (CV.sh (rkV s))))∧(((SV.sl 104 2 0 (caN s 0) (caN s 0 + c)) = (SV.sl 104 2 0 (rkN s) (rkN s + c_1)))∧(((yI (CV.p0v (caV s 0))) = (yI (CV.p0v (rkV s))))∧(((yF (CV.p0f (caV s 0))) = (yF (CV.p0f (rkV s))))∧(((yI (CV.p1v (caV s 0))) = (yI (CV.p1v (rkV s))))∧(((yF (CV.p1f (caV s 0))) = (yF (CV.p1f (rkV s))))∧(((yI (CV.p2v (caV s 0))) = (yI (CV.p2v (rkV s))))∧(((yF (CV.p2f (caV s 0))) = (yF (CV.p2f (rkV s))))∧(((yI (CV.p3v (caV s 0))) = (yI (CV.p3v (rkV s))))∧(((yF (CV.p3f (caV s 0))) = (yF (CV.p3f (rkV s))))∧(((yI (CV.v0v (caV s 0))) = (yI (CV.v0v (rkV s))))∧(((yF (CV.v0f (caV s 0))) = (yF (CV.v0f (rkV s))))∧(((yI (CV.v1v (caV s 0))) = (yI (CV.v1v (rkV s))))∧(((yF (CV.v1f (caV s 0))) = (yF (CV.v1f (rkV s))))∧(((yI (CV.w0v (caV s 0))) = (yI (CV.w0v (rkV s))))∧(((yF (CV.w0f (caV s 0))) = (yF (CV.w0f (rkV s))))∧(((yI (CV.dn (caV s 0))) = (yI (CV.dn (rkV s))))∧(((yF (CV.mv (caV s 0))) = (yF (CV.mv (rkV s))))∧(((yI (CV.a0v (caV s 0))) = (yI (CV.a0v (rkV s))))∧(((yF (CV.a0f (caV s 0))) = (yF (CV.a0f (rkV s))))∧(((yI (CV.a1v (caV s 0))) = (yI (CV.a1v (rkV s))))∧(((yF (CV.a1f (caV s 0))) = (yF (CV.a1f (rkV s))))∧(((yI (CV.t0v (caV s 0))) = (yI (CV.t0v (rkV s))))∧(((yF (CV.t0f (caV s 0))) = (yF (CV.t0f (rkV s))))∧(((yI (CV.t1v (caV s 0))) = (yI (CV.t1v (rkV s))))∧(((yF (CV.t1f (caV s 0))) = (yF (CV.t1f (rkV s))))∧(((yI (CV.gr (caV s 0))) = (yI (CV.gr (rkV s))))∧(((yI (CV.b0 (caV s 0))) = (yI (CV.b0 (rkV s))))∧(((yI (CV.b1 (caV s 0))) = (yI (CV.b1 (rkV s))))∧(((yI (CV.b2 (caV s 0))) = (yI (CV.b2 (rkV s))))∧(((yI (CV.b3 (caV s 0))) = (yI (CV.b3 (rkV s))))∧(((yI (CV.f0 (caV s 0))) = (yI (CV.f0 (rkV s))))∧(((yI (CV.f1 (caV s 0))) = (yI (CV.f1 (rkV s))))∧(((yI (CV.u0 (caV s 0))) = (yI (CV.u0 (rkV s))))∧((yI (CV.u1 (caV s 0))) = (yI (CV.u1 (rkV s))))))))))))))))))))))))))))))))))))))))))))))∧(zI = (yI (rkE s))))∧((((caN s 0) : Nat) = (rkN s))∧((((rkN s + c_1) : Nat) ≤ (caN s 0 + c))∧(∀ i : Nat,(((i : Nat) < (rkN s))→([(yI (Prod.fst (Qoi s 0 i))),(yI (Prod.snd (Qoi s 0 i)))] = [(yI (Prod.fst (Qzt s i))),(yI (Prod.snd (Qzt s i)))])))))))))) := by kernel_rfl
theorem Q7o : ∀ f g, Zh3 f = some g → g.ok Try.prog f := Qah Qax (Qwp Try.func85 (by kernel_rfl) (by kernel_rfl) Qxx)
theorem Qou (s : ByteArray) (hs : s.size ≤ 1099511627776) : Qow Try.prog Zh3 Qas Try.f38 Try.f84 (dA Try.f38) (dB Try.f38) (dC Try.f84) 3 5 [.v (.string s)] (Qac []) 64 (fun y h' => Qbh [] (rcE s) y h') := by
 have p0 : Qai s 0 := ⟨⟨Int.le_refl _, by omega⟩, hs⟩
 refine Eq.mpr (Q27 s) (Qab (fun h => ⟨p0, ?_⟩) fun h => ⟨p0, fun c => ?_⟩)
 · have e1 : rkK s = 0 := by unfold rkK; rw [h]; rfl
   have e2 : rkV s = zCV := by unfold rkV; rw [h]; rfl
   have e3 : rkN s = 0 := by unfold rkN; rw [h]; rfl
   have e4 : rkE s = (caP s 0).er := by unfold rkE; rw [h]; rfl
   rw [e1, e2, e3, e4]
   exact ⟨0, ⟨by repeat (first | exact rfl | refine ⟨rfl, ?_⟩ | refine ⟨⟨rfl, rfl, rfl, rfl⟩, ?_⟩), rfl⟩, ⟨rfl, rfl, trivial⟩, trivial⟩
 · have e1 : rkK s = rdT s 0 1 := by unfold rkK; rw [h]; rfl
   have e2 : rkV s = caV s 0 := by unfold rkV; rw [h]; rfl
   have e3 : rkN s = caN s 0 := by unfold rkN; rw [h]; rfl
   have e4 : rkE s = 0 := by unfold rkE; rw [h]; rfl
   rw [e1, e2, e3, e4]
   exact ⟨c, ⟨by repeat (first | exact rfl | refine ⟨rfl, ?_⟩ | refine ⟨⟨rfl, rfl, rfl, rfl⟩, ?_⟩), rfl⟩, rfl, Nat.le_refl _, fun _ _ => rfl⟩
theorem Qu0 : Qbt Try.prog 38 Qtx := Qjo fun args bs e hs hp => by
 unfold Qtx at hs
 split at hs
 · rename_i s
   have he := Option.some.inj hs
   subst he
   have hx : s.size ≤ 1099511627776 := hp
   obtain ⟨o, rid, b1, b2, b3, b4⟩ := Q0w
   obtain ⟨o2, rid2, d1, d2, d3, d4⟩ := Qnd
   exact ⟨[], trivial, fun δ w vals ha hr ht => Qk6 hm Q7o Try.func38 Try.func84 b1 b4 b2 b3 (by kernel_rfl) d1 d4 d2 d3 rfl (by kernel_rfl) (by kernel_rfl) ha hr ht (Qou s hx)⟩
 · cases hs
def hL (a b : Int) : List Int := c4 a ++ c4 b
def Qei (a b : Int) : Bool := Qal a 2147483647 || Qal b 2147483647
def vL (c : CV) : List Int := Qe3 c.v0v c.v0f c.v1v c.v1f
def Qwi (c : CV) : List Int := Qe3 c.a0v c.a0f c.a1v c.a1f
def toL (c : CV) : List Int := Qe3 c.t0v c.t0f c.t1v c.t1f
def poL (c : CV) : List Int := Qe3 c.p0v c.p0f c.p1v c.p1f ++ (Qdu c.p2v c.p2f ++ Qdu c.p3v c.p3f)
def Q7a (c : CV) (n : Nat) (x y : Nat → Int) : List Int := shL c.sk c.sr c.sw c.sh n x y ++ (poL c ++ (vL c ++ (Qdu c.w0v c.w0f ++ (i8 c.dn ++ flB c.mv))))
def Q04 (n : Nat) : Nat := shN n + 72
def Q5r (c : CV) (n : Nat) : Bool := Qc5 c.sk n || ((Qbq c.p0v || Qbq c.p1v || (Qbq c.p2v || Qbq c.p3v)) || ((Qbq c.v0v || Qbq c.v1v) || Qbq c.w0v))
def Q69 (c : CV) (n : Nat) (x y : Nat → Int) : List Int := hL c.bs c.bg ++ i8 c.ver
def Q2g (n : Nat) : Nat := 16
def Zcv (c : CV) (n : Nat) : Bool := Qei c.bs c.bg || Qal c.ver 1099511627776
def Q68 (c : CV) (n : Nat) (x y : Nat → Int) : List Int := hL c.bs c.bg ++ (i8 c.ver ++ (Qwi c ++ toL c))
def Q2f (n : Nat) : Nat := 52
def Zcu (c : CV) (n : Nat) : Bool := Qei c.bs c.bg || (Qal c.ver 1099511627776 || ((Qbq c.a0v || Qbq c.a1v) || (Qbq c.t0v || Qbq c.t1v)))
def Q67 (c : CV) (n : Nat) (x y : Nat → Int) : List Int := hL c.bs c.bg ++ (i8 c.ver ++ Qwi c)
def Q2e (n : Nat) : Nat := 34
def Zct (c : CV) (n : Nat) : Bool := Qei c.bs c.bg || (Qal c.ver 1099511627776 || (Qbq c.a0v || Qbq c.a1v))
def Q66 (c : CV) (n : Nat) (x y : Nat → Int) : List Int := c4 c.gr ++ toL c
def Q2d (n : Nat) : Nat := 22
def Zcs (c : CV) (n : Nat) : Bool := Qal c.gr 2147483647 || (Qbq c.t0v || Qbq c.t1v)
def Q65 (c : CV) (n : Nat) (x y : Nat → Int) : List Int := c4 c.gr
def Q2c (n : Nat) : Nat := 4
def Zcr (c : CV) (n : Nat) : Bool := Qal c.gr 2147483647
def Q64 (c : CV) (n : Nat) (x y : Nat → Int) : List Int := hL c.bs c.bg
def Q2b (n : Nat) : Nat := 8
def Zcq (c : CV) (n : Nat) : Bool := Qei c.bs c.bg
def Q63 (c : CV) (n : Nat) (x y : Nat → Int) : List Int := (i8 c.b0 ++ i8 c.b1) ++ (i8 c.b2 ++ i8 c.b3)
def Q2a (n : Nat) : Nat := 32
def Zcp (c : CV) (n : Nat) : Bool := false
def Q62 (c : CV) (n : Nat) (x y : Nat → Int) : List Int := (i8 c.f0 ++ i8 c.f1) ++ (i8 c.u0 ++ i8 c.u1)
def Q19 (n : Nat) : Nat := 32
def Zco (c : CV) (n : Nat) : Bool := false
def Qst (c : CV) (n : Nat) (x y : Nat → Int) : List Int := []
def Qo5 (n : Nat) : Nat := 0
def Quk (c : CV) (n : Nat) : Bool := false
def caL (k : Int) (c : CV) (T : List Int) : List Int := [k % 256] ++ (c4 c.id ++ T)
def caB (c : CV) (b : Bool) : Bool := Qal c.id 2147483647 || b
def Qos : Qb6 := Qap (Qap (Qap Q77 118 (Qca true Qnt)) 105 (Qca true Qqn)) 97 (Qca true Qvm)
@[reducible] noncomputable def Qqb (c : CV) (n : Nat) (x : Nat→Int) (y : Nat→Int) := (fun i => SE.Qad [SV.v (.int .u8 (apG (5 + shN n) (fun i => SE.Qad [SV.v (.int .u8 (apG 5 (fun i => SE.Qad [SV.v (.int .u8 (apG 1 (fun i => SE.Qad [SV.v (.int .u8 ((fun i => List.getD [1] i 0) i))]) (be (CV.id c % 4294967296) 4) i))]) (shL (CV.sk c) (CV.sr c) (CV.sw c) (CV.sh c) n (fun i => pX [SV.v (.int .i64 (x (0 + i))),SV.v (.int .i64 (y (0 + i)))]) fun i => pY [SV.v (.int .i64 (x (0 + i))),SV.v (.int .i64 (y (0 + i)))]) i))]) (Qe3 (CV.p0v c) (CV.p0f c) (CV.p1v c) (CV.p1f c)++(Qdu (CV.p2v c) (CV.p2f c)++Qdu (CV.p3v c) (CV.p3f c))) i))])
@[reducible] noncomputable def Qto (c : CV) (n : Nat) (x : Nat→Int) (y : Nat→Int) := (fun i => SE.Qad [SV.v (.int .u8 (apG (5 + shN n + 36 + 18) (fun i => SE.Qad [SV.v (.int .u8 (apG (5 + shN n + 36) (Qqb c n x y) (Qe3 (CV.v0v c) (CV.v0f c) (CV.v1v c) (CV.v1f c)) i))]) (Qft (fun i => nV [SV.v (.int .i64 (CV.w0v c)),SV.v (.bool (CV.w0f c))]) (fun i => nF [SV.v (.int .i64 (CV.w0v c)),SV.v (.bool (CV.w0f c))]) 1) i))])
theorem Zi3 (b : Bool) (c : CV) (e n m cap xt : Nat) (x y : Nat→Int) (wh : Bool) : (Qa6 Try.prog Qos Qas Try.f70 [.vp 0 0,caS 1 c (.sl 1 2 0 n cap)] (Qac [wB (some b) true Qa8,ptB e m x y xt wh]) 64 (fun y' h' => Qbh [wB (some b) true Qa8,ptB e m x y xt wh] (apE (.fresh (some b)) 0 True (5 + Q04 n) (caL 1 c (Q7a c n x y)) (caB c (Q5r c n))) y' h')) =
((I64 1)∧(∀ c_1 : Nat,((((Qaf 1 (1 + c_1) {elem:=5,size:=1,rw:=true,lock:=false,lit:=false,flat:=true,n:=1,row:=fun i => [yU ((fun i => List.getD [1] i 0) i)],ext:=1 + c_1})∧((1 : Nat) ≤ M0))∧(I64 (CV.id c)))∧(∀ c_2 : Nat,((((Qaf 5 (5 + c_2) {elem:=5,size:=1,rw:=true,lock:=false,lit:=false,flat:=true,n:=5,row:=fun i => [yU (apG 1 (fun i => SE.Qad [yU ((fun i => List.getD [1] i 0) i)]) (be (CV.id c % 4294967296) 4) i)],ext:=5 + c_2})∧((5 : Nat) ≤ NB1))∧((((I64 (CV.sk c))∧((I64 (CV.sr c))∧((I64 (CV.sw c))∧(I64 (CV.sh c)))))∧(((n : Nat) = n)∧((n : Nat) < 100)))∧(∀ i : Nat,(((i : Nat) < n)→(Qht [yI (x (0 + i)),yI (y (0 + i))])))))∧(∀ c_3 : Nat,((((Qaf (5 + shN n) (5 + shN n + c_3) {elem:=5,size:=1,rw:=true,lock:=false,lit:=false,flat:=true,n:=5 + shN n,row:=fun i => [yU (apG 5 (fun i => SE.Qad [yU (apG 1 (fun i => SE.Qad [yU ((fun i => List.getD [1] i 0) i)]) (be (CV.id c % 4294967296) 4) i)]) (shL (CV.sk c) (CV.sr c) (CV.sw c) (CV.sh c) n (fun i => pX [yI (x (0 + i)),yI (y (0 + i))]) fun i => pY [yI (x (0 + i)),yI (y (0 + i))]) i)],ext:=5 + shN n + c_3})∧(((5 + shN n) : Nat) ≤ NB0))∧((I64 (CV.p0v c))∧((I64 (CV.p1v c))∧((I64 (CV.p2v c))∧(I64 (CV.p3v c))))))∧(∀ c_4 : Nat,((((Qaf (5 + shN n + 36) (5 + shN n + 36 + c_4) {elem:=5,size:=1,rw:=true,lock:=false,lit:=false,flat:=true,n:=5 + shN n + 36,row:=fun i => [yU (apG (5 + shN n) (fun i => SE.Qad [yU (apG 5 (fun i => SE.Qad [yU (apG 1 (fun i => SE.Qad [yU ((fun i => List.getD [1] i 0) i)]) (be (CV.id c % 4294967296) 4) i)]) (shL (CV.sk c) (CV.sr c) (CV.sw c) (CV.sh c) n (fun i => pX [yI (x (0 + i)),yI (y (0 + i))]) fun i => pY [yI (x (0 + i)),yI (y (0 + i))]) i)]) (Qe3 (CV.p0v c) (CV.p0f c) (CV.p1v c) (CV.p1f c)++(Qdu (CV.p2v c) (CV.p2f c)++Qdu (CV.p3v c) (CV.p3f c))) i)],ext:=5 + shN n + 36 + c_4})∧(((5 + shN n + 36) : Nat) ≤ NB0))∧((I64 (CV.v0v c))∧(I64 (CV.v1v c))))∧(∀ c_5 : Nat,((((Qaf (5 + shN n + 36 + 18) (5 + shN n + 36 + 18 + c_5) {elem:=5,size:=1,rw:=true,lock:=false,lit:=false,flat:=true,n:=5 + shN n + 36 + 18,row:=fun i => [yU (apG (5 + shN n + 36) (Qqb c n x y) (Qe3 (CV.v0v c) (CV.v0f c) (CV.v1v c) (CV.v1f c)) i)],ext:=5 + shN n + 36 + 18 + c_5})∧(((5 + shN n + 36 + 18) : Nat) ≤ NB0))∧(((1 : Nat) = 1)∧(((1 : Nat) ≤ 1)∧(((1 : Nat) ≤ 100)∧(∀ i : Nat,(((i : Nat) < 1)→(Qn7 [yI (CV.w0v c),yF (CV.w0f c)])))))))∧(∀ c_6 : Nat,((((Qaf (5 + shN n + 36 + 18 + 9) (5 + shN n + 36 + 18 + 9 + c_6) {elem:=5,size:=1,rw:=true,lock:=false,lit:=false,flat:=true,n:=5 + shN n + 36 + 18 + 9,row:=fun i => [yU (apG (5 + shN n + 36 + 18) (fun i => SE.Qad [yU (apG (5 + shN n + 36) (Qqb c n x y) (Qe3 (CV.v0v c) (CV.v0f c) (CV.v1v c) (CV.v1f c)) i)]) (Qft (fun i => nV [yI (CV.w0v c),yF (CV.w0f c)]) (fun i => nF [yI (CV.w0v c),yF (CV.w0f c)]) 1) i)],ext:=5 + shN n + 36 + 18 + 9 + c_6})∧(((5 + shN n + 36 + 18 + 9) : Nat) ≤ M0))∧(I64 (CV.dn c)))∧(∀ c_7 : Nat,((((Qaf (5 + shN n + 36 + 18 + 9 + 8) (5 + shN n + 36 + 18 + 9 + 8 + c_7) {elem:=5,size:=1,rw:=true,lock:=false,lit:=false,flat:=true,n:=5 + shN n + 36 + 18 + 9 + 8,row:=fun i => [yU (apG (5 + shN n + 36 + 18 + 9) (Qto c n x y) (be (CV.dn c % 18446744073709551616) 8) i)],ext:=5 + shN n + 36 + 18 + 9 + 8 + c_7})∧(((5 + shN n + 36 + 18 + 9 + 8) : Nat) ≤ M0))∧True)∧(∀ c_8 : Nat,(∃ c_9 : Nat,(True∧((((1 : Nat) = 1)∧(((1 : Nat) ≤ 1)∧(((SV.sl 392 1 0 (5 + shN n + 36 + 18 + 9 + 8 + 1) (5 + shN n + 36 + 18 + 9 + 8 + 1 + c_8)) = (SV.sl 392 1 0 (5 + Q04 n) (5 + Q04 n + c_9)))∧((yF (b||false||Qal (CV.id c) 2147483647||Qc5 (CV.sk c) n||(Qbq (CV.p0v c)||Qbq (CV.p1v c)||(Qbq (CV.p2v c)||Qbq (CV.p3v c)))||(Qbq (CV.v0v c)||Qbq (CV.v1v c))||Qbv (fun i => nV [yI (CV.w0v c),yF (CV.w0f c)]) 1||false||false)) = (yF (b||caB c (Q5r c n)))))))∧((((5 + shN n + 36 + 18 + 9 + 8 + 1) : Nat) = (5 + Q04 n))∧((((5 + Q04 n + c_9) : Nat) ≤ (5 + shN n + 36 + 18 + 9 + 8 + 1 + c_8))∧(∀ i : Nat,(((i : Nat) < (5 + Q04 n))→([(yU (apG (5 + shN n + 36 + 18 + 9 + 8) (fun i => SE.Qad [yU (apG (5 + shN n + 36 + 18 + 9) (Qto c n x y) (be (CV.dn c % 18446744073709551616) 8) i)]) [bif CV.mv c then 1 else 0] i))] = [(yU (List.getD (caL 1 c (Q7a c n x y)) i 0))])))))))))))))))))))))))) := by kernel_rfl
theorem Zi2 (b : Bool) (c : CV) (e n m cap xt : Nat) (x y : Nat→Int) (wh : Bool) : (Qa6 Try.prog Qos Qas Try.f70 [.vp 0 0,caS 2 c (.sl 1 2 0 n cap)] (Qac [wB (some b) true Qa8,ptB e m x y xt wh]) 64 (fun y' h' => Qbh [wB (some b) true Qa8,ptB e m x y xt wh] (apE (.fresh (some b)) 0 True (5 + Q2g n) (caL 2 c (Q69 c n x y)) (caB c (Zcv c n))) y' h')) =
((I64 2)∧(∀ c_1 : Nat,((((Qaf 1 (1 + c_1) {elem:=5,size:=1,rw:=true,lock:=false,lit:=false,flat:=true,n:=1,row:=fun i => [yU ((fun i => List.getD [2] i 0) i)],ext:=1 + c_1})∧((1 : Nat) ≤ M0))∧(I64 (CV.id c)))∧(∀ c_2 : Nat,((((Qaf 5 (5 + c_2) {elem:=5,size:=1,rw:=true,lock:=false,lit:=false,flat:=true,n:=5,row:=fun i => [yU (apG 1 (fun i => SE.Qad [yU ((fun i => List.getD [2] i 0) i)]) (be (CV.id c % 4294967296) 4) i)],ext:=5 + c_2})∧((5 : Nat) ≤ NB0))∧((I64 (CV.bs c))∧(I64 (CV.bg c))))∧(∀ c_3 : Nat,((((Qaf 13 (13 + c_3) {elem:=5,size:=1,rw:=true,lock:=false,lit:=false,flat:=true,n:=13,row:=fun i => [yU (apG 5 (fun i => SE.Qad [yU (apG 1 (fun i => SE.Qad [yU ((fun i => List.getD [2] i 0) i)]) (be (CV.id c % 4294967296) 4) i)]) (c4 (CV.bs c)++c4 (CV.bg c)) i)],ext:=13 + c_3})∧((13 : Nat) ≤ M0))∧(I64 (CV.ver c)))∧(∀ c_4 : Nat,(∃ c_5 : Nat,(True∧((((1 : Nat) = 1)∧(((1 : Nat) ≤ 1)∧(((SV.sl 288 1 0 21 (21 + c_4)) = (SV.sl 288 1 0 21 (5 + Q2g n + c_5)))∧((yF (b||false||Qal (CV.id c) 2147483647||(Qal (CV.bs c) 2147483647||Qal (CV.bg c) 2147483647)||Qal (CV.ver c) 1099511627776)) = (yF (b||caB c (Zcv c n)))))))∧(((21 : Nat) = (5 + Q2g n))∧((((5 + Q2g n + c_5) : Nat) ≤ (21 + c_4))∧(∀ i : Nat,(((i : Nat) < (5 + Q2g n))→([(yU (apG 13 (fun i => SE.Qad [yU (apG 5 (fun i => SE.Qad [yU (apG 1 (fun i => SE.Qad [yU ((fun i => List.getD [2] i 0) i)]) (be (CV.id c % 4294967296) 4) i)]) (c4 (CV.bs c)++c4 (CV.bg c)) i)]) (be (CV.ver c % 18446744073709551616) 8) i))] = [(yU (List.getD (caL 2 c (Q69 c n x y)) i 0))])))))))))))))))) := by kernel_rfl
@[reducible] noncomputable def Qqa (c : CV) := (fun i => SE.Qad [SV.v (.int .u8 (apG 5 (fun i => SE.Qad [SV.v (.int .u8 (apG 1 (fun i => SE.Qad [SV.v (.int .u8 ((fun i => List.getD [3] i 0) i))]) (be (CV.id c % 4294967296) 4) i))]) (c4 (CV.bs c)++c4 (CV.bg c)) i))])
theorem Zi1 (b : Bool) (c : CV) (e n m cap xt : Nat) (x y : Nat→Int) (wh : Bool) : (Qa6 Try.prog Qos Qas Try.f70 [.vp 0 0,caS 3 c (.sl 1 2 0 n cap)] (Qac [wB (some b) true Qa8,ptB e m x y xt wh]) 64 (fun y' h' => Qbh [wB (some b) true Qa8,ptB e m x y xt wh] (apE (.fresh (some b)) 0 True (5 + Q2f n) (caL 3 c (Q68 c n x y)) (caB c (Zcu c n))) y' h')) =
((I64 3)∧(∀ c_1 : Nat,((((Qaf 1 (1 + c_1) {elem:=5,size:=1,rw:=true,lock:=false,lit:=false,flat:=true,n:=1,row:=fun i => [yU ((fun i => List.getD [3] i 0) i)],ext:=1 + c_1})∧((1 : Nat) ≤ M0))∧(I64 (CV.id c)))∧(∀ c_2 : Nat,((((Qaf 5 (5 + c_2) {elem:=5,size:=1,rw:=true,lock:=false,lit:=false,flat:=true,n:=5,row:=fun i => [yU (apG 1 (fun i => SE.Qad [yU ((fun i => List.getD [3] i 0) i)]) (be (CV.id c % 4294967296) 4) i)],ext:=5 + c_2})∧((5 : Nat) ≤ NB0))∧((I64 (CV.bs c))∧(I64 (CV.bg c))))∧(∀ c_3 : Nat,((((Qaf 13 (13 + c_3) {elem:=5,size:=1,rw:=true,lock:=false,lit:=false,flat:=true,n:=13,row:=fun i => [yU (apG 5 (fun i => SE.Qad [yU (apG 1 (fun i => SE.Qad [yU ((fun i => List.getD [3] i 0) i)]) (be (CV.id c % 4294967296) 4) i)]) (c4 (CV.bs c)++c4 (CV.bg c)) i)],ext:=13 + c_3})∧((13 : Nat) ≤ M0))∧(I64 (CV.ver c)))∧(∀ c_4 : Nat,((((Qaf 21 (21 + c_4) {elem:=5,size:=1,rw:=true,lock:=false,lit:=false,flat:=true,n:=21,row:=fun i => [yU (apG 13 (Qqa c) (be (CV.ver c % 18446744073709551616) 8) i)],ext:=21 + c_4})∧((21 : Nat) ≤ NB0))∧((I64 (CV.a0v c))∧(I64 (CV.a1v c))))∧(∀ c_5 : Nat,((((Qaf 39 (39 + c_5) {elem:=5,size:=1,rw:=true,lock:=false,lit:=false,flat:=true,n:=39,row:=fun i => [yU (apG 21 (fun i => SE.Qad [yU (apG 13 (Qqa c) (be (CV.ver c % 18446744073709551616) 8) i)]) (Qe3 (CV.a0v c) (CV.a0f c) (CV.a1v c) (CV.a1f c)) i)],ext:=39 + c_5})∧((39 : Nat) ≤ NB0))∧((I64 (CV.t0v c))∧(I64 (CV.t1v c))))∧(∀ c_6 : Nat,(∃ c_7 : Nat,(True∧((((1 : Nat) = 1)∧(((1 : Nat) ≤ 1)∧(((SV.sl 400 1 0 57 (57 + c_6)) = (SV.sl 400 1 0 57 (5 + Q2f n + c_7)))∧((yF (b||false||Qal (CV.id c) 2147483647||(Qal (CV.bs c) 2147483647||Qal (CV.bg c) 2147483647)||Qal (CV.ver c) 1099511627776||(Qbq (CV.a0v c)||Qbq (CV.a1v c))||(Qbq (CV.t0v c)||Qbq (CV.t1v c)))) = (yF (b||caB c (Zcu c n)))))))∧(((57 : Nat) = (5 + Q2f n))∧((((5 + Q2f n + c_7) : Nat) ≤ (57 + c_6))∧(∀ i : Nat,(((i : Nat) < (5 + Q2f n))→([(yU (apG 39 (fun i => SE.Qad [yU (apG 21 (fun i => SE.Qad [yU (apG 13 (Qqa c) (be (CV.ver c % 18446744073709551616) 8) i)]) (Qe3 (CV.a0v c) (CV.a0f c) (CV.a1v c) (CV.a1f c)) i)]) (Qe3 (CV.t0v c) (CV.t0f c) (CV.t1v c) (CV.t1f c)) i))] = [(yU (List.getD (caL 3 c (Q68 c n x y)) i 0))])))))))))))))))))))) := by kernel_rfl
theorem Zi0 (b : Bool) (c : CV) (e n m cap xt : Nat) (x y : Nat→Int) (wh : Bool) : (Qa6 Try.prog Qos Qas Try.f70 [.vp 0 0,caS 4 c (.sl 1 2 0 n cap)] (Qac [wB (some b) true Qa8,ptB e m x y xt wh]) 64 (fun y' h' => Qbh [wB (some b) true Qa8,ptB e m x y xt wh] (apE (.fresh (some b)) 0 True (5 + Q2e n) (caL 4 c (Q67 c n x y)) (caB c (Zct c n))) y' h')) =
((I64 4)∧(∀ c_1 : Nat,((((Qaf 1 (1 + c_1) {elem:=5,size:=1,rw:=true,lock:=false,lit:=false,flat:=true,n:=1,row:=fun i => [yU ((fun i => List.getD [4] i 0) i)],ext:=1 + c_1})∧((1 : Nat) ≤ M0))∧(I64 (CV.id c)))∧(∀ c_2 : Nat,((((Qaf 5 (5 + c_2) {elem:=5,size:=1,rw:=true,lock:=false,lit:=false,flat:=true,n:=5,row:=fun i => [yU (apG 1 (fun i => SE.Qad [yU ((fun i => List.getD [4] i 0) i)]) (be (CV.id c % 4294967296) 4) i)],ext:=5 + c_2})∧((5 : Nat) ≤ NB0))∧((I64 (CV.bs c))∧(I64 (CV.bg c))))∧(∀ c_3 : Nat,((((Qaf 13 (13 + c_3) {elem:=5,size:=1,rw:=true,lock:=false,lit:=false,flat:=true,n:=13,row:=fun i => [yU (apG 5 (fun i => SE.Qad [yU (apG 1 (fun i => SE.Qad [yU ((fun i => List.getD [4] i 0) i)]) (be (CV.id c % 4294967296) 4) i)]) (c4 (CV.bs c)++c4 (CV.bg c)) i)],ext:=13 + c_3})∧((13 : Nat) ≤ M0))∧(I64 (CV.ver c)))∧(∀ c_4 : Nat,((((Qaf 21 (21 + c_4) {elem:=5,size:=1,rw:=true,lock:=false,lit:=false,flat:=true,n:=21,row:=fun i => [yU (apG 13 (fun i => SE.Qad [yU (apG 5 (fun i => SE.Qad [yU (apG 1 (fun i => SE.Qad [yU ((fun i => List.getD [4] i 0) i)]) (be (CV.id c % 4294967296) 4) i)]) (c4 (CV.bs c)++c4 (CV.bg c)) i)]) (be (CV.ver c % 18446744073709551616) 8) i)],ext:=21 + c_4})∧((21 : Nat) ≤ NB0))∧((I64 (CV.a0v c))∧(I64 (CV.a1v c))))∧(∀ c_5 : Nat,(∃ c_6 : Nat,(True∧((((1 : Nat) = 1)∧(((1 : Nat) ≤ 1)∧(((SV.sl 344 1 0 39 (39 + c_5)) = (SV.sl 344 1 0 39 (5 + Q2e n + c_6)))∧((yF (b||false||Qal (CV.id c) 2147483647||(Qal (CV.bs c) 2147483647||Qal (CV.bg c) 2147483647)||Qal (CV.ver c) 1099511627776||(Qbq (CV.a0v c)||Qbq (CV.a1v c)))) = (yF (b||caB c (Zct c n)))))))∧(((39 : Nat) = (5 + Q2e n))∧((((5 + Q2e n + c_6) : Nat) ≤ (39 + c_5))∧(∀ i : Nat,(((i : Nat) < (5 + Q2e n))→([(yU (apG 21 (fun i => SE.Qad [yU (apG 13 (fun i => SE.Qad [yU (apG 5 (fun i => SE.Qad [yU (apG 1 (fun i => SE.Qad [yU ((fun i => List.getD [4] i 0) i)]) (be (CV.id c % 4294967296) 4) i)]) (c4 (CV.bs c)++c4 (CV.bg c)) i)]) (be (CV.ver c % 18446744073709551616) 8) i)]) (Qe3 (CV.a0v c) (CV.a0f c) (CV.a1v c) (CV.a1f c)) i))] = [(yU (List.getD (caL 4 c (Q67 c n x y)) i 0))])))))))))))))))))) := by kernel_rfl
theorem Ziz (b : Bool) (c : CV) (e n m cap xt : Nat) (x y : Nat→Int) (wh : Bool) : (Qa6 Try.prog Qos Qas Try.f70 [.vp 0 0,caS 5 c (.sl 1 2 0 n cap)] (Qac [wB (some b) true Qa8,ptB e m x y xt wh]) 64 (fun y' h' => Qbh [wB (some b) true Qa8,ptB e m x y xt wh] (apE (.fresh (some b)) 0 True (5 + Q2d n) (caL 5 c (Q66 c n x y)) (caB c (Zcs c n))) y' h')) =
((I64 5)∧(∀ c_1 : Nat,((((Qaf 1 (1 + c_1) {elem:=5,size:=1,rw:=true,lock:=false,lit:=false,flat:=true,n:=1,row:=fun i => [yU ((fun i => List.getD [5] i 0) i)],ext:=1 + c_1})∧((1 : Nat) ≤ M0))∧(I64 (CV.id c)))∧(∀ c_2 : Nat,((((Qaf 5 (5 + c_2) {elem:=5,size:=1,rw:=true,lock:=false,lit:=false,flat:=true,n:=5,row:=fun i => [yU (apG 1 (fun i => SE.Qad [yU ((fun i => List.getD [5] i 0) i)]) (be (CV.id c % 4294967296) 4) i)],ext:=5 + c_2})∧((5 : Nat) ≤ M0))∧(I64 (CV.gr c)))∧(∀ c_3 : Nat,((((Qaf 9 (9 + c_3) {elem:=5,size:=1,rw:=true,lock:=false,lit:=false,flat:=true,n:=9,row:=fun i => [yU (apG 5 (fun i => SE.Qad [yU (apG 1 (fun i => SE.Qad [yU ((fun i => List.getD [5] i 0) i)]) (be (CV.id c % 4294967296) 4) i)]) (be (CV.gr c % 4294967296) 4) i)],ext:=9 + c_3})∧((9 : Nat) ≤ NB0))∧((I64 (CV.t0v c))∧(I64 (CV.t1v c))))∧(∀ c_4 : Nat,(∃ c_5 : Nat,(True∧((((1 : Nat) = 1)∧(((1 : Nat) ≤ 1)∧(((SV.sl 304 1 0 27 (27 + c_4)) = (SV.sl 304 1 0 27 (5 + Q2d n + c_5)))∧((yF (b||false||Qal (CV.id c) 2147483647||Qal (CV.gr c) 2147483647||(Qbq (CV.t0v c)||Qbq (CV.t1v c)))) = (yF (b||caB c (Zcs c n)))))))∧(((27 : Nat) = (5 + Q2d n))∧((((5 + Q2d n + c_5) : Nat) ≤ (27 + c_4))∧(∀ i : Nat,(((i : Nat) < (5 + Q2d n))→([(yU (apG 9 (fun i => SE.Qad [yU (apG 5 (fun i => SE.Qad [yU (apG 1 (fun i => SE.Qad [yU ((fun i => List.getD [5] i 0) i)]) (be (CV.id c % 4294967296) 4) i)]) (be (CV.gr c % 4294967296) 4) i)]) (Qe3 (CV.t0v c) (CV.t0f c) (CV.t1v c) (CV.t1f c)) i))] = [(yU (List.getD (caL 5 c (Q66 c n x y)) i 0))])))))))))))))))) := by kernel_rfl
theorem Ziy (b : Bool) (c : CV) (e n m cap xt : Nat) (x y : Nat→Int) (wh : Bool) : (Qa6 Try.prog Qos Qas Try.f70 [.vp 0 0,caS 6 c (.sl 1 2 0 n cap)] (Qac [wB (some b) true Qa8,ptB e m x y xt wh]) 64 (fun y' h' => Qbh [wB (some b) true Qa8,ptB e m x y xt wh] (apE (.fresh (some b)) 0 True (5 + Q2c n) (caL 6 c (Q65 c n x y)) (caB c (Zcr c n))) y' h')) =
((I64 6)∧(∀ c_1 : Nat,((((Qaf 1 (1 + c_1) {elem:=5,size:=1,rw:=true,lock:=false,lit:=false,flat:=true,n:=1,row:=fun i => [yU ((fun i => List.getD [6] i 0) i)],ext:=1 + c_1})∧((1 : Nat) ≤ M0))∧(I64 (CV.id c)))∧(∀ c_2 : Nat,((((Qaf 5 (5 + c_2) {elem:=5,size:=1,rw:=true,lock:=false,lit:=false,flat:=true,n:=5,row:=fun i => [yU (apG 1 (fun i => SE.Qad [yU ((fun i => List.getD [6] i 0) i)]) (be (CV.id c % 4294967296) 4) i)],ext:=5 + c_2})∧((5 : Nat) ≤ M0))∧(I64 (CV.gr c)))∧(∀ c_3 : Nat,(∃ c_4 : Nat,(True∧((((1 : Nat) = 1)∧(((1 : Nat) ≤ 1)∧(((SV.sl 288 1 0 9 (9 + c_3)) = (SV.sl 288 1 0 9 (5 + Q2c n + c_4)))∧((yF (b||false||Qal (CV.id c) 2147483647||Qal (CV.gr c) 2147483647)) = (yF (b||caB c (Zcr c n)))))))∧(((9 : Nat) = (5 + Q2c n))∧((((5 + Q2c n + c_4) : Nat) ≤ (9 + c_3))∧(∀ i : Nat,(((i : Nat) < (5 + Q2c n))→([(yU (apG 5 (fun i => SE.Qad [yU (apG 1 (fun i => SE.Qad [yU ((fun i => List.getD [6] i 0) i)]) (be (CV.id c % 4294967296) 4) i)]) (be (CV.gr c % 4294967296) 4) i))] = [(yU (List.getD (caL 6 c (Q65 c n x y)) i 0))])))))))))))))) := by kernel_rfl
theorem Zix (b : Bool) (c : CV) (e n m cap xt : Nat) (x y : Nat→Int) (wh : Bool) : (Qa6 Try.prog Qos Qas Try.f70 [.vp 0 0,caS 7 c (.sl 1 2 0 n cap)] (Qac [wB (some b) true Qa8,ptB e m x y xt wh]) 64 (fun y' h' => Qbh [wB (some b) true Qa8,ptB e m x y xt wh] (apE (.fresh (some b)) 0 True (5 + Q2b n) (caL 7 c (Q64 c n x y)) (caB c (Zcq c n))) y' h')) =
((I64 7)∧(∀ c_1 : Nat,((((Qaf 1 (1 + c_1) {elem:=5,size:=1,rw:=true,lock:=false,lit:=false,flat:=true,n:=1,row:=fun i => [yU ((fun i => List.getD [7] i 0) i)],ext:=1 + c_1})∧((1 : Nat) ≤ M0))∧(I64 (CV.id c)))∧(∀ c_2 : Nat,((((Qaf 5 (5 + c_2) {elem:=5,size:=1,rw:=true,lock:=false,lit:=false,flat:=true,n:=5,row:=fun i => [yU (apG 1 (fun i => SE.Qad [yU ((fun i => List.getD [7] i 0) i)]) (be (CV.id c % 4294967296) 4) i)],ext:=5 + c_2})∧((5 : Nat) ≤ NB0))∧((I64 (CV.bs c))∧(I64 (CV.bg c))))∧(∀ c_3 : Nat,(∃ c_4 : Nat,(True∧((((1 : Nat) = 1)∧(((1 : Nat) ≤ 1)∧(((SV.sl 304 1 0 13 (13 + c_3)) = (SV.sl 304 1 0 13 (5 + Q2b n + c_4)))∧((yF (b||false||Qal (CV.id c) 2147483647||(Qal (CV.bs c) 2147483647||Qal (CV.bg c) 2147483647))) = (yF (b||caB c (Zcq c n)))))))∧(((13 : Nat) = (5 + Q2b n))∧((((5 + Q2b n + c_4) : Nat) ≤ (13 + c_3))∧(∀ i : Nat,(((i : Nat) < (5 + Q2b n))→([(yU (apG 5 (fun i => SE.Qad [yU (apG 1 (fun i => SE.Qad [yU ((fun i => List.getD [7] i 0) i)]) (be (CV.id c % 4294967296) 4) i)]) (c4 (CV.bs c)++c4 (CV.bg c)) i))] = [(yU (List.getD (caL 7 c (Q64 c n x y)) i 0))])))))))))))))) := by kernel_rfl
theorem Ziw (b : Bool) (c : CV) (e n m cap xt : Nat) (x y : Nat→Int) (wh : Bool) : (Qa6 Try.prog Qos Qas Try.f70 [.vp 0 0,caS 8 c (.sl 1 2 0 n cap)] (Qac [wB (some b) true Qa8,ptB e m x y xt wh]) 64 (fun y' h' => Qbh [wB (some b) true Qa8,ptB e m x y xt wh] (apE (.fresh (some b)) 0 True (5 + Q2a n) (caL 8 c (Q63 c n x y)) (caB c (Zcp c n))) y' h')) =
((I64 8)∧(∀ c_1 : Nat,((((Qaf 1 (1 + c_1) {elem:=5,size:=1,rw:=true,lock:=false,lit:=false,flat:=true,n:=1,row:=fun i => [yU ((fun i => List.getD [8] i 0) i)],ext:=1 + c_1})∧((1 : Nat) ≤ M0))∧(I64 (CV.id c)))∧(∀ c_2 : Nat,((((Qaf 5 (5 + c_2) {elem:=5,size:=1,rw:=true,lock:=false,lit:=false,flat:=true,n:=5,row:=fun i => [yU (apG 1 (fun i => SE.Qad [yU ((fun i => List.getD [8] i 0) i)]) (be (CV.id c % 4294967296) 4) i)],ext:=5 + c_2})∧((5 : Nat) ≤ NB0))∧((((2 : Nat) = 2)∧(((2 : Nat) < 100)∧((5 : Nat) ≤ (5 + c_2))))∧(∀ i : Nat,(((i : Nat) < 2)→(Qht [yI (bop (Nat.beq (0 + i) 0) (CV.b0 c) (CV.b2 c)),yI (bop (Nat.beq (0 + i) 0) (CV.b1 c) (CV.b3 c))])))))∧(∀ c_3 : Nat,(∃ c_4 : Nat,(True∧((((1 : Nat) = 1)∧(((1 : Nat) ≤ 1)∧(((SV.sl 424 1 0 37 (37 + c_3)) = (SV.sl 424 1 0 37 (5 + Q2a n + c_4)))∧((yF (b||false||Qal (CV.id c) 2147483647||false)) = (yF (b||caB c (Zcp c n)))))))∧(((37 : Nat) = (5 + Q2a n))∧((((5 + Q2a n + c_4) : Nat) ≤ (37 + c_3))∧(∀ i : Nat,(((i : Nat) < (5 + Q2a n))→([(yU (apG 5 (fun i => SE.Qad [yU (apG 1 (fun i => SE.Qad [yU ((fun i => List.getD [8] i 0) i)]) (be (CV.id c % 4294967296) 4) i)]) (Qc8 (fun i => pX [yI (bop (Nat.beq (0 + i) 0) (CV.b0 c) (CV.b2 c)),yI (bop (Nat.beq (0 + i) 0) (CV.b1 c) (CV.b3 c))]) (fun i => pY [yI (bop (Nat.beq (0 + i) 0) (CV.b0 c) (CV.b2 c)),yI (bop (Nat.beq (0 + i) 0) (CV.b1 c) (CV.b3 c))]) 2) i))] = [(yU (List.getD (caL 8 c (Q63 c n x y)) i 0))])))))))))))))) := by kernel_rfl
theorem Ziv (b : Bool) (c : CV) (e n m cap xt : Nat) (x y : Nat→Int) (wh : Bool) : (Qa6 Try.prog Qos Qas Try.f70 [.vp 0 0,caS 9 c (.sl 1 2 0 n cap)] (Qac [wB (some b) true Qa8,ptB e m x y xt wh]) 64 (fun y' h' => Qbh [wB (some b) true Qa8,ptB e m x y xt wh] (apE (.fresh (some b)) 0 True (5 + Q19 n) (caL 9 c (Q62 c n x y)) (caB c (Zco c n))) y' h')) =
((I64 9)∧(∀ c_1 : Nat,((((Qaf 1 (1 + c_1) {elem:=5,size:=1,rw:=true,lock:=false,lit:=false,flat:=true,n:=1,row:=fun i => [yU ((fun i => List.getD [9] i 0) i)],ext:=1 + c_1})∧((1 : Nat) ≤ M0))∧(I64 (CV.id c)))∧(∀ c_2 : Nat,((((Qaf 5 (5 + c_2) {elem:=5,size:=1,rw:=true,lock:=false,lit:=false,flat:=true,n:=5,row:=fun i => [yU (apG 1 (fun i => SE.Qad [yU ((fun i => List.getD [9] i 0) i)]) (be (CV.id c % 4294967296) 4) i)],ext:=5 + c_2})∧((5 : Nat) ≤ NB0))∧((((2 : Nat) = 2)∧(((2 : Nat) < 100)∧((5 : Nat) ≤ (5 + c_2))))∧(∀ i : Nat,(((i : Nat) < 2)→(Qht [yI (bop (Nat.beq (0 + i) 0) (CV.f0 c) (CV.u0 c)),yI (bop (Nat.beq (0 + i) 0) (CV.f1 c) (CV.u1 c))])))))∧(∀ c_3 : Nat,(∃ c_4 : Nat,(True∧((((1 : Nat) = 1)∧(((1 : Nat) ≤ 1)∧(((SV.sl 360 1 0 37 (37 + c_3)) = (SV.sl 360 1 0 37 (5 + Q19 n + c_4)))∧((yF (b||false||Qal (CV.id c) 2147483647||false)) = (yF (b||caB c (Zco c n)))))))∧(((37 : Nat) = (5 + Q19 n))∧((((5 + Q19 n + c_4) : Nat) ≤ (37 + c_3))∧(∀ i : Nat,(((i : Nat) < (5 + Q19 n))→([(yU (apG 5 (fun i => SE.Qad [yU (apG 1 (fun i => SE.Qad [yU ((fun i => List.getD [9] i 0) i)]) (be (CV.id c % 4294967296) 4) i)]) (Qc8 (fun i => pX [yI (bop (Nat.beq (0 + i) 0) (CV.f0 c) (CV.u0 c)),yI (bop (Nat.beq (0 + i) 0) (CV.f1 c) (CV.u1 c))]) (fun i => pY [yI (bop (Nat.beq (0 + i) 0) (CV.f0 c) (CV.u0 c)),yI (bop (Nat.beq (0 + i) 0) (CV.f1 c) (CV.u1 c))]) 2) i))] = [(yU (List.getD (caL 9 c (Q62 c n x y)) i 0))])))))))))))))) := by kernel_rfl
theorem Zfk (b : Bool) (c : CV) (e n m cap xt : Nat) (x y : Nat→Int) (wh : Bool) : (Qa6 Try.prog Qos Qas Try.f70 [.vp 0 0,caS 10 c (.sl 1 2 0 n cap)] (Qac [wB (some b) true Qa8,ptB e m x y xt wh]) 64 (fun y' h' => Qbh [wB (some b) true Qa8,ptB e m x y xt wh] (apE (.fresh (some b)) 0 True (5 + Qo5 n) (caL 10 c (Qst c n x y)) (caB c (Quk c n))) y' h')) = ((I64 10)∧(∀ c_1 : Nat,((((Qaf 1 (1 + c_1) {elem:=5,size:=1,rw:=true,lock:=false,lit:=false,flat:=true,n:=1,row:=fun i => [yU ((fun i => List.getD [10] i 0) i)],ext:=1 + c_1})∧((1 : Nat) ≤ M0))∧(I64 (CV.id c)))∧(∀ c_2 : Nat,(∃ c_3 : Nat,(True∧((((1 : Nat) = 1)∧(((1 : Nat) ≤ 1)∧(((SV.sl 144 1 0 5 (5 + c_2)) = (SV.sl 144 1 0 5 (5 + Qo5 n + c_3)))∧((yF (b||false||Qal (CV.id c) 2147483647)) = (yF (b||caB c (Quk c n)))))))∧(((5 : Nat) = (5 + Qo5 n))∧((((5 + Qo5 n + c_3) : Nat) ≤ (5 + c_2))∧(∀ i : Nat,(((i : Nat) < (5 + Qo5 n))→([(yU (apG 1 (fun i => SE.Qad [yU ((fun i => List.getD [10] i 0) i)]) (be (CV.id c % 4294967296) 4) i))] = [(yU (List.getD (caL 10 c (Qst c n x y)) i 0))])))))))))))):=by kernel_rfl
def Qg8 (c : CV) : Prop := I64 c.id ∧ I64 c.bs ∧ I64 c.bg ∧ I64 c.ver ∧ I64 c.sk ∧ I64 c.sr ∧ I64 c.sw ∧ I64 c.sh ∧ I64 c.p0v ∧ I64 c.p1v ∧ I64 c.p2v ∧ I64 c.p3v ∧ I64 c.v0v ∧ I64 c.v1v ∧ I64 c.w0v ∧ I64 c.dn ∧ I64 c.a0v ∧ I64 c.a1v ∧ I64 c.t0v ∧ I64 c.t1v ∧ I64 c.gr ∧ I64 c.b0 ∧ I64 c.b1 ∧ I64 c.b2 ∧ I64 c.b3 ∧ I64 c.f0 ∧ I64 c.f1 ∧ I64 c.u0 ∧ I64 c.u1
theorem c4l (n : Int) : (c4 n).length = 4 := Qol _ _
theorem i8l (n : Int) : (i8 n).length = 8 := Qol _ _
theorem hLl (a b : Int) : (hL a b).length = 8 := by unfold hL; rw [List.length_append, c4l, c4l]
theorem Qf1 (v : Int) (f : Bool) : (Qdu v f).length = 9 := by unfold Qdu; rw [List.length_append, i8l]; rfl
theorem Qgm (a : Int) (f : Bool) (b : Int) (g : Bool) : (Qe3 a f b g).length = 18 := by unfold Qe3; rw [List.length_append, Qf1, Qf1]
theorem vLl (c : CV) : (vL c).length = 18 := Qgm _ _ _ _
theorem aLl (c : CV) : (Qwi c).length = 18 := Qgm _ _ _ _
theorem tLl (c : CV) : (toL c).length = 18 := Qgm _ _ _ _
theorem Qo0 (c : CV) : (poL c).length = 36 := by unfold poL; rw [List.length_append, Qgm, List.length_append, Qf1, Qf1]
theorem Qgw (k r w h : Int) (n : Nat) (x y : Nat → Int) : (shL k r w h n x y).length = shN n := by
 unfold shL shN
 cases Nat.ble n 8 with
 | true => simp only [cond_true, List.length_append, i8l, Qlv, List.length_cons, List.length_nil]; omega
 | false => simp only [cond_false, List.length_append, i8l, List.length_cons, List.length_nil]
theorem Qdc (n : Nat) : shN n ≤ 26 + 16 * n := by
 unfold shN
 cases Nat.ble n 8 with
 | true => exact Nat.le_refl _
 | false => show 26 ≤ _; omega
theorem Qbr (x : Int) (M : List Int) (i : Nat) : apG 1 (fun i => ([x] : List Int).getD i 0) M i = ([x] ++ M).getD i 0 := by
 by_cases h1 : i < 1
 · have : i = 0 := by omega
   subst this; rfl
 · obtain ⟨j, rfl⟩ : ∃ j, i = j + 1 := ⟨i - 1, by omega⟩
   rw [Qf5 h1, Nat.add_sub_cancel]
   rfl
theorem Qbd {m n : Nat} {L : List Int} {k : Nat} (h : L.length = k) (e : m = n + k) : m = n + L.length := by rw [h]; exact e
theorem Zg7 {b : Bool} {c : CV} {e n m cap xt : Nat} {x y : Nat → Int} {wh : Bool} (hc : Qg8 c) (hn : n < 100) (hv : ∀ i, i < n → I64 (x i) ∧ I64 (y i)) : Qa6 Try.prog Qos Qas Try.f70 [.vp 0 0, caS 1 c (.sl 1 2 0 n cap)] (Qac [wB (some b) true Qa8, ptB e m x y xt wh]) 64 (fun y' h' => Qbh [wB (some b) true Qa8, ptB e m x y xt wh] (apE (.fresh (some b)) 0 True (5 + Q04 n) (caL 1 c (Q7a c n x y)) (caB c (Q5r c n))) y' h') := by
 have hsn := Qdc n
 obtain ⟨h_id, h_bs, h_bg, h_ver, h_sk, h_sr, h_sw, h_sh, h_p0v, h_p1v, h_p2v, h_p3v, h_v0v, h_v1v, h_w0v, h_dn, h_a0v, h_a1v, h_t0v, h_t1v, h_gr, h_b0, h_b1, h_b2, h_b3, h_f0, h_f1, h_u0, h_u1⟩ := hc
 have h_vc := Zi3 b c e n m cap xt x y wh
 repeat (first | unfold Qto at h_vc | unfold Qqb at h_vc)
 refine Eq.mpr h_vc ⟨⟨by omega, by omega⟩, fun d0 => ⟨⟨⟨Qaa _ _ _ (by omega), (by first | (show _ ≤ 1099511627776; omega) | (show _ ≤ 1000000000; omega) | (show _ ≤ 900000000; omega))⟩, h_id⟩, fun d1 => ⟨⟨⟨Qaa _ _ _ (by omega), (by first | (show _ ≤ 1099511627776; omega) | (show _ ≤ 1000000000; omega) | (show _ ≤ 900000000; omega))⟩, ⟨⟨⟨h_sk, h_sr, h_sw, h_sh⟩, rfl, hn⟩, fun i hi => by rw [Nat.zero_add]; exact hv i hi⟩⟩, fun d2 => ⟨⟨⟨Qaa _ _ _ (by omega), (by first | (show _ ≤ 1099511627776; omega) | (show _ ≤ 1000000000; omega) | (show _ ≤ 900000000; omega))⟩, ⟨h_p0v, h_p1v, h_p2v, h_p3v⟩⟩, fun d3 => ⟨⟨⟨Qaa _ _ _ (by omega), (by first | (show _ ≤ 1099511627776; omega) | (show _ ≤ 1000000000; omega) | (show _ ≤ 900000000; omega))⟩, ⟨h_v0v, h_v1v⟩⟩, fun d4 => ⟨⟨⟨Qaa _ _ _ (by omega), (by first | (show _ ≤ 1099511627776; omega) | (show _ ≤ 1000000000; omega) | (show _ ≤ 900000000; omega))⟩, ⟨rfl, by omega, by omega, fun i hi => by
   have : i = 0 := by omega
   subst this
   exact h_w0v⟩⟩, fun d5 => ⟨⟨⟨Qaa _ _ _ (by omega), (by first | (show _ ≤ 1099511627776; omega) | (show _ ≤ 1000000000; omega) | (show _ ≤ 900000000; omega))⟩, h_dn⟩, fun d6 => ⟨⟨⟨Qaa _ _ _ (by omega), (by first | (show _ ≤ 1099511627776; omega) | (show _ ≤ 1000000000; omega) | (show _ ≤ 900000000; omega))⟩, trivial⟩, fun d7 => Qb9 ?_ ?_ fun i hi => ?_⟩⟩⟩⟩⟩⟩⟩⟩
 · show _ = 5 + (shN n + 72)
   omega
 · simp only [Bool.or_false, caB, Q5r, Qc5, Qbv, nV, Bool.false_or, Bool.or_assoc]
 · show apG (5 + shN n + 36 + 18 + 9 + 8) (apG (5 + shN n + 36 + 18 + 9) (apG (5 + shN n + 36 + 18) (apG (5 + shN n + 36) (apG (5 + shN n) (apG (5) (apG (1) (fun i => ([1] : List Int).getD i 0) (c4 c.id)) (shL c.sk c.sr c.sw c.sh n (fun i => x (0 + i)) (fun i => y (0 + i)))) (poL c)) (vL c)) (Qdu c.w0v c.w0f)) (i8 c.dn)) (flB c.mv) i = _
   rw [show (fun i => x (0 + i)) = x from funext fun i => by rw [Nat.zero_add], show (fun i => y (0 + i)) = y from funext fun i => by rw [Nat.zero_add]]
   rw [Qay (n := 5 + shN n + 36 + 18 + 9) (m := 5 + shN n + 36 + 18 + 9 + 8) (Qbd (i8l _) rfl)]
   rw [Qay (n := 5 + shN n + 36 + 18) (m := 5 + shN n + 36 + 18 + 9) (Qbd (Qf1 _ _) rfl)]
   rw [Qay (n := 5 + shN n + 36) (m := 5 + shN n + 36 + 18) (Qbd (vLl c) rfl)]
   rw [Qay (n := 5 + shN n) (m := 5 + shN n + 36) (Qbd (Qo0 c) rfl)]
   rw [Qay (n := 5) (m := 5 + shN n) (Qbd (Qgw _ _ _ _ _ _ _) rfl)]
   rw [Qay (n := 1) (m := 5) (Qbd (c4l _) rfl)]
   rw [Qbr]
   rfl
theorem Zg6 {b : Bool} {c : CV} {e n m cap xt : Nat} {x y : Nat → Int} {wh : Bool} (hc : Qg8 c) (hn : n < 100) (hv : ∀ i, i < n → I64 (x i) ∧ I64 (y i)) : Qa6 Try.prog Qos Qas Try.f70 [.vp 0 0, caS 2 c (.sl 1 2 0 n cap)] (Qac [wB (some b) true Qa8, ptB e m x y xt wh]) 64 (fun y' h' => Qbh [wB (some b) true Qa8, ptB e m x y xt wh] (apE (.fresh (some b)) 0 True (5 + Q2g n) (caL 2 c (Q69 c n x y)) (caB c (Zcv c n))) y' h') := by
 have hsn := Qdc n
 obtain ⟨h_id, h_bs, h_bg, h_ver, h_sk, h_sr, h_sw, h_sh, h_p0v, h_p1v, h_p2v, h_p3v, h_v0v, h_v1v, h_w0v, h_dn, h_a0v, h_a1v, h_t0v, h_t1v, h_gr, h_b0, h_b1, h_b2, h_b3, h_f0, h_f1, h_u0, h_u1⟩ := hc
 refine Eq.mpr (Zi2 b c e n m cap xt x y wh) ⟨⟨by omega, by omega⟩, fun d0 => ⟨⟨⟨Qaa _ _ _ (by omega), (by first | (show _ ≤ 1099511627776; omega) | (show _ ≤ 1000000000; omega) | (show _ ≤ 900000000; omega))⟩, h_id⟩, fun d1 => ⟨⟨⟨Qaa _ _ _ (by omega), (by first | (show _ ≤ 1099511627776; omega) | (show _ ≤ 1000000000; omega) | (show _ ≤ 900000000; omega))⟩, ⟨h_bs, h_bg⟩⟩, fun d2 => ⟨⟨⟨Qaa _ _ _ (by omega), (by first | (show _ ≤ 1099511627776; omega) | (show _ ≤ 1000000000; omega) | (show _ ≤ 900000000; omega))⟩, h_ver⟩, fun d3 => Qb9 ?_ ?_ fun i hi => ?_⟩⟩⟩⟩
 · show _ = 5 + (16)
   omega
 · simp only [Bool.or_false, caB, Zcv, Qei, Qc5, Bool.or_assoc, Qbv, nV, bop, Bool.false_or]
 · show apG (13) (apG (5) (apG (1) (fun i => ([2] : List Int).getD i 0) (c4 c.id)) (hL c.bs c.bg)) (i8 c.ver) i = _
   rw [Qay (n := 5) (m := 13) (Qbd (hLl _ _) rfl)]
   rw [Qay (n := 1) (m := 5) (Qbd (c4l _) rfl)]
   rw [Qbr]
   rfl
theorem Zg5 {b : Bool} {c : CV} {e n m cap xt : Nat} {x y : Nat → Int} {wh : Bool} (hc : Qg8 c) (hn : n < 100) (hv : ∀ i, i < n → I64 (x i) ∧ I64 (y i)) : Qa6 Try.prog Qos Qas Try.f70 [.vp 0 0, caS 3 c (.sl 1 2 0 n cap)] (Qac [wB (some b) true Qa8, ptB e m x y xt wh]) 64 (fun y' h' => Qbh [wB (some b) true Qa8, ptB e m x y xt wh] (apE (.fresh (some b)) 0 True (5 + Q2f n) (caL 3 c (Q68 c n x y)) (caB c (Zcu c n))) y' h') := by
 have hsn := Qdc n
 obtain ⟨h_id, h_bs, h_bg, h_ver, h_sk, h_sr, h_sw, h_sh, h_p0v, h_p1v, h_p2v, h_p3v, h_v0v, h_v1v, h_w0v, h_dn, h_a0v, h_a1v, h_t0v, h_t1v, h_gr, h_b0, h_b1, h_b2, h_b3, h_f0, h_f1, h_u0, h_u1⟩ := hc
 have h_vc := Zi1 b c e n m cap xt x y wh
 repeat (first | unfold Qqa at h_vc)
 refine Eq.mpr h_vc ⟨⟨by omega, by omega⟩, fun d0 => ⟨⟨⟨Qaa _ _ _ (by omega), (by first | (show _ ≤ 1099511627776; omega) | (show _ ≤ 1000000000; omega) | (show _ ≤ 900000000; omega))⟩, h_id⟩, fun d1 => ⟨⟨⟨Qaa _ _ _ (by omega), (by first | (show _ ≤ 1099511627776; omega) | (show _ ≤ 1000000000; omega) | (show _ ≤ 900000000; omega))⟩, ⟨h_bs, h_bg⟩⟩, fun d2 => ⟨⟨⟨Qaa _ _ _ (by omega), (by first | (show _ ≤ 1099511627776; omega) | (show _ ≤ 1000000000; omega) | (show _ ≤ 900000000; omega))⟩, h_ver⟩, fun d3 => ⟨⟨⟨Qaa _ _ _ (by omega), (by first | (show _ ≤ 1099511627776; omega) | (show _ ≤ 1000000000; omega) | (show _ ≤ 900000000; omega))⟩, ⟨h_a0v, h_a1v⟩⟩, fun d4 => ⟨⟨⟨Qaa _ _ _ (by omega), (by first | (show _ ≤ 1099511627776; omega) | (show _ ≤ 1000000000; omega) | (show _ ≤ 900000000; omega))⟩, ⟨h_t0v, h_t1v⟩⟩, fun d5 => Qb9 ?_ ?_ fun i hi => ?_⟩⟩⟩⟩⟩⟩
 · show _ = 5 + (52)
   omega
 · simp only [Bool.or_false, caB, Zcu, Qei, Qc5, Bool.or_assoc, Qbv, nV, bop, Bool.false_or]
 · show apG (39) (apG (21) (apG (13) (apG (5) (apG (1) (fun i => ([3] : List Int).getD i 0) (c4 c.id)) (hL c.bs c.bg)) (i8 c.ver)) (Qwi c)) (toL c) i = _
   rw [Qay (n := 21) (m := 39) (Qbd (aLl c) rfl)]
   rw [Qay (n := 13) (m := 21) (Qbd (i8l _) rfl)]
   rw [Qay (n := 5) (m := 13) (Qbd (hLl _ _) rfl)]
   rw [Qay (n := 1) (m := 5) (Qbd (c4l _) rfl)]
   rw [Qbr]
   rfl
theorem Zg4 {b : Bool} {c : CV} {e n m cap xt : Nat} {x y : Nat → Int} {wh : Bool} (hc : Qg8 c) (hn : n < 100) (hv : ∀ i, i < n → I64 (x i) ∧ I64 (y i)) : Qa6 Try.prog Qos Qas Try.f70 [.vp 0 0, caS 4 c (.sl 1 2 0 n cap)] (Qac [wB (some b) true Qa8, ptB e m x y xt wh]) 64 (fun y' h' => Qbh [wB (some b) true Qa8, ptB e m x y xt wh] (apE (.fresh (some b)) 0 True (5 + Q2e n) (caL 4 c (Q67 c n x y)) (caB c (Zct c n))) y' h') := by
 have hsn := Qdc n
 obtain ⟨h_id, h_bs, h_bg, h_ver, h_sk, h_sr, h_sw, h_sh, h_p0v, h_p1v, h_p2v, h_p3v, h_v0v, h_v1v, h_w0v, h_dn, h_a0v, h_a1v, h_t0v, h_t1v, h_gr, h_b0, h_b1, h_b2, h_b3, h_f0, h_f1, h_u0, h_u1⟩ := hc
 refine Eq.mpr (Zi0 b c e n m cap xt x y wh) ⟨⟨by omega, by omega⟩, fun d0 => ⟨⟨⟨Qaa _ _ _ (by omega), (by first | (show _ ≤ 1099511627776; omega) | (show _ ≤ 1000000000; omega) | (show _ ≤ 900000000; omega))⟩, h_id⟩, fun d1 => ⟨⟨⟨Qaa _ _ _ (by omega), (by first | (show _ ≤ 1099511627776; omega) | (show _ ≤ 1000000000; omega) | (show _ ≤ 900000000; omega))⟩, ⟨h_bs, h_bg⟩⟩, fun d2 => ⟨⟨⟨Qaa _ _ _ (by omega), (by first | (show _ ≤ 1099511627776; omega) | (show _ ≤ 1000000000; omega) | (show _ ≤ 900000000; omega))⟩, h_ver⟩, fun d3 => ⟨⟨⟨Qaa _ _ _ (by omega), (by first | (show _ ≤ 1099511627776; omega) | (show _ ≤ 1000000000; omega) | (show _ ≤ 900000000; omega))⟩, ⟨h_a0v, h_a1v⟩⟩, fun d4 => Qb9 ?_ ?_ fun i hi => ?_⟩⟩⟩⟩⟩
 · show _ = 5 + (34)
   omega
 · simp only [Bool.or_false, caB, Zct, Qei, Qc5, Bool.or_assoc, Qbv, nV, bop, Bool.false_or]
 · show apG (21) (apG (13) (apG (5) (apG (1) (fun i => ([4] : List Int).getD i 0) (c4 c.id)) (hL c.bs c.bg)) (i8 c.ver)) (Qwi c) i = _
   rw [Qay (n := 13) (m := 21) (Qbd (i8l _) rfl)]
   rw [Qay (n := 5) (m := 13) (Qbd (hLl _ _) rfl)]
   rw [Qay (n := 1) (m := 5) (Qbd (c4l _) rfl)]
   rw [Qbr]
   rfl
theorem Zg3 {b : Bool} {c : CV} {e n m cap xt : Nat} {x y : Nat → Int} {wh : Bool} (hc : Qg8 c) (hn : n < 100) (hv : ∀ i, i < n → I64 (x i) ∧ I64 (y i)) : Qa6 Try.prog Qos Qas Try.f70 [.vp 0 0, caS 5 c (.sl 1 2 0 n cap)] (Qac [wB (some b) true Qa8, ptB e m x y xt wh]) 64 (fun y' h' => Qbh [wB (some b) true Qa8, ptB e m x y xt wh] (apE (.fresh (some b)) 0 True (5 + Q2d n) (caL 5 c (Q66 c n x y)) (caB c (Zcs c n))) y' h') := by
 have hsn := Qdc n
 obtain ⟨h_id, h_bs, h_bg, h_ver, h_sk, h_sr, h_sw, h_sh, h_p0v, h_p1v, h_p2v, h_p3v, h_v0v, h_v1v, h_w0v, h_dn, h_a0v, h_a1v, h_t0v, h_t1v, h_gr, h_b0, h_b1, h_b2, h_b3, h_f0, h_f1, h_u0, h_u1⟩ := hc
 refine Eq.mpr (Ziz b c e n m cap xt x y wh) ⟨⟨by omega, by omega⟩, fun d0 => ⟨⟨⟨Qaa _ _ _ (by omega), (by first | (show _ ≤ 1099511627776; omega) | (show _ ≤ 1000000000; omega) | (show _ ≤ 900000000; omega))⟩, h_id⟩, fun d1 => ⟨⟨⟨Qaa _ _ _ (by omega), (by first | (show _ ≤ 1099511627776; omega) | (show _ ≤ 1000000000; omega) | (show _ ≤ 900000000; omega))⟩, h_gr⟩, fun d2 => ⟨⟨⟨Qaa _ _ _ (by omega), (by first | (show _ ≤ 1099511627776; omega) | (show _ ≤ 1000000000; omega) | (show _ ≤ 900000000; omega))⟩, ⟨h_t0v, h_t1v⟩⟩, fun d3 => Qb9 ?_ ?_ fun i hi => ?_⟩⟩⟩⟩
 · show _ = 5 + (22)
   omega
 · simp only [Bool.or_false, caB, Zcs, Qei, Qc5, Bool.or_assoc, Qbv, nV, bop, Bool.false_or]
 · show apG (9) (apG (5) (apG (1) (fun i => ([5] : List Int).getD i 0) (c4 c.id)) (c4 c.gr)) (toL c) i = _
   rw [Qay (n := 5) (m := 9) (Qbd (c4l _) rfl)]
   rw [Qay (n := 1) (m := 5) (Qbd (c4l _) rfl)]
   rw [Qbr]
   rfl
theorem Zg2 {b : Bool} {c : CV} {e n m cap xt : Nat} {x y : Nat → Int} {wh : Bool} (hc : Qg8 c) (hn : n < 100) (hv : ∀ i, i < n → I64 (x i) ∧ I64 (y i)) : Qa6 Try.prog Qos Qas Try.f70 [.vp 0 0, caS 6 c (.sl 1 2 0 n cap)] (Qac [wB (some b) true Qa8, ptB e m x y xt wh]) 64 (fun y' h' => Qbh [wB (some b) true Qa8, ptB e m x y xt wh] (apE (.fresh (some b)) 0 True (5 + Q2c n) (caL 6 c (Q65 c n x y)) (caB c (Zcr c n))) y' h') := by
 have hsn := Qdc n
 obtain ⟨h_id, h_bs, h_bg, h_ver, h_sk, h_sr, h_sw, h_sh, h_p0v, h_p1v, h_p2v, h_p3v, h_v0v, h_v1v, h_w0v, h_dn, h_a0v, h_a1v, h_t0v, h_t1v, h_gr, h_b0, h_b1, h_b2, h_b3, h_f0, h_f1, h_u0, h_u1⟩ := hc
 refine Eq.mpr (Ziy b c e n m cap xt x y wh) ⟨⟨by omega, by omega⟩, fun d0 => ⟨⟨⟨Qaa _ _ _ (by omega), (by first | (show _ ≤ 1099511627776; omega) | (show _ ≤ 1000000000; omega) | (show _ ≤ 900000000; omega))⟩, h_id⟩, fun d1 => ⟨⟨⟨Qaa _ _ _ (by omega), (by first | (show _ ≤ 1099511627776; omega) | (show _ ≤ 1000000000; omega) | (show _ ≤ 900000000; omega))⟩, h_gr⟩, fun d2 => Qb9 ?_ ?_ fun i hi => ?_⟩⟩⟩
 · show _ = 5 + (4)
   omega
 · simp only [Bool.or_false, caB, Zcr, Qei, Qc5, Bool.or_assoc, Qbv, nV, bop, Bool.false_or]
 · show apG (5) (apG (1) (fun i => ([6] : List Int).getD i 0) (c4 c.id)) (c4 c.gr) i = _
   rw [Qay (n := 1) (m := 5) (Qbd (c4l _) rfl)]
   rw [Qbr]
   rfl
theorem Zg1 {b : Bool} {c : CV} {e n m cap xt : Nat} {x y : Nat → Int} {wh : Bool} (hc : Qg8 c) (hn : n < 100) (hv : ∀ i, i < n → I64 (x i) ∧ I64 (y i)) : Qa6 Try.prog Qos Qas Try.f70 [.vp 0 0, caS 7 c (.sl 1 2 0 n cap)] (Qac [wB (some b) true Qa8, ptB e m x y xt wh]) 64 (fun y' h' => Qbh [wB (some b) true Qa8, ptB e m x y xt wh] (apE (.fresh (some b)) 0 True (5 + Q2b n) (caL 7 c (Q64 c n x y)) (caB c (Zcq c n))) y' h') := by
 have hsn := Qdc n
 obtain ⟨h_id, h_bs, h_bg, h_ver, h_sk, h_sr, h_sw, h_sh, h_p0v, h_p1v, h_p2v, h_p3v, h_v0v, h_v1v, h_w0v, h_dn, h_a0v, h_a1v, h_t0v, h_t1v, h_gr, h_b0, h_b1, h_b2, h_b3, h_f0, h_f1, h_u0, h_u1⟩ := hc
 refine Eq.mpr (Zix b c e n m cap xt x y wh) ⟨⟨by omega, by omega⟩, fun d0 => ⟨⟨⟨Qaa _ _ _ (by omega), (by first | (show _ ≤ 1099511627776; omega) | (show _ ≤ 1000000000; omega) | (show _ ≤ 900000000; omega))⟩, h_id⟩, fun d1 => ⟨⟨⟨Qaa _ _ _ (by omega), (by first | (show _ ≤ 1099511627776; omega) | (show _ ≤ 1000000000; omega) | (show _ ≤ 900000000; omega))⟩, ⟨h_bs, h_bg⟩⟩, fun d2 => Qb9 ?_ ?_ fun i hi => ?_⟩⟩⟩
 · show _ = 5 + (8)
   omega
 · simp only [Bool.or_false, caB, Zcq, Qei, Qc5, Bool.or_assoc, Qbv, nV, bop, Bool.false_or]
 · show apG (5) (apG (1) (fun i => ([7] : List Int).getD i 0) (c4 c.id)) (hL c.bs c.bg) i = _
   rw [Qay (n := 1) (m := 5) (Qbd (c4l _) rfl)]
   rw [Qbr]
   rfl
theorem Zg0 {b : Bool} {c : CV} {e n m cap xt : Nat} {x y : Nat → Int} {wh : Bool} (hc : Qg8 c) (hn : n < 100) (hv : ∀ i, i < n → I64 (x i) ∧ I64 (y i)) : Qa6 Try.prog Qos Qas Try.f70 [.vp 0 0, caS 8 c (.sl 1 2 0 n cap)] (Qac [wB (some b) true Qa8, ptB e m x y xt wh]) 64 (fun y' h' => Qbh [wB (some b) true Qa8, ptB e m x y xt wh] (apE (.fresh (some b)) 0 True (5 + Q2a n) (caL 8 c (Q63 c n x y)) (caB c (Zcp c n))) y' h') := by
 have hsn := Qdc n
 obtain ⟨h_id, h_bs, h_bg, h_ver, h_sk, h_sr, h_sw, h_sh, h_p0v, h_p1v, h_p2v, h_p3v, h_v0v, h_v1v, h_w0v, h_dn, h_a0v, h_a1v, h_t0v, h_t1v, h_gr, h_b0, h_b1, h_b2, h_b3, h_f0, h_f1, h_u0, h_u1⟩ := hc
 refine Eq.mpr (Ziw b c e n m cap xt x y wh) ⟨⟨by omega, by omega⟩, fun d0 => ⟨⟨⟨Qaa _ _ _ (by omega), (by first | (show _ ≤ 1099511627776; omega) | (show _ ≤ 1000000000; omega) | (show _ ≤ 900000000; omega))⟩, h_id⟩, fun d1 => ⟨⟨⟨Qaa _ _ _ (by omega), (by first | (show _ ≤ 1099511627776; omega) | (show _ ≤ 1000000000; omega) | (show _ ≤ 900000000; omega))⟩, ⟨⟨rfl, by omega, by omega⟩, fun i hi => by
   have : i = 0 ∨ i = 1 := by omega
   rcases this with rfl | rfl
   · exact ⟨h_b0, h_b1⟩
   · exact ⟨h_b2, h_b3⟩⟩⟩, fun d2 => Qb9 ?_ ?_ fun i hi => ?_⟩⟩⟩
 · show _ = 5 + (32)
   omega
 · simp only [Bool.or_false, caB, Zcp, Qei, Qc5, Bool.or_assoc, Qbv, nV, bop, Bool.false_or]
 · show apG (5) (apG (1) (fun i => ([8] : List Int).getD i 0) (c4 c.id)) ((i8 c.b0 ++ i8 c.b1) ++ (i8 c.b2 ++ i8 c.b3)) i = _
   rw [Qay (n := 1) (m := 5) (Qbd (c4l _) rfl)]
   rw [Qbr]
   rfl
theorem Zgz {b : Bool} {c : CV} {e n m cap xt : Nat} {x y : Nat → Int} {wh : Bool} (hc : Qg8 c) (hn : n < 100) (hv : ∀ i, i < n → I64 (x i) ∧ I64 (y i)) : Qa6 Try.prog Qos Qas Try.f70 [.vp 0 0, caS 9 c (.sl 1 2 0 n cap)] (Qac [wB (some b) true Qa8, ptB e m x y xt wh]) 64 (fun y' h' => Qbh [wB (some b) true Qa8, ptB e m x y xt wh] (apE (.fresh (some b)) 0 True (5 + Q19 n) (caL 9 c (Q62 c n x y)) (caB c (Zco c n))) y' h') := by
 have hsn := Qdc n
 obtain ⟨h_id, h_bs, h_bg, h_ver, h_sk, h_sr, h_sw, h_sh, h_p0v, h_p1v, h_p2v, h_p3v, h_v0v, h_v1v, h_w0v, h_dn, h_a0v, h_a1v, h_t0v, h_t1v, h_gr, h_b0, h_b1, h_b2, h_b3, h_f0, h_f1, h_u0, h_u1⟩ := hc
 refine Eq.mpr (Ziv b c e n m cap xt x y wh) ⟨⟨by omega, by omega⟩, fun d0 => ⟨⟨⟨Qaa _ _ _ (by omega), (by first | (show _ ≤ 1099511627776; omega) | (show _ ≤ 1000000000; omega) | (show _ ≤ 900000000; omega))⟩, h_id⟩, fun d1 => ⟨⟨⟨Qaa _ _ _ (by omega), (by first | (show _ ≤ 1099511627776; omega) | (show _ ≤ 1000000000; omega) | (show _ ≤ 900000000; omega))⟩, ⟨⟨rfl, by omega, by omega⟩, fun i hi => by
   have : i = 0 ∨ i = 1 := by omega
   rcases this with rfl | rfl
   · exact ⟨h_f0, h_f1⟩
   · exact ⟨h_u0, h_u1⟩⟩⟩, fun d2 => Qb9 ?_ ?_ fun i hi => ?_⟩⟩⟩
 · show _ = 5 + (32)
   omega
 · simp only [Bool.or_false, caB, Zco, Qei, Qc5, Bool.or_assoc, Qbv, nV, bop, Bool.false_or]
 · show apG (5) (apG (1) (fun i => ([9] : List Int).getD i 0) (c4 c.id)) ((i8 c.f0 ++ i8 c.f1) ++ (i8 c.u0 ++ i8 c.u1)) i = _
   rw [Qay (n := 1) (m := 5) (Qbd (c4l _) rfl)]
   rw [Qbr]
   rfl
theorem Zcc {b : Bool} {c : CV} {e n m cap xt : Nat} {x y : Nat → Int} {wh : Bool} (hc : Qg8 c) (hn : n < 100) (hv : ∀ i, i < n → I64 (x i) ∧ I64 (y i)) : Qa6 Try.prog Qos Qas Try.f70 [.vp 0 0, caS 10 c (.sl 1 2 0 n cap)] (Qac [wB (some b) true Qa8, ptB e m x y xt wh]) 64 (fun y' h' => Qbh [wB (some b) true Qa8, ptB e m x y xt wh] (apE (.fresh (some b)) 0 True (5 + Qo5 n) (caL 10 c (Qst c n x y)) (caB c (Quk c n))) y' h') := by
 have hsn := Qdc n
 obtain ⟨h_id, h_bs, h_bg, h_ver, h_sk, h_sr, h_sw, h_sh, h_p0v, h_p1v, h_p2v, h_p3v, h_v0v, h_v1v, h_w0v, h_dn, h_a0v, h_a1v, h_t0v, h_t1v, h_gr, h_b0, h_b1, h_b2, h_b3, h_f0, h_f1, h_u0, h_u1⟩ := hc
 refine Eq.mpr (Zfk b c e n m cap xt x y wh) ⟨⟨by omega, by omega⟩, fun d0 => ⟨⟨⟨Qaa _ _ _ (by omega), (by first | (show _ ≤ 1099511627776; omega) | (show _ ≤ 1000000000; omega) | (show _ ≤ 900000000; omega))⟩, h_id⟩, fun d1 => Qb9 ?_ ?_ fun i hi => ?_⟩⟩
 · show _ = 5 + (0)
   omega
 · simp only [Bool.or_false, caB, Quk, Qei, Qc5, Bool.or_assoc, Qbv, nV, bop, Bool.false_or]
 · show apG (1) (fun i => ([10] : List Int).getD i 0) (c4 c.id) i = _
   rw [Qbr]
   rfl
def Qlx : List SV → List Ro → Option (Option Prop × SV)
 | [.v (.slice none 0 0), .sl 0 2 0 m _], [⟨2, m', row⟩] => some (some (Qam m m' row), .v (.bool (Nat.beq m 0)))
 | _, _ => none
def Qvo : List SV → List Ro → Option (Option Prop × SV)
 | [.agg [.v (.int .i64 k), .v (.int .i64 r), .v (.int .i64 w), .v (.int .i64 h), .v (.slice none 0 0)], .agg [.v (.int .i64 k2), .v (.int .i64 r2), .v (.int .i64 w2), .v (.int .i64 h2), .sl 0 2 0 m _]], [⟨2, m', row⟩] => some (some (Qam m m' row), .v (.bool (Qcp ⟨k, r, w, h⟩ ⟨k2, r2, w2, h2⟩ && Nat.beq m 0)))
 | _, _ => none
theorem Q3h (m m' d : Nat) (g : Nat→Int × Int) (R : SV→Prop) : (Qa6 Try.prog Qaq (ΛZ Try.f106 13) Try.f106 [Qa8,.sl 0 2 0 m d] (Qa0 [⟨2,m',Qan g⟩]) 64 (fun y _ => R y)) = (sel (0 != (↑m : Int)) (R zF) ((∃ x : Nat,(((x : Nat) = 0)∧((zI = (yI ((↑x : Int))))∧True)))∧(∀ x : Nat,(((x : Nat) = 0)→(R (yF true)))))):=by kernel_rfl
def ΓMN : Qb6 := Qap Qaq 106 (Qmv Qlx)
theorem Q8v (a b : ShB) (m m' d : Nat) (g : Nat→Int × Int) (R : SV→Prop) : (Qa6 Try.prog ΓMN Qas Try.f72 [shS a Qa8,shS b (.sl 0 2 0 m d)] (Qa0 [⟨2,m',Qan g⟩]) 64 (fun y _ => R y)) = (sel (ShB.k a == ShB.k b&&(ShB.r a == ShB.r b&&(ShB.w a == ShB.w b&&ShB.h a == ShB.h b))) ((Qam m m fun y => [yI (Prod.fst (g (0 + y))),yI (Prod.snd (g (0 + y)))])∧(R (yF (Nat.beq m 0)))) (R zF)):=by kernel_rfl
theorem Qu7 : Qcj Try.prog 106 Qlx := Qdg hm Qax Try.func106 (Λ := fun _ _ => ΛZ Try.f106 13) fun args bs p x h hp => by
 unfold Qlx at h
 split at h <;> try (cases h; done)
 rename_i m d m' row
 cases h
 obtain ⟨h0, rfl, hn⟩ := hp _ rfl
 have h0 := okAll_rows.1 h0
 refine ⟨rfl, [⟨2, m', Qan fun i => gi (row i)⟩], ⟨⟨rfl, rfl, fun i hi => (Qao (h0 i hi)).1⟩, trivial⟩, ?_⟩
 refine Eq.mpr (Q3h m' m' d (fun i => gi (row i)) _) (Qab (fun e => Qjd ?_) fun e => ⟨⟨0, rfl, rfl, trivial⟩, fun _ _ => Qjd ?_⟩)
 · refine (Go.SE.Qb4 fun e0 => ?_).symm
   rw [e0] at e; cases e
 · have : m' = 0 := by
     have : ((0 : Int) != (m' : Int)) = false := e
     simp at this; omega
   rw [this]; rfl
theorem Q7z : ∀ f g, ΓMN f = some g → g.ok Try.prog f := Qah Qax (Qnv Try.func106 (by kernel_rfl) (by kernel_rfl) Qu7)
theorem Qpx : Qcj Try.prog 72 Qvo := Qdg hm Q7z Try.func72 (Λ := fun _ _ => Qas) fun args bs p x h hp => by
 unfold Qvo at h
 split at h <;> try (cases h; done)
 rename_i k r w hh k2 r2 w2 h2 m d m' row
 cases h
 obtain ⟨h0, rfl, hn⟩ := hp _ rfl
 have h0 := okAll_rows.1 h0
 refine ⟨rfl, [⟨2, m', Qan fun i => gi (row i)⟩], ⟨⟨rfl, rfl, fun i hi => (Qao (h0 i hi)).1⟩, trivial⟩, ?_⟩
 refine Eq.mpr (Q8v ⟨k, r, w, hh⟩ ⟨k2, r2, w2, h2⟩ m' m' d (fun i => gi (row i)) _) (Qab (fun e => ⟨⟨okAll_rows.2 fun i hi => ?_, rfl, hn⟩, Qjd ?_⟩) fun e => Qjd ?_)
 · rw [Nat.zero_add]; exact (Qao (h0 i hi)).2
 · unfold Qcp; rw [e]; rfl
 · unfold Qcp; rw [e]; rfl
def Qcn (c : CV) : ShB := ⟨c.sk, c.sr, c.sw, c.sh⟩
def Zej : Qb6 := Qap Qaq 72 (Qmv (Q6o Qvn Qvo))
theorem Q8w (k1 k2 : Int) (a b : CV) (n n' c m m' d : Nat) (g h : Nat→Int × Int) (R : SV→Prop) : (Qa6 Try.prog Zej Qas Try.f25 [caS k1 a (.sl 0 2 0 n c),caS k2 b (.sl 1 2 0 m d)] (Qa0 [⟨2,n',Qan g⟩,⟨2,m',Qan h⟩]) 64 (fun y _ => R y)) =
(sel (k1 == k2) (sel (CV.id a == CV.id b) (sel (CV.bs a == CV.bs b&&CV.bg a == CV.bg b) (sel (CV.ver a == CV.ver b) (((Qam n n fun y => [yI (Prod.fst (g (0 + y))),yI (Prod.snd (g (0 + y)))])∧(Qam m m fun y => [yI (Prod.fst (h (0 + y))),yI (Prod.snd (h (0 + y)))]))∧(sel (Qey {k:=CV.sk a,r:=CV.sr a,w:=CV.sw a,h:=CV.sh a} n (fun i => gi [yI (Prod.fst (g (0 + i))),yI (Prod.snd (g (0 + i)))]) {k:=CV.sk b,r:=CV.sr b,w:=CV.sw b,h:=CV.sh b} m fun i => gi [yI (Prod.fst (h (0 + i))),yI (Prod.snd (h (0 + i)))]) (sel (CV.p0v a == CV.p0v b&&CV.p0f a == CV.p0f b&&(CV.p1v a == CV.p1v b&&CV.p1f a == CV.p1f b)&&(CV.p2v a == CV.p2v b&&CV.p2f a == CV.p2f b&&(CV.p3v a == CV.p3v b&&CV.p3f a == CV.p3f b))) (sel (CV.v0v a == CV.v0v b&&CV.v0f a == CV.v0f b&&(CV.v1v a == CV.v1v b&&CV.v1f a == CV.v1f b)) (sel (CV.w0v a == CV.w0v b&&CV.w0f a == CV.w0f b) (sel (CV.dn a == CV.dn b) (sel (CV.mv a == CV.mv b) (sel (CV.a0v a == CV.a0v b&&CV.a0f a == CV.a0f b&&(CV.a1v a == CV.a1v b&&CV.a1f a == CV.a1f b)) (sel (CV.t0v a == CV.t0v b&&CV.t0f a == CV.t0f b&&(CV.t1v a == CV.t1v b&&CV.t1f a == CV.t1f b)) (sel (CV.gr a == CV.gr b) (sel (CV.b0 a == CV.b0 b&&(CV.b1 a == CV.b1 b&&(CV.b2 a == CV.b2 b&&CV.b3 a == CV.b3 b))) (sel (CV.f0 a == CV.f0 b&&CV.f1 a == CV.f1 b) (R (yF (CV.u0 a == CV.u0 b&&CV.u1 a == CV.u1 b))) (R zF)) (R zF)) (R zF)) (R zF)) (R zF)) (R zF)) (R zF)) (R zF)) (R zF)) (R zF)) (R zF))) (R zF)) (R zF)) (R zF)) (R zF)) := by kernel_rfl
theorem Q22 (k1 k2 : Int) (a b : CV) (m m' d : Nat) (h : Nat→Int × Int) (R : SV→Prop) : (Qa6 Try.prog Zej Qas Try.f25 [caS k1 a Qa8,caS k2 b (.sl 0 2 0 m d)] (Qa0 [⟨2,m',Qan h⟩]) 64 (fun y _ => R y)) =
(sel (k1 == k2) (sel (CV.id a == CV.id b) (sel (CV.bs a == CV.bs b&&CV.bg a == CV.bg b) (sel (CV.ver a == CV.ver b) ((Qam m m fun y => [yI (Prod.fst (h (0 + y))),yI (Prod.snd (h (0 + y)))])∧(sel (Qcp {k:=CV.sk a,r:=CV.sr a,w:=CV.sw a,h:=CV.sh a} {k:=CV.sk b,r:=CV.sr b,w:=CV.sw b,h:=CV.sh b}&&Nat.beq m 0) (sel (CV.p0v a == CV.p0v b&&CV.p0f a == CV.p0f b&&(CV.p1v a == CV.p1v b&&CV.p1f a == CV.p1f b)&&(CV.p2v a == CV.p2v b&&CV.p2f a == CV.p2f b&&(CV.p3v a == CV.p3v b&&CV.p3f a == CV.p3f b))) (sel (CV.v0v a == CV.v0v b&&CV.v0f a == CV.v0f b&&(CV.v1v a == CV.v1v b&&CV.v1f a == CV.v1f b)) (sel (CV.w0v a == CV.w0v b&&CV.w0f a == CV.w0f b) (sel (CV.dn a == CV.dn b) (sel (CV.mv a == CV.mv b) (sel (CV.a0v a == CV.a0v b&&CV.a0f a == CV.a0f b&&(CV.a1v a == CV.a1v b&&CV.a1f a == CV.a1f b)) (sel (CV.t0v a == CV.t0v b&&CV.t0f a == CV.t0f b&&(CV.t1v a == CV.t1v b&&CV.t1f a == CV.t1f b)) (sel (CV.gr a == CV.gr b) (sel (CV.b0 a == CV.b0 b&&(CV.b1 a == CV.b1 b&&(CV.b2 a == CV.b2 b&&CV.b3 a == CV.b3 b))) (sel (CV.f0 a == CV.f0 b&&CV.f1 a == CV.f1 b) (R (yF (CV.u0 a == CV.u0 b&&CV.u1 a == CV.u1 b))) (R zF)) (R zF)) (R zF)) (R zF)) (R zF)) (R zF)) (R zF)) (R zF)) (R zF)) (R zF)) (R zF))) (R zF)) (R zF)) (R zF)) (R zF)) := by kernel_rfl
def Qbp (k1 k2 : Int) (a b : CV) (s : Bool) : Bool := (k1 == k2) && ((a.id == b.id) && ((a.bs == b.bs && a.bg == b.bg) && ((a.ver == b.ver) && ((s) && ((a.p0v == b.p0v && a.p0f == b.p0f && (a.p1v == b.p1v && a.p1f == b.p1f) && (a.p2v == b.p2v && a.p2f == b.p2f && (a.p3v == b.p3v && a.p3f == b.p3f))) && ((a.v0v == b.v0v && a.v0f == b.v0f && (a.v1v == b.v1v && a.v1f == b.v1f)) && ((a.w0v == b.w0v && a.w0f == b.w0f) && ((a.dn == b.dn) && ((a.mv == b.mv) && ((a.a0v == b.a0v && a.a0f == b.a0f && (a.a1v == b.a1v && a.a1f == b.a1f)) && ((a.t0v == b.t0v && a.t0f == b.t0f && (a.t1v == b.t1v && a.t1f == b.t1f)) && ((a.gr == b.gr) && ((a.b0 == b.b0 && (a.b1 == b.b1 && (a.b2 == b.b2 && a.b3 == b.b3))) && ((a.f0 == b.f0 && a.f1 == b.f1) && (a.u0 == b.u0 && a.u1 == b.u1)))))))))))))))
def tkI {α : Type} (l : List SV) (K : Int → List SV → Option α) : Option α := match l with
 | .v (.int .i64 n) :: rest => K n rest
 | _ => none
def tkB {α : Type} (l : List SV) (K : Bool → List SV → Option α) : Option α := match l with
 | .v (.bool n) :: rest => K n rest
 | _ => none
def tkA {α : Type} (l : List SV) (K : SV → List SV → Option α) : Option α := match l with
 | x :: rest => K x rest
 | _ => none
def tkE {α : Type} (l : List SV) (r : α) : Option α := match l with
 | [] => some r
 | _ => none
def cellsOf (l : List SV) : Option (Int × CV × SV) := tkI l fun x_k l => tkI l fun x_id l => tkI l fun x_bs l => tkI l fun x_bg l => tkI l fun x_ver l => tkI l fun x_sk l => tkI l fun x_sr l => tkI l fun x_sw l => tkI l fun x_sh l => tkA l fun x_P l => tkI l fun x_p0v l => tkB l fun x_p0f l => tkI l fun x_p1v l => tkB l fun x_p1f l => tkI l fun x_p2v l => tkB l fun x_p2f l => tkI l fun x_p3v l => tkB l fun x_p3f l => tkI l fun x_v0v l => tkB l fun x_v0f l => tkI l fun x_v1v l => tkB l fun x_v1f l => tkI l fun x_w0v l => tkB l fun x_w0f l => tkI l fun x_dn l => tkB l fun x_mv l => tkI l fun x_a0v l => tkB l fun x_a0f l => tkI l fun x_a1v l => tkB l fun x_a1f l => tkI l fun x_t0v l => tkB l fun x_t0f l => tkI l fun x_t1v l => tkB l fun x_t1f l => tkI l fun x_gr l => tkI l fun x_b0 l => tkI l fun x_b1 l => tkI l fun x_b2 l => tkI l fun x_b3 l => tkI l fun x_f0 l => tkI l fun x_f1 l => tkI l fun x_u0 l => tkI l fun x_u1 l => tkE l (x_k, ⟨x_id, x_bs, x_bg, x_ver, x_sk, x_sr, x_sw, x_sh, x_p0v, x_p0f, x_p1v, x_p1f, x_p2v, x_p2f, x_p3v, x_p3f, x_v0v, x_v0f, x_v1v, x_v1f, x_w0v, x_w0f, x_dn, x_mv, x_a0v, x_a0f, x_a1v, x_a1f, x_t0v, x_t0f, x_t1v, x_t1f, x_gr, x_b0, x_b1, x_b2, x_b3, x_f0, x_f1, x_u0, x_u1⟩, x_P)
def Qzf : List SV → List Ro → Option (Option Prop × SV)
 | [.agg x, .agg y], rs => match cellsOf x, cellsOf y, rs with
   | some (k1, a, .sl 0 2 0 n _), some (k2, b, .sl 1 2 0 m _), [⟨2, n', row⟩, ⟨2, m', row'⟩] => some (some (Qam n n' row ∧ Qam m m' row'), .v (.bool (Qbp k1 k2 a b (Qey (Qcn a) n (fun i => gi (row i)) (Qcn b) m fun i => gi (row' i)))))
   | some (k1, a, .v (.slice none 0 0)), some (k2, b, .sl 0 2 0 m _), [⟨2, m', row⟩] => some (some (Qam m m' row), .v (.bool (Qbp k1 k2 a b (Qcp (Qcn a) (Qcn b) && Nat.beq m 0))))
   | _, _, _ => none
 | _, _ => none
theorem Qa9 {α : Type} {l : List SV} {K : Int → List SV → Option α} {r : α} (h : tkI l K = some r) : ∃ n rest, l = .v (.int .i64 n) :: rest ∧ K n rest = some r := by
 unfold tkI at h
 split at h
 · exact ⟨_, _, rfl, h⟩
 · cases h
theorem Qb1 {α : Type} {l : List SV} {K : Bool → List SV → Option α} {r : α} (h : tkB l K = some r) : ∃ n rest, l = .v (.bool n) :: rest ∧ K n rest = some r := by
 unfold tkB at h
 split at h
 · exact ⟨_, _, rfl, h⟩
 · cases h
theorem Qvh {α : Type} {l : List SV} {K : SV → List SV → Option α} {r : α} (h : tkA l K = some r) : ∃ x rest, l = x :: rest ∧ K x rest = some r := by
 unfold tkA at h
 split at h
 · exact ⟨_, _, rfl, h⟩
 · cases h
theorem Qyx {α : Type} {l : List SV} {x r : α} (h : tkE l x = some r) : l = [] ∧ x = r := by
 unfold tkE at h
 split at h
 · exact ⟨rfl, Option.some.inj h⟩
 · cases h
theorem Qcs {l : List SV} {k : Int} {c : CV} {p : SV} (h : cellsOf l = some (k, c, p)) : SV.agg l = caS k c p := by
 unfold cellsOf at h
 obtain ⟨x_k, l_k, e_k, h_k⟩ := Qa9 h
 subst e_k
 clear h
 obtain ⟨x_id, l_id, e_id, h_id⟩ := Qa9 h_k
 subst e_id
 clear h_k
 obtain ⟨x_bs, l_bs, e_bs, h_bs⟩ := Qa9 h_id
 subst e_bs
 clear h_id
 obtain ⟨x_bg, l_bg, e_bg, h_bg⟩ := Qa9 h_bs
 subst e_bg
 clear h_bs
 obtain ⟨x_ver, l_ver, e_ver, h_ver⟩ := Qa9 h_bg
 subst e_ver
 clear h_bg
 obtain ⟨x_sk, l_sk, e_sk, h_sk⟩ := Qa9 h_ver
 subst e_sk
 clear h_ver
 obtain ⟨x_sr, l_sr, e_sr, h_sr⟩ := Qa9 h_sk
 subst e_sr
 clear h_sk
 obtain ⟨x_sw, l_sw, e_sw, h_sw⟩ := Qa9 h_sr
 subst e_sw
 clear h_sr
 obtain ⟨x_sh, l_sh, e_sh, h_sh⟩ := Qa9 h_sw
 subst e_sh
 clear h_sw
 obtain ⟨x_P, l_P, e_P, h_P⟩ := Qvh h_sh
 subst e_P
 clear h_sh
 obtain ⟨x_p0v, l_p0v, e_p0v, h_p0v⟩ := Qa9 h_P
 subst e_p0v
 clear h_P
 obtain ⟨x_p0f, l_p0f, e_p0f, h_p0f⟩ := Qb1 h_p0v
 subst e_p0f
 clear h_p0v
 obtain ⟨x_p1v, l_p1v, e_p1v, h_p1v⟩ := Qa9 h_p0f
 subst e_p1v
 clear h_p0f
 obtain ⟨x_p1f, l_p1f, e_p1f, h_p1f⟩ := Qb1 h_p1v
 subst e_p1f
 clear h_p1v
 obtain ⟨x_p2v, l_p2v, e_p2v, h_p2v⟩ := Qa9 h_p1f
 subst e_p2v
 clear h_p1f
 obtain ⟨x_p2f, l_p2f, e_p2f, h_p2f⟩ := Qb1 h_p2v
 subst e_p2f
 clear h_p2v
 obtain ⟨x_p3v, l_p3v, e_p3v, h_p3v⟩ := Qa9 h_p2f
 subst e_p3v
 clear h_p2f
 obtain ⟨x_p3f, l_p3f, e_p3f, h_p3f⟩ := Qb1 h_p3v
 subst e_p3f
 clear h_p3v
 obtain ⟨x_v0v, l_v0v, e_v0v, h_v0v⟩ := Qa9 h_p3f
 subst e_v0v
 clear h_p3f
 obtain ⟨x_v0f, l_v0f, e_v0f, h_v0f⟩ := Qb1 h_v0v
 subst e_v0f
 clear h_v0v
 obtain ⟨x_v1v, l_v1v, e_v1v, h_v1v⟩ := Qa9 h_v0f
 subst e_v1v
 clear h_v0f
 obtain ⟨x_v1f, l_v1f, e_v1f, h_v1f⟩ := Qb1 h_v1v
 subst e_v1f
 clear h_v1v
 obtain ⟨x_w0v, l_w0v, e_w0v, h_w0v⟩ := Qa9 h_v1f
 subst e_w0v
 clear h_v1f
 obtain ⟨x_w0f, l_w0f, e_w0f, h_w0f⟩ := Qb1 h_w0v
 subst e_w0f
 clear h_w0v
 obtain ⟨x_dn, l_dn, e_dn, h_dn⟩ := Qa9 h_w0f
 subst e_dn
 clear h_w0f
 obtain ⟨x_mv, l_mv, e_mv, h_mv⟩ := Qb1 h_dn
 subst e_mv
 clear h_dn
 obtain ⟨x_a0v, l_a0v, e_a0v, h_a0v⟩ := Qa9 h_mv
 subst e_a0v
 clear h_mv
 obtain ⟨x_a0f, l_a0f, e_a0f, h_a0f⟩ := Qb1 h_a0v
 subst e_a0f
 clear h_a0v
 obtain ⟨x_a1v, l_a1v, e_a1v, h_a1v⟩ := Qa9 h_a0f
 subst e_a1v
 clear h_a0f
 obtain ⟨x_a1f, l_a1f, e_a1f, h_a1f⟩ := Qb1 h_a1v
 subst e_a1f
 clear h_a1v
 obtain ⟨x_t0v, l_t0v, e_t0v, h_t0v⟩ := Qa9 h_a1f
 subst e_t0v
 clear h_a1f
 obtain ⟨x_t0f, l_t0f, e_t0f, h_t0f⟩ := Qb1 h_t0v
 subst e_t0f
 clear h_t0v
 obtain ⟨x_t1v, l_t1v, e_t1v, h_t1v⟩ := Qa9 h_t0f
 subst e_t1v
 clear h_t0f
 obtain ⟨x_t1f, l_t1f, e_t1f, h_t1f⟩ := Qb1 h_t1v
 subst e_t1f
 clear h_t1v
 obtain ⟨x_gr, l_gr, e_gr, h_gr⟩ := Qa9 h_t1f
 subst e_gr
 clear h_t1f
 obtain ⟨x_b0, l_b0, e_b0, h_b0⟩ := Qa9 h_gr
 subst e_b0
 clear h_gr
 obtain ⟨x_b1, l_b1, e_b1, h_b1⟩ := Qa9 h_b0
 subst e_b1
 clear h_b0
 obtain ⟨x_b2, l_b2, e_b2, h_b2⟩ := Qa9 h_b1
 subst e_b2
 clear h_b1
 obtain ⟨x_b3, l_b3, e_b3, h_b3⟩ := Qa9 h_b2
 subst e_b3
 clear h_b2
 obtain ⟨x_f0, l_f0, e_f0, h_f0⟩ := Qa9 h_b3
 subst e_f0
 clear h_b3
 obtain ⟨x_f1, l_f1, e_f1, h_f1⟩ := Qa9 h_f0
 subst e_f1
 clear h_f0
 obtain ⟨x_u0, l_u0, e_u0, h_u0⟩ := Qa9 h_f1
 subst e_u0
 clear h_f1
 obtain ⟨x_u1, l_u1, e_u1, h_u1⟩ := Qa9 h_u0
 subst e_u1
 clear h_u0
 obtain ⟨e0, h0⟩ := Qyx h_u1
 subst e0
 obtain ⟨h1, h2⟩ := Prod.mk.inj h0
 obtain ⟨h3, h4⟩ := Prod.mk.inj h2
 subst h1 h3 h4
 rfl
theorem Q7n : ∀ f g, Zej f = some g → g.ok Try.prog f := Qah Qax (Qnv Try.func72 (by kernel_rfl) (by kernel_rfl) (Qwu Qpw Qpx))
theorem Qav {n : Nat} {g : Nat → Int × Int} (hn : n < 1099511627776) (hg : ∀ i, i < n → I64 (g i).1 ∧ I64 (g i).2) : Qam n n fun y => [SV.v (.int .i64 (g (0 + y)).1), SV.v (.int .i64 (g (0 + y)).2)] := ⟨okAll_rows.2 fun i hi => by rw [Nat.zero_add]; exact hg i hi, rfl, hn⟩
theorem Q92 (k1 k2 : Int) (a b : CV) (n c m d : Nat) (g h : Nat → Int × Int) (hn : n < 1099511627776) (hg : ∀ i, i < n → I64 (g i).1 ∧ I64 (g i).2) (hm : m < 1099511627776) (hh : ∀ i, i < m → I64 (h i).1 ∧ I64 (h i).2) : Qa6 Try.prog Zej Qas Try.f25 [caS k1 a (.sl 0 2 0 n c), caS k2 b (.sl 1 2 0 m d)] (Qa0 [⟨2, n, Qan g⟩, ⟨2, m, Qan h⟩]) 64 (fun y _ => y = .v (.bool (Qbp k1 k2 a b (Qey (Qcn a) n g (Qcn b) m h)))) := by
 refine Eq.mpr (Q8w k1 k2 a b n n c m m d g h _) ?_
 rw [Qoa, Qoa]
 unfold Qbp Qcn
 refine Qab (fun e => ?_) fun e => by rw [e]; rfl
 rw [e, Bool.true_and]
 refine Qab (fun e => ?_) fun e => by rw [e]; rfl
 rw [e, Bool.true_and]
 refine Qab (fun e => ?_) fun e => by rw [e]; rfl
 rw [e, Bool.true_and]
 refine Qab (fun e => ?_) fun e => by rw [e]; rfl
 rw [e, Bool.true_and]
 refine ⟨⟨Qav hn hg, Qav hm hh⟩, ?_⟩
 refine Qab (fun e => ?_) fun e => by rw [e]; rfl
 rw [e, Bool.true_and]
 refine Qab (fun e => ?_) fun e => by rw [e]; rfl
 rw [e, Bool.true_and]
 refine Qab (fun e => ?_) fun e => by rw [e]; rfl
 rw [e, Bool.true_and]
 refine Qab (fun e => ?_) fun e => by rw [e]; rfl
 rw [e, Bool.true_and]
 refine Qab (fun e => ?_) fun e => by rw [e]; rfl
 rw [e, Bool.true_and]
 refine Qab (fun e => ?_) fun e => by rw [e]; rfl
 rw [e, Bool.true_and]
 refine Qab (fun e => ?_) fun e => by rw [e]; rfl
 rw [e, Bool.true_and]
 refine Qab (fun e => ?_) fun e => by rw [e]; rfl
 rw [e, Bool.true_and]
 refine Qab (fun e => ?_) fun e => by rw [e]; rfl
 rw [e, Bool.true_and]
 refine Qab (fun e => ?_) fun e => by rw [e]; rfl
 rw [e, Bool.true_and]
 refine Qab (fun e => ?_) fun e => by rw [e]; rfl
 rw [e, Bool.true_and]
theorem Q93 (k1 k2 : Int) (a b : CV) (m d : Nat) (h : Nat → Int × Int) (hm : m < 1099511627776) (hh : ∀ i, i < m → I64 (h i).1 ∧ I64 (h i).2) : Qa6 Try.prog Zej Qas Try.f25 [caS k1 a Qa8, caS k2 b (.sl 0 2 0 m d)] (Qa0 [⟨2, m, Qan h⟩]) 64 (fun y _ => y = .v (.bool (Qbp k1 k2 a b (Qcp (Qcn a) (Qcn b) && Nat.beq m 0)))) := by
 refine Eq.mpr (Q22 k1 k2 a b m m d h _) ?_
 unfold Qbp Qcn
 refine Qab (fun e => ?_) fun e => by rw [e]; rfl
 rw [e, Bool.true_and]
 refine Qab (fun e => ?_) fun e => by rw [e]; rfl
 rw [e, Bool.true_and]
 refine Qab (fun e => ?_) fun e => by rw [e]; rfl
 rw [e, Bool.true_and]
 refine Qab (fun e => ?_) fun e => by rw [e]; rfl
 rw [e, Bool.true_and]
 refine ⟨Qav hm hh, ?_⟩
 refine Qab (fun e => ?_) fun e => by rw [e]; rfl
 rw [e, Bool.true_and]
 refine Qab (fun e => ?_) fun e => by rw [e]; rfl
 rw [e, Bool.true_and]
 refine Qab (fun e => ?_) fun e => by rw [e]; rfl
 rw [e, Bool.true_and]
 refine Qab (fun e => ?_) fun e => by rw [e]; rfl
 rw [e, Bool.true_and]
 refine Qab (fun e => ?_) fun e => by rw [e]; rfl
 rw [e, Bool.true_and]
 refine Qab (fun e => ?_) fun e => by rw [e]; rfl
 rw [e, Bool.true_and]
 refine Qab (fun e => ?_) fun e => by rw [e]; rfl
 rw [e, Bool.true_and]
 refine Qab (fun e => ?_) fun e => by rw [e]; rfl
 rw [e, Bool.true_and]
 refine Qab (fun e => ?_) fun e => by rw [e]; rfl
 rw [e, Bool.true_and]
 refine Qab (fun e => ?_) fun e => by rw [e]; rfl
 rw [e, Bool.true_and]
 refine Qab (fun e => ?_) fun e => by rw [e]; rfl
 rw [e, Bool.true_and]
theorem Qxi : Qcj Try.prog 25 Qzf := Qdg hm Q7n Try.func25 (Λ := fun _ _ => Qas) fun args bs p x hs hp => by
 unfold Qzf at hs
 split at hs
 · rename_i x y
   split at hs
   · rename_i k1 a n c k2 b m d n' row m' row' hx hy
     cases hs
     obtain ⟨⟨h0, rfl, hn⟩, k0, rfl, hm'⟩ := hp _ rfl
     have h0 := okAll_rows.1 h0
     have k0 := okAll_rows.1 k0
     refine ⟨rfl, [⟨2, n', Qan fun i => gi (row i)⟩, ⟨2, m', Qan fun i => gi (row' i)⟩], ⟨⟨rfl, rfl, fun i hi => (Qao (h0 i hi)).1⟩, ⟨rfl, rfl, fun i hi => (Qao (k0 i hi)).1⟩, trivial⟩, ?_⟩
     rw [Qcs hx, Qcs hy]
     exact Q92 k1 k2 a b n' c m' d _ _ hn (fun i hi => (Qao (h0 i hi)).2) hm' fun i hi => (Qao (k0 i hi)).2
   · rename_i k1 a k2 b m d m' row hx hy
     cases hs
     obtain ⟨h0, rfl, hn⟩ := hp _ rfl
     have h0 := okAll_rows.1 h0
     refine ⟨rfl, [⟨2, m', Qan fun i => gi (row i)⟩], ⟨⟨rfl, rfl, fun i hi => (Qao (h0 i hi)).1⟩, trivial⟩, ?_⟩
     rw [Qcs hx, Qcs hy]
     exact Q93 k1 k2 a b m' d _ hn fun i hi => (Qao (h0 i hi)).2
   · cases hs
 · cases hs
theorem Q9d (q : Option Prop) (n : Nat) (g : Nat→Int) (c : Nat) : (Qa6 Try.prog Qaq Qas Try.f71 [.vp 0 0] (Qac (uB (some false) n g c)) 64 (fun y h' => Qbh (uB (some false) n g c) (.det q (.tup [Qe4 (Qcd n fun i => [.v (.int .u8 (g i))]),iV 0]) [(0,wB (some false) false (.sl 1 1 0 n c)),(1,bG n g c)]) y h')) = ((∀ y : Nat,(((y : Nat) < n)→True))∧((((SV.v (.string (Qcd n fun y => [yU (g (0 + y))]))) = (SV.v (.string (Qcd n fun i => [yU (g i)]))))∧(zI = zI))∧((((1 : Nat) = 1)∧(((1 : Nat) ≤ 1)∧(((SV.sl 1 1 0 n c) = (SV.sl 1 1 0 n c))∧(zF = zF))))∧(((n : Nat) = n)∧(((c : Nat) ≤ c)∧(∀ i : Nat,(((i : Nat) < n)→([(yU (g i))] = [(yU (g i))])))))))):=by kernel_rfl
theorem Q9c (q : Option Prop) (n : Nat) (g : Nat→Int) (c : Nat) : (Qa6 Try.prog Qaq Qas Try.f71 [.vp 0 0] (Qac (uB (some true) n g c)) 64 (fun y h' => Qbh (uB (some true) n g c) (.det q (.tup [Qe4 emp,iV 3]) [(0,wB (some true) false (.sl 1 1 0 n c)),(1,bG n g c)]) y h')) = ((((SV.v (.string ({data:=#[]}))) = (SV.v (.string emp)))∧((yI 3) = (yI 3)))∧((((1 : Nat) = 1)∧(((1 : Nat) ≤ 1)∧(((SV.sl 1 1 0 n c) = (SV.sl 1 1 0 n c))∧((yF true) = (yF true)))))∧(((n : Nat) = n)∧(((c : Nat) ≤ c)∧(∀ i : Nat,(((i : Nat) < n)→([(yU (g i))] = [(yU (g i))]))))))):=by kernel_rfl
def relLs : List Int := [6] ++ (c4 1 ++ c4 2)
theorem Q9f (b : Bool) : (Qa6 Try.prog Q77 Qas Try.f70 [.vp 0 0,Qsb] (Qac (fB (some b))) 64 (fun y h' => Qbh (fB (some b)) (apE (.fresh (some b)) 0 True 9 relLs false) y h')) = ((I64 6)∧(∀ c : Nat,((((Qaf 1 (1 + c) {elem:=5,size:=1,rw:=true,lock:=false,lit:=false,flat:=true,n:=1,row:=fun i => [yU ((fun i => List.getD [6] i 0) i)],ext:=1 + c})∧((1 : Nat) ≤ M0))∧(I64 1))∧(∀ c_1 : Nat,((((Qaf 5 (5 + c_1) {elem:=5,size:=1,rw:=true,lock:=false,lit:=false,flat:=true,n:=5,row:=fun i => [yU (apG 1 (fun i => SE.Qad [yU ((fun i => List.getD [6] i 0) i)]) (be 1 4) i)],ext:=5 + c_1})∧((5 : Nat) ≤ M0))∧(I64 2))∧(∀ c_2 : Nat,(∃ c_3 : Nat,(True∧((((1 : Nat) = 1)∧(((1 : Nat) ≤ 1)∧(((SV.sl 288 1 0 9 (9 + c_2)) = (SV.sl 288 1 0 9 (9 + c_3)))∧((yF (b||false||false||false)) = (yF (b||false))))))∧(((9 : Nat) = 9)∧((((9 + c_3) : Nat) ≤ (9 + c_2))∧(∀ i : Nat,(((i : Nat) < 9)→([(yU (apG 5 (fun i => SE.Qad [yU (apG 1 (fun i => SE.Qad [yU ((fun i => List.getD [6] i 0) i)]) (be 1 4) i)]) (be 2 4) i))] = [(yU (List.getD relLs i 0))])))))))))))))):=by kernel_rfl
def Zgx : WrS → Option Eff
 | .used (some true) n g c p => some (.det (some p) (.tup [Qe4 emp, iV 3]) [(0, wB (some true) false (.sl 1 1 0 n c)), (1, bG n g c)])
 | .used (some false) n g c p => some (.det (some p) (.tup [Qe4 (Qcd n fun i => [.v (.int .u8 (g i))]), iV 0]) [(0, wB (some false) false (.sl 1 1 0 n c)), (1, bG n g c)])
 | _ => none
def Qvs (args : List SV) (bs : List Blk) : Option Eff := match args with
 | [.vp 0 0] => match Qmt bs with
   | some w => Zgx w
   | none => none
 | _ => none
def ΓI0 : Qb6 := Qap (Qap (Qap (Qap Qaq 69 (Qda (sAt [Qsb] (.tup [Qsb, bV true])))) 25 (Qda (sAt [Qsb, Qsb] (bV true)))) 70 (Qca true Qzm)) 71 (Qca true Qvs)
@[reducible] noncomputable def Qga  := (SV.agg [(SV.v (.int .i64 6)),(SV.v (.int .i64 1)),zI,zI,zI,zI,zI,zI,zI,zS,zI,zF,zI,zF,zI,zF,zI,zF,zI,zF,zI,zF,zI,zF,zI,zF,zI,zF,zI,zF,zI,zF,zI,zF,(SV.v (.int .i64 2)),zI,zI,zI,zI,zI,zI,zI,zI])
theorem Zfl (R : SV→Prop) : (Qeu Try.prog ΓI0 Qas Try.f24 [Qsb] R) =
(([(Qga)] = [(Qga)])∧(([(Qga),(Qga)] = [(Qga),(Qga)])∧(((Qga) = (Qga))∧(∀ c : Nat,((Qaf 9 (9 + c) {elem:=5,size:=1,rw:=true,lock:=false,lit:=false,flat:=true,n:=9,row:=fun i => [yU ((fun i => List.getD relL i 0) i)],ext:=9 + c})∧(R (SV.tup [(SV.v (.string (Qcd 9 fun i => [yU (SE.Qad [yU ((fun i => List.getD relL i 0) i)])]))),zI]))))))) := by kernel_rfl
theorem Qpp (n : Nat) (g : Nat → Int) : (Qcd n fun i => [SV.v (.int .u8 (g (0 + i)))]) = Qcd n fun i => [SV.v (.int .u8 (g i))] := by simp only [Nat.zero_add]
theorem Qlk : ∀ f g, Q77 f = some g → g.ok Try.prog f := Qah (Qah (Qah Qll (Qcf Try.func103 (by kernel_rfl) (by kernel_rfl) Qu6)) (Qcf Try.func99 (by kernel_rfl) (by kernel_rfl) Q5y)) (Qcf Try.func98 (by kernel_rfl) (by kernel_rfl) Q1s)
theorem Zay (i : Nat) (hi : i < 9) : apG 5 (apG 1 (fun i => ([6] : List Int).getD i 0) (be 1 4)) (be 2 4) i = relLs.getD i 0 := by
 rw [Qay (by rw [Qol])]
 have h := Q0e 1 (fun i => ([6] : List Int).getD i 0) (be 1 4 ++ be 2 4)
 have e : relLs = [6] ++ (be 1 4 ++ be 2 4) := rfl
 rw [e]
 by_cases h1 : i < 1
 · have : i = 0 := by omega
   subst this; rfl
 · obtain ⟨j, rfl⟩ : ∃ j, i = j + 1 := ⟨i - 1, by omega⟩
   rw [Qf5 h1, Nat.add_sub_cancel]
   rfl
theorem Qxy : Qbt Try.prog 70 Qzm := Qc0 hm Qlk Try.func70 (Λ := fun _ _ => Qas) fun args bs e hs hp => by
 unfold Qzm at hs
 split at hs <;> try (cases hs; done)
 rename_i x
 split at hs <;> try (cases hs; done)
 rename_i b hw
 cases hs
 have hx : x = Qsb := hp
 subst hx
 refine ⟨_, Qdo hw, Eq.mpr (Q9f b) ⟨⟨by omega, by omega⟩, fun c => ⟨⟨⟨Qaa _ _ _ (by omega), by show 1 ≤ 1099511627776; omega⟩, ⟨by omega, by omega⟩⟩, fun c1 => ⟨⟨⟨Qaa _ _ _ (by omega), by show 5 ≤ 1099511627776; omega⟩, ⟨by omega, by omega⟩⟩, fun c2 => Qb9 rfl (by simp) fun i hi => Zay i hi⟩⟩⟩⟩
theorem Q49 {w : WrS} {e : Eff} (h : Zgx w = some e) (hp : e.asks) : ∃ (b : Bool) (n : Nat) (g : Nat → Int) (c : Nat) (p : Prop), w = .used (some b) n g c p ∧ p ∧ Qa6 Try.prog Qaq Qas Try.f71 [.vp 0 0] (Qac (uB (some b) n g c)) 64 (fun y h' => Qbh (uB (some b) n g c) e y h') := by
 cases w with
 | fresh k => cases h
 | used k n g c p =>
   cases k with
   | none => cases h
   | some b =>
     cases b with
     | true =>
       have he := Option.some.inj h
       subst he
       refine ⟨true, n, g, c, p, rfl, hp p rfl, ?_⟩
       rw [Q9c]
       exact ⟨⟨rfl, rfl⟩, ⟨rfl, Nat.le_refl _, rfl, rfl⟩, rfl, Nat.le_refl _, fun _ _ => rfl⟩
     | false =>
       have he := Option.some.inj h
       subst he
       refine ⟨false, n, g, c, p, rfl, hp p rfl, ?_⟩
       rw [Q9d]
       exact ⟨fun _ _ => trivial, ⟨congrArg (fun z => SV.v (.string z)) (Qpp n g), rfl⟩, ⟨rfl, Nat.le_refl _, rfl, rfl⟩, rfl, Nat.le_refl _, fun _ _ => rfl⟩
theorem Qtc : Qbt Try.prog 71 Qvs := Qc0 hm Qax Try.func71 (Λ := fun _ _ => Qas) fun args bs e hs hp => by
 unfold Qvs at hs
 split at hs
 · split at hs
   · rename_i w hw
     obtain ⟨b, n, g, c, p, rfl, h1, h2⟩ := Q49 hs hp
     exact ⟨_, (Qdy hw h1).1, h2⟩
   · cases hs
 · cases hs
theorem Q75 : ∀ f g, ΓI0 f = some g → g.ok Try.prog f := Qah (Qah (Qah (Qah Qax (Qdl Try.func69 (by kernel_rfl) (by kernel_rfl) Qxc)) (Qdl Try.func25 (by kernel_rfl) (by kernel_rfl) Qxh)) (Qcf Try.func70 (by kernel_rfl) (by kernel_rfl) Qxy)) (Qcf Try.func71 (by kernel_rfl) (by kernel_rfl) Qtc)
def ucK (k : Int) (c : CV) : CV := bif decide (k = 1) then uc1 c else (bif decide (k = 2) then uc2 c else (bif decide (k = 3) then uc3 c else (bif decide (k = 4) then uc4 c else (bif decide (k = 5) then uc5 c else (bif decide (k = 6) then uc6 c else (bif decide (k = 7) then uc7 c else (bif decide (k = 8) then uc8 c else (bif decide (k = 9) then uc9 c else (bif decide (k = 10) then Qho c else (zCV))))))))))
def kN (k : Int) (n : Nat) : Nat := bif decide (k = 1) then Q04 n else (bif decide (k = 2) then Q2g n else (bif decide (k = 3) then Q2f n else (bif decide (k = 4) then Q2e n else (bif decide (k = 5) then Q2d n else (bif decide (k = 6) then Q2c n else (bif decide (k = 7) then Q2b n else (bif decide (k = 8) then Q2a n else (bif decide (k = 9) then Q19 n else (bif decide (k = 10) then Qo5 n else (0))))))))))
def kT (k : Int) (c : CV) (n : Nat) (x y : Nat → Int) : List Int := bif decide (k = 1) then Q7a c n x y else (bif decide (k = 2) then Q69 c n x y else (bif decide (k = 3) then Q68 c n x y else (bif decide (k = 4) then Q67 c n x y else (bif decide (k = 5) then Q66 c n x y else (bif decide (k = 6) then Q65 c n x y else (bif decide (k = 7) then Q64 c n x y else (bif decide (k = 8) then Q63 c n x y else (bif decide (k = 9) then Q62 c n x y else (bif decide (k = 10) then Qst c n x y else ([]))))))))))
def kB (k : Int) (c : CV) (n : Nat) : Bool := bif decide (k = 1) then Q5r c n else (bif decide (k = 2) then Zcv c n else (bif decide (k = 3) then Zcu c n else (bif decide (k = 4) then Zct c n else (bif decide (k = 5) then Zcs c n else (bif decide (k = 6) then Zcr c n else (bif decide (k = 7) then Zcq c n else (bif decide (k = 8) then Zcp c n else (bif decide (k = 9) then Zco c n else (bif decide (k = 10) then Quk c n else (false))))))))))
def gX (S : Blk) : Nat → Int := fun i => (Zhx S i).1
def gY (S : Blk) : Nat → Int := fun i => (Zhx S i).2
def Qzl (args : List SV) (bs : List Blk) : Option Eff := match args with
 | [.vp 0 0, .agg l] => match cellsOf l with
   | some (k, c, .sl 1 2 0 n _) => match bs with
     | [B, S] => match Qmt [B] with
       | some (.fresh (some b)) => bif okB S then some (apE (.fresh (some b)) 0 ((1 ≤ k ∧ k ≤ 10) ∧ Qg8 c ∧ Qbg n S ∧ n < 100) (5 + kN k n) (caL k c (kT k c n (gX S) (gY S))) (caB c (kB k c n))) else none
       | _ => none
     | _ => none
   | _ => none
 | _ => none
def Qzd (args : List SV) (bs : List Blk) : Option Eff := match args with
 | [.agg l] => match cellsOf l with
   | some (k, c, .sl 0 2 0 n cap) => match bs with
     | [S] => bif okB S then (bif decide (k = 1) then some (.det (some (Qbg n S)) (.tup [caS 1 (uc1 c) (.sl 0 2 0 n cap), bV true]) []) else bif decide (k = 2) then some (.det (some (Qbg n S)) (.tup [caS 2 (uc2 c) Qa8, bV true]) []) else bif decide (k = 3) then some (.det (some (Qbg n S)) (.tup [caS 3 (uc3 c) Qa8, bV true]) []) else bif decide (k = 4) then some (.det (some (Qbg n S)) (.tup [caS 4 (uc4 c) Qa8, bV true]) []) else bif decide (k = 5) then some (.det (some (Qbg n S)) (.tup [caS 5 (uc5 c) Qa8, bV true]) []) else bif decide (k = 6) then some (.det (some (Qbg n S)) (.tup [caS 6 (uc6 c) Qa8, bV true]) []) else bif decide (k = 7) then some (.det (some (Qbg n S)) (.tup [caS 7 (uc7 c) Qa8, bV true]) []) else bif decide (k = 8) then some (.det (some (Qbg n S)) (.tup [caS 8 (uc8 c) Qa8, bV true]) []) else bif decide (k = 9) then some (.det (some (Qbg n S)) (.tup [caS 9 (uc9 c) Qa8, bV true]) []) else bif decide (k = 10) then some (.det (some (Qbg n S)) (.tup [caS 10 (Qho c) Qa8, bV true]) []) else none) else none
     | _ => none
   | _ => none
 | _ => none
def Qr6 (args : List SV) (bs : List Blk) : Option Eff := match args with
 | [.vp 0 0] => match Qmt bs with
   | some (.used (some b) n g c p) => some (.det (some p) (.tup [Qe4 (bif b then emp else Qcd n fun i => [.v (.int .u8 (g i))]), iV (bif b then 3 else 0)]) [(0, wB (some b) false (.sl 1 1 0 n c)), (1, bG n g c)])
   | _ => none
 | _ => none
def Qor : Qb6 := Qap (Qap (Qap (Qap Qaq 69 (Qca true Qzd)) 25 (Qmv Qzf)) 70 (Qca true Qzl)) 71 (Qca true Qr6)
def Qzc (args : List SV) (bs : List Blk) : Option Eff := match args with
 | [.agg l] => match cellsOf l with
   | some (k, c, .sl 0 2 0 n cap) => match bs with
     | [S] => bif okB S then some (.det (some (Qbg n S ∧ (k < 1 ∨ 10 < k))) (.tup [caS 0 zCV Qa8, bV false]) []) else none
     | _ => none
   | _ => none
 | _ => none
def Zib : Qb6 := Qap Qor 69 (Qca true Qzc)
theorem Q3n (k : Int) (c : CV) (n m cap : Nat) (g : Nat→Int × Int) (R : SV→Prop) : (Qa6 Try.prog Zib Qas Try.f24 [caS k c (.sl 0 2 0 n cap)] (Qa0 [⟨2,m,Qan g⟩]) 64 (fun y _ => R y)) = (((Qbg n (Qaz (Ro.blk {s:=2,n:=m,row:=fun i => [yI (Prod.fst (g i)),yI (Prod.snd (g i))]}) 2 0 n))∧(k < 1 ∨ 10 < k))∧(R (SV.tup [(SV.v (.string ({data:=#[]}))),(yI 8)]))):=by kernel_rfl
theorem Q3k (q : Option Prop) (n : Nat) (g : Nat→Int) (c : Nat) : (Qa6 Try.prog Qaq Qas Try.f71 [.vp 0 0] (Qac (uB (some false) n g c)) 64 (fun y h' => Qbh (uB (some false) n g c) (.det q (.tup [Qe4 (bif false then emp else Qcd n fun i => [.v (.int .u8 (g i))]),iV (bif false then 3 else 0)]) [(0,wB (some false) false (.sl 1 1 0 n c)),(1,bG n g c)]) y h')) = ((∀ y : Nat,(((y : Nat) < n)→True))∧((((SV.v (.string (Qcd n fun y => [yU (g (0 + y))]))) = (SV.v (.string (bif false then emp else Qcd n fun i => [yU (g i)]))))∧(zI = zI))∧((((1 : Nat) = 1)∧(((1 : Nat) ≤ 1)∧(((SV.sl 1 1 0 n c) = (SV.sl 1 1 0 n c))∧(zF = zF))))∧(((n : Nat) = n)∧(((c : Nat) ≤ c)∧(∀ i : Nat,(((i : Nat) < n)→([(yU (g i))] = [(yU (g i))])))))))):=by kernel_rfl
theorem Q3j (q : Option Prop) (n : Nat) (g : Nat→Int) (c : Nat) : (Qa6 Try.prog Qaq Qas Try.f71 [.vp 0 0] (Qac (uB (some true) n g c)) 64 (fun y h' => Qbh (uB (some true) n g c) (.det q (.tup [Qe4 (bif true then emp else Qcd n fun i => [.v (.int .u8 (g i))]),iV (bif true then 3 else 0)]) [(0,wB (some true) false (.sl 1 1 0 n c)),(1,bG n g c)]) y h')) = ((((SV.v (.string ({data:=#[]}))) = (SV.v (.string (bif true then emp else Qcd n fun i => [yU (g i)]))))∧((yI 3) = (yI 3)))∧((((1 : Nat) = 1)∧(((1 : Nat) ≤ 1)∧(((SV.sl 1 1 0 n c) = (SV.sl 1 1 0 n c))∧((yF true) = (yF true)))))∧(((n : Nat) = n)∧(((c : Nat) ≤ c)∧(∀ i : Nat,(((i : Nat) < n)→([(yU (g i))] = [(yU (g i))]))))))):=by kernel_rfl
@[reducible] noncomputable def Qfg (n : Nat) (m : Nat) (g : Nat→Int × Int) := (Qaz (Ro.blk {s:=2,n:=m,row:=fun i => [SV.v (.int .i64 (Prod.fst (g i))),SV.v (.int .i64 (Prod.snd (g i)))]}) 2 0 n)
theorem Q3w (c : CV) (n m cap : Nat) (g : Nat→Int × Int) (R : SV→Prop) : (Qa6 Try.prog Qor Qas Try.f24 [caS 1 c (.sl 0 2 0 n cap)] (Qa0 [⟨2,m,Qan g⟩]) 64 (fun y _ => R y)) =
((Qbg n (Qfg n m g))∧(((Qam n n fun y => [yI (Prod.fst (g (0 + y))),yI (Prod.snd (g (0 + y)))])∧(Qam n n fun y => [yI (Prod.fst (g (0 + y))),yI (Prod.snd (g (0 + y)))]))∧(sel (!Qbp 1 1 (uc1 c) c (Qey (Qcn (uc1 c)) n (fun i => gi [yI (Prod.fst (g (0 + i))),yI (Prod.snd (g (0 + i)))]) (Qcn c) n fun i => gi [yI (Prod.fst (g (0 + i))),yI (Prod.snd (g (0 + i)))])) (R (SV.tup [(SV.v (.string ({data:=#[]}))),(yI 4)])) (((((1 : Int) ≤ 1)∧((1 : Int) ≤ 10))∧((Qg8 c)∧((Qbg n (Qfg n m g))∧((n : Nat) < 100))))∧(∀ c_1 : Nat,((Qaf (5 + kN 1 n) (5 + kN 1 n + c_1) {elem:=5,size:=1,rw:=true,lock:=false,lit:=false,flat:=true,n:=5 + kN 1 n,row:=fun i => [yU ((fun i => List.getD (caL 1 c (kT 1 c n (gX (Qfg n m g)) (gY (Qfg n m g)))) i 0) i)],ext:=5 + kN 1 n + c_1})∧(R (SV.tup [(SV.v (.string (bif false||caB c (kB 1 c n) then emp else Qcd (5 + kN 1 n) fun i => [yU (SE.Qad [yU ((fun i => List.getD (caL 1 c (kT 1 c n (gX (Qfg n m g)) (gY (Qfg n m g)))) i 0) i)])]))),(yI (bif false||caB c (kB 1 c n) then 3 else 0))])))))))) := by kernel_rfl
@[reducible] noncomputable def Qff (n : Nat) (m : Nat) (g : Nat→Int × Int) := (Qaz (Ro.blk {s:=2,n:=m,row:=fun i => [SV.v (.int .i64 (Prod.fst (g i))),SV.v (.int .i64 (Prod.snd (g i)))]}) 2 0 n)
theorem Q3v (c : CV) (n m cap : Nat) (g : Nat→Int × Int) (R : SV→Prop) : (Qa6 Try.prog Qor Qas Try.f24 [caS 2 c (.sl 0 2 0 n cap)] (Qa0 [⟨2,m,Qan g⟩]) 64 (fun y _ => R y)) =
((Qbg n (Qff n m g))∧((Qam n n fun y => [yI (Prod.fst (g (0 + y))),yI (Prod.snd (g (0 + y)))])∧(sel (!Qbp 2 2 (uc2 c) c (Qcp (Qcn (uc2 c)) (Qcn c)&&Nat.beq n 0)) (R (SV.tup [(SV.v (.string ({data:=#[]}))),(yI 4)])) (((((1 : Int) ≤ 2)∧((2 : Int) ≤ 10))∧((Qg8 c)∧((Qbg n (Qff n m g))∧((n : Nat) < 100))))∧(∀ c_1 : Nat,((Qaf (5 + kN 2 n) (5 + kN 2 n + c_1) {elem:=5,size:=1,rw:=true,lock:=false,lit:=false,flat:=true,n:=5 + kN 2 n,row:=fun i => [yU ((fun i => List.getD (caL 2 c (kT 2 c n (gX (Qff n m g)) (gY (Qff n m g)))) i 0) i)],ext:=5 + kN 2 n + c_1})∧(R (SV.tup [(SV.v (.string (bif false||caB c (kB 2 c n) then emp else Qcd (5 + kN 2 n) fun i => [yU (SE.Qad [yU ((fun i => List.getD (caL 2 c (kT 2 c n (gX (Qff n m g)) (gY (Qff n m g)))) i 0) i)])]))),(yI (bif false||caB c (kB 2 c n) then 3 else 0))])))))))) := by kernel_rfl
@[reducible] noncomputable def Qfe (n : Nat) (m : Nat) (g : Nat→Int × Int) := (Qaz (Ro.blk {s:=2,n:=m,row:=fun i => [SV.v (.int .i64 (Prod.fst (g i))),SV.v (.int .i64 (Prod.snd (g i)))]}) 2 0 n)
theorem Q3u (c : CV) (n m cap : Nat) (g : Nat→Int × Int) (R : SV→Prop) : (Qa6 Try.prog Qor Qas Try.f24 [caS 3 c (.sl 0 2 0 n cap)] (Qa0 [⟨2,m,Qan g⟩]) 64 (fun y _ => R y)) =
((Qbg n (Qfe n m g))∧((Qam n n fun y => [yI (Prod.fst (g (0 + y))),yI (Prod.snd (g (0 + y)))])∧(sel (!Qbp 3 3 (uc3 c) c (Qcp (Qcn (uc3 c)) (Qcn c)&&Nat.beq n 0)) (R (SV.tup [(SV.v (.string ({data:=#[]}))),(yI 4)])) (((((1 : Int) ≤ 3)∧((3 : Int) ≤ 10))∧((Qg8 c)∧((Qbg n (Qfe n m g))∧((n : Nat) < 100))))∧(∀ c_1 : Nat,((Qaf (5 + kN 3 n) (5 + kN 3 n + c_1) {elem:=5,size:=1,rw:=true,lock:=false,lit:=false,flat:=true,n:=5 + kN 3 n,row:=fun i => [yU ((fun i => List.getD (caL 3 c (kT 3 c n (gX (Qfe n m g)) (gY (Qfe n m g)))) i 0) i)],ext:=5 + kN 3 n + c_1})∧(R (SV.tup [(SV.v (.string (bif false||caB c (kB 3 c n) then emp else Qcd (5 + kN 3 n) fun i => [yU (SE.Qad [yU ((fun i => List.getD (caL 3 c (kT 3 c n (gX (Qfe n m g)) (gY (Qfe n m g)))) i 0) i)])]))),(yI (bif false||caB c (kB 3 c n) then 3 else 0))])))))))) := by kernel_rfl
@[reducible] noncomputable def Qfd (n : Nat) (m : Nat) (g : Nat→Int × Int) := (Qaz (Ro.blk {s:=2,n:=m,row:=fun i => [SV.v (.int .i64 (Prod.fst (g i))),SV.v (.int .i64 (Prod.snd (g i)))]}) 2 0 n)
theorem Q3t (c : CV) (n m cap : Nat) (g : Nat→Int × Int) (R : SV→Prop) : (Qa6 Try.prog Qor Qas Try.f24 [caS 4 c (.sl 0 2 0 n cap)] (Qa0 [⟨2,m,Qan g⟩]) 64 (fun y _ => R y)) =
((Qbg n (Qfd n m g))∧((Qam n n fun y => [yI (Prod.fst (g (0 + y))),yI (Prod.snd (g (0 + y)))])∧(sel (!Qbp 4 4 (uc4 c) c (Qcp (Qcn (uc4 c)) (Qcn c)&&Nat.beq n 0)) (R (SV.tup [(SV.v (.string ({data:=#[]}))),(yI 4)])) (((((1 : Int) ≤ 4)∧((4 : Int) ≤ 10))∧((Qg8 c)∧((Qbg n (Qfd n m g))∧((n : Nat) < 100))))∧(∀ c_1 : Nat,((Qaf (5 + kN 4 n) (5 + kN 4 n + c_1) {elem:=5,size:=1,rw:=true,lock:=false,lit:=false,flat:=true,n:=5 + kN 4 n,row:=fun i => [yU ((fun i => List.getD (caL 4 c (kT 4 c n (gX (Qfd n m g)) (gY (Qfd n m g)))) i 0) i)],ext:=5 + kN 4 n + c_1})∧(R (SV.tup [(SV.v (.string (bif false||caB c (kB 4 c n) then emp else Qcd (5 + kN 4 n) fun i => [yU (SE.Qad [yU ((fun i => List.getD (caL 4 c (kT 4 c n (gX (Qfd n m g)) (gY (Qfd n m g)))) i 0) i)])]))),(yI (bif false||caB c (kB 4 c n) then 3 else 0))])))))))) := by kernel_rfl
@[reducible] noncomputable def Qfc (n : Nat) (m : Nat) (g : Nat→Int × Int) := (Qaz (Ro.blk {s:=2,n:=m,row:=fun i => [SV.v (.int .i64 (Prod.fst (g i))),SV.v (.int .i64 (Prod.snd (g i)))]}) 2 0 n)
theorem Q3s (c : CV) (n m cap : Nat) (g : Nat→Int × Int) (R : SV→Prop) : (Qa6 Try.prog Qor Qas Try.f24 [caS 5 c (.sl 0 2 0 n cap)] (Qa0 [⟨2,m,Qan g⟩]) 64 (fun y _ => R y)) =
((Qbg n (Qfc n m g))∧((Qam n n fun y => [yI (Prod.fst (g (0 + y))),yI (Prod.snd (g (0 + y)))])∧(sel (!Qbp 5 5 (uc5 c) c (Qcp (Qcn (uc5 c)) (Qcn c)&&Nat.beq n 0)) (R (SV.tup [(SV.v (.string ({data:=#[]}))),(yI 4)])) (((((1 : Int) ≤ 5)∧((5 : Int) ≤ 10))∧((Qg8 c)∧((Qbg n (Qfc n m g))∧((n : Nat) < 100))))∧(∀ c_1 : Nat,((Qaf (5 + kN 5 n) (5 + kN 5 n + c_1) {elem:=5,size:=1,rw:=true,lock:=false,lit:=false,flat:=true,n:=5 + kN 5 n,row:=fun i => [yU ((fun i => List.getD (caL 5 c (kT 5 c n (gX (Qfc n m g)) (gY (Qfc n m g)))) i 0) i)],ext:=5 + kN 5 n + c_1})∧(R (SV.tup [(SV.v (.string (bif false||caB c (kB 5 c n) then emp else Qcd (5 + kN 5 n) fun i => [yU (SE.Qad [yU ((fun i => List.getD (caL 5 c (kT 5 c n (gX (Qfc n m g)) (gY (Qfc n m g)))) i 0) i)])]))),(yI (bif false||caB c (kB 5 c n) then 3 else 0))])))))))) := by kernel_rfl
@[reducible] noncomputable def Qfb (n : Nat) (m : Nat) (g : Nat→Int × Int) := (Qaz (Ro.blk {s:=2,n:=m,row:=fun i => [SV.v (.int .i64 (Prod.fst (g i))),SV.v (.int .i64 (Prod.snd (g i)))]}) 2 0 n)
theorem Q3r (c : CV) (n m cap : Nat) (g : Nat→Int × Int) (R : SV→Prop) : (Qa6 Try.prog Qor Qas Try.f24 [caS 6 c (.sl 0 2 0 n cap)] (Qa0 [⟨2,m,Qan g⟩]) 64 (fun y _ => R y)) =
((Qbg n (Qfb n m g))∧((Qam n n fun y => [yI (Prod.fst (g (0 + y))),yI (Prod.snd (g (0 + y)))])∧(sel (!Qbp 6 6 (uc6 c) c (Qcp (Qcn (uc6 c)) (Qcn c)&&Nat.beq n 0)) (R (SV.tup [(SV.v (.string ({data:=#[]}))),(yI 4)])) (((((1 : Int) ≤ 6)∧((6 : Int) ≤ 10))∧((Qg8 c)∧((Qbg n (Qfb n m g))∧((n : Nat) < 100))))∧(∀ c_1 : Nat,((Qaf (5 + kN 6 n) (5 + kN 6 n + c_1) {elem:=5,size:=1,rw:=true,lock:=false,lit:=false,flat:=true,n:=5 + kN 6 n,row:=fun i => [yU ((fun i => List.getD (caL 6 c (kT 6 c n (gX (Qfb n m g)) (gY (Qfb n m g)))) i 0) i)],ext:=5 + kN 6 n + c_1})∧(R (SV.tup [(SV.v (.string (bif false||caB c (kB 6 c n) then emp else Qcd (5 + kN 6 n) fun i => [yU (SE.Qad [yU ((fun i => List.getD (caL 6 c (kT 6 c n (gX (Qfb n m g)) (gY (Qfb n m g)))) i 0) i)])]))),(yI (bif false||caB c (kB 6 c n) then 3 else 0))])))))))) := by kernel_rfl
@[reducible] noncomputable def Qfa (n : Nat) (m : Nat) (g : Nat→Int × Int) := (Qaz (Ro.blk {s:=2,n:=m,row:=fun i => [SV.v (.int .i64 (Prod.fst (g i))),SV.v (.int .i64 (Prod.snd (g i)))]}) 2 0 n)
theorem Q3q (c : CV) (n m cap : Nat) (g : Nat→Int × Int) (R : SV→Prop) : (Qa6 Try.prog Qor Qas Try.f24 [caS 7 c (.sl 0 2 0 n cap)] (Qa0 [⟨2,m,Qan g⟩]) 64 (fun y _ => R y)) =
((Qbg n (Qfa n m g))∧((Qam n n fun y => [yI (Prod.fst (g (0 + y))),yI (Prod.snd (g (0 + y)))])∧(sel (!Qbp 7 7 (uc7 c) c (Qcp (Qcn (uc7 c)) (Qcn c)&&Nat.beq n 0)) (R (SV.tup [(SV.v (.string ({data:=#[]}))),(yI 4)])) (((((1 : Int) ≤ 7)∧((7 : Int) ≤ 10))∧((Qg8 c)∧((Qbg n (Qfa n m g))∧((n : Nat) < 100))))∧(∀ c_1 : Nat,((Qaf (5 + kN 7 n) (5 + kN 7 n + c_1) {elem:=5,size:=1,rw:=true,lock:=false,lit:=false,flat:=true,n:=5 + kN 7 n,row:=fun i => [yU ((fun i => List.getD (caL 7 c (kT 7 c n (gX (Qfa n m g)) (gY (Qfa n m g)))) i 0) i)],ext:=5 + kN 7 n + c_1})∧(R (SV.tup [(SV.v (.string (bif false||caB c (kB 7 c n) then emp else Qcd (5 + kN 7 n) fun i => [yU (SE.Qad [yU ((fun i => List.getD (caL 7 c (kT 7 c n (gX (Qfa n m g)) (gY (Qfa n m g)))) i 0) i)])]))),(yI (bif false||caB c (kB 7 c n) then 3 else 0))])))))))) := by kernel_rfl
@[reducible] noncomputable def Qe9 (n : Nat) (m : Nat) (g : Nat→Int × Int) := (Qaz (Ro.blk {s:=2,n:=m,row:=fun i => [SV.v (.int .i64 (Prod.fst (g i))),SV.v (.int .i64 (Prod.snd (g i)))]}) 2 0 n)
theorem Q3p (c : CV) (n m cap : Nat) (g : Nat→Int × Int) (R : SV→Prop) : (Qa6 Try.prog Qor Qas Try.f24 [caS 8 c (.sl 0 2 0 n cap)] (Qa0 [⟨2,m,Qan g⟩]) 64 (fun y _ => R y)) =
((Qbg n (Qe9 n m g))∧((Qam n n fun y => [yI (Prod.fst (g (0 + y))),yI (Prod.snd (g (0 + y)))])∧(sel (!Qbp 8 8 (uc8 c) c (Qcp (Qcn (uc8 c)) (Qcn c)&&Nat.beq n 0)) (R (SV.tup [(SV.v (.string ({data:=#[]}))),(yI 4)])) (((((1 : Int) ≤ 8)∧((8 : Int) ≤ 10))∧((Qg8 c)∧((Qbg n (Qe9 n m g))∧((n : Nat) < 100))))∧(∀ c_1 : Nat,((Qaf (5 + kN 8 n) (5 + kN 8 n + c_1) {elem:=5,size:=1,rw:=true,lock:=false,lit:=false,flat:=true,n:=5 + kN 8 n,row:=fun i => [yU ((fun i => List.getD (caL 8 c (kT 8 c n (gX (Qe9 n m g)) (gY (Qe9 n m g)))) i 0) i)],ext:=5 + kN 8 n + c_1})∧(R (SV.tup [(SV.v (.string (bif false||caB c (kB 8 c n) then emp else Qcd (5 + kN 8 n) fun i => [yU (SE.Qad [yU ((fun i => List.getD (caL 8 c (kT 8 c n (gX (Qe9 n m g)) (gY (Qe9 n m g)))) i 0) i)])]))),(yI (bif false||caB c (kB 8 c n) then 3 else 0))])))))))) := by kernel_rfl
@[reducible] noncomputable def Qe8 (n : Nat) (m : Nat) (g : Nat→Int × Int) := (Qaz (Ro.blk {s:=2,n:=m,row:=fun i => [SV.v (.int .i64 (Prod.fst (g i))),SV.v (.int .i64 (Prod.snd (g i)))]}) 2 0 n)
theorem Q3o (c : CV) (n m cap : Nat) (g : Nat→Int × Int) (R : SV→Prop) : (Qa6 Try.prog Qor Qas Try.f24 [caS 9 c (.sl 0 2 0 n cap)] (Qa0 [⟨2,m,Qan g⟩]) 64 (fun y _ => R y)) =
((Qbg n (Qe8 n m g))∧((Qam n n fun y => [yI (Prod.fst (g (0 + y))),yI (Prod.snd (g (0 + y)))])∧(sel (!Qbp 9 9 (uc9 c) c (Qcp (Qcn (uc9 c)) (Qcn c)&&Nat.beq n 0)) (R (SV.tup [(SV.v (.string ({data:=#[]}))),(yI 4)])) (((((1 : Int) ≤ 9)∧((9 : Int) ≤ 10))∧((Qg8 c)∧((Qbg n (Qe8 n m g))∧((n : Nat) < 100))))∧(∀ c_1 : Nat,((Qaf (5 + kN 9 n) (5 + kN 9 n + c_1) {elem:=5,size:=1,rw:=true,lock:=false,lit:=false,flat:=true,n:=5 + kN 9 n,row:=fun i => [yU ((fun i => List.getD (caL 9 c (kT 9 c n (gX (Qe8 n m g)) (gY (Qe8 n m g)))) i 0) i)],ext:=5 + kN 9 n + c_1})∧(R (SV.tup [(SV.v (.string (bif false||caB c (kB 9 c n) then emp else Qcd (5 + kN 9 n) fun i => [yU (SE.Qad [yU ((fun i => List.getD (caL 9 c (kT 9 c n (gX (Qe8 n m g)) (gY (Qe8 n m g)))) i 0) i)])]))),(yI (bif false||caB c (kB 9 c n) then 3 else 0))])))))))) := by kernel_rfl
@[reducible] noncomputable def Qd9 (n : Nat) (m : Nat) (g : Nat→Int × Int) := (Qaz (Ro.blk {s:=2,n:=m,row:=fun i => [SV.v (.int .i64 (Prod.fst (g i))),SV.v (.int .i64 (Prod.snd (g i)))]}) 2 0 n)
theorem Qyt (c : CV) (n m cap : Nat) (g : Nat→Int × Int) (R : SV→Prop) : (Qa6 Try.prog Qor Qas Try.f24 [caS 10 c (.sl 0 2 0 n cap)] (Qa0 [⟨2,m,Qan g⟩]) 64 (fun y _ => R y)) =
((Qbg n (Qd9 n m g))∧((Qam n n fun y => [yI (Prod.fst (g (0 + y))),yI (Prod.snd (g (0 + y)))])∧(sel (!Qbp 10 10 (Qho c) c (Qcp (Qcn (Qho c)) (Qcn c)&&Nat.beq n 0)) (R (SV.tup [(SV.v (.string ({data:=#[]}))),(yI 4)])) (((((1 : Int) ≤ 10)∧((10 : Int) ≤ 10))∧((Qg8 c)∧((Qbg n (Qd9 n m g))∧((n : Nat) < 100))))∧(∀ c_1 : Nat,((Qaf (5 + kN 10 n) (5 + kN 10 n + c_1) {elem:=5,size:=1,rw:=true,lock:=false,lit:=false,flat:=true,n:=5 + kN 10 n,row:=fun i => [yU ((fun i => List.getD (caL 10 c (kT 10 c n (gX (Qd9 n m g)) (gY (Qd9 n m g)))) i 0) i)],ext:=5 + kN 10 n + c_1})∧(R (SV.tup [(SV.v (.string (bif false||caB c (kB 10 c n) then emp else Qcd (5 + kN 10 n) fun i => [yU (SE.Qad [yU ((fun i => List.getD (caL 10 c (kT 10 c n (gX (Qd9 n m g)) (gY (Qd9 n m g)))) i 0) i)])]))),(yI (bif false||caB c (kB 10 c n) then 3 else 0))])))))))) := by kernel_rfl
theorem Qgj {b : Bool} {α : Type _} {x : Option α} {y : α} (h : (bif b then x else none) = some y) : b = true ∧ x = some y := by
 cases b with
 | true => exact ⟨rfl, h⟩
 | false => cases h
theorem Qcq {S : Blk} {n : Nat} (h1 : okB S = true) (h2 : Qbg n S) : BlkSame S (ptB S.elem n (gX S) (gY S) S.ext S.whole) := by
 simp only [okB, Bool.and_eq_true, Bool.not_eq_true'] at h1
 obtain ⟨⟨⟨a1, a2⟩, a3⟩, a4⟩ := h1
 obtain ⟨b1, b2, _⟩ := h2
 have b1 := okAll_rows.1 b1
 exact ⟨Nat.eq_of_beq_eq_true a3, a1, a4, b2, rfl, a2, rfl, rfl, fun i hi => (Qao (b1 i hi)).1⟩
theorem Qmg : Qbt Try.prog 71 Qr6 := Qc0 hm Qax Try.func71 (Λ := fun _ _ => Qas) fun args bs e hs hp => by
 unfold Qr6 at hs
 split at hs
 · split at hs
   · rename_i b n g c p hw
     have he := Option.some.inj hs
     subst he
     refine ⟨uB (some b) n g c, (Qdy hw (hp p rfl)).1, ?_⟩
     cases b with
     | false =>
       rw [Q3k]
       exact ⟨fun _ _ => trivial, ⟨congrArg (fun z => SV.v (.string z)) (Qpp n g), rfl⟩, ⟨rfl, Nat.le_refl _, rfl, rfl⟩, rfl, Nat.le_refl _, fun _ _ => rfl⟩
     | true =>
       rw [Q3j]
       exact ⟨⟨rfl, rfl⟩, ⟨rfl, Nat.le_refl _, rfl, rfl⟩, rfl, Nat.le_refl _, fun _ _ => rfl⟩
   · cases hs
 · cases hs
theorem Q79 : ∀ f g, Qos f = some g → g.ok Try.prog f := Qah (Qah (Qah Qlk (Qcf Try.func118 (by kernel_rfl) (by kernel_rfl) Qgl)) (Qcf Try.func105 (by kernel_rfl) (by kernel_rfl) Qoo)) (Qcf Try.func97 (by kernel_rfl) (by kernel_rfl) Qpv)
theorem ten {k : Int} (h : 1 ≤ k ∧ k ≤ 10) : k = 1 ∨ k = 2 ∨ k = 3 ∨ k = 4 ∨ k = 5 ∨ k = 6 ∨ k = 7 ∨ k = 8 ∨ k = 9 ∨ k = 10 := by omega
theorem Qxw : Qbt Try.prog 70 Qzl := Qc0 hm Q79 Try.func70 (Λ := fun _ _ => Qas) fun args bs e hs hp => by
 unfold Qzl at hs
 split at hs
 · rename_i l
   split at hs
   · rename_i k c n cap hl
     split at hs
     · rename_i B S
       split at hs
       · rename_i b hw
         obtain ⟨hS, he⟩ := Qcl hs
         subst he
         obtain ⟨hk, hc, hsp, hn⟩ := hp
         refine ⟨[wB (some b) true Qa8, ptB S.elem n (gX S) (gY S) S.ext S.whole], ⟨(Qdo hw).1, Qcq hS hsp, trivial⟩, ?_⟩
         rw [Qcs hl]
         have hv : ∀ i, i < n → I64 (gX S i) ∧ I64 (gY S i) := (Qsd hsp).2
         rcases ten hk with rfl | rfl | rfl | rfl | rfl | rfl | rfl | rfl | rfl | rfl
         · exact Zg7 hc hn hv
         · exact Zg6 hc hn hv
         · exact Zg5 hc hn hv
         · exact Zg4 hc hn hv
         · exact Zg3 hc hn hv
         · exact Zg2 hc hn hv
         · exact Zg1 hc hn hv
         · exact Zg0 hc hn hv
         · exact Zgz hc hn hv
         · exact Zcc hc hn hv
       · cases hs
     · cases hs
   · cases hs
 · cases hs
theorem Zfv {q : Option Prop} {c : CV} {e n m cap xt : Nat} {x y : Nat → Int} {wh : Bool} : Qa6 Try.prog Qaq Qdi Try.f69 [caS 1 c (.sl 0 2 0 n cap)] (Qac [ptB e m x y xt wh]) 64 (fun y' h' => Qbh [ptB e m x y xt wh] (.det q (.tup [caS 1 (uc1 c) (.sl 0 2 0 n cap), bV true]) []) y' h') := by
 rw [Q8q]
 refine ⟨⟨?_, rfl⟩, trivial⟩
 repeat (first | exact rfl | refine ⟨rfl, ?_⟩)
theorem Zfu {q : Option Prop} {c : CV} {e n m cap xt : Nat} {x y : Nat → Int} {wh : Bool} : Qa6 Try.prog Qaq Qdi Try.f69 [caS 2 c (.sl 0 2 0 n cap)] (Qac [ptB e m x y xt wh]) 64 (fun y' h' => Qbh [ptB e m x y xt wh] (.det q (.tup [caS 2 (uc2 c) (Qa8), bV true]) []) y' h') := by
 rw [Q8p]
 refine ⟨⟨?_, rfl⟩, trivial⟩
 repeat (first | exact rfl | refine ⟨rfl, ?_⟩)
theorem Zft {q : Option Prop} {c : CV} {e n m cap xt : Nat} {x y : Nat → Int} {wh : Bool} : Qa6 Try.prog Qaq Qdi Try.f69 [caS 3 c (.sl 0 2 0 n cap)] (Qac [ptB e m x y xt wh]) 64 (fun y' h' => Qbh [ptB e m x y xt wh] (.det q (.tup [caS 3 (uc3 c) (Qa8), bV true]) []) y' h') := by
 rw [Q8o]
 refine ⟨⟨?_, rfl⟩, trivial⟩
 repeat (first | exact rfl | refine ⟨rfl, ?_⟩)
theorem Zfs {q : Option Prop} {c : CV} {e n m cap xt : Nat} {x y : Nat → Int} {wh : Bool} : Qa6 Try.prog Qaq Qdi Try.f69 [caS 4 c (.sl 0 2 0 n cap)] (Qac [ptB e m x y xt wh]) 64 (fun y' h' => Qbh [ptB e m x y xt wh] (.det q (.tup [caS 4 (uc4 c) (Qa8), bV true]) []) y' h') := by
 rw [Q8n]
 refine ⟨⟨?_, rfl⟩, trivial⟩
 repeat (first | exact rfl | refine ⟨rfl, ?_⟩)
theorem Zfr {q : Option Prop} {c : CV} {e n m cap xt : Nat} {x y : Nat → Int} {wh : Bool} : Qa6 Try.prog Qaq Qdi Try.f69 [caS 5 c (.sl 0 2 0 n cap)] (Qac [ptB e m x y xt wh]) 64 (fun y' h' => Qbh [ptB e m x y xt wh] (.det q (.tup [caS 5 (uc5 c) (Qa8), bV true]) []) y' h') := by
 rw [Q8m]
 refine ⟨⟨?_, rfl⟩, trivial⟩
 repeat (first | exact rfl | refine ⟨rfl, ?_⟩)
theorem Zfq {q : Option Prop} {c : CV} {e n m cap xt : Nat} {x y : Nat → Int} {wh : Bool} : Qa6 Try.prog Qaq Qdi Try.f69 [caS 6 c (.sl 0 2 0 n cap)] (Qac [ptB e m x y xt wh]) 64 (fun y' h' => Qbh [ptB e m x y xt wh] (.det q (.tup [caS 6 (uc6 c) (Qa8), bV true]) []) y' h') := by
 rw [Q8l]
 refine ⟨⟨?_, rfl⟩, trivial⟩
 repeat (first | exact rfl | refine ⟨rfl, ?_⟩)
theorem Zfp {q : Option Prop} {c : CV} {e n m cap xt : Nat} {x y : Nat → Int} {wh : Bool} : Qa6 Try.prog Qaq Qdi Try.f69 [caS 7 c (.sl 0 2 0 n cap)] (Qac [ptB e m x y xt wh]) 64 (fun y' h' => Qbh [ptB e m x y xt wh] (.det q (.tup [caS 7 (uc7 c) (Qa8), bV true]) []) y' h') := by
 rw [Q8k]
 refine ⟨⟨?_, rfl⟩, trivial⟩
 repeat (first | exact rfl | refine ⟨rfl, ?_⟩)
theorem Zfo {q : Option Prop} {c : CV} {e n m cap xt : Nat} {x y : Nat → Int} {wh : Bool} : Qa6 Try.prog Qaq Qdi Try.f69 [caS 8 c (.sl 0 2 0 n cap)] (Qac [ptB e m x y xt wh]) 64 (fun y' h' => Qbh [ptB e m x y xt wh] (.det q (.tup [caS 8 (uc8 c) (Qa8), bV true]) []) y' h') := by
 rw [Q8j]
 refine ⟨⟨?_, rfl⟩, trivial⟩
 repeat (first | exact rfl | refine ⟨rfl, ?_⟩)
theorem Zfn {q : Option Prop} {c : CV} {e n m cap xt : Nat} {x y : Nat → Int} {wh : Bool} : Qa6 Try.prog Qaq Qdi Try.f69 [caS 9 c (.sl 0 2 0 n cap)] (Qac [ptB e m x y xt wh]) 64 (fun y' h' => Qbh [ptB e m x y xt wh] (.det q (.tup [caS 9 (uc9 c) (Qa8), bV true]) []) y' h') := by
 rw [Q8i]
 refine ⟨⟨?_, rfl⟩, trivial⟩
 repeat (first | exact rfl | refine ⟨rfl, ?_⟩)
theorem Q9k {q : Option Prop} {c : CV} {e n m cap xt : Nat} {x y : Nat → Int} {wh : Bool} : Qa6 Try.prog Qaq Qdi Try.f69 [caS 10 c (.sl 0 2 0 n cap)] (Qac [ptB e m x y xt wh]) 64 (fun y' h' => Qbh [ptB e m x y xt wh] (.det q (.tup [caS 10 (Qho c) (Qa8), bV true]) []) y' h') := by
 rw [Q2k]
 refine ⟨⟨?_, rfl⟩, trivial⟩
 repeat (first | exact rfl | refine ⟨rfl, ?_⟩)
theorem Qxe : Qbt Try.prog 69 Qzd := Qc0 hm Qax Try.func69 (Λ := fun _ _ => Qdi) fun args bs e hs hp => by
 unfold Qzd at hs
 split at hs
 · rename_i l
   split at hs
   · rename_i k c n cap hl
     split at hs
     · rename_i S
       obtain ⟨hS, hs⟩ := Qgj hs
       by_cases hk : 1 ≤ k ∧ k ≤ 10
       · rcases ten hk with rfl | rfl | rfl | rfl | rfl | rfl | rfl | rfl | rfl | rfl
         · have he := Option.some.inj hs
           subst he
           have hsp := hp _ rfl
           refine ⟨[ptB S.elem n (gX S) (gY S) S.ext S.whole], ⟨Qcq hS hsp, trivial⟩, ?_⟩
           rw [Qcs hl]
           exact Zfv
         · have he := Option.some.inj hs
           subst he
           have hsp := hp _ rfl
           refine ⟨[ptB S.elem n (gX S) (gY S) S.ext S.whole], ⟨Qcq hS hsp, trivial⟩, ?_⟩
           rw [Qcs hl]
           exact Zfu
         · have he := Option.some.inj hs
           subst he
           have hsp := hp _ rfl
           refine ⟨[ptB S.elem n (gX S) (gY S) S.ext S.whole], ⟨Qcq hS hsp, trivial⟩, ?_⟩
           rw [Qcs hl]
           exact Zft
         · have he := Option.some.inj hs
           subst he
           have hsp := hp _ rfl
           refine ⟨[ptB S.elem n (gX S) (gY S) S.ext S.whole], ⟨Qcq hS hsp, trivial⟩, ?_⟩
           rw [Qcs hl]
           exact Zfs
         · have he := Option.some.inj hs
           subst he
           have hsp := hp _ rfl
           refine ⟨[ptB S.elem n (gX S) (gY S) S.ext S.whole], ⟨Qcq hS hsp, trivial⟩, ?_⟩
           rw [Qcs hl]
           exact Zfr
         · have he := Option.some.inj hs
           subst he
           have hsp := hp _ rfl
           refine ⟨[ptB S.elem n (gX S) (gY S) S.ext S.whole], ⟨Qcq hS hsp, trivial⟩, ?_⟩
           rw [Qcs hl]
           exact Zfq
         · have he := Option.some.inj hs
           subst he
           have hsp := hp _ rfl
           refine ⟨[ptB S.elem n (gX S) (gY S) S.ext S.whole], ⟨Qcq hS hsp, trivial⟩, ?_⟩
           rw [Qcs hl]
           exact Zfp
         · have he := Option.some.inj hs
           subst he
           have hsp := hp _ rfl
           refine ⟨[ptB S.elem n (gX S) (gY S) S.ext S.whole], ⟨Qcq hS hsp, trivial⟩, ?_⟩
           rw [Qcs hl]
           exact Zfo
         · have he := Option.some.inj hs
           subst he
           have hsp := hp _ rfl
           refine ⟨[ptB S.elem n (gX S) (gY S) S.ext S.whole], ⟨Qcq hS hsp, trivial⟩, ?_⟩
           rw [Qcs hl]
           exact Zfn
         · have he := Option.some.inj hs
           subst he
           have hsp := hp _ rfl
           refine ⟨[ptB S.elem n (gX S) (gY S) S.ext S.whole], ⟨Qcq hS hsp, trivial⟩, ?_⟩
           rw [Qcs hl]
           exact Q9k
       · rw [show decide (k = 1) = false from decide_eq_false (by omega), show decide (k = 2) = false from decide_eq_false (by omega), show decide (k = 3) = false from decide_eq_false (by omega), show decide (k = 4) = false from decide_eq_false (by omega), show decide (k = 5) = false from decide_eq_false (by omega), show decide (k = 6) = false from decide_eq_false (by omega), show decide (k = 7) = false from decide_eq_false (by omega), show decide (k = 8) = false from decide_eq_false (by omega), show decide (k = 9) = false from decide_eq_false (by omega), show decide (k = 10) = false from decide_eq_false (by omega)] at hs
         cases hs
     · cases hs
   · cases hs
 · cases hs
end Go.Proofs.Ytjdldadmaaeimaa
end
