/-
  What the proof uses, part 12.
-/
import Derived.Test.YtjdldadmaaeimaaZa11

section
set_option maxRecDepth 100000
set_option linter.unusedSimpArgs false
set_option linter.unusedVariables false
namespace Go.Proofs.Ytjdldadmaaeimaa
open Go.SE Go.RowKit

structure CV where
  id : Int
  bs : Int
  bg : Int
  ver : Int
  sk : Int
  sr : Int
  sw : Int
  sh : Int
  p0v : Int
  p0f : Bool
  p1v : Int
  p1f : Bool
  p2v : Int
  p2f : Bool
  p3v : Int
  p3f : Bool
  v0v : Int
  v0f : Bool
  v1v : Int
  v1f : Bool
  w0v : Int
  w0f : Bool
  dn : Int
  mv : Bool
  a0v : Int
  a0f : Bool
  a1v : Int
  a1f : Bool
  t0v : Int
  t0f : Bool
  t1v : Int
  t1f : Bool
  gr : Int
  b0 : Int
  b1 : Int
  b2 : Int
  b3 : Int
  f0 : Int
  f1 : Int
  u0 : Int
  u1 : Int
def caS (k : Int) (c : CV) (pts : SV) : SV := .agg [.v (.int .i64 k), .v (.int .i64 c.id), .v (.int .i64 c.bs), .v (.int .i64 c.bg), .v (.int .i64 c.ver), .v (.int .i64 c.sk), .v (.int .i64 c.sr), .v (.int .i64 c.sw), .v (.int .i64 c.sh), pts, .v (.int .i64 c.p0v), .v (.bool c.p0f), .v (.int .i64 c.p1v), .v (.bool c.p1f), .v (.int .i64 c.p2v), .v (.bool c.p2f), .v (.int .i64 c.p3v), .v (.bool c.p3f), .v (.int .i64 c.v0v), .v (.bool c.v0f), .v (.int .i64 c.v1v), .v (.bool c.v1f), .v (.int .i64 c.w0v), .v (.bool c.w0f), .v (.int .i64 c.dn), .v (.bool c.mv), .v (.int .i64 c.a0v), .v (.bool c.a0f), .v (.int .i64 c.a1v), .v (.bool c.a1f), .v (.int .i64 c.t0v), .v (.bool c.t0f), .v (.int .i64 c.t1v), .v (.bool c.t1f), .v (.int .i64 c.gr), .v (.int .i64 c.b0), .v (.int .i64 c.b1), .v (.int .i64 c.b2), .v (.int .i64 c.b3), .v (.int .i64 c.f0), .v (.int .i64 c.f1), .v (.int .i64 c.u0), .v (.int .i64 c.u1)]
def zCV : CV := ⟨0, 0, 0, 0, 0, 0, 0, 0, 0, false, 0, false, 0, false, 0, false, 0, false, 0, false, 0, false, 0, false, 0, false, 0, false, 0, false, 0, false, 0, 0, 0, 0, 0, 0, 0, 0, 0⟩
def uc1 (c : CV) : CV := ⟨c.id, 0, 0, 0, c.sk, c.sr, c.sw, c.sh, c.p0v, c.p0f, c.p1v, c.p1f, c.p2v, c.p2f, c.p3v, c.p3f, c.v0v, c.v0f, c.v1v, c.v1f, c.w0v, c.w0f, c.dn, c.mv, 0, false, 0, false, 0, false, 0, false, 0, 0, 0, 0, 0, 0, 0, 0, 0⟩
def uc2 (c : CV) : CV := ⟨c.id, c.bs, c.bg, c.ver, 0, 0, 0, 0, 0, false, 0, false, 0, false, 0, false, 0, false, 0, false, 0, false, 0, false, 0, false, 0, false, 0, false, 0, false, 0, 0, 0, 0, 0, 0, 0, 0, 0⟩
def uc3 (c : CV) : CV := ⟨c.id, c.bs, c.bg, c.ver, 0, 0, 0, 0, 0, false, 0, false, 0, false, 0, false, 0, false, 0, false, 0, false, 0, false, c.a0v, c.a0f, c.a1v, c.a1f, c.t0v, c.t0f, c.t1v, c.t1f, 0, 0, 0, 0, 0, 0, 0, 0, 0⟩
def uc4 (c : CV) : CV := ⟨c.id, c.bs, c.bg, c.ver, 0, 0, 0, 0, 0, false, 0, false, 0, false, 0, false, 0, false, 0, false, 0, false, 0, false, c.a0v, c.a0f, c.a1v, c.a1f, 0, false, 0, false, 0, 0, 0, 0, 0, 0, 0, 0, 0⟩
def uc5 (c : CV) : CV := ⟨c.id, 0, 0, 0, 0, 0, 0, 0, 0, false, 0, false, 0, false, 0, false, 0, false, 0, false, 0, false, 0, false, 0, false, 0, false, c.t0v, c.t0f, c.t1v, c.t1f, c.gr, 0, 0, 0, 0, 0, 0, 0, 0⟩
def uc6 (c : CV) : CV := ⟨c.id, 0, 0, 0, 0, 0, 0, 0, 0, false, 0, false, 0, false, 0, false, 0, false, 0, false, 0, false, 0, false, 0, false, 0, false, 0, false, 0, false, c.gr, 0, 0, 0, 0, 0, 0, 0, 0⟩
def uc7 (c : CV) : CV := ⟨c.id, c.bs, c.bg, 0, 0, 0, 0, 0, 0, false, 0, false, 0, false, 0, false, 0, false, 0, false, 0, false, 0, false, 0, false, 0, false, 0, false, 0, false, 0, 0, 0, 0, 0, 0, 0, 0, 0⟩
def uc8 (c : CV) : CV := ⟨c.id, 0, 0, 0, 0, 0, 0, 0, 0, false, 0, false, 0, false, 0, false, 0, false, 0, false, 0, false, 0, false, 0, false, 0, false, 0, false, 0, false, 0, c.b0, c.b1, c.b2, c.b3, 0, 0, 0, 0⟩
def uc9 (c : CV) : CV := ⟨c.id, 0, 0, 0, 0, 0, 0, 0, 0, false, 0, false, 0, false, 0, false, 0, false, 0, false, 0, false, 0, false, 0, false, 0, false, 0, false, 0, false, 0, 0, 0, 0, 0, c.f0, c.f1, c.u0, c.u1⟩
def uc10 (c : CV) : CV := ⟨c.id, 0, 0, 0, 0, 0, 0, 0, 0, false, 0, false, 0, false, 0, false, 0, false, 0, false, 0, false, 0, false, 0, false, 0, false, 0, false, 0, false, 0, 0, 0, 0, 0, 0, 0, 0, 0⟩
def ptB (e n : Nat) (x y : Nat → Int) (xt : Nat) (wh : Bool) : Blk := { elem := e, size := 2, rw := false, lock := false, lit := false, flat := true, n := n, row := fun i => [.v (.int .i64 (x i)), .v (.int .i64 (y i))], ext := xt, whole := wh }
noncomputable def ΛUsed : Nat → Option LoopSpec := addPr (addPr noΛ 21 [(5, fun _ => 128), (7, fun _ => 128)]) 13 [(13, fun _ => 128), (15, fun _ => 128), (17, fun _ => 128), (19, fun _ => 128), (21, fun _ => 128), (23, fun _ => 128)]
theorem vcUsed1 (q : Option Prop) (c : CV) (e n m cap xt : Nat) (x y : Nat → Int) (wh : Bool) : (vcFn Try.prog noCtrs ΛUsed Try.f69 [caS 1 c (.sl 0 2 0 n cap)] (heapOf [ptB e m x y xt wh]) 64 (fun y' h' => FinE [ptB e m x y xt wh] (.det q (.tup [caS 1 (uc1 c) (.sl 0 2 0 n cap), bV true]) []) y' h')) =
(((((SV.v (Value.int IntKind.i64 1)) = (SV.v (Value.int IntKind.i64 1))) ∧ (((SV.v (Value.int IntKind.i64 (CV.id c))) = (SV.v (Value.int IntKind.i64 (CV.id (uc1 c))))) ∧ (((SV.v (Value.int IntKind.i64 0)) = (SV.v (Value.int IntKind.i64 (CV.bs (uc1 c))))) ∧ (((SV.v (Value.int IntKind.i64 0)) = (SV.v (Value.int IntKind.i64 (CV.bg (uc1 c))))) ∧ (((SV.v (Value.int IntKind.i64 0)) = (SV.v (Value.int IntKind.i64 (CV.ver (uc1 c))))) ∧ (((SV.v (Value.int IntKind.i64 (CV.sk c))) = (SV.v (Value.int IntKind.i64 (CV.sk (uc1 c))))) ∧ (((SV.v (Value.int IntKind.i64 (CV.sr c))) = (SV.v (Value.int IntKind.i64 (CV.sr (uc1 c))))) ∧ (((SV.v (Value.int IntKind.i64 (CV.sw c))) = (SV.v (Value.int IntKind.i64 (CV.sw (uc1 c))))) ∧ (((SV.v (Value.int IntKind.i64 (CV.sh c))) = (SV.v (Value.int IntKind.i64 (CV.sh (uc1 c))))) ∧ (((SV.sl 0 2 0 n cap) = (SV.sl 0 2 0 n cap)) ∧ (((SV.v (Value.int IntKind.i64 (CV.p0v c))) = (SV.v (Value.int IntKind.i64 (CV.p0v (uc1 c))))) ∧ (((SV.v (Value.bool (CV.p0f c))) = (SV.v (Value.bool (CV.p0f (uc1 c))))) ∧ (((SV.v (Value.int IntKind.i64 (CV.p1v c))) = (SV.v (Value.int IntKind.i64 (CV.p1v (uc1 c))))) ∧ (((SV.v (Value.bool (CV.p1f c))) = (SV.v (Value.bool (CV.p1f (uc1 c))))) ∧ (((SV.v (Value.int IntKind.i64 (CV.p2v c))) = (SV.v (Value.int IntKind.i64 (CV.p2v (uc1 c))))) ∧ (((SV.v (Value.bool (CV.p2f c))) = (SV.v (Value.bool (CV.p2f (uc1 c))))) ∧ (((SV.v (Value.int IntKind.i64 (CV.p3v c))) = (SV.v (Value.int IntKind.i64 (CV.p3v (uc1 c))))) ∧ (((SV.v (Value.bool (CV.p3f c))) = (SV.v (Value.bool (CV.p3f (uc1 c))))) ∧ (((SV.v (Value.int IntKind.i64 (CV.v0v c))) = (SV.v (Value.int IntKind.i64 (CV.v0v (uc1 c))))) ∧ (((SV.v (Value.bool (CV.v0f c))) = (SV.v (Value.bool (CV.v0f (uc1 c))))) ∧ (((SV.v (Value.int IntKind.i64 (CV.v1v c))) = (SV.v (Value.int IntKind.i64 (CV.v1v (uc1 c))))) ∧ (((SV.v (Value.bool (CV.v1f c))) = (SV.v (Value.bool (CV.v1f (uc1 c))))) ∧ (((SV.v (Value.int IntKind.i64 (CV.w0v c))) = (SV.v (Value.int IntKind.i64 (CV.w0v (uc1 c))))) ∧ (((SV.v (Value.bool (CV.w0f c))) = (SV.v (Value.bool (CV.w0f (uc1 c))))) ∧ (((SV.v (Value.int IntKind.i64 (CV.dn c))) = (SV.v (Value.int IntKind.i64 (CV.dn (uc1 c))))) ∧ (((SV.v (Value.bool (CV.mv c))) = (SV.v (Value.bool (CV.mv (uc1 c))))) ∧ (((SV.v (Value.int IntKind.i64 0)) = (SV.v (Value.int IntKind.i64 (CV.a0v (uc1 c))))) ∧ (((SV.v (Value.bool false)) = (SV.v (Value.bool false))) ∧ (((SV.v (Value.int IntKind.i64 0)) = (SV.v (Value.int IntKind.i64 (CV.a1v (uc1 c))))) ∧ (((SV.v (Value.bool false)) = (SV.v (Value.bool false))) ∧ (((SV.v (Value.int IntKind.i64 0)) = (SV.v (Value.int IntKind.i64 (CV.t0v (uc1 c))))) ∧ (((SV.v (Value.bool false)) = (SV.v (Value.bool false))) ∧ (((SV.v (Value.int IntKind.i64 0)) = (SV.v (Value.int IntKind.i64 (CV.t1v (uc1 c))))) ∧ (((SV.v (Value.bool false)) = (SV.v (Value.bool false))) ∧ (((SV.v (Value.int IntKind.i64 0)) = (SV.v (Value.int IntKind.i64 (CV.gr (uc1 c))))) ∧ (((SV.v (Value.int IntKind.i64 0)) = (SV.v (Value.int IntKind.i64 (CV.b0 (uc1 c))))) ∧ (((SV.v (Value.int IntKind.i64 0)) = (SV.v (Value.int IntKind.i64 (CV.b1 (uc1 c))))) ∧ (((SV.v (Value.int IntKind.i64 0)) = (SV.v (Value.int IntKind.i64 (CV.b2 (uc1 c))))) ∧ (((SV.v (Value.int IntKind.i64 0)) = (SV.v (Value.int IntKind.i64 (CV.b3 (uc1 c))))) ∧ (((SV.v (Value.int IntKind.i64 0)) = (SV.v (Value.int IntKind.i64 (CV.f0 (uc1 c))))) ∧ (((SV.v (Value.int IntKind.i64 0)) = (SV.v (Value.int IntKind.i64 (CV.f1 (uc1 c))))) ∧ (((SV.v (Value.int IntKind.i64 0)) = (SV.v (Value.int IntKind.i64 (CV.u0 (uc1 c))))) ∧ ((SV.v (Value.int IntKind.i64 0)) = (SV.v (Value.int IntKind.i64 (CV.u1 (uc1 c))))))))))))))))))))))))))))))))))))))))))))))) ∧ ((SV.v (Value.bool true)) = (SV.v (Value.bool true)))) ∧ True) := by kernel_rfl
theorem vcUsed2 (q : Option Prop) (c : CV) (e n m cap xt : Nat) (x y : Nat → Int) (wh : Bool) : (vcFn Try.prog noCtrs ΛUsed Try.f69 [caS 2 c (.sl 0 2 0 n cap)] (heapOf [ptB e m x y xt wh]) 64 (fun y' h' => FinE [ptB e m x y xt wh] (.det q (.tup [caS 2 (uc2 c) (nilS), bV true]) []) y' h')) =
(((((SV.v (Value.int IntKind.i64 2)) = (SV.v (Value.int IntKind.i64 2))) ∧ (((SV.v (Value.int IntKind.i64 (CV.id c))) = (SV.v (Value.int IntKind.i64 (CV.id (uc2 c))))) ∧ (((SV.v (Value.int IntKind.i64 (CV.bs c))) = (SV.v (Value.int IntKind.i64 (CV.bs (uc2 c))))) ∧ (((SV.v (Value.int IntKind.i64 (CV.bg c))) = (SV.v (Value.int IntKind.i64 (CV.bg (uc2 c))))) ∧ (((SV.v (Value.int IntKind.i64 (CV.ver c))) = (SV.v (Value.int IntKind.i64 (CV.ver (uc2 c))))) ∧ (((SV.v (Value.int IntKind.i64 0)) = (SV.v (Value.int IntKind.i64 (CV.sk (uc2 c))))) ∧ (((SV.v (Value.int IntKind.i64 0)) = (SV.v (Value.int IntKind.i64 (CV.sr (uc2 c))))) ∧ (((SV.v (Value.int IntKind.i64 0)) = (SV.v (Value.int IntKind.i64 (CV.sw (uc2 c))))) ∧ (((SV.v (Value.int IntKind.i64 0)) = (SV.v (Value.int IntKind.i64 (CV.sh (uc2 c))))) ∧ (((SV.v (Value.slice none 0 0)) = (SV.v (Value.slice none 0 0))) ∧ (((SV.v (Value.int IntKind.i64 0)) = (SV.v (Value.int IntKind.i64 (CV.p0v (uc2 c))))) ∧ (((SV.v (Value.bool false)) = (SV.v (Value.bool false))) ∧ (((SV.v (Value.int IntKind.i64 0)) = (SV.v (Value.int IntKind.i64 (CV.p1v (uc2 c))))) ∧ (((SV.v (Value.bool false)) = (SV.v (Value.bool false))) ∧ (((SV.v (Value.int IntKind.i64 0)) = (SV.v (Value.int IntKind.i64 (CV.p2v (uc2 c))))) ∧ (((SV.v (Value.bool false)) = (SV.v (Value.bool false))) ∧ (((SV.v (Value.int IntKind.i64 0)) = (SV.v (Value.int IntKind.i64 (CV.p3v (uc2 c))))) ∧ (((SV.v (Value.bool false)) = (SV.v (Value.bool false))) ∧ (((SV.v (Value.int IntKind.i64 0)) = (SV.v (Value.int IntKind.i64 (CV.v0v (uc2 c))))) ∧ (((SV.v (Value.bool false)) = (SV.v (Value.bool false))) ∧ (((SV.v (Value.int IntKind.i64 0)) = (SV.v (Value.int IntKind.i64 (CV.v1v (uc2 c))))) ∧ (((SV.v (Value.bool false)) = (SV.v (Value.bool false))) ∧ (((SV.v (Value.int IntKind.i64 0)) = (SV.v (Value.int IntKind.i64 (CV.w0v (uc2 c))))) ∧ (((SV.v (Value.bool false)) = (SV.v (Value.bool false))) ∧ (((SV.v (Value.int IntKind.i64 0)) = (SV.v (Value.int IntKind.i64 (CV.dn (uc2 c))))) ∧ (((SV.v (Value.bool false)) = (SV.v (Value.bool false))) ∧ (((SV.v (Value.int IntKind.i64 0)) = (SV.v (Value.int IntKind.i64 (CV.a0v (uc2 c))))) ∧ (((SV.v (Value.bool false)) = (SV.v (Value.bool false))) ∧ (((SV.v (Value.int IntKind.i64 0)) = (SV.v (Value.int IntKind.i64 (CV.a1v (uc2 c))))) ∧ (((SV.v (Value.bool false)) = (SV.v (Value.bool false))) ∧ (((SV.v (Value.int IntKind.i64 0)) = (SV.v (Value.int IntKind.i64 (CV.t0v (uc2 c))))) ∧ (((SV.v (Value.bool false)) = (SV.v (Value.bool false))) ∧ (((SV.v (Value.int IntKind.i64 0)) = (SV.v (Value.int IntKind.i64 (CV.t1v (uc2 c))))) ∧ (((SV.v (Value.bool false)) = (SV.v (Value.bool false))) ∧ (((SV.v (Value.int IntKind.i64 0)) = (SV.v (Value.int IntKind.i64 (CV.gr (uc2 c))))) ∧ (((SV.v (Value.int IntKind.i64 0)) = (SV.v (Value.int IntKind.i64 (CV.b0 (uc2 c))))) ∧ (((SV.v (Value.int IntKind.i64 0)) = (SV.v (Value.int IntKind.i64 (CV.b1 (uc2 c))))) ∧ (((SV.v (Value.int IntKind.i64 0)) = (SV.v (Value.int IntKind.i64 (CV.b2 (uc2 c))))) ∧ (((SV.v (Value.int IntKind.i64 0)) = (SV.v (Value.int IntKind.i64 (CV.b3 (uc2 c))))) ∧ (((SV.v (Value.int IntKind.i64 0)) = (SV.v (Value.int IntKind.i64 (CV.f0 (uc2 c))))) ∧ (((SV.v (Value.int IntKind.i64 0)) = (SV.v (Value.int IntKind.i64 (CV.f1 (uc2 c))))) ∧ (((SV.v (Value.int IntKind.i64 0)) = (SV.v (Value.int IntKind.i64 (CV.u0 (uc2 c))))) ∧ ((SV.v (Value.int IntKind.i64 0)) = (SV.v (Value.int IntKind.i64 (CV.u1 (uc2 c))))))))))))))))))))))))))))))))))))))))))))))) ∧ ((SV.v (Value.bool true)) = (SV.v (Value.bool true)))) ∧ True) := by kernel_rfl
theorem vcUsed3 (q : Option Prop) (c : CV) (e n m cap xt : Nat) (x y : Nat → Int) (wh : Bool) : (vcFn Try.prog noCtrs ΛUsed Try.f69 [caS 3 c (.sl 0 2 0 n cap)] (heapOf [ptB e m x y xt wh]) 64 (fun y' h' => FinE [ptB e m x y xt wh] (.det q (.tup [caS 3 (uc3 c) (nilS), bV true]) []) y' h')) =
(((((SV.v (Value.int IntKind.i64 3)) = (SV.v (Value.int IntKind.i64 3))) ∧ (((SV.v (Value.int IntKind.i64 (CV.id c))) = (SV.v (Value.int IntKind.i64 (CV.id (uc3 c))))) ∧ (((SV.v (Value.int IntKind.i64 (CV.bs c))) = (SV.v (Value.int IntKind.i64 (CV.bs (uc3 c))))) ∧ (((SV.v (Value.int IntKind.i64 (CV.bg c))) = (SV.v (Value.int IntKind.i64 (CV.bg (uc3 c))))) ∧ (((SV.v (Value.int IntKind.i64 (CV.ver c))) = (SV.v (Value.int IntKind.i64 (CV.ver (uc3 c))))) ∧ (((SV.v (Value.int IntKind.i64 0)) = (SV.v (Value.int IntKind.i64 (CV.sk (uc3 c))))) ∧ (((SV.v (Value.int IntKind.i64 0)) = (SV.v (Value.int IntKind.i64 (CV.sr (uc3 c))))) ∧ (((SV.v (Value.int IntKind.i64 0)) = (SV.v (Value.int IntKind.i64 (CV.sw (uc3 c))))) ∧ (((SV.v (Value.int IntKind.i64 0)) = (SV.v (Value.int IntKind.i64 (CV.sh (uc3 c))))) ∧ (((SV.v (Value.slice none 0 0)) = (SV.v (Value.slice none 0 0))) ∧ (((SV.v (Value.int IntKind.i64 0)) = (SV.v (Value.int IntKind.i64 (CV.p0v (uc3 c))))) ∧ (((SV.v (Value.bool false)) = (SV.v (Value.bool false))) ∧ (((SV.v (Value.int IntKind.i64 0)) = (SV.v (Value.int IntKind.i64 (CV.p1v (uc3 c))))) ∧ (((SV.v (Value.bool false)) = (SV.v (Value.bool false))) ∧ (((SV.v (Value.int IntKind.i64 0)) = (SV.v (Value.int IntKind.i64 (CV.p2v (uc3 c))))) ∧ (((SV.v (Value.bool false)) = (SV.v (Value.bool false))) ∧ (((SV.v (Value.int IntKind.i64 0)) = (SV.v (Value.int IntKind.i64 (CV.p3v (uc3 c))))) ∧ (((SV.v (Value.bool false)) = (SV.v (Value.bool false))) ∧ (((SV.v (Value.int IntKind.i64 0)) = (SV.v (Value.int IntKind.i64 (CV.v0v (uc3 c))))) ∧ (((SV.v (Value.bool false)) = (SV.v (Value.bool false))) ∧ (((SV.v (Value.int IntKind.i64 0)) = (SV.v (Value.int IntKind.i64 (CV.v1v (uc3 c))))) ∧ (((SV.v (Value.bool false)) = (SV.v (Value.bool false))) ∧ (((SV.v (Value.int IntKind.i64 0)) = (SV.v (Value.int IntKind.i64 (CV.w0v (uc3 c))))) ∧ (((SV.v (Value.bool false)) = (SV.v (Value.bool false))) ∧ (((SV.v (Value.int IntKind.i64 0)) = (SV.v (Value.int IntKind.i64 (CV.dn (uc3 c))))) ∧ (((SV.v (Value.bool false)) = (SV.v (Value.bool false))) ∧ (((SV.v (Value.int IntKind.i64 (CV.a0v c))) = (SV.v (Value.int IntKind.i64 (CV.a0v (uc3 c))))) ∧ (((SV.v (Value.bool (CV.a0f c))) = (SV.v (Value.bool (CV.a0f (uc3 c))))) ∧ (((SV.v (Value.int IntKind.i64 (CV.a1v c))) = (SV.v (Value.int IntKind.i64 (CV.a1v (uc3 c))))) ∧ (((SV.v (Value.bool (CV.a1f c))) = (SV.v (Value.bool (CV.a1f (uc3 c))))) ∧ (((SV.v (Value.int IntKind.i64 (CV.t0v c))) = (SV.v (Value.int IntKind.i64 (CV.t0v (uc3 c))))) ∧ (((SV.v (Value.bool (CV.t0f c))) = (SV.v (Value.bool (CV.t0f (uc3 c))))) ∧ (((SV.v (Value.int IntKind.i64 (CV.t1v c))) = (SV.v (Value.int IntKind.i64 (CV.t1v (uc3 c))))) ∧ (((SV.v (Value.bool (CV.t1f c))) = (SV.v (Value.bool (CV.t1f (uc3 c))))) ∧ (((SV.v (Value.int IntKind.i64 0)) = (SV.v (Value.int IntKind.i64 (CV.gr (uc3 c))))) ∧ (((SV.v (Value.int IntKind.i64 0)) = (SV.v (Value.int IntKind.i64 (CV.b0 (uc3 c))))) ∧ (((SV.v (Value.int IntKind.i64 0)) = (SV.v (Value.int IntKind.i64 (CV.b1 (uc3 c))))) ∧ (((SV.v (Value.int IntKind.i64 0)) = (SV.v (Value.int IntKind.i64 (CV.b2 (uc3 c))))) ∧ (((SV.v (Value.int IntKind.i64 0)) = (SV.v (Value.int IntKind.i64 (CV.b3 (uc3 c))))) ∧ (((SV.v (Value.int IntKind.i64 0)) = (SV.v (Value.int IntKind.i64 (CV.f0 (uc3 c))))) ∧ (((SV.v (Value.int IntKind.i64 0)) = (SV.v (Value.int IntKind.i64 (CV.f1 (uc3 c))))) ∧ (((SV.v (Value.int IntKind.i64 0)) = (SV.v (Value.int IntKind.i64 (CV.u0 (uc3 c))))) ∧ ((SV.v (Value.int IntKind.i64 0)) = (SV.v (Value.int IntKind.i64 (CV.u1 (uc3 c))))))))))))))))))))))))))))))))))))))))))))))) ∧ ((SV.v (Value.bool true)) = (SV.v (Value.bool true)))) ∧ True) := by kernel_rfl
theorem vcUsed4 (q : Option Prop) (c : CV) (e n m cap xt : Nat) (x y : Nat → Int) (wh : Bool) : (vcFn Try.prog noCtrs ΛUsed Try.f69 [caS 4 c (.sl 0 2 0 n cap)] (heapOf [ptB e m x y xt wh]) 64 (fun y' h' => FinE [ptB e m x y xt wh] (.det q (.tup [caS 4 (uc4 c) (nilS), bV true]) []) y' h')) =
(((((SV.v (Value.int IntKind.i64 4)) = (SV.v (Value.int IntKind.i64 4))) ∧ (((SV.v (Value.int IntKind.i64 (CV.id c))) = (SV.v (Value.int IntKind.i64 (CV.id (uc4 c))))) ∧ (((SV.v (Value.int IntKind.i64 (CV.bs c))) = (SV.v (Value.int IntKind.i64 (CV.bs (uc4 c))))) ∧ (((SV.v (Value.int IntKind.i64 (CV.bg c))) = (SV.v (Value.int IntKind.i64 (CV.bg (uc4 c))))) ∧ (((SV.v (Value.int IntKind.i64 (CV.ver c))) = (SV.v (Value.int IntKind.i64 (CV.ver (uc4 c))))) ∧ (((SV.v (Value.int IntKind.i64 0)) = (SV.v (Value.int IntKind.i64 (CV.sk (uc4 c))))) ∧ (((SV.v (Value.int IntKind.i64 0)) = (SV.v (Value.int IntKind.i64 (CV.sr (uc4 c))))) ∧ (((SV.v (Value.int IntKind.i64 0)) = (SV.v (Value.int IntKind.i64 (CV.sw (uc4 c))))) ∧ (((SV.v (Value.int IntKind.i64 0)) = (SV.v (Value.int IntKind.i64 (CV.sh (uc4 c))))) ∧ (((SV.v (Value.slice none 0 0)) = (SV.v (Value.slice none 0 0))) ∧ (((SV.v (Value.int IntKind.i64 0)) = (SV.v (Value.int IntKind.i64 (CV.p0v (uc4 c))))) ∧ (((SV.v (Value.bool false)) = (SV.v (Value.bool false))) ∧ (((SV.v (Value.int IntKind.i64 0)) = (SV.v (Value.int IntKind.i64 (CV.p1v (uc4 c))))) ∧ (((SV.v (Value.bool false)) = (SV.v (Value.bool false))) ∧ (((SV.v (Value.int IntKind.i64 0)) = (SV.v (Value.int IntKind.i64 (CV.p2v (uc4 c))))) ∧ (((SV.v (Value.bool false)) = (SV.v (Value.bool false))) ∧ (((SV.v (Value.int IntKind.i64 0)) = (SV.v (Value.int IntKind.i64 (CV.p3v (uc4 c))))) ∧ (((SV.v (Value.bool false)) = (SV.v (Value.bool false))) ∧ (((SV.v (Value.int IntKind.i64 0)) = (SV.v (Value.int IntKind.i64 (CV.v0v (uc4 c))))) ∧ (((SV.v (Value.bool false)) = (SV.v (Value.bool false))) ∧ (((SV.v (Value.int IntKind.i64 0)) = (SV.v (Value.int IntKind.i64 (CV.v1v (uc4 c))))) ∧ (((SV.v (Value.bool false)) = (SV.v (Value.bool false))) ∧ (((SV.v (Value.int IntKind.i64 0)) = (SV.v (Value.int IntKind.i64 (CV.w0v (uc4 c))))) ∧ (((SV.v (Value.bool false)) = (SV.v (Value.bool false))) ∧ (((SV.v (Value.int IntKind.i64 0)) = (SV.v (Value.int IntKind.i64 (CV.dn (uc4 c))))) ∧ (((SV.v (Value.bool false)) = (SV.v (Value.bool false))) ∧ (((SV.v (Value.int IntKind.i64 (CV.a0v c))) = (SV.v (Value.int IntKind.i64 (CV.a0v (uc4 c))))) ∧ (((SV.v (Value.bool (CV.a0f c))) = (SV.v (Value.bool (CV.a0f (uc4 c))))) ∧ (((SV.v (Value.int IntKind.i64 (CV.a1v c))) = (SV.v (Value.int IntKind.i64 (CV.a1v (uc4 c))))) ∧ (((SV.v (Value.bool (CV.a1f c))) = (SV.v (Value.bool (CV.a1f (uc4 c))))) ∧ (((SV.v (Value.int IntKind.i64 0)) = (SV.v (Value.int IntKind.i64 (CV.t0v (uc4 c))))) ∧ (((SV.v (Value.bool false)) = (SV.v (Value.bool false))) ∧ (((SV.v (Value.int IntKind.i64 0)) = (SV.v (Value.int IntKind.i64 (CV.t1v (uc4 c))))) ∧ (((SV.v (Value.bool false)) = (SV.v (Value.bool false))) ∧ (((SV.v (Value.int IntKind.i64 0)) = (SV.v (Value.int IntKind.i64 (CV.gr (uc4 c))))) ∧ (((SV.v (Value.int IntKind.i64 0)) = (SV.v (Value.int IntKind.i64 (CV.b0 (uc4 c))))) ∧ (((SV.v (Value.int IntKind.i64 0)) = (SV.v (Value.int IntKind.i64 (CV.b1 (uc4 c))))) ∧ (((SV.v (Value.int IntKind.i64 0)) = (SV.v (Value.int IntKind.i64 (CV.b2 (uc4 c))))) ∧ (((SV.v (Value.int IntKind.i64 0)) = (SV.v (Value.int IntKind.i64 (CV.b3 (uc4 c))))) ∧ (((SV.v (Value.int IntKind.i64 0)) = (SV.v (Value.int IntKind.i64 (CV.f0 (uc4 c))))) ∧ (((SV.v (Value.int IntKind.i64 0)) = (SV.v (Value.int IntKind.i64 (CV.f1 (uc4 c))))) ∧ (((SV.v (Value.int IntKind.i64 0)) = (SV.v (Value.int IntKind.i64 (CV.u0 (uc4 c))))) ∧ ((SV.v (Value.int IntKind.i64 0)) = (SV.v (Value.int IntKind.i64 (CV.u1 (uc4 c))))))))))))))))))))))))))))))))))))))))))))))) ∧ ((SV.v (Value.bool true)) = (SV.v (Value.bool true)))) ∧ True) := by kernel_rfl
theorem vcUsed5 (q : Option Prop) (c : CV) (e n m cap xt : Nat) (x y : Nat → Int) (wh : Bool) : (vcFn Try.prog noCtrs ΛUsed Try.f69 [caS 5 c (.sl 0 2 0 n cap)] (heapOf [ptB e m x y xt wh]) 64 (fun y' h' => FinE [ptB e m x y xt wh] (.det q (.tup [caS 5 (uc5 c) (nilS), bV true]) []) y' h')) =
(((((SV.v (Value.int IntKind.i64 5)) = (SV.v (Value.int IntKind.i64 5))) ∧ (((SV.v (Value.int IntKind.i64 (CV.id c))) = (SV.v (Value.int IntKind.i64 (CV.id (uc5 c))))) ∧ (((SV.v (Value.int IntKind.i64 0)) = (SV.v (Value.int IntKind.i64 (CV.bs (uc5 c))))) ∧ (((SV.v (Value.int IntKind.i64 0)) = (SV.v (Value.int IntKind.i64 (CV.bg (uc5 c))))) ∧ (((SV.v (Value.int IntKind.i64 0)) = (SV.v (Value.int IntKind.i64 (CV.ver (uc5 c))))) ∧ (((SV.v (Value.int IntKind.i64 0)) = (SV.v (Value.int IntKind.i64 (CV.sk (uc5 c))))) ∧ (((SV.v (Value.int IntKind.i64 0)) = (SV.v (Value.int IntKind.i64 (CV.sr (uc5 c))))) ∧ (((SV.v (Value.int IntKind.i64 0)) = (SV.v (Value.int IntKind.i64 (CV.sw (uc5 c))))) ∧ (((SV.v (Value.int IntKind.i64 0)) = (SV.v (Value.int IntKind.i64 (CV.sh (uc5 c))))) ∧ (((SV.v (Value.slice none 0 0)) = (SV.v (Value.slice none 0 0))) ∧ (((SV.v (Value.int IntKind.i64 0)) = (SV.v (Value.int IntKind.i64 (CV.p0v (uc5 c))))) ∧ (((SV.v (Value.bool false)) = (SV.v (Value.bool false))) ∧ (((SV.v (Value.int IntKind.i64 0)) = (SV.v (Value.int IntKind.i64 (CV.p1v (uc5 c))))) ∧ (((SV.v (Value.bool false)) = (SV.v (Value.bool false))) ∧ (((SV.v (Value.int IntKind.i64 0)) = (SV.v (Value.int IntKind.i64 (CV.p2v (uc5 c))))) ∧ (((SV.v (Value.bool false)) = (SV.v (Value.bool false))) ∧ (((SV.v (Value.int IntKind.i64 0)) = (SV.v (Value.int IntKind.i64 (CV.p3v (uc5 c))))) ∧ (((SV.v (Value.bool false)) = (SV.v (Value.bool false))) ∧ (((SV.v (Value.int IntKind.i64 0)) = (SV.v (Value.int IntKind.i64 (CV.v0v (uc5 c))))) ∧ (((SV.v (Value.bool false)) = (SV.v (Value.bool false))) ∧ (((SV.v (Value.int IntKind.i64 0)) = (SV.v (Value.int IntKind.i64 (CV.v1v (uc5 c))))) ∧ (((SV.v (Value.bool false)) = (SV.v (Value.bool false))) ∧ (((SV.v (Value.int IntKind.i64 0)) = (SV.v (Value.int IntKind.i64 (CV.w0v (uc5 c))))) ∧ (((SV.v (Value.bool false)) = (SV.v (Value.bool false))) ∧ (((SV.v (Value.int IntKind.i64 0)) = (SV.v (Value.int IntKind.i64 (CV.dn (uc5 c))))) ∧ (((SV.v (Value.bool false)) = (SV.v (Value.bool false))) ∧ (((SV.v (Value.int IntKind.i64 0)) = (SV.v (Value.int IntKind.i64 (CV.a0v (uc5 c))))) ∧ (((SV.v (Value.bool false)) = (SV.v (Value.bool false))) ∧ (((SV.v (Value.int IntKind.i64 0)) = (SV.v (Value.int IntKind.i64 (CV.a1v (uc5 c))))) ∧ (((SV.v (Value.bool false)) = (SV.v (Value.bool false))) ∧ (((SV.v (Value.int IntKind.i64 (CV.t0v c))) = (SV.v (Value.int IntKind.i64 (CV.t0v (uc5 c))))) ∧ (((SV.v (Value.bool (CV.t0f c))) = (SV.v (Value.bool (CV.t0f (uc5 c))))) ∧ (((SV.v (Value.int IntKind.i64 (CV.t1v c))) = (SV.v (Value.int IntKind.i64 (CV.t1v (uc5 c))))) ∧ (((SV.v (Value.bool (CV.t1f c))) = (SV.v (Value.bool (CV.t1f (uc5 c))))) ∧ (((SV.v (Value.int IntKind.i64 (CV.gr c))) = (SV.v (Value.int IntKind.i64 (CV.gr (uc5 c))))) ∧ (((SV.v (Value.int IntKind.i64 0)) = (SV.v (Value.int IntKind.i64 (CV.b0 (uc5 c))))) ∧ (((SV.v (Value.int IntKind.i64 0)) = (SV.v (Value.int IntKind.i64 (CV.b1 (uc5 c))))) ∧ (((SV.v (Value.int IntKind.i64 0)) = (SV.v (Value.int IntKind.i64 (CV.b2 (uc5 c))))) ∧ (((SV.v (Value.int IntKind.i64 0)) = (SV.v (Value.int IntKind.i64 (CV.b3 (uc5 c))))) ∧ (((SV.v (Value.int IntKind.i64 0)) = (SV.v (Value.int IntKind.i64 (CV.f0 (uc5 c))))) ∧ (((SV.v (Value.int IntKind.i64 0)) = (SV.v (Value.int IntKind.i64 (CV.f1 (uc5 c))))) ∧ (((SV.v (Value.int IntKind.i64 0)) = (SV.v (Value.int IntKind.i64 (CV.u0 (uc5 c))))) ∧ ((SV.v (Value.int IntKind.i64 0)) = (SV.v (Value.int IntKind.i64 (CV.u1 (uc5 c))))))))))))))))))))))))))))))))))))))))))))))) ∧ ((SV.v (Value.bool true)) = (SV.v (Value.bool true)))) ∧ True) := by kernel_rfl
theorem vcUsed6 (q : Option Prop) (c : CV) (e n m cap xt : Nat) (x y : Nat → Int) (wh : Bool) : (vcFn Try.prog noCtrs ΛUsed Try.f69 [caS 6 c (.sl 0 2 0 n cap)] (heapOf [ptB e m x y xt wh]) 64 (fun y' h' => FinE [ptB e m x y xt wh] (.det q (.tup [caS 6 (uc6 c) (nilS), bV true]) []) y' h')) =
(((((SV.v (Value.int IntKind.i64 6)) = (SV.v (Value.int IntKind.i64 6))) ∧ (((SV.v (Value.int IntKind.i64 (CV.id c))) = (SV.v (Value.int IntKind.i64 (CV.id (uc6 c))))) ∧ (((SV.v (Value.int IntKind.i64 0)) = (SV.v (Value.int IntKind.i64 (CV.bs (uc6 c))))) ∧ (((SV.v (Value.int IntKind.i64 0)) = (SV.v (Value.int IntKind.i64 (CV.bg (uc6 c))))) ∧ (((SV.v (Value.int IntKind.i64 0)) = (SV.v (Value.int IntKind.i64 (CV.ver (uc6 c))))) ∧ (((SV.v (Value.int IntKind.i64 0)) = (SV.v (Value.int IntKind.i64 (CV.sk (uc6 c))))) ∧ (((SV.v (Value.int IntKind.i64 0)) = (SV.v (Value.int IntKind.i64 (CV.sr (uc6 c))))) ∧ (((SV.v (Value.int IntKind.i64 0)) = (SV.v (Value.int IntKind.i64 (CV.sw (uc6 c))))) ∧ (((SV.v (Value.int IntKind.i64 0)) = (SV.v (Value.int IntKind.i64 (CV.sh (uc6 c))))) ∧ (((SV.v (Value.slice none 0 0)) = (SV.v (Value.slice none 0 0))) ∧ (((SV.v (Value.int IntKind.i64 0)) = (SV.v (Value.int IntKind.i64 (CV.p0v (uc6 c))))) ∧ (((SV.v (Value.bool false)) = (SV.v (Value.bool false))) ∧ (((SV.v (Value.int IntKind.i64 0)) = (SV.v (Value.int IntKind.i64 (CV.p1v (uc6 c))))) ∧ (((SV.v (Value.bool false)) = (SV.v (Value.bool false))) ∧ (((SV.v (Value.int IntKind.i64 0)) = (SV.v (Value.int IntKind.i64 (CV.p2v (uc6 c))))) ∧ (((SV.v (Value.bool false)) = (SV.v (Value.bool false))) ∧ (((SV.v (Value.int IntKind.i64 0)) = (SV.v (Value.int IntKind.i64 (CV.p3v (uc6 c))))) ∧ (((SV.v (Value.bool false)) = (SV.v (Value.bool false))) ∧ (((SV.v (Value.int IntKind.i64 0)) = (SV.v (Value.int IntKind.i64 (CV.v0v (uc6 c))))) ∧ (((SV.v (Value.bool false)) = (SV.v (Value.bool false))) ∧ (((SV.v (Value.int IntKind.i64 0)) = (SV.v (Value.int IntKind.i64 (CV.v1v (uc6 c))))) ∧ (((SV.v (Value.bool false)) = (SV.v (Value.bool false))) ∧ (((SV.v (Value.int IntKind.i64 0)) = (SV.v (Value.int IntKind.i64 (CV.w0v (uc6 c))))) ∧ (((SV.v (Value.bool false)) = (SV.v (Value.bool false))) ∧ (((SV.v (Value.int IntKind.i64 0)) = (SV.v (Value.int IntKind.i64 (CV.dn (uc6 c))))) ∧ (((SV.v (Value.bool false)) = (SV.v (Value.bool false))) ∧ (((SV.v (Value.int IntKind.i64 0)) = (SV.v (Value.int IntKind.i64 (CV.a0v (uc6 c))))) ∧ (((SV.v (Value.bool false)) = (SV.v (Value.bool false))) ∧ (((SV.v (Value.int IntKind.i64 0)) = (SV.v (Value.int IntKind.i64 (CV.a1v (uc6 c))))) ∧ (((SV.v (Value.bool false)) = (SV.v (Value.bool false))) ∧ (((SV.v (Value.int IntKind.i64 0)) = (SV.v (Value.int IntKind.i64 (CV.t0v (uc6 c))))) ∧ (((SV.v (Value.bool false)) = (SV.v (Value.bool false))) ∧ (((SV.v (Value.int IntKind.i64 0)) = (SV.v (Value.int IntKind.i64 (CV.t1v (uc6 c))))) ∧ (((SV.v (Value.bool false)) = (SV.v (Value.bool false))) ∧ (((SV.v (Value.int IntKind.i64 (CV.gr c))) = (SV.v (Value.int IntKind.i64 (CV.gr (uc6 c))))) ∧ (((SV.v (Value.int IntKind.i64 0)) = (SV.v (Value.int IntKind.i64 (CV.b0 (uc6 c))))) ∧ (((SV.v (Value.int IntKind.i64 0)) = (SV.v (Value.int IntKind.i64 (CV.b1 (uc6 c))))) ∧ (((SV.v (Value.int IntKind.i64 0)) = (SV.v (Value.int IntKind.i64 (CV.b2 (uc6 c))))) ∧ (((SV.v (Value.int IntKind.i64 0)) = (SV.v (Value.int IntKind.i64 (CV.b3 (uc6 c))))) ∧ (((SV.v (Value.int IntKind.i64 0)) = (SV.v (Value.int IntKind.i64 (CV.f0 (uc6 c))))) ∧ (((SV.v (Value.int IntKind.i64 0)) = (SV.v (Value.int IntKind.i64 (CV.f1 (uc6 c))))) ∧ (((SV.v (Value.int IntKind.i64 0)) = (SV.v (Value.int IntKind.i64 (CV.u0 (uc6 c))))) ∧ ((SV.v (Value.int IntKind.i64 0)) = (SV.v (Value.int IntKind.i64 (CV.u1 (uc6 c))))))))))))))))))))))))))))))))))))))))))))))) ∧ ((SV.v (Value.bool true)) = (SV.v (Value.bool true)))) ∧ True) := by kernel_rfl
theorem vcUsed7 (q : Option Prop) (c : CV) (e n m cap xt : Nat) (x y : Nat → Int) (wh : Bool) : (vcFn Try.prog noCtrs ΛUsed Try.f69 [caS 7 c (.sl 0 2 0 n cap)] (heapOf [ptB e m x y xt wh]) 64 (fun y' h' => FinE [ptB e m x y xt wh] (.det q (.tup [caS 7 (uc7 c) (nilS), bV true]) []) y' h')) =
(((((SV.v (Value.int IntKind.i64 7)) = (SV.v (Value.int IntKind.i64 7))) ∧ (((SV.v (Value.int IntKind.i64 (CV.id c))) = (SV.v (Value.int IntKind.i64 (CV.id (uc7 c))))) ∧ (((SV.v (Value.int IntKind.i64 (CV.bs c))) = (SV.v (Value.int IntKind.i64 (CV.bs (uc7 c))))) ∧ (((SV.v (Value.int IntKind.i64 (CV.bg c))) = (SV.v (Value.int IntKind.i64 (CV.bg (uc7 c))))) ∧ (((SV.v (Value.int IntKind.i64 0)) = (SV.v (Value.int IntKind.i64 (CV.ver (uc7 c))))) ∧ (((SV.v (Value.int IntKind.i64 0)) = (SV.v (Value.int IntKind.i64 (CV.sk (uc7 c))))) ∧ (((SV.v (Value.int IntKind.i64 0)) = (SV.v (Value.int IntKind.i64 (CV.sr (uc7 c))))) ∧ (((SV.v (Value.int IntKind.i64 0)) = (SV.v (Value.int IntKind.i64 (CV.sw (uc7 c))))) ∧ (((SV.v (Value.int IntKind.i64 0)) = (SV.v (Value.int IntKind.i64 (CV.sh (uc7 c))))) ∧ (((SV.v (Value.slice none 0 0)) = (SV.v (Value.slice none 0 0))) ∧ (((SV.v (Value.int IntKind.i64 0)) = (SV.v (Value.int IntKind.i64 (CV.p0v (uc7 c))))) ∧ (((SV.v (Value.bool false)) = (SV.v (Value.bool false))) ∧ (((SV.v (Value.int IntKind.i64 0)) = (SV.v (Value.int IntKind.i64 (CV.p1v (uc7 c))))) ∧ (((SV.v (Value.bool false)) = (SV.v (Value.bool false))) ∧ (((SV.v (Value.int IntKind.i64 0)) = (SV.v (Value.int IntKind.i64 (CV.p2v (uc7 c))))) ∧ (((SV.v (Value.bool false)) = (SV.v (Value.bool false))) ∧ (((SV.v (Value.int IntKind.i64 0)) = (SV.v (Value.int IntKind.i64 (CV.p3v (uc7 c))))) ∧ (((SV.v (Value.bool false)) = (SV.v (Value.bool false))) ∧ (((SV.v (Value.int IntKind.i64 0)) = (SV.v (Value.int IntKind.i64 (CV.v0v (uc7 c))))) ∧ (((SV.v (Value.bool false)) = (SV.v (Value.bool false))) ∧ (((SV.v (Value.int IntKind.i64 0)) = (SV.v (Value.int IntKind.i64 (CV.v1v (uc7 c))))) ∧ (((SV.v (Value.bool false)) = (SV.v (Value.bool false))) ∧ (((SV.v (Value.int IntKind.i64 0)) = (SV.v (Value.int IntKind.i64 (CV.w0v (uc7 c))))) ∧ (((SV.v (Value.bool false)) = (SV.v (Value.bool false))) ∧ (((SV.v (Value.int IntKind.i64 0)) = (SV.v (Value.int IntKind.i64 (CV.dn (uc7 c))))) ∧ (((SV.v (Value.bool false)) = (SV.v (Value.bool false))) ∧ (((SV.v (Value.int IntKind.i64 0)) = (SV.v (Value.int IntKind.i64 (CV.a0v (uc7 c))))) ∧ (((SV.v (Value.bool false)) = (SV.v (Value.bool false))) ∧ (((SV.v (Value.int IntKind.i64 0)) = (SV.v (Value.int IntKind.i64 (CV.a1v (uc7 c))))) ∧ (((SV.v (Value.bool false)) = (SV.v (Value.bool false))) ∧ (((SV.v (Value.int IntKind.i64 0)) = (SV.v (Value.int IntKind.i64 (CV.t0v (uc7 c))))) ∧ (((SV.v (Value.bool false)) = (SV.v (Value.bool false))) ∧ (((SV.v (Value.int IntKind.i64 0)) = (SV.v (Value.int IntKind.i64 (CV.t1v (uc7 c))))) ∧ (((SV.v (Value.bool false)) = (SV.v (Value.bool false))) ∧ (((SV.v (Value.int IntKind.i64 0)) = (SV.v (Value.int IntKind.i64 (CV.gr (uc7 c))))) ∧ (((SV.v (Value.int IntKind.i64 0)) = (SV.v (Value.int IntKind.i64 (CV.b0 (uc7 c))))) ∧ (((SV.v (Value.int IntKind.i64 0)) = (SV.v (Value.int IntKind.i64 (CV.b1 (uc7 c))))) ∧ (((SV.v (Value.int IntKind.i64 0)) = (SV.v (Value.int IntKind.i64 (CV.b2 (uc7 c))))) ∧ (((SV.v (Value.int IntKind.i64 0)) = (SV.v (Value.int IntKind.i64 (CV.b3 (uc7 c))))) ∧ (((SV.v (Value.int IntKind.i64 0)) = (SV.v (Value.int IntKind.i64 (CV.f0 (uc7 c))))) ∧ (((SV.v (Value.int IntKind.i64 0)) = (SV.v (Value.int IntKind.i64 (CV.f1 (uc7 c))))) ∧ (((SV.v (Value.int IntKind.i64 0)) = (SV.v (Value.int IntKind.i64 (CV.u0 (uc7 c))))) ∧ ((SV.v (Value.int IntKind.i64 0)) = (SV.v (Value.int IntKind.i64 (CV.u1 (uc7 c))))))))))))))))))))))))))))))))))))))))))))))) ∧ ((SV.v (Value.bool true)) = (SV.v (Value.bool true)))) ∧ True) := by kernel_rfl
theorem vcUsed8 (q : Option Prop) (c : CV) (e n m cap xt : Nat) (x y : Nat → Int) (wh : Bool) : (vcFn Try.prog noCtrs ΛUsed Try.f69 [caS 8 c (.sl 0 2 0 n cap)] (heapOf [ptB e m x y xt wh]) 64 (fun y' h' => FinE [ptB e m x y xt wh] (.det q (.tup [caS 8 (uc8 c) (nilS), bV true]) []) y' h')) =
(((((SV.v (Value.int IntKind.i64 8)) = (SV.v (Value.int IntKind.i64 8))) ∧ (((SV.v (Value.int IntKind.i64 (CV.id c))) = (SV.v (Value.int IntKind.i64 (CV.id (uc8 c))))) ∧ (((SV.v (Value.int IntKind.i64 0)) = (SV.v (Value.int IntKind.i64 (CV.bs (uc8 c))))) ∧ (((SV.v (Value.int IntKind.i64 0)) = (SV.v (Value.int IntKind.i64 (CV.bg (uc8 c))))) ∧ (((SV.v (Value.int IntKind.i64 0)) = (SV.v (Value.int IntKind.i64 (CV.ver (uc8 c))))) ∧ (((SV.v (Value.int IntKind.i64 0)) = (SV.v (Value.int IntKind.i64 (CV.sk (uc8 c))))) ∧ (((SV.v (Value.int IntKind.i64 0)) = (SV.v (Value.int IntKind.i64 (CV.sr (uc8 c))))) ∧ (((SV.v (Value.int IntKind.i64 0)) = (SV.v (Value.int IntKind.i64 (CV.sw (uc8 c))))) ∧ (((SV.v (Value.int IntKind.i64 0)) = (SV.v (Value.int IntKind.i64 (CV.sh (uc8 c))))) ∧ (((SV.v (Value.slice none 0 0)) = (SV.v (Value.slice none 0 0))) ∧ (((SV.v (Value.int IntKind.i64 0)) = (SV.v (Value.int IntKind.i64 (CV.p0v (uc8 c))))) ∧ (((SV.v (Value.bool false)) = (SV.v (Value.bool false))) ∧ (((SV.v (Value.int IntKind.i64 0)) = (SV.v (Value.int IntKind.i64 (CV.p1v (uc8 c))))) ∧ (((SV.v (Value.bool false)) = (SV.v (Value.bool false))) ∧ (((SV.v (Value.int IntKind.i64 0)) = (SV.v (Value.int IntKind.i64 (CV.p2v (uc8 c))))) ∧ (((SV.v (Value.bool false)) = (SV.v (Value.bool false))) ∧ (((SV.v (Value.int IntKind.i64 0)) = (SV.v (Value.int IntKind.i64 (CV.p3v (uc8 c))))) ∧ (((SV.v (Value.bool false)) = (SV.v (Value.bool false))) ∧ (((SV.v (Value.int IntKind.i64 0)) = (SV.v (Value.int IntKind.i64 (CV.v0v (uc8 c))))) ∧ (((SV.v (Value.bool false)) = (SV.v (Value.bool false))) ∧ (((SV.v (Value.int IntKind.i64 0)) = (SV.v (Value.int IntKind.i64 (CV.v1v (uc8 c))))) ∧ (((SV.v (Value.bool false)) = (SV.v (Value.bool false))) ∧ (((SV.v (Value.int IntKind.i64 0)) = (SV.v (Value.int IntKind.i64 (CV.w0v (uc8 c))))) ∧ (((SV.v (Value.bool false)) = (SV.v (Value.bool false))) ∧ (((SV.v (Value.int IntKind.i64 0)) = (SV.v (Value.int IntKind.i64 (CV.dn (uc8 c))))) ∧ (((SV.v (Value.bool false)) = (SV.v (Value.bool false))) ∧ (((SV.v (Value.int IntKind.i64 0)) = (SV.v (Value.int IntKind.i64 (CV.a0v (uc8 c))))) ∧ (((SV.v (Value.bool false)) = (SV.v (Value.bool false))) ∧ (((SV.v (Value.int IntKind.i64 0)) = (SV.v (Value.int IntKind.i64 (CV.a1v (uc8 c))))) ∧ (((SV.v (Value.bool false)) = (SV.v (Value.bool false))) ∧ (((SV.v (Value.int IntKind.i64 0)) = (SV.v (Value.int IntKind.i64 (CV.t0v (uc8 c))))) ∧ (((SV.v (Value.bool false)) = (SV.v (Value.bool false))) ∧ (((SV.v (Value.int IntKind.i64 0)) = (SV.v (Value.int IntKind.i64 (CV.t1v (uc8 c))))) ∧ (((SV.v (Value.bool false)) = (SV.v (Value.bool false))) ∧ (((SV.v (Value.int IntKind.i64 0)) = (SV.v (Value.int IntKind.i64 (CV.gr (uc8 c))))) ∧ (((SV.v (Value.int IntKind.i64 (CV.b0 c))) = (SV.v (Value.int IntKind.i64 (CV.b0 (uc8 c))))) ∧ (((SV.v (Value.int IntKind.i64 (CV.b1 c))) = (SV.v (Value.int IntKind.i64 (CV.b1 (uc8 c))))) ∧ (((SV.v (Value.int IntKind.i64 (CV.b2 c))) = (SV.v (Value.int IntKind.i64 (CV.b2 (uc8 c))))) ∧ (((SV.v (Value.int IntKind.i64 (CV.b3 c))) = (SV.v (Value.int IntKind.i64 (CV.b3 (uc8 c))))) ∧ (((SV.v (Value.int IntKind.i64 0)) = (SV.v (Value.int IntKind.i64 (CV.f0 (uc8 c))))) ∧ (((SV.v (Value.int IntKind.i64 0)) = (SV.v (Value.int IntKind.i64 (CV.f1 (uc8 c))))) ∧ (((SV.v (Value.int IntKind.i64 0)) = (SV.v (Value.int IntKind.i64 (CV.u0 (uc8 c))))) ∧ ((SV.v (Value.int IntKind.i64 0)) = (SV.v (Value.int IntKind.i64 (CV.u1 (uc8 c))))))))))))))))))))))))))))))))))))))))))))))) ∧ ((SV.v (Value.bool true)) = (SV.v (Value.bool true)))) ∧ True) := by kernel_rfl
theorem vcUsed9 (q : Option Prop) (c : CV) (e n m cap xt : Nat) (x y : Nat → Int) (wh : Bool) : (vcFn Try.prog noCtrs ΛUsed Try.f69 [caS 9 c (.sl 0 2 0 n cap)] (heapOf [ptB e m x y xt wh]) 64 (fun y' h' => FinE [ptB e m x y xt wh] (.det q (.tup [caS 9 (uc9 c) (nilS), bV true]) []) y' h')) =
(((((SV.v (Value.int IntKind.i64 9)) = (SV.v (Value.int IntKind.i64 9))) ∧ (((SV.v (Value.int IntKind.i64 (CV.id c))) = (SV.v (Value.int IntKind.i64 (CV.id (uc9 c))))) ∧ (((SV.v (Value.int IntKind.i64 0)) = (SV.v (Value.int IntKind.i64 (CV.bs (uc9 c))))) ∧ (((SV.v (Value.int IntKind.i64 0)) = (SV.v (Value.int IntKind.i64 (CV.bg (uc9 c))))) ∧ (((SV.v (Value.int IntKind.i64 0)) = (SV.v (Value.int IntKind.i64 (CV.ver (uc9 c))))) ∧ (((SV.v (Value.int IntKind.i64 0)) = (SV.v (Value.int IntKind.i64 (CV.sk (uc9 c))))) ∧ (((SV.v (Value.int IntKind.i64 0)) = (SV.v (Value.int IntKind.i64 (CV.sr (uc9 c))))) ∧ (((SV.v (Value.int IntKind.i64 0)) = (SV.v (Value.int IntKind.i64 (CV.sw (uc9 c))))) ∧ (((SV.v (Value.int IntKind.i64 0)) = (SV.v (Value.int IntKind.i64 (CV.sh (uc9 c))))) ∧ (((SV.v (Value.slice none 0 0)) = (SV.v (Value.slice none 0 0))) ∧ (((SV.v (Value.int IntKind.i64 0)) = (SV.v (Value.int IntKind.i64 (CV.p0v (uc9 c))))) ∧ (((SV.v (Value.bool false)) = (SV.v (Value.bool false))) ∧ (((SV.v (Value.int IntKind.i64 0)) = (SV.v (Value.int IntKind.i64 (CV.p1v (uc9 c))))) ∧ (((SV.v (Value.bool false)) = (SV.v (Value.bool false))) ∧ (((SV.v (Value.int IntKind.i64 0)) = (SV.v (Value.int IntKind.i64 (CV.p2v (uc9 c))))) ∧ (((SV.v (Value.bool false)) = (SV.v (Value.bool false))) ∧ (((SV.v (Value.int IntKind.i64 0)) = (SV.v (Value.int IntKind.i64 (CV.p3v (uc9 c))))) ∧ (((SV.v (Value.bool false)) = (SV.v (Value.bool false))) ∧ (((SV.v (Value.int IntKind.i64 0)) = (SV.v (Value.int IntKind.i64 (CV.v0v (uc9 c))))) ∧ (((SV.v (Value.bool false)) = (SV.v (Value.bool false))) ∧ (((SV.v (Value.int IntKind.i64 0)) = (SV.v (Value.int IntKind.i64 (CV.v1v (uc9 c))))) ∧ (((SV.v (Value.bool false)) = (SV.v (Value.bool false))) ∧ (((SV.v (Value.int IntKind.i64 0)) = (SV.v (Value.int IntKind.i64 (CV.w0v (uc9 c))))) ∧ (((SV.v (Value.bool false)) = (SV.v (Value.bool false))) ∧ (((SV.v (Value.int IntKind.i64 0)) = (SV.v (Value.int IntKind.i64 (CV.dn (uc9 c))))) ∧ (((SV.v (Value.bool false)) = (SV.v (Value.bool false))) ∧ (((SV.v (Value.int IntKind.i64 0)) = (SV.v (Value.int IntKind.i64 (CV.a0v (uc9 c))))) ∧ (((SV.v (Value.bool false)) = (SV.v (Value.bool false))) ∧ (((SV.v (Value.int IntKind.i64 0)) = (SV.v (Value.int IntKind.i64 (CV.a1v (uc9 c))))) ∧ (((SV.v (Value.bool false)) = (SV.v (Value.bool false))) ∧ (((SV.v (Value.int IntKind.i64 0)) = (SV.v (Value.int IntKind.i64 (CV.t0v (uc9 c))))) ∧ (((SV.v (Value.bool false)) = (SV.v (Value.bool false))) ∧ (((SV.v (Value.int IntKind.i64 0)) = (SV.v (Value.int IntKind.i64 (CV.t1v (uc9 c))))) ∧ (((SV.v (Value.bool false)) = (SV.v (Value.bool false))) ∧ (((SV.v (Value.int IntKind.i64 0)) = (SV.v (Value.int IntKind.i64 (CV.gr (uc9 c))))) ∧ (((SV.v (Value.int IntKind.i64 0)) = (SV.v (Value.int IntKind.i64 (CV.b0 (uc9 c))))) ∧ (((SV.v (Value.int IntKind.i64 0)) = (SV.v (Value.int IntKind.i64 (CV.b1 (uc9 c))))) ∧ (((SV.v (Value.int IntKind.i64 0)) = (SV.v (Value.int IntKind.i64 (CV.b2 (uc9 c))))) ∧ (((SV.v (Value.int IntKind.i64 0)) = (SV.v (Value.int IntKind.i64 (CV.b3 (uc9 c))))) ∧ (((SV.v (Value.int IntKind.i64 (CV.f0 c))) = (SV.v (Value.int IntKind.i64 (CV.f0 (uc9 c))))) ∧ (((SV.v (Value.int IntKind.i64 (CV.f1 c))) = (SV.v (Value.int IntKind.i64 (CV.f1 (uc9 c))))) ∧ (((SV.v (Value.int IntKind.i64 (CV.u0 c))) = (SV.v (Value.int IntKind.i64 (CV.u0 (uc9 c))))) ∧ ((SV.v (Value.int IntKind.i64 (CV.u1 c))) = (SV.v (Value.int IntKind.i64 (CV.u1 (uc9 c))))))))))))))))))))))))))))))))))))))))))))))) ∧ ((SV.v (Value.bool true)) = (SV.v (Value.bool true)))) ∧ True) := by kernel_rfl
theorem vcUsed10 (q : Option Prop) (c : CV) (e n m cap xt : Nat) (x y : Nat → Int) (wh : Bool) : (vcFn Try.prog noCtrs ΛUsed Try.f69 [caS 10 c (.sl 0 2 0 n cap)] (heapOf [ptB e m x y xt wh]) 64 (fun y' h' => FinE [ptB e m x y xt wh] (.det q (.tup [caS 10 (uc10 c) (nilS), bV true]) []) y' h')) =
(((((SV.v (Value.int IntKind.i64 10)) = (SV.v (Value.int IntKind.i64 10))) ∧ (((SV.v (Value.int IntKind.i64 (CV.id c))) = (SV.v (Value.int IntKind.i64 (CV.id (uc10 c))))) ∧ (((SV.v (Value.int IntKind.i64 0)) = (SV.v (Value.int IntKind.i64 (CV.bs (uc10 c))))) ∧ (((SV.v (Value.int IntKind.i64 0)) = (SV.v (Value.int IntKind.i64 (CV.bg (uc10 c))))) ∧ (((SV.v (Value.int IntKind.i64 0)) = (SV.v (Value.int IntKind.i64 (CV.ver (uc10 c))))) ∧ (((SV.v (Value.int IntKind.i64 0)) = (SV.v (Value.int IntKind.i64 (CV.sk (uc10 c))))) ∧ (((SV.v (Value.int IntKind.i64 0)) = (SV.v (Value.int IntKind.i64 (CV.sr (uc10 c))))) ∧ (((SV.v (Value.int IntKind.i64 0)) = (SV.v (Value.int IntKind.i64 (CV.sw (uc10 c))))) ∧ (((SV.v (Value.int IntKind.i64 0)) = (SV.v (Value.int IntKind.i64 (CV.sh (uc10 c))))) ∧ (((SV.v (Value.slice none 0 0)) = (SV.v (Value.slice none 0 0))) ∧ (((SV.v (Value.int IntKind.i64 0)) = (SV.v (Value.int IntKind.i64 (CV.p0v (uc10 c))))) ∧ (((SV.v (Value.bool false)) = (SV.v (Value.bool false))) ∧ (((SV.v (Value.int IntKind.i64 0)) = (SV.v (Value.int IntKind.i64 (CV.p1v (uc10 c))))) ∧ (((SV.v (Value.bool false)) = (SV.v (Value.bool false))) ∧ (((SV.v (Value.int IntKind.i64 0)) = (SV.v (Value.int IntKind.i64 (CV.p2v (uc10 c))))) ∧ (((SV.v (Value.bool false)) = (SV.v (Value.bool false))) ∧ (((SV.v (Value.int IntKind.i64 0)) = (SV.v (Value.int IntKind.i64 (CV.p3v (uc10 c))))) ∧ (((SV.v (Value.bool false)) = (SV.v (Value.bool false))) ∧ (((SV.v (Value.int IntKind.i64 0)) = (SV.v (Value.int IntKind.i64 (CV.v0v (uc10 c))))) ∧ (((SV.v (Value.bool false)) = (SV.v (Value.bool false))) ∧ (((SV.v (Value.int IntKind.i64 0)) = (SV.v (Value.int IntKind.i64 (CV.v1v (uc10 c))))) ∧ (((SV.v (Value.bool false)) = (SV.v (Value.bool false))) ∧ (((SV.v (Value.int IntKind.i64 0)) = (SV.v (Value.int IntKind.i64 (CV.w0v (uc10 c))))) ∧ (((SV.v (Value.bool false)) = (SV.v (Value.bool false))) ∧ (((SV.v (Value.int IntKind.i64 0)) = (SV.v (Value.int IntKind.i64 (CV.dn (uc10 c))))) ∧ (((SV.v (Value.bool false)) = (SV.v (Value.bool false))) ∧ (((SV.v (Value.int IntKind.i64 0)) = (SV.v (Value.int IntKind.i64 (CV.a0v (uc10 c))))) ∧ (((SV.v (Value.bool false)) = (SV.v (Value.bool false))) ∧ (((SV.v (Value.int IntKind.i64 0)) = (SV.v (Value.int IntKind.i64 (CV.a1v (uc10 c))))) ∧ (((SV.v (Value.bool false)) = (SV.v (Value.bool false))) ∧ (((SV.v (Value.int IntKind.i64 0)) = (SV.v (Value.int IntKind.i64 (CV.t0v (uc10 c))))) ∧ (((SV.v (Value.bool false)) = (SV.v (Value.bool false))) ∧ (((SV.v (Value.int IntKind.i64 0)) = (SV.v (Value.int IntKind.i64 (CV.t1v (uc10 c))))) ∧ (((SV.v (Value.bool false)) = (SV.v (Value.bool false))) ∧ (((SV.v (Value.int IntKind.i64 0)) = (SV.v (Value.int IntKind.i64 (CV.gr (uc10 c))))) ∧ (((SV.v (Value.int IntKind.i64 0)) = (SV.v (Value.int IntKind.i64 (CV.b0 (uc10 c))))) ∧ (((SV.v (Value.int IntKind.i64 0)) = (SV.v (Value.int IntKind.i64 (CV.b1 (uc10 c))))) ∧ (((SV.v (Value.int IntKind.i64 0)) = (SV.v (Value.int IntKind.i64 (CV.b2 (uc10 c))))) ∧ (((SV.v (Value.int IntKind.i64 0)) = (SV.v (Value.int IntKind.i64 (CV.b3 (uc10 c))))) ∧ (((SV.v (Value.int IntKind.i64 0)) = (SV.v (Value.int IntKind.i64 (CV.f0 (uc10 c))))) ∧ (((SV.v (Value.int IntKind.i64 0)) = (SV.v (Value.int IntKind.i64 (CV.f1 (uc10 c))))) ∧ (((SV.v (Value.int IntKind.i64 0)) = (SV.v (Value.int IntKind.i64 (CV.u0 (uc10 c))))) ∧ ((SV.v (Value.int IntKind.i64 0)) = (SV.v (Value.int IntKind.i64 (CV.u1 (uc10 c))))))))))))))))))))))))))))))))))))))))))))))) ∧ ((SV.v (Value.bool true)) = (SV.v (Value.bool true)))) ∧ True) := by kernel_rfl
theorem vcUsedO (q : Option Prop) (k : Int) (c : CV) (e n m cap xt : Nat) (x y : Nat → Int) (wh : Bool) : (vcFn Try.prog noCtrs ΛUsed Try.f69 [caS k c (.sl 0 2 0 n cap)] (heapOf [ptB e m x y xt wh]) 64 (fun y' h' => FinE [ptB e m x y xt wh] (.det q (.tup [caS 0 zCV nilS, bV false]) []) y' h')) =

(sel (k == 1) (((((SV.v (Value.int IntKind.i64 k)) = (SV.v (Value.int IntKind.i64 0))) ∧ (((SV.v (Value.int IntKind.i64 (CV.id c))) = (SV.v (Value.int IntKind.i64 0))) ∧ (((SV.v (Value.int IntKind.i64 0)) = (SV.v (Value.int IntKind.i64 0))) ∧ (((SV.v (Value.int IntKind.i64 0)) = (SV.v (Value.int IntKind.i64 0))) ∧ (((SV.v (Value.int IntKind.i64 0)) = (SV.v (Value.int IntKind.i64 0))) ∧ (((SV.v (Value.int IntKind.i64 (CV.sk c))) = (SV.v (Value.int IntKind.i64 0))) ∧ (((SV.v (Value.int IntKind.i64 (CV.sr c))) = (SV.v (Value.int IntKind.i64 0))) ∧ (((SV.v (Value.int IntKind.i64 (CV.sw c))) = (SV.v (Value.int IntKind.i64 0))) ∧ (((SV.v (Value.int IntKind.i64 (CV.sh c))) = (SV.v (Value.int IntKind.i64 0))) ∧ (((SV.sl 0 2 0 n cap) = (SV.v (Value.slice none 0 0))) ∧ (((SV.v (Value.int IntKind.i64 (CV.p0v c))) = (SV.v (Value.int IntKind.i64 0))) ∧ (((SV.v (Value.bool (CV.p0f c))) = (SV.v (Value.bool false))) ∧ (((SV.v (Value.int IntKind.i64 (CV.p1v c))) = (SV.v (Value.int IntKind.i64 0))) ∧ (((SV.v (Value.bool (CV.p1f c))) = (SV.v (Value.bool false))) ∧ (((SV.v (Value.int IntKind.i64 (CV.p2v c))) = (SV.v (Value.int IntKind.i64 0))) ∧ (((SV.v (Value.bool (CV.p2f c))) = (SV.v (Value.bool false))) ∧ (((SV.v (Value.int IntKind.i64 (CV.p3v c))) = (SV.v (Value.int IntKind.i64 0))) ∧ (((SV.v (Value.bool (CV.p3f c))) = (SV.v (Value.bool false))) ∧ (((SV.v (Value.int IntKind.i64 (CV.v0v c))) = (SV.v (Value.int IntKind.i64 0))) ∧ (((SV.v (Value.bool (CV.v0f c))) = (SV.v (Value.bool false))) ∧ (((SV.v (Value.int IntKind.i64 (CV.v1v c))) = (SV.v (Value.int IntKind.i64 0))) ∧ (((SV.v (Value.bool (CV.v1f c))) = (SV.v (Value.bool false))) ∧ (((SV.v (Value.int IntKind.i64 (CV.w0v c))) = (SV.v (Value.int IntKind.i64 0))) ∧ (((SV.v (Value.bool (CV.w0f c))) = (SV.v (Value.bool false))) ∧ (((SV.v (Value.int IntKind.i64 (CV.dn c))) = (SV.v (Value.int IntKind.i64 0))) ∧ (((SV.v (Value.bool (CV.mv c))) = (SV.v (Value.bool false))) ∧ (((SV.v (Value.int IntKind.i64 0)) = (SV.v (Value.int IntKind.i64 0))) ∧ (((SV.v (Value.bool false)) = (SV.v (Value.bool false))) ∧ (((SV.v (Value.int IntKind.i64 0)) = (SV.v (Value.int IntKind.i64 0))) ∧ (((SV.v (Value.bool false)) = (SV.v (Value.bool false))) ∧ (((SV.v (Value.int IntKind.i64 0)) = (SV.v (Value.int IntKind.i64 0))) ∧ (((SV.v (Value.bool false)) = (SV.v (Value.bool false))) ∧ (((SV.v (Value.int IntKind.i64 0)) = (SV.v (Value.int IntKind.i64 0))) ∧ (((SV.v (Value.bool false)) = (SV.v (Value.bool false))) ∧ (((SV.v (Value.int IntKind.i64 0)) = (SV.v (Value.int IntKind.i64 0))) ∧ (((SV.v (Value.int IntKind.i64 0)) = (SV.v (Value.int IntKind.i64 0))) ∧ (((SV.v (Value.int IntKind.i64 0)) = (SV.v (Value.int IntKind.i64 0))) ∧ (((SV.v (Value.int IntKind.i64 0)) = (SV.v (Value.int IntKind.i64 0))) ∧ (((SV.v (Value.int IntKind.i64 0)) = (SV.v (Value.int IntKind.i64 0))) ∧ (((SV.v (Value.int IntKind.i64 0)) = (SV.v (Value.int IntKind.i64 0))) ∧ (((SV.v (Value.int IntKind.i64 0)) = (SV.v (Value.int IntKind.i64 0))) ∧ (((SV.v (Value.int IntKind.i64 0)) = (SV.v (Value.int IntKind.i64 0))) ∧ ((SV.v (Value.int IntKind.i64 0)) = (SV.v (Value.int IntKind.i64 0))))))))))))))))))))))))))))))))))))))))))))) ∧ ((SV.v (Value.bool true)) = (SV.v (Value.bool false)))) ∧ True) 
(sel (k == 3) (((((SV.v (Value.int IntKind.i64 k)) = (SV.v (Value.int IntKind.i64 0))) ∧ (((SV.v (Value.int IntKind.i64 (CV.id c))) = (SV.v (Value.int IntKind.i64 0))) ∧ (((SV.v (Value.int IntKind.i64 (CV.bs c))) = (SV.v (Value.int IntKind.i64 0))) ∧ (((SV.v (Value.int IntKind.i64 (CV.bg c))) = (SV.v (Value.int IntKind.i64 0))) ∧ (((SV.v (Value.int IntKind.i64 (CV.ver c))) = (SV.v (Value.int IntKind.i64 0))) ∧ (((SV.v (Value.int IntKind.i64 0)) = (SV.v (Value.int IntKind.i64 0))) ∧ (((SV.v (Value.int IntKind.i64 0)) = (SV.v (Value.int IntKind.i64 0))) ∧ (((SV.v (Value.int IntKind.i64 0)) = (SV.v (Value.int IntKind.i64 0))) ∧ (((SV.v (Value.int IntKind.i64 0)) = (SV.v (Value.int IntKind.i64 0))) ∧ (((SV.v (Value.slice none 0 0)) = (SV.v (Value.slice none 0 0))) ∧ (((SV.v (Value.int IntKind.i64 0)) = (SV.v (Value.int IntKind.i64 0))) ∧ (((SV.v (Value.bool false)) = (SV.v (Value.bool false))) ∧ (((SV.v (Value.int IntKind.i64 0)) = (SV.v (Value.int IntKind.i64 0))) ∧ (((SV.v (Value.bool false)) = (SV.v (Value.bool false))) ∧ (((SV.v (Value.int IntKind.i64 0)) = (SV.v (Value.int IntKind.i64 0))) ∧ (((SV.v (Value.bool false)) = (SV.v (Value.bool false))) ∧ (((SV.v (Value.int IntKind.i64 0)) = (SV.v (Value.int IntKind.i64 0))) ∧ (((SV.v (Value.bool false)) = (SV.v (Value.bool false))) ∧ (((SV.v (Value.int IntKind.i64 0)) = (SV.v (Value.int IntKind.i64 0))) ∧ (((SV.v (Value.bool false)) = (SV.v (Value.bool false))) ∧ (((SV.v (Value.int IntKind.i64 0)) = (SV.v (Value.int IntKind.i64 0))) ∧ (((SV.v (Value.bool false)) = (SV.v (Value.bool false))) ∧ (((SV.v (Value.int IntKind.i64 0)) = (SV.v (Value.int IntKind.i64 0))) ∧ (((SV.v (Value.bool false)) = (SV.v (Value.bool false))) ∧ (((SV.v (Value.int IntKind.i64 0)) = (SV.v (Value.int IntKind.i64 0))) ∧ (((SV.v (Value.bool false)) = (SV.v (Value.bool false))) ∧ (((SV.v (Value.int IntKind.i64 (CV.a0v c))) = (SV.v (Value.int IntKind.i64 0))) ∧ (((SV.v (Value.bool (CV.a0f c))) = (SV.v (Value.bool false))) ∧ (((SV.v (Value.int IntKind.i64 (CV.a1v c))) = (SV.v (Value.int IntKind.i64 0))) ∧ (((SV.v (Value.bool (CV.a1f c))) = (SV.v (Value.bool false))) ∧ (((SV.v (Value.int IntKind.i64 (CV.t0v c))) = (SV.v (Value.int IntKind.i64 0))) ∧ (((SV.v (Value.bool (CV.t0f c))) = (SV.v (Value.bool false))) ∧ (((SV.v (Value.int IntKind.i64 (CV.t1v c))) = (SV.v (Value.int IntKind.i64 0))) ∧ (((SV.v (Value.bool (CV.t1f c))) = (SV.v (Value.bool false))) ∧ (((SV.v (Value.int IntKind.i64 0)) = (SV.v (Value.int IntKind.i64 0))) ∧ (((SV.v (Value.int IntKind.i64 0)) = (SV.v (Value.int IntKind.i64 0))) ∧ (((SV.v (Value.int IntKind.i64 0)) = (SV.v (Value.int IntKind.i64 0))) ∧ (((SV.v (Value.int IntKind.i64 0)) = (SV.v (Value.int IntKind.i64 0))) ∧ (((SV.v (Value.int IntKind.i64 0)) = (SV.v (Value.int IntKind.i64 0))) ∧ (((SV.v (Value.int IntKind.i64 0)) = (SV.v (Value.int IntKind.i64 0))) ∧ (((SV.v (Value.int IntKind.i64 0)) = (SV.v (Value.int IntKind.i64 0))) ∧ (((SV.v (Value.int IntKind.i64 0)) = (SV.v (Value.int IntKind.i64 0))) ∧ ((SV.v (Value.int IntKind.i64 0)) = (SV.v (Value.int IntKind.i64 0))))))))))))))))))))))))))))))))))))))))))))) ∧ ((SV.v (Value.bool true)) = (SV.v (Value.bool false)))) ∧ True) 
(sel (k == 4) (((((SV.v (Value.int IntKind.i64 k)) = (SV.v (Value.int IntKind.i64 0))) ∧ (((SV.v (Value.int IntKind.i64 (CV.id c))) = (SV.v (Value.int IntKind.i64 0))) ∧ (((SV.v (Value.int IntKind.i64 (CV.bs c))) = (SV.v (Value.int IntKind.i64 0))) ∧ (((SV.v (Value.int IntKind.i64 (CV.bg c))) = (SV.v (Value.int IntKind.i64 0))) ∧ (((SV.v (Value.int IntKind.i64 (CV.ver c))) = (SV.v (Value.int IntKind.i64 0))) ∧ (((SV.v (Value.int IntKind.i64 0)) = (SV.v (Value.int IntKind.i64 0))) ∧ (((SV.v (Value.int IntKind.i64 0)) = (SV.v (Value.int IntKind.i64 0))) ∧ (((SV.v (Value.int IntKind.i64 0)) = (SV.v (Value.int IntKind.i64 0))) ∧ (((SV.v (Value.int IntKind.i64 0)) = (SV.v (Value.int IntKind.i64 0))) ∧ (((SV.v (Value.slice none 0 0)) = (SV.v (Value.slice none 0 0))) ∧ (((SV.v (Value.int IntKind.i64 0)) = (SV.v (Value.int IntKind.i64 0))) ∧ (((SV.v (Value.bool false)) = (SV.v (Value.bool false))) ∧ (((SV.v (Value.int IntKind.i64 0)) = (SV.v (Value.int IntKind.i64 0))) ∧ (((SV.v (Value.bool false)) = (SV.v (Value.bool false))) ∧ (((SV.v (Value.int IntKind.i64 0)) = (SV.v (Value.int IntKind.i64 0))) ∧ (((SV.v (Value.bool false)) = (SV.v (Value.bool false))) ∧ (((SV.v (Value.int IntKind.i64 0)) = (SV.v (Value.int IntKind.i64 0))) ∧ (((SV.v (Value.bool false)) = (SV.v (Value.bool false))) ∧ (((SV.v (Value.int IntKind.i64 0)) = (SV.v (Value.int IntKind.i64 0))) ∧ (((SV.v (Value.bool false)) = (SV.v (Value.bool false))) ∧ (((SV.v (Value.int IntKind.i64 0)) = (SV.v (Value.int IntKind.i64 0))) ∧ (((SV.v (Value.bool false)) = (SV.v (Value.bool false))) ∧ (((SV.v (Value.int IntKind.i64 0)) = (SV.v (Value.int IntKind.i64 0))) ∧ (((SV.v (Value.bool false)) = (SV.v (Value.bool false))) ∧ (((SV.v (Value.int IntKind.i64 0)) = (SV.v (Value.int IntKind.i64 0))) ∧ (((SV.v (Value.bool false)) = (SV.v (Value.bool false))) ∧ (((SV.v (Value.int IntKind.i64 (CV.a0v c))) = (SV.v (Value.int IntKind.i64 0))) ∧ (((SV.v (Value.bool (CV.a0f c))) = (SV.v (Value.bool false))) ∧ (((SV.v (Value.int IntKind.i64 (CV.a1v c))) = (SV.v (Value.int IntKind.i64 0))) ∧ (((SV.v (Value.bool (CV.a1f c))) = (SV.v (Value.bool false))) ∧ (((SV.v (Value.int IntKind.i64 0)) = (SV.v (Value.int IntKind.i64 0))) ∧ (((SV.v (Value.bool false)) = (SV.v (Value.bool false))) ∧ (((SV.v (Value.int IntKind.i64 0)) = (SV.v (Value.int IntKind.i64 0))) ∧ (((SV.v (Value.bool false)) = (SV.v (Value.bool false))) ∧ (((SV.v (Value.int IntKind.i64 0)) = (SV.v (Value.int IntKind.i64 0))) ∧ (((SV.v (Value.int IntKind.i64 0)) = (SV.v (Value.int IntKind.i64 0))) ∧ (((SV.v (Value.int IntKind.i64 0)) = (SV.v (Value.int IntKind.i64 0))) ∧ (((SV.v (Value.int IntKind.i64 0)) = (SV.v (Value.int IntKind.i64 0))) ∧ (((SV.v (Value.int IntKind.i64 0)) = (SV.v (Value.int IntKind.i64 0))) ∧ (((SV.v (Value.int IntKind.i64 0)) = (SV.v (Value.int IntKind.i64 0))) ∧ (((SV.v (Value.int IntKind.i64 0)) = (SV.v (Value.int IntKind.i64 0))) ∧ (((SV.v (Value.int IntKind.i64 0)) = (SV.v (Value.int IntKind.i64 0))) ∧ ((SV.v (Value.int IntKind.i64 0)) = (SV.v (Value.int IntKind.i64 0))))))))))))))))))))))))))))))))))))))))))))) ∧ ((SV.v (Value.bool true)) = (SV.v (Value.bool false)))) ∧ True) 
(sel (k == 2) (((((SV.v (Value.int IntKind.i64 k)) = (SV.v (Value.int IntKind.i64 0))) ∧ (((SV.v (Value.int IntKind.i64 (CV.id c))) = (SV.v (Value.int IntKind.i64 0))) ∧ (((SV.v (Value.int IntKind.i64 (CV.bs c))) = (SV.v (Value.int IntKind.i64 0))) ∧ (((SV.v (Value.int IntKind.i64 (CV.bg c))) = (SV.v (Value.int IntKind.i64 0))) ∧ (((SV.v (Value.int IntKind.i64 (CV.ver c))) = (SV.v (Value.int IntKind.i64 0))) ∧ (((SV.v (Value.int IntKind.i64 0)) = (SV.v (Value.int IntKind.i64 0))) ∧ (((SV.v (Value.int IntKind.i64 0)) = (SV.v (Value.int IntKind.i64 0))) ∧ (((SV.v (Value.int IntKind.i64 0)) = (SV.v (Value.int IntKind.i64 0))) ∧ (((SV.v (Value.int IntKind.i64 0)) = (SV.v (Value.int IntKind.i64 0))) ∧ (((SV.v (Value.slice none 0 0)) = (SV.v (Value.slice none 0 0))) ∧ (((SV.v (Value.int IntKind.i64 0)) = (SV.v (Value.int IntKind.i64 0))) ∧ (((SV.v (Value.bool false)) = (SV.v (Value.bool false))) ∧ (((SV.v (Value.int IntKind.i64 0)) = (SV.v (Value.int IntKind.i64 0))) ∧ (((SV.v (Value.bool false)) = (SV.v (Value.bool false))) ∧ (((SV.v (Value.int IntKind.i64 0)) = (SV.v (Value.int IntKind.i64 0))) ∧ (((SV.v (Value.bool false)) = (SV.v (Value.bool false))) ∧ (((SV.v (Value.int IntKind.i64 0)) = (SV.v (Value.int IntKind.i64 0))) ∧ (((SV.v (Value.bool false)) = (SV.v (Value.bool false))) ∧ (((SV.v (Value.int IntKind.i64 0)) = (SV.v (Value.int IntKind.i64 0))) ∧ (((SV.v (Value.bool false)) = (SV.v (Value.bool false))) ∧ (((SV.v (Value.int IntKind.i64 0)) = (SV.v (Value.int IntKind.i64 0))) ∧ (((SV.v (Value.bool false)) = (SV.v (Value.bool false))) ∧ (((SV.v (Value.int IntKind.i64 0)) = (SV.v (Value.int IntKind.i64 0))) ∧ (((SV.v (Value.bool false)) = (SV.v (Value.bool false))) ∧ (((SV.v (Value.int IntKind.i64 0)) = (SV.v (Value.int IntKind.i64 0))) ∧ (((SV.v (Value.bool false)) = (SV.v (Value.bool false))) ∧ (((SV.v (Value.int IntKind.i64 0)) = (SV.v (Value.int IntKind.i64 0))) ∧ (((SV.v (Value.bool false)) = (SV.v (Value.bool false))) ∧ (((SV.v (Value.int IntKind.i64 0)) = (SV.v (Value.int IntKind.i64 0))) ∧ (((SV.v (Value.bool false)) = (SV.v (Value.bool false))) ∧ (((SV.v (Value.int IntKind.i64 0)) = (SV.v (Value.int IntKind.i64 0))) ∧ (((SV.v (Value.bool false)) = (SV.v (Value.bool false))) ∧ (((SV.v (Value.int IntKind.i64 0)) = (SV.v (Value.int IntKind.i64 0))) ∧ (((SV.v (Value.bool false)) = (SV.v (Value.bool false))) ∧ (((SV.v (Value.int IntKind.i64 0)) = (SV.v (Value.int IntKind.i64 0))) ∧ (((SV.v (Value.int IntKind.i64 0)) = (SV.v (Value.int IntKind.i64 0))) ∧ (((SV.v (Value.int IntKind.i64 0)) = (SV.v (Value.int IntKind.i64 0))) ∧ (((SV.v (Value.int IntKind.i64 0)) = (SV.v (Value.int IntKind.i64 0))) ∧ (((SV.v (Value.int IntKind.i64 0)) = (SV.v (Value.int IntKind.i64 0))) ∧ (((SV.v (Value.int IntKind.i64 0)) = (SV.v (Value.int IntKind.i64 0))) ∧ (((SV.v (Value.int IntKind.i64 0)) = (SV.v (Value.int IntKind.i64 0))) ∧ (((SV.v (Value.int IntKind.i64 0)) = (SV.v (Value.int IntKind.i64 0))) ∧ ((SV.v (Value.int IntKind.i64 0)) = (SV.v (Value.int IntKind.i64 0))))))))))))))))))))))))))))))))))))))))))))) ∧ ((SV.v (Value.bool true)) = (SV.v (Value.bool false)))) ∧ True) 
(sel (k == 7) (((((SV.v (Value.int IntKind.i64 k)) = (SV.v (Value.int IntKind.i64 0))) ∧ (((SV.v (Value.int IntKind.i64 (CV.id c))) = (SV.v (Value.int IntKind.i64 0))) ∧ (((SV.v (Value.int IntKind.i64 (CV.bs c))) = (SV.v (Value.int IntKind.i64 0))) ∧ (((SV.v (Value.int IntKind.i64 (CV.bg c))) = (SV.v (Value.int IntKind.i64 0))) ∧ (((SV.v (Value.int IntKind.i64 0)) = (SV.v (Value.int IntKind.i64 0))) ∧ (((SV.v (Value.int IntKind.i64 0)) = (SV.v (Value.int IntKind.i64 0))) ∧ (((SV.v (Value.int IntKind.i64 0)) = (SV.v (Value.int IntKind.i64 0))) ∧ (((SV.v (Value.int IntKind.i64 0)) = (SV.v (Value.int IntKind.i64 0))) ∧ (((SV.v (Value.int IntKind.i64 0)) = (SV.v (Value.int IntKind.i64 0))) ∧ (((SV.v (Value.slice none 0 0)) = (SV.v (Value.slice none 0 0))) ∧ (((SV.v (Value.int IntKind.i64 0)) = (SV.v (Value.int IntKind.i64 0))) ∧ (((SV.v (Value.bool false)) = (SV.v (Value.bool false))) ∧ (((SV.v (Value.int IntKind.i64 0)) = (SV.v (Value.int IntKind.i64 0))) ∧ (((SV.v (Value.bool false)) = (SV.v (Value.bool false))) ∧ (((SV.v (Value.int IntKind.i64 0)) = (SV.v (Value.int IntKind.i64 0))) ∧ (((SV.v (Value.bool false)) = (SV.v (Value.bool false))) ∧ (((SV.v (Value.int IntKind.i64 0)) = (SV.v (Value.int IntKind.i64 0))) ∧ (((SV.v (Value.bool false)) = (SV.v (Value.bool false))) ∧ (((SV.v (Value.int IntKind.i64 0)) = (SV.v (Value.int IntKind.i64 0))) ∧ (((SV.v (Value.bool false)) = (SV.v (Value.bool false))) ∧ (((SV.v (Value.int IntKind.i64 0)) = (SV.v (Value.int IntKind.i64 0))) ∧ (((SV.v (Value.bool false)) = (SV.v (Value.bool false))) ∧ (((SV.v (Value.int IntKind.i64 0)) = (SV.v (Value.int IntKind.i64 0))) ∧ (((SV.v (Value.bool false)) = (SV.v (Value.bool false))) ∧ (((SV.v (Value.int IntKind.i64 0)) = (SV.v (Value.int IntKind.i64 0))) ∧ (((SV.v (Value.bool false)) = (SV.v (Value.bool false))) ∧ (((SV.v (Value.int IntKind.i64 0)) = (SV.v (Value.int IntKind.i64 0))) ∧ (((SV.v (Value.bool false)) = (SV.v (Value.bool false))) ∧ (((SV.v (Value.int IntKind.i64 0)) = (SV.v (Value.int IntKind.i64 0))) ∧ (((SV.v (Value.bool false)) = (SV.v (Value.bool false))) ∧ (((SV.v (Value.int IntKind.i64 0)) = (SV.v (Value.int IntKind.i64 0))) ∧ (((SV.v (Value.bool false)) = (SV.v (Value.bool false))) ∧ (((SV.v (Value.int IntKind.i64 0)) = (SV.v (Value.int IntKind.i64 0))) ∧ (((SV.v (Value.bool false)) = (SV.v (Value.bool false))) ∧ (((SV.v (Value.int IntKind.i64 0)) = (SV.v (Value.int IntKind.i64 0))) ∧ (((SV.v (Value.int IntKind.i64 0)) = (SV.v (Value.int IntKind.i64 0))) ∧ (((SV.v (Value.int IntKind.i64 0)) = (SV.v (Value.int IntKind.i64 0))) ∧ (((SV.v (Value.int IntKind.i64 0)) = (SV.v (Value.int IntKind.i64 0))) ∧ (((SV.v (Value.int IntKind.i64 0)) = (SV.v (Value.int IntKind.i64 0))) ∧ (((SV.v (Value.int IntKind.i64 0)) = (SV.v (Value.int IntKind.i64 0))) ∧ (((SV.v (Value.int IntKind.i64 0)) = (SV.v (Value.int IntKind.i64 0))) ∧ (((SV.v (Value.int IntKind.i64 0)) = (SV.v (Value.int IntKind.i64 0))) ∧ ((SV.v (Value.int IntKind.i64 0)) = (SV.v (Value.int IntKind.i64 0))))))))))))))))))))))))))))))))))))))))))))) ∧ ((SV.v (Value.bool true)) = (SV.v (Value.bool false)))) ∧ True) 
(sel (k == 5) (((((SV.v (Value.int IntKind.i64 k)) = (SV.v (Value.int IntKind.i64 0))) ∧ (((SV.v (Value.int IntKind.i64 (CV.id c))) = (SV.v (Value.int IntKind.i64 0))) ∧ (((SV.v (Value.int IntKind.i64 0)) = (SV.v (Value.int IntKind.i64 0))) ∧ (((SV.v (Value.int IntKind.i64 0)) = (SV.v (Value.int IntKind.i64 0))) ∧ (((SV.v (Value.int IntKind.i64 0)) = (SV.v (Value.int IntKind.i64 0))) ∧ (((SV.v (Value.int IntKind.i64 0)) = (SV.v (Value.int IntKind.i64 0))) ∧ (((SV.v (Value.int IntKind.i64 0)) = (SV.v (Value.int IntKind.i64 0))) ∧ (((SV.v (Value.int IntKind.i64 0)) = (SV.v (Value.int IntKind.i64 0))) ∧ (((SV.v (Value.int IntKind.i64 0)) = (SV.v (Value.int IntKind.i64 0))) ∧ (((SV.v (Value.slice none 0 0)) = (SV.v (Value.slice none 0 0))) ∧ (((SV.v (Value.int IntKind.i64 0)) = (SV.v (Value.int IntKind.i64 0))) ∧ (((SV.v (Value.bool false)) = (SV.v (Value.bool false))) ∧ (((SV.v (Value.int IntKind.i64 0)) = (SV.v (Value.int IntKind.i64 0))) ∧ (((SV.v (Value.bool false)) = (SV.v (Value.bool false))) ∧ (((SV.v (Value.int IntKind.i64 0)) = (SV.v (Value.int IntKind.i64 0))) ∧ (((SV.v (Value.bool false)) = (SV.v (Value.bool false))) ∧ (((SV.v (Value.int IntKind.i64 0)) = (SV.v (Value.int IntKind.i64 0))) ∧ (((SV.v (Value.bool false)) = (SV.v (Value.bool false))) ∧ (((SV.v (Value.int IntKind.i64 0)) = (SV.v (Value.int IntKind.i64 0))) ∧ (((SV.v (Value.bool false)) = (SV.v (Value.bool false))) ∧ (((SV.v (Value.int IntKind.i64 0)) = (SV.v (Value.int IntKind.i64 0))) ∧ (((SV.v (Value.bool false)) = (SV.v (Value.bool false))) ∧ (((SV.v (Value.int IntKind.i64 0)) = (SV.v (Value.int IntKind.i64 0))) ∧ (((SV.v (Value.bool false)) = (SV.v (Value.bool false))) ∧ (((SV.v (Value.int IntKind.i64 0)) = (SV.v (Value.int IntKind.i64 0))) ∧ (((SV.v (Value.bool false)) = (SV.v (Value.bool false))) ∧ (((SV.v (Value.int IntKind.i64 0)) = (SV.v (Value.int IntKind.i64 0))) ∧ (((SV.v (Value.bool false)) = (SV.v (Value.bool false))) ∧ (((SV.v (Value.int IntKind.i64 0)) = (SV.v (Value.int IntKind.i64 0))) ∧ (((SV.v (Value.bool false)) = (SV.v (Value.bool false))) ∧ (((SV.v (Value.int IntKind.i64 (CV.t0v c))) = (SV.v (Value.int IntKind.i64 0))) ∧ (((SV.v (Value.bool (CV.t0f c))) = (SV.v (Value.bool false))) ∧ (((SV.v (Value.int IntKind.i64 (CV.t1v c))) = (SV.v (Value.int IntKind.i64 0))) ∧ (((SV.v (Value.bool (CV.t1f c))) = (SV.v (Value.bool false))) ∧ (((SV.v (Value.int IntKind.i64 (CV.gr c))) = (SV.v (Value.int IntKind.i64 0))) ∧ (((SV.v (Value.int IntKind.i64 0)) = (SV.v (Value.int IntKind.i64 0))) ∧ (((SV.v (Value.int IntKind.i64 0)) = (SV.v (Value.int IntKind.i64 0))) ∧ (((SV.v (Value.int IntKind.i64 0)) = (SV.v (Value.int IntKind.i64 0))) ∧ (((SV.v (Value.int IntKind.i64 0)) = (SV.v (Value.int IntKind.i64 0))) ∧ (((SV.v (Value.int IntKind.i64 0)) = (SV.v (Value.int IntKind.i64 0))) ∧ (((SV.v (Value.int IntKind.i64 0)) = (SV.v (Value.int IntKind.i64 0))) ∧ (((SV.v (Value.int IntKind.i64 0)) = (SV.v (Value.int IntKind.i64 0))) ∧ ((SV.v (Value.int IntKind.i64 0)) = (SV.v (Value.int IntKind.i64 0))))))))))))))))))))))))))))))))))))))))))))) ∧ ((SV.v (Value.bool true)) = (SV.v (Value.bool false)))) ∧ True) 
(sel (k == 6) (((((SV.v (Value.int IntKind.i64 k)) = (SV.v (Value.int IntKind.i64 0))) ∧ (((SV.v (Value.int IntKind.i64 (CV.id c))) = (SV.v (Value.int IntKind.i64 0))) ∧ (((SV.v (Value.int IntKind.i64 0)) = (SV.v (Value.int IntKind.i64 0))) ∧ (((SV.v (Value.int IntKind.i64 0)) = (SV.v (Value.int IntKind.i64 0))) ∧ (((SV.v (Value.int IntKind.i64 0)) = (SV.v (Value.int IntKind.i64 0))) ∧ (((SV.v (Value.int IntKind.i64 0)) = (SV.v (Value.int IntKind.i64 0))) ∧ (((SV.v (Value.int IntKind.i64 0)) = (SV.v (Value.int IntKind.i64 0))) ∧ (((SV.v (Value.int IntKind.i64 0)) = (SV.v (Value.int IntKind.i64 0))) ∧ (((SV.v (Value.int IntKind.i64 0)) = (SV.v (Value.int IntKind.i64 0))) ∧ (((SV.v (Value.slice none 0 0)) = (SV.v (Value.slice none 0 0))) ∧ (((SV.v (Value.int IntKind.i64 0)) = (SV.v (Value.int IntKind.i64 0))) ∧ (((SV.v (Value.bool false)) = (SV.v (Value.bool false))) ∧ (((SV.v (Value.int IntKind.i64 0)) = (SV.v (Value.int IntKind.i64 0))) ∧ (((SV.v (Value.bool false)) = (SV.v (Value.bool false))) ∧ (((SV.v (Value.int IntKind.i64 0)) = (SV.v (Value.int IntKind.i64 0))) ∧ (((SV.v (Value.bool false)) = (SV.v (Value.bool false))) ∧ (((SV.v (Value.int IntKind.i64 0)) = (SV.v (Value.int IntKind.i64 0))) ∧ (((SV.v (Value.bool false)) = (SV.v (Value.bool false))) ∧ (((SV.v (Value.int IntKind.i64 0)) = (SV.v (Value.int IntKind.i64 0))) ∧ (((SV.v (Value.bool false)) = (SV.v (Value.bool false))) ∧ (((SV.v (Value.int IntKind.i64 0)) = (SV.v (Value.int IntKind.i64 0))) ∧ (((SV.v (Value.bool false)) = (SV.v (Value.bool false))) ∧ (((SV.v (Value.int IntKind.i64 0)) = (SV.v (Value.int IntKind.i64 0))) ∧ (((SV.v (Value.bool false)) = (SV.v (Value.bool false))) ∧ (((SV.v (Value.int IntKind.i64 0)) = (SV.v (Value.int IntKind.i64 0))) ∧ (((SV.v (Value.bool false)) = (SV.v (Value.bool false))) ∧ (((SV.v (Value.int IntKind.i64 0)) = (SV.v (Value.int IntKind.i64 0))) ∧ (((SV.v (Value.bool false)) = (SV.v (Value.bool false))) ∧ (((SV.v (Value.int IntKind.i64 0)) = (SV.v (Value.int IntKind.i64 0))) ∧ (((SV.v (Value.bool false)) = (SV.v (Value.bool false))) ∧ (((SV.v (Value.int IntKind.i64 0)) = (SV.v (Value.int IntKind.i64 0))) ∧ (((SV.v (Value.bool false)) = (SV.v (Value.bool false))) ∧ (((SV.v (Value.int IntKind.i64 0)) = (SV.v (Value.int IntKind.i64 0))) ∧ (((SV.v (Value.bool false)) = (SV.v (Value.bool false))) ∧ (((SV.v (Value.int IntKind.i64 (CV.gr c))) = (SV.v (Value.int IntKind.i64 0))) ∧ (((SV.v (Value.int IntKind.i64 0)) = (SV.v (Value.int IntKind.i64 0))) ∧ (((SV.v (Value.int IntKind.i64 0)) = (SV.v (Value.int IntKind.i64 0))) ∧ (((SV.v (Value.int IntKind.i64 0)) = (SV.v (Value.int IntKind.i64 0))) ∧ (((SV.v (Value.int IntKind.i64 0)) = (SV.v (Value.int IntKind.i64 0))) ∧ (((SV.v (Value.int IntKind.i64 0)) = (SV.v (Value.int IntKind.i64 0))) ∧ (((SV.v (Value.int IntKind.i64 0)) = (SV.v (Value.int IntKind.i64 0))) ∧ (((SV.v (Value.int IntKind.i64 0)) = (SV.v (Value.int IntKind.i64 0))) ∧ ((SV.v (Value.int IntKind.i64 0)) = (SV.v (Value.int IntKind.i64 0))))))))))))))))))))))))))))))))))))))))))))) ∧ ((SV.v (Value.bool true)) = (SV.v (Value.bool false)))) ∧ True) 
(sel (k == 8) (((((SV.v (Value.int IntKind.i64 k)) = (SV.v (Value.int IntKind.i64 0))) ∧ (((SV.v (Value.int IntKind.i64 (CV.id c))) = (SV.v (Value.int IntKind.i64 0))) ∧ (((SV.v (Value.int IntKind.i64 0)) = (SV.v (Value.int IntKind.i64 0))) ∧ (((SV.v (Value.int IntKind.i64 0)) = (SV.v (Value.int IntKind.i64 0))) ∧ (((SV.v (Value.int IntKind.i64 0)) = (SV.v (Value.int IntKind.i64 0))) ∧ (((SV.v (Value.int IntKind.i64 0)) = (SV.v (Value.int IntKind.i64 0))) ∧ (((SV.v (Value.int IntKind.i64 0)) = (SV.v (Value.int IntKind.i64 0))) ∧ (((SV.v (Value.int IntKind.i64 0)) = (SV.v (Value.int IntKind.i64 0))) ∧ (((SV.v (Value.int IntKind.i64 0)) = (SV.v (Value.int IntKind.i64 0))) ∧ (((SV.v (Value.slice none 0 0)) = (SV.v (Value.slice none 0 0))) ∧ (((SV.v (Value.int IntKind.i64 0)) = (SV.v (Value.int IntKind.i64 0))) ∧ (((SV.v (Value.bool false)) = (SV.v (Value.bool false))) ∧ (((SV.v (Value.int IntKind.i64 0)) = (SV.v (Value.int IntKind.i64 0))) ∧ (((SV.v (Value.bool false)) = (SV.v (Value.bool false))) ∧ (((SV.v (Value.int IntKind.i64 0)) = (SV.v (Value.int IntKind.i64 0))) ∧ (((SV.v (Value.bool false)) = (SV.v (Value.bool false))) ∧ (((SV.v (Value.int IntKind.i64 0)) = (SV.v (Value.int IntKind.i64 0))) ∧ (((SV.v (Value.bool false)) = (SV.v (Value.bool false))) ∧ (((SV.v (Value.int IntKind.i64 0)) = (SV.v (Value.int IntKind.i64 0))) ∧ (((SV.v (Value.bool false)) = (SV.v (Value.bool false))) ∧ (((SV.v (Value.int IntKind.i64 0)) = (SV.v (Value.int IntKind.i64 0))) ∧ (((SV.v (Value.bool false)) = (SV.v (Value.bool false))) ∧ (((SV.v (Value.int IntKind.i64 0)) = (SV.v (Value.int IntKind.i64 0))) ∧ (((SV.v (Value.bool false)) = (SV.v (Value.bool false))) ∧ (((SV.v (Value.int IntKind.i64 0)) = (SV.v (Value.int IntKind.i64 0))) ∧ (((SV.v (Value.bool false)) = (SV.v (Value.bool false))) ∧ (((SV.v (Value.int IntKind.i64 0)) = (SV.v (Value.int IntKind.i64 0))) ∧ (((SV.v (Value.bool false)) = (SV.v (Value.bool false))) ∧ (((SV.v (Value.int IntKind.i64 0)) = (SV.v (Value.int IntKind.i64 0))) ∧ (((SV.v (Value.bool false)) = (SV.v (Value.bool false))) ∧ (((SV.v (Value.int IntKind.i64 0)) = (SV.v (Value.int IntKind.i64 0))) ∧ (((SV.v (Value.bool false)) = (SV.v (Value.bool false))) ∧ (((SV.v (Value.int IntKind.i64 0)) = (SV.v (Value.int IntKind.i64 0))) ∧ (((SV.v (Value.bool false)) = (SV.v (Value.bool false))) ∧ (((SV.v (Value.int IntKind.i64 0)) = (SV.v (Value.int IntKind.i64 0))) ∧ (((SV.v (Value.int IntKind.i64 (CV.b0 c))) = (SV.v (Value.int IntKind.i64 0))) ∧ (((SV.v (Value.int IntKind.i64 (CV.b1 c))) = (SV.v (Value.int IntKind.i64 0))) ∧ (((SV.v (Value.int IntKind.i64 (CV.b2 c))) = (SV.v (Value.int IntKind.i64 0))) ∧ (((SV.v (Value.int IntKind.i64 (CV.b3 c))) = (SV.v (Value.int IntKind.i64 0))) ∧ (((SV.v (Value.int IntKind.i64 0)) = (SV.v (Value.int IntKind.i64 0))) ∧ (((SV.v (Value.int IntKind.i64 0)) = (SV.v (Value.int IntKind.i64 0))) ∧ (((SV.v (Value.int IntKind.i64 0)) = (SV.v (Value.int IntKind.i64 0))) ∧ ((SV.v (Value.int IntKind.i64 0)) = (SV.v (Value.int IntKind.i64 0))))))))))))))))))))))))))))))))))))))))))))) ∧ ((SV.v (Value.bool true)) = (SV.v (Value.bool false)))) ∧ True) 
(sel (k == 9) (((((SV.v (Value.int IntKind.i64 k)) = (SV.v (Value.int IntKind.i64 0))) ∧ (((SV.v (Value.int IntKind.i64 (CV.id c))) = (SV.v (Value.int IntKind.i64 0))) ∧ (((SV.v (Value.int IntKind.i64 0)) = (SV.v (Value.int IntKind.i64 0))) ∧ (((SV.v (Value.int IntKind.i64 0)) = (SV.v (Value.int IntKind.i64 0))) ∧ (((SV.v (Value.int IntKind.i64 0)) = (SV.v (Value.int IntKind.i64 0))) ∧ (((SV.v (Value.int IntKind.i64 0)) = (SV.v (Value.int IntKind.i64 0))) ∧ (((SV.v (Value.int IntKind.i64 0)) = (SV.v (Value.int IntKind.i64 0))) ∧ (((SV.v (Value.int IntKind.i64 0)) = (SV.v (Value.int IntKind.i64 0))) ∧ (((SV.v (Value.int IntKind.i64 0)) = (SV.v (Value.int IntKind.i64 0))) ∧ (((SV.v (Value.slice none 0 0)) = (SV.v (Value.slice none 0 0))) ∧ (((SV.v (Value.int IntKind.i64 0)) = (SV.v (Value.int IntKind.i64 0))) ∧ (((SV.v (Value.bool false)) = (SV.v (Value.bool false))) ∧ (((SV.v (Value.int IntKind.i64 0)) = (SV.v (Value.int IntKind.i64 0))) ∧ (((SV.v (Value.bool false)) = (SV.v (Value.bool false))) ∧ (((SV.v (Value.int IntKind.i64 0)) = (SV.v (Value.int IntKind.i64 0))) ∧ (((SV.v (Value.bool false)) = (SV.v (Value.bool false))) ∧ (((SV.v (Value.int IntKind.i64 0)) = (SV.v (Value.int IntKind.i64 0))) ∧ (((SV.v (Value.bool false)) = (SV.v (Value.bool false))) ∧ (((SV.v (Value.int IntKind.i64 0)) = (SV.v (Value.int IntKind.i64 0))) ∧ (((SV.v (Value.bool false)) = (SV.v (Value.bool false))) ∧ (((SV.v (Value.int IntKind.i64 0)) = (SV.v (Value.int IntKind.i64 0))) ∧ (((SV.v (Value.bool false)) = (SV.v (Value.bool false))) ∧ (((SV.v (Value.int IntKind.i64 0)) = (SV.v (Value.int IntKind.i64 0))) ∧ (((SV.v (Value.bool false)) = (SV.v (Value.bool false))) ∧ (((SV.v (Value.int IntKind.i64 0)) = (SV.v (Value.int IntKind.i64 0))) ∧ (((SV.v (Value.bool false)) = (SV.v (Value.bool false))) ∧ (((SV.v (Value.int IntKind.i64 0)) = (SV.v (Value.int IntKind.i64 0))) ∧ (((SV.v (Value.bool false)) = (SV.v (Value.bool false))) ∧ (((SV.v (Value.int IntKind.i64 0)) = (SV.v (Value.int IntKind.i64 0))) ∧ (((SV.v (Value.bool false)) = (SV.v (Value.bool false))) ∧ (((SV.v (Value.int IntKind.i64 0)) = (SV.v (Value.int IntKind.i64 0))) ∧ (((SV.v (Value.bool false)) = (SV.v (Value.bool false))) ∧ (((SV.v (Value.int IntKind.i64 0)) = (SV.v (Value.int IntKind.i64 0))) ∧ (((SV.v (Value.bool false)) = (SV.v (Value.bool false))) ∧ (((SV.v (Value.int IntKind.i64 0)) = (SV.v (Value.int IntKind.i64 0))) ∧ (((SV.v (Value.int IntKind.i64 0)) = (SV.v (Value.int IntKind.i64 0))) ∧ (((SV.v (Value.int IntKind.i64 0)) = (SV.v (Value.int IntKind.i64 0))) ∧ (((SV.v (Value.int IntKind.i64 0)) = (SV.v (Value.int IntKind.i64 0))) ∧ (((SV.v (Value.int IntKind.i64 0)) = (SV.v (Value.int IntKind.i64 0))) ∧ (((SV.v (Value.int IntKind.i64 (CV.f0 c))) = (SV.v (Value.int IntKind.i64 0))) ∧ (((SV.v (Value.int IntKind.i64 (CV.f1 c))) = (SV.v (Value.int IntKind.i64 0))) ∧ (((SV.v (Value.int IntKind.i64 (CV.u0 c))) = (SV.v (Value.int IntKind.i64 0))) ∧ ((SV.v (Value.int IntKind.i64 (CV.u1 c))) = (SV.v (Value.int IntKind.i64 0))))))))))))))))))))))))))))))))))))))))))))) ∧ ((SV.v (Value.bool true)) = (SV.v (Value.bool false)))) ∧ True) 
(sel (k == 10) (((((SV.v (Value.int IntKind.i64 k)) = (SV.v (Value.int IntKind.i64 0))) ∧ (((SV.v (Value.int IntKind.i64 (CV.id c))) = (SV.v (Value.int IntKind.i64 0))) ∧ (((SV.v (Value.int IntKind.i64 0)) = (SV.v (Value.int IntKind.i64 0))) ∧ (((SV.v (Value.int IntKind.i64 0)) = (SV.v (Value.int IntKind.i64 0))) ∧ (((SV.v (Value.int IntKind.i64 0)) = (SV.v (Value.int IntKind.i64 0))) ∧ (((SV.v (Value.int IntKind.i64 0)) = (SV.v (Value.int IntKind.i64 0))) ∧ (((SV.v (Value.int IntKind.i64 0)) = (SV.v (Value.int IntKind.i64 0))) ∧ (((SV.v (Value.int IntKind.i64 0)) = (SV.v (Value.int IntKind.i64 0))) ∧ (((SV.v (Value.int IntKind.i64 0)) = (SV.v (Value.int IntKind.i64 0))) ∧ (((SV.v (Value.slice none 0 0)) = (SV.v (Value.slice none 0 0))) ∧ (((SV.v (Value.int IntKind.i64 0)) = (SV.v (Value.int IntKind.i64 0))) ∧ (((SV.v (Value.bool false)) = (SV.v (Value.bool false))) ∧ (((SV.v (Value.int IntKind.i64 0)) = (SV.v (Value.int IntKind.i64 0))) ∧ (((SV.v (Value.bool false)) = (SV.v (Value.bool false))) ∧ (((SV.v (Value.int IntKind.i64 0)) = (SV.v (Value.int IntKind.i64 0))) ∧ (((SV.v (Value.bool false)) = (SV.v (Value.bool false))) ∧ (((SV.v (Value.int IntKind.i64 0)) = (SV.v (Value.int IntKind.i64 0))) ∧ (((SV.v (Value.bool false)) = (SV.v (Value.bool false))) ∧ (((SV.v (Value.int IntKind.i64 0)) = (SV.v (Value.int IntKind.i64 0))) ∧ (((SV.v (Value.bool false)) = (SV.v (Value.bool false))) ∧ (((SV.v (Value.int IntKind.i64 0)) = (SV.v (Value.int IntKind.i64 0))) ∧ (((SV.v (Value.bool false)) = (SV.v (Value.bool false))) ∧ (((SV.v (Value.int IntKind.i64 0)) = (SV.v (Value.int IntKind.i64 0))) ∧ (((SV.v (Value.bool false)) = (SV.v (Value.bool false))) ∧ (((SV.v (Value.int IntKind.i64 0)) = (SV.v (Value.int IntKind.i64 0))) ∧ (((SV.v (Value.bool false)) = (SV.v (Value.bool false))) ∧ (((SV.v (Value.int IntKind.i64 0)) = (SV.v (Value.int IntKind.i64 0))) ∧ (((SV.v (Value.bool false)) = (SV.v (Value.bool false))) ∧ (((SV.v (Value.int IntKind.i64 0)) = (SV.v (Value.int IntKind.i64 0))) ∧ (((SV.v (Value.bool false)) = (SV.v (Value.bool false))) ∧ (((SV.v (Value.int IntKind.i64 0)) = (SV.v (Value.int IntKind.i64 0))) ∧ (((SV.v (Value.bool false)) = (SV.v (Value.bool false))) ∧ (((SV.v (Value.int IntKind.i64 0)) = (SV.v (Value.int IntKind.i64 0))) ∧ (((SV.v (Value.bool false)) = (SV.v (Value.bool false))) ∧ (((SV.v (Value.int IntKind.i64 0)) = (SV.v (Value.int IntKind.i64 0))) ∧ (((SV.v (Value.int IntKind.i64 0)) = (SV.v (Value.int IntKind.i64 0))) ∧ (((SV.v (Value.int IntKind.i64 0)) = (SV.v (Value.int IntKind.i64 0))) ∧ (((SV.v (Value.int IntKind.i64 0)) = (SV.v (Value.int IntKind.i64 0))) ∧ (((SV.v (Value.int IntKind.i64 0)) = (SV.v (Value.int IntKind.i64 0))) ∧ (((SV.v (Value.int IntKind.i64 0)) = (SV.v (Value.int IntKind.i64 0))) ∧ (((SV.v (Value.int IntKind.i64 0)) = (SV.v (Value.int IntKind.i64 0))) ∧ (((SV.v (Value.int IntKind.i64 0)) = (SV.v (Value.int IntKind.i64 0))) ∧ ((SV.v (Value.int IntKind.i64 0)) = (SV.v (Value.int IntKind.i64 0))))))))))))))))))))))))))))))))))))))))))))) ∧ ((SV.v (Value.bool true)) = (SV.v (Value.bool false)))) ∧ True) (((((SV.v (Value.int IntKind.i64 0)) = (SV.v (Value.int IntKind.i64 0))) ∧ (((SV.v (Value.int IntKind.i64 0)) = (SV.v (Value.int IntKind.i64 0))) ∧ (((SV.v (Value.int IntKind.i64 0)) = (SV.v (Value.int IntKind.i64 0))) ∧ (((SV.v (Value.int IntKind.i64 0)) = (SV.v (Value.int IntKind.i64 0))) ∧ (((SV.v (Value.int IntKind.i64 0)) = (SV.v (Value.int IntKind.i64 0))) ∧ (((SV.v (Value.int IntKind.i64 0)) = (SV.v (Value.int IntKind.i64 0))) ∧ (((SV.v (Value.int IntKind.i64 0)) = (SV.v (Value.int IntKind.i64 0))) ∧ (((SV.v (Value.int IntKind.i64 0)) = (SV.v (Value.int IntKind.i64 0))) ∧ (((SV.v (Value.int IntKind.i64 0)) = (SV.v (Value.int IntKind.i64 0))) ∧ (((SV.v (Value.slice none 0 0)) = (SV.v (Value.slice none 0 0))) ∧ (((SV.v (Value.int IntKind.i64 0)) = (SV.v (Value.int IntKind.i64 0))) ∧ (((SV.v (Value.bool false)) = (SV.v (Value.bool false))) ∧ (((SV.v (Value.int IntKind.i64 0)) = (SV.v (Value.int IntKind.i64 0))) ∧ (((SV.v (Value.bool false)) = (SV.v (Value.bool false))) ∧ (((SV.v (Value.int IntKind.i64 0)) = (SV.v (Value.int IntKind.i64 0))) ∧ (((SV.v (Value.bool false)) = (SV.v (Value.bool false))) ∧ (((SV.v (Value.int IntKind.i64 0)) = (SV.v (Value.int IntKind.i64 0))) ∧ (((SV.v (Value.bool false)) = (SV.v (Value.bool false))) ∧ (((SV.v (Value.int IntKind.i64 0)) = (SV.v (Value.int IntKind.i64 0))) ∧ (((SV.v (Value.bool false)) = (SV.v (Value.bool false))) ∧ (((SV.v (Value.int IntKind.i64 0)) = (SV.v (Value.int IntKind.i64 0))) ∧ (((SV.v (Value.bool false)) = (SV.v (Value.bool false))) ∧ (((SV.v (Value.int IntKind.i64 0)) = (SV.v (Value.int IntKind.i64 0))) ∧ (((SV.v (Value.bool false)) = (SV.v (Value.bool false))) ∧ (((SV.v (Value.int IntKind.i64 0)) = (SV.v (Value.int IntKind.i64 0))) ∧ (((SV.v (Value.bool false)) = (SV.v (Value.bool false))) ∧ (((SV.v (Value.int IntKind.i64 0)) = (SV.v (Value.int IntKind.i64 0))) ∧ (((SV.v (Value.bool false)) = (SV.v (Value.bool false))) ∧ (((SV.v (Value.int IntKind.i64 0)) = (SV.v (Value.int IntKind.i64 0))) ∧ (((SV.v (Value.bool false)) = (SV.v (Value.bool false))) ∧ (((SV.v (Value.int IntKind.i64 0)) = (SV.v (Value.int IntKind.i64 0))) ∧ (((SV.v (Value.bool false)) = (SV.v (Value.bool false))) ∧ (((SV.v (Value.int IntKind.i64 0)) = (SV.v (Value.int IntKind.i64 0))) ∧ (((SV.v (Value.bool false)) = (SV.v (Value.bool false))) ∧ (((SV.v (Value.int IntKind.i64 0)) = (SV.v (Value.int IntKind.i64 0))) ∧ (((SV.v (Value.int IntKind.i64 0)) = (SV.v (Value.int IntKind.i64 0))) ∧ (((SV.v (Value.int IntKind.i64 0)) = (SV.v (Value.int IntKind.i64 0))) ∧ (((SV.v (Value.int IntKind.i64 0)) = (SV.v (Value.int IntKind.i64 0))) ∧ (((SV.v (Value.int IntKind.i64 0)) = (SV.v (Value.int IntKind.i64 0))) ∧ (((SV.v (Value.int IntKind.i64 0)) = (SV.v (Value.int IntKind.i64 0))) ∧ (((SV.v (Value.int IntKind.i64 0)) = (SV.v (Value.int IntKind.i64 0))) ∧ (((SV.v (Value.int IntKind.i64 0)) = (SV.v (Value.int IntKind.i64 0))) ∧ ((SV.v (Value.int IntKind.i64 0)) = (SV.v (Value.int IntKind.i64 0))))))))))))))))))))))))))))))))))))))))))))) ∧ ((SV.v (Value.bool false)) = (SV.v (Value.bool false)))) ∧ True))))))))))) := by kernel_rfl
end Go.Proofs.Ytjdldadmaaeimaa
end

section
set_option maxRecDepth 100000
set_option linter.unusedSimpArgs false
set_option linter.unusedVariables false
namespace Go.Proofs.Ytjdldadmaaeimaa
open Go.SE Go.RowKit

def cntStr : ByteArray := ⟨#[10, 0, 0, 0, 7]⟩
def cntC : SV := .agg ([iV 10, iV 7, iV 0, iV 0, iV 0] ++ zShape ++ (zN ++ zN ++ zN ++ zN) ++ (zN ++ zN) ++ zN ++ [iV 0, bV false] ++ (zN ++ zN) ++ (zN ++ zN) ++ [iV 0] ++ [iV 0, iV 0, iV 0, iV 0] ++ [iV 0, iV 0] ++ [iV 0, iV 0])
def fCall10 : List SV → ByteArray → Int → Option (Prop × SV × Int)
  | [], s, k => some (k = 0 ∧ s = cntStr, cntC, 5)
  | _, _, _ => none
def ΓQ0 : Ctrs := addCtr (addCtr (addCtr noCtrs 120 (hpCtr true (sRdG fKind10))) 121 (hpCtr true (sRdG fRdCount))) 131 (hpCtr true (sRdG fEnd))
theorem vcCall10  : (vcFn Try.prog ΓQ0 noΛ Try.f85 [.vp 0 0] (heapOf [rdB cntStr 0]) 64 (fun y h' => FinE [rdB cntStr 0] (.det none cntC [(0, rdB cntStr 5)]) y h')) =
(((rdQ cntStr 0 1) ∧ (((10 : Int) = 10) ∧ ((1 : Int) ≤ 10))) ∧ (((rdQ cntStr 1 4) ∧ ((7 : Int) ≤ 2147483647)) ∧ (((5 : Int) = 5) ∧ ((((SV.v (Value.int IntKind.i64 10)) = (SV.v (Value.int IntKind.i64 10))) ∧ (((SV.v (Value.int IntKind.i64 7)) = (SV.v (Value.int IntKind.i64 7))) ∧ (((SV.v (Value.int IntKind.i64 0)) = (SV.v (Value.int IntKind.i64 0))) ∧ (((SV.v (Value.int IntKind.i64 0)) = (SV.v (Value.int IntKind.i64 0))) ∧ (((SV.v (Value.int IntKind.i64 0)) = (SV.v (Value.int IntKind.i64 0))) ∧ (((SV.v (Value.int IntKind.i64 0)) = (SV.v (Value.int IntKind.i64 0))) ∧ (((SV.v (Value.int IntKind.i64 0)) = (SV.v (Value.int IntKind.i64 0))) ∧ (((SV.v (Value.int IntKind.i64 0)) = (SV.v (Value.int IntKind.i64 0))) ∧ (((SV.v (Value.int IntKind.i64 0)) = (SV.v (Value.int IntKind.i64 0))) ∧ (((SV.v (Value.slice none 0 0)) = (SV.v (Value.slice none 0 0))) ∧ (((SV.v (Value.int IntKind.i64 0)) = (SV.v (Value.int IntKind.i64 0))) ∧ (((SV.v (Value.bool false)) = (SV.v (Value.bool false))) ∧ (((SV.v (Value.int IntKind.i64 0)) = (SV.v (Value.int IntKind.i64 0))) ∧ (((SV.v (Value.bool false)) = (SV.v (Value.bool false))) ∧ (((SV.v (Value.int IntKind.i64 0)) = (SV.v (Value.int IntKind.i64 0))) ∧ (((SV.v (Value.bool false)) = (SV.v (Value.bool false))) ∧ (((SV.v (Value.int IntKind.i64 0)) = (SV.v (Value.int IntKind.i64 0))) ∧ (((SV.v (Value.bool false)) = (SV.v (Value.bool false))) ∧ (((SV.v (Value.int IntKind.i64 0)) = (SV.v (Value.int IntKind.i64 0))) ∧ (((SV.v (Value.bool false)) = (SV.v (Value.bool false))) ∧ (((SV.v (Value.int IntKind.i64 0)) = (SV.v (Value.int IntKind.i64 0))) ∧ (((SV.v (Value.bool false)) = (SV.v (Value.bool false))) ∧ (((SV.v (Value.int IntKind.i64 0)) = (SV.v (Value.int IntKind.i64 0))) ∧ (((SV.v (Value.bool false)) = (SV.v (Value.bool false))) ∧ (((SV.v (Value.int IntKind.i64 0)) = (SV.v (Value.int IntKind.i64 0))) ∧ (((SV.v (Value.bool false)) = (SV.v (Value.bool false))) ∧ (((SV.v (Value.int IntKind.i64 0)) = (SV.v (Value.int IntKind.i64 0))) ∧ (((SV.v (Value.bool false)) = (SV.v (Value.bool false))) ∧ (((SV.v (Value.int IntKind.i64 0)) = (SV.v (Value.int IntKind.i64 0))) ∧ (((SV.v (Value.bool false)) = (SV.v (Value.bool false))) ∧ (((SV.v (Value.int IntKind.i64 0)) = (SV.v (Value.int IntKind.i64 0))) ∧ (((SV.v (Value.bool false)) = (SV.v (Value.bool false))) ∧ (((SV.v (Value.int IntKind.i64 0)) = (SV.v (Value.int IntKind.i64 0))) ∧ (((SV.v (Value.bool false)) = (SV.v (Value.bool false))) ∧ (((SV.v (Value.int IntKind.i64 0)) = (SV.v (Value.int IntKind.i64 0))) ∧ (((SV.v (Value.int IntKind.i64 0)) = (SV.v (Value.int IntKind.i64 0))) ∧ (((SV.v (Value.int IntKind.i64 0)) = (SV.v (Value.int IntKind.i64 0))) ∧ (((SV.v (Value.int IntKind.i64 0)) = (SV.v (Value.int IntKind.i64 0))) ∧ (((SV.v (Value.int IntKind.i64 0)) = (SV.v (Value.int IntKind.i64 0))) ∧ (((SV.v (Value.int IntKind.i64 0)) = (SV.v (Value.int IntKind.i64 0))) ∧ (((SV.v (Value.int IntKind.i64 0)) = (SV.v (Value.int IntKind.i64 0))) ∧ (((SV.v (Value.int IntKind.i64 0)) = (SV.v (Value.int IntKind.i64 0))) ∧ ((SV.v (Value.int IntKind.i64 0)) = (SV.v (Value.int IntKind.i64 0))))))))))))))))))))))))))))))))))))))))))))) ∧ (((1 : Nat) = 1) ∧ (((1 : Nat) ≤ 1) ∧ (∀ i : Nat, (((i : Nat) < 1) → ([(SV.v (Value.string cntStr)), (SV.v (Value.int IntKind.i64 5))] = [(SV.v (Value.string cntStr)), (SV.v (Value.int IntKind.i64 5))]))))))))) := by kernel_rfl
def ΓQ1 : Ctrs := addCtr noCtrs 85 (hpCtr true (sRdG fCall10))
def dA (fn : Func) : Code := match fn.body with
  | some (.seq a _) => a
  | _ => .skip
def dB (fn : Func) : Code := match fn.body with
  | some (.seq _ (.seq _ b)) => b
  | _ => .skip
def dC (fn : Func) : Code := match fn.body with
  | some (.seq _ b) => b
  | _ => .skip
def sReadC (args : List SV) (bs : List Blk) : Option Eff := match args, bs with
  | [.v (.string s)], [] => some (.det (some (s = cntStr)) (.tup [cntC, iV 0]) [])
  | _, _ => none
theorem vcReadC (q : Option Prop) : (vcFnD Try.prog ΓQ1 noΛ Try.f38 Try.f84 (dA Try.f38) (dB Try.f38) (dC Try.f84) 3 5 [.v (.string cntStr)] (heapOf []) 64 (fun y h' => FinE [] (.det q (.tup [cntC, iV 0]) []) y h')) =
((((0 : Int) = 0) ∧ (cntStr = cntStr)) ∧ (((((SV.v (Value.int IntKind.i64 10)) = (SV.v (Value.int IntKind.i64 10))) ∧ (((SV.v (Value.int IntKind.i64 7)) = (SV.v (Value.int IntKind.i64 7))) ∧ (((SV.v (Value.int IntKind.i64 0)) = (SV.v (Value.int IntKind.i64 0))) ∧ (((SV.v (Value.int IntKind.i64 0)) = (SV.v (Value.int IntKind.i64 0))) ∧ (((SV.v (Value.int IntKind.i64 0)) = (SV.v (Value.int IntKind.i64 0))) ∧ (((SV.v (Value.int IntKind.i64 0)) = (SV.v (Value.int IntKind.i64 0))) ∧ (((SV.v (Value.int IntKind.i64 0)) = (SV.v (Value.int IntKind.i64 0))) ∧ (((SV.v (Value.int IntKind.i64 0)) = (SV.v (Value.int IntKind.i64 0))) ∧ (((SV.v (Value.int IntKind.i64 0)) = (SV.v (Value.int IntKind.i64 0))) ∧ (((SV.v (Value.slice none 0 0)) = (SV.v (Value.slice none 0 0))) ∧ (((SV.v (Value.int IntKind.i64 0)) = (SV.v (Value.int IntKind.i64 0))) ∧ (((SV.v (Value.bool false)) = (SV.v (Value.bool false))) ∧ (((SV.v (Value.int IntKind.i64 0)) = (SV.v (Value.int IntKind.i64 0))) ∧ (((SV.v (Value.bool false)) = (SV.v (Value.bool false))) ∧ (((SV.v (Value.int IntKind.i64 0)) = (SV.v (Value.int IntKind.i64 0))) ∧ (((SV.v (Value.bool false)) = (SV.v (Value.bool false))) ∧ (((SV.v (Value.int IntKind.i64 0)) = (SV.v (Value.int IntKind.i64 0))) ∧ (((SV.v (Value.bool false)) = (SV.v (Value.bool false))) ∧ (((SV.v (Value.int IntKind.i64 0)) = (SV.v (Value.int IntKind.i64 0))) ∧ (((SV.v (Value.bool false)) = (SV.v (Value.bool false))) ∧ (((SV.v (Value.int IntKind.i64 0)) = (SV.v (Value.int IntKind.i64 0))) ∧ (((SV.v (Value.bool false)) = (SV.v (Value.bool false))) ∧ (((SV.v (Value.int IntKind.i64 0)) = (SV.v (Value.int IntKind.i64 0))) ∧ (((SV.v (Value.bool false)) = (SV.v (Value.bool false))) ∧ (((SV.v (Value.int IntKind.i64 0)) = (SV.v (Value.int IntKind.i64 0))) ∧ (((SV.v (Value.bool false)) = (SV.v (Value.bool false))) ∧ (((SV.v (Value.int IntKind.i64 0)) = (SV.v (Value.int IntKind.i64 0))) ∧ (((SV.v (Value.bool false)) = (SV.v (Value.bool false))) ∧ (((SV.v (Value.int IntKind.i64 0)) = (SV.v (Value.int IntKind.i64 0))) ∧ (((SV.v (Value.bool false)) = (SV.v (Value.bool false))) ∧ (((SV.v (Value.int IntKind.i64 0)) = (SV.v (Value.int IntKind.i64 0))) ∧ (((SV.v (Value.bool false)) = (SV.v (Value.bool false))) ∧ (((SV.v (Value.int IntKind.i64 0)) = (SV.v (Value.int IntKind.i64 0))) ∧ (((SV.v (Value.bool false)) = (SV.v (Value.bool false))) ∧ (((SV.v (Value.int IntKind.i64 0)) = (SV.v (Value.int IntKind.i64 0))) ∧ (((SV.v (Value.int IntKind.i64 0)) = (SV.v (Value.int IntKind.i64 0))) ∧ (((SV.v (Value.int IntKind.i64 0)) = (SV.v (Value.int IntKind.i64 0))) ∧ (((SV.v (Value.int IntKind.i64 0)) = (SV.v (Value.int IntKind.i64 0))) ∧ (((SV.v (Value.int IntKind.i64 0)) = (SV.v (Value.int IntKind.i64 0))) ∧ (((SV.v (Value.int IntKind.i64 0)) = (SV.v (Value.int IntKind.i64 0))) ∧ (((SV.v (Value.int IntKind.i64 0)) = (SV.v (Value.int IntKind.i64 0))) ∧ (((SV.v (Value.int IntKind.i64 0)) = (SV.v (Value.int IntKind.i64 0))) ∧ ((SV.v (Value.int IntKind.i64 0)) = (SV.v (Value.int IntKind.i64 0))))))))))))))))))))))))))))))))))))))))))))) ∧ ((SV.v (Value.int IntKind.i64 0)) = (SV.v (Value.int IntKind.i64 0)))) ∧ True)) := by kernel_rfl
theorem defer38 : ∃ o rid, Try.f38.body = some (.seq (dA Try.f38) (.seq (.region rid #[o] false) (dB Try.f38))) ∧ o.guard = none ∧ o.dst = none ∧ ∀ (a : Act) (w : World), (execOp a.eval o).run Try.prog w = .ok (.defer { target := .fn (.func 84) #[], args := #[a.eval (.tmp 3)] }) w :=
  ⟨_, _, rfl, rfl, rfl, fun a w => by simp [execOp, resolve, Act.eval, Deferred.ofValue]⟩
theorem caught84 : ∃ o rid, Try.f84.body = some (.seq (.region rid #[o] false) (dC Try.f84)) ∧ o.guard = none ∧ o.dst = some 5 ∧ ∀ (ρ : Operand → Value) (w : World), (execOp ρ o).run Try.prog w = .ok .recover w :=
  ⟨_, _, rfl, rfl, rfl, fun ρ w => rfl⟩
theorem cnt_size : cntStr.size = 5 := rfl
theorem ΓQ0_ok : ∀ f g, ΓQ0 f = some g → g.ok Try.prog f := addCtr_ok (addCtr_ok (addCtr_ok noCtrs_ok (hp_ok Try.func120 (by kernel_rfl) (by kernel_rfl) Kind10_spec)) (hp_ok Try.func121 (by kernel_rfl) (by kernel_rfl) RdCount_spec)) (hp_ok Try.func131 (by kernel_rfl) (by kernel_rfl) RdEnd_spec)
theorem Call10_spec : HpSpec Try.prog 85 (sRdG fCall10) := rd_spec ΓQ0_ok Try.func85 (Λ := fun _ _ _ => noΛ) fun rest s k q x k' h hq => by
  unfold fCall10 at h
  split at h <;> try (cases h; done)
  cases h
  obtain ⟨rfl, rfl⟩ := hq
  rw [vcCall10]
  refine ⟨⟨⟨⟨by omega, by omega⟩, ⟨by omega, by rw [cnt_size]; omega⟩, by rw [cnt_size]; omega⟩, rfl, by omega⟩, ⟨⟨⟨by omega, by omega⟩, ⟨by omega, by rw [cnt_size]; omega⟩, by rw [cnt_size]; omega⟩, by omega⟩, rfl, ?_, rfl, Nat.le_refl _, fun _ _ => rfl⟩
  repeat (first | exact rfl | refine ⟨rfl, ?_⟩)
theorem ΓQ1_ok : ∀ f g, ΓQ1 f = some g → g.ok Try.prog f := addCtr_ok noCtrs_ok (hp_ok Try.func85 (by kernel_rfl) (by kernel_rfl) Call10_spec)
theorem vcReadC_holds (q : Option Prop) : vcFnD Try.prog ΓQ1 noΛ Try.f38 Try.f84 (dA Try.f38) (dB Try.f38) (dC Try.f84) 3 5 [.v (.string cntStr)] (heapOf []) 64 (fun y h' => FinE [] (.det q (.tup [cntC, iV 0]) []) y h') := by
  rw [vcReadC]
  refine ⟨⟨rfl, rfl⟩, ⟨?_, rfl⟩, trivial⟩
  repeat (first | exact rfl | refine ⟨rfl, ?_⟩)
theorem ReadC_spec : HpSpec Try.prog 38 sReadC := hp_spec_of fun args bs e hs hp => by
  unfold sReadC at hs
  split at hs
  · rename_i s
    have he := Option.some.inj hs
    subst he
    have hx : s = cntStr := hp _ rfl
    subst hx
    obtain ⟨o, rid, b1, b2, b3, b4⟩ := defer38
    obtain ⟨o2, rid2, d1, d2, d3, d4⟩ := caught84
    exact ⟨[], trivial, fun δ w vals ha hr ht => fn_callsD hm ΓQ1_ok Try.func38 Try.func84 b1 b4 b2 b3 (by kernel_rfl) d1 d4 d2 d3 rfl (by kernel_rfl) (by kernel_rfl) ha hr ht (vcReadC_holds _)⟩
  · cases hs
end Go.Proofs.Ytjdldadmaaeimaa
end

section
section
set_option maxRecDepth 100000
set_option linter.unusedSimpArgs false
set_option linter.unusedVariables false
namespace Go.Proofs.Ytjdldadmaaeimaa
open Go.SE Go.RowKit

structure Pz where
  bad : Bool
  er : Int
def Pz.seq (a b : Pz) : Pz := ⟨a.bad || b.bad, bif a.bad then a.er else b.er⟩
def rdPre (s : ByteArray) (k : Int) : Prop := (0 ≤ k ∧ k ≤ (s.size : Int)) ∧ s.size ≤ 1099511627776
def sTd (F : List SV → ByteArray → Int → Option (Prop × SV × Int)) (args : List SV) (bs : List Blk) : Option Eff := match args, bs with
  | .vp 0 0 :: rest, [B] => match B.row 0 with
    | [.v (.string s), .v (.int .i64 k)] => match F rest s k with
      | some (q, x, k') => bif rdOk B then some (.det (some (rdPre s k ∧ q)) x [(0, rdB s k')]) else none
      | none => none
    | _ => none
  | _, _ => none
def tkP (s : ByteArray) (k n : Int) : Pz := ⟨decide ((s.size : Int) - k < n), 7⟩
def upP (s : ByteArray) (k m n : Int) : Pz := (tkP s k n).seq ⟨decide (m < rdT s k n.toNat), 4⟩
theorem hide_ex {α : Type} (x : α) : ∃ y, y = x := ⟨x, rfl⟩
noncomputable def hide {α : Type} (x : α) : α := Classical.choose (hide_ex x)
theorem hide_eq {α : Type} (x : α) : hide x = x := Classical.choose_spec (hide_ex x)
noncomputable def rdI (s : ByteArray) (k : Int) : Int := hide (IntKind.i64.wrap (rdT s k 8))
def rdF (s : ByteArray) (k : Int) : Bool := rdT s k 1 == 1
noncomputable def nuP (s : ByteArray) (k : Int) : Pz := (tkP s k 8).seq (Pz.seq ⟨rdI s k == -9223372036854775808, 4⟩ (upP s (k + 8) 1 1))
noncomputable def vcP (s : ByteArray) (k : Int) : Pz := (nuP s k).seq (nuP s (k + 8 + 1))
noncomputable def psP (s : ByteArray) (k : Int) : Pz := (vcP s k).seq ((nuP s (k + 8 + 1 + 8 + 1)).seq (nuP s (k + 8 + 1 + 8 + 1 + 8 + 1)))
def spP (s : ByteArray) (k : Int) : Pz := (tkP s k 8).seq (tkP s (k + 8) 8)
def haP (s : ByteArray) (k : Int) : Pz := (upP s k 2147483647 4).seq (upP s (k + 4) 2147483647 4)
def t0 (f : ByteArray → Int → SV × Int) : List SV → ByteArray → Int → Option (Prop × SV × Int)
  | [], s, k => some (True, (f s k).1, (f s k).2)
  | _, _, _ => none
def p0 (f : ByteArray → Int → Pz) : List SV → ByteArray → Int → Pz
  | [], s, k => f s k
  | _, _, _ => ⟨false, 0⟩
theorem seq_ok {a b : Pz} (h : a.bad = false) : a.seq b = b := by unfold Pz.seq; rw [h]; rfl
theorem rdI_eq (s : ByteArray) (k : Int) : rdI s k = IntKind.i64.wrap (rdT s k 8) := hide_eq _
end Go.Proofs.Ytjdldadmaaeimaa
end

section
set_option maxRecDepth 100000
set_option linter.unusedSimpArgs false
set_option linter.unusedVariables false
namespace Go.Proofs.Ytjdldadmaaeimaa
open Go.SE Go.RowKit

noncomputable def rdSp (s : ByteArray) (k : Int) : Nat → Int × Int := fun i => (rdI s (k + 16 * (i : Int)), rdI s (k + 16 * (i : Int) + 8))
def sptP (s : ByteArray) (k : Int) : Nat → Pz
  | 0 => ⟨false, 0⟩
  | i + 1 => (sptP s k i).seq (spP s (k + 16 * (i : Int)))
def shA (k : Int) : Int := k + 1 + 8 + 8 + 8 + 1
def shC (s : ByteArray) (k : Int) : Nat := (rdT s (k + 1 + 8 + 8 + 8) 1).toNat
def shEnd (s : ByteArray) (k : Int) : Int := shA k + 16 * (shC s k : Int)
def shP (s : ByteArray) (k : Int) : Pz := (upP s k 255 1).seq ((tkP s (k + 1) 8).seq ((tkP s (k + 1 + 8) 8).seq ((tkP s (k + 1 + 8 + 8) 8).seq ((upP s (k + 1 + 8 + 8 + 8) 8 1).seq (sptP s (shA k) (shC s k))))))
noncomputable def shB4 (s : ByteArray) (k : Int) : ShB := ⟨rdT s k 1, rdI s (k + 1), rdI s (k + 1 + 8), rdI s (k + 1 + 8 + 8)⟩
structure SX where
  i : Nat
  c : Nat
def kiP (s : ByteArray) (k low : Int) : Pz := (tkP s k 1).seq ⟨!(decide (low ≤ rdT s k 1) && decide (rdT s k 1 ≤ 10)), 8⟩
def enP (s : ByteArray) (k : Int) : Pz := ⟨!(k == (s.size : Int)), 6⟩
theorem slT_eq {k s i i' n n' c c' : Nat} (h1 : i = i') (h2 : n = n') (h3 : c = c') : SV.sl k s i n c = SV.sl k s i' n' c' := by subst h1 h2 h3; rfl
theorem shC_int (s : ByteArray) (k : Int) : rdT s (k + 1 + 8 + 8 + 8) 1 = (shC s k : Int) := by
  have := (rdT_rng s (k + 1 + 8 + 8 + 8) 1).1
  unfold shC
  omega
end Go.Proofs.Ytjdldadmaaeimaa
end

section
set_option maxRecDepth 100000
set_option linter.unusedSimpArgs false
set_option linter.unusedVariables false
namespace Go.Proofs.Ytjdldadmaaeimaa
open Go.SE Go.RowKit

def rdL (L : List Int) (k : Nat) : Nat → Int
  | 0 => 0
  | i + 1 => rdL L k i * 256 + L.getD (k + i) 0
structure At where
  n : Nat
  bd : Int → Bool
  er : Int
def runA (s : ByteArray) (fin : Int → Pz) : Int → List At → Pz
  | k, [] => fin k
  | k, a :: l => (tkP s k a.n).seq (Pz.seq ⟨a.bd (rdT s k a.n), a.er⟩ (runA s fin (k + a.n) l))
def rds (s : ByteArray) : Int → List At → List Int
  | _, [] => []
  | k, a :: l => rdT s k a.n :: rds s (k + a.n) l
def atL : List At → Nat
  | [] => 0
  | a :: l => a.n + atL l
def enc : List At → List Int → List Int
  | a :: l, v :: vs => be v a.n ++ enc l vs
  | _, _ => []
def vok : List At → List Int → Prop
  | a :: l, v :: vs => ((0 ≤ v ∧ v < 256 ^ a.n) ∧ a.bd v = false) ∧ vok l vs
  | [], [] => True
  | _, _ => False
theorem rdT_byt (s : ByteArray) {k : Int} (hk : 0 ≤ k) : ∀ n : Nat, rdT s k n = rdL (byt s) k.toNat n
  | 0 => rfl
  | n + 1 => by
    simp only [rdT, rdL]
    rw [rdT_byt s hk n, byt_get]
theorem rdL_left {A B : List Int} {k : Nat} : ∀ {n : Nat}, k + n ≤ A.length → rdL (A ++ B) k n = rdL A k n
  | 0, _ => rfl
  | n + 1, h => by
    simp only [rdL]
    rw [rdL_left (by omega)]
    have : (A ++ B).getD (k + n) 0 = A.getD (k + n) 0 := by
      simp only [List.getD]
      rw [List.getElem?_append_left (by omega)]
    rw [this]
theorem rdL_right {A B : List Int} {k : Nat} : ∀ {n : Nat}, rdL (A ++ B) (A.length + k) n = rdL B k n
  | 0 => rfl
  | n + 1 => by
    simp only [rdL]
    rw [rdL_right]
    have : (A ++ B).getD (A.length + k + n) 0 = B.getD (k + n) 0 := by
      simp only [List.getD]
      rw [List.getElem?_append_right (by omega)]
      congr 2
      omega
    rw [this]
theorem be_snoc (v : Int) (n : Nat) : be v (n + 1) = be (v / 256) n ++ [v % 256] := by
  unfold be
  rw [beT_succ]
  congr 1
  · unfold beT
    refine List.map_congr_left fun j hj => ?_
    have hj := List.mem_range.1 hj
    unfold byteAt
    rw [show 8 * (n + 1 - 1 - j) = 8 * (n - 1 - j) + 8 by omega, Int.pow_add, Int.mul_comm, ← Int.ediv_ediv_of_nonneg (by decide)]
    rfl
  · unfold byteAt
    rw [show 8 * (n + 1 - 1 - n) = 0 by omega]
    simp
theorem rdL_be : ∀ (n : Nat) (v : Int), 0 ≤ v → v < 256 ^ n → rdL (be v n) 0 n = v
  | 0, v, h0, h1 => by
    have : v < 1 := h1
    simp only [rdL]; omega
  | n + 1, v, h0, h1 => by
    have hp : (256 : Int) ^ (n + 1) = 256 ^ n * 256 := Int.pow_succ 256 n
    have ih := rdL_be n (v / 256) (Int.ediv_nonneg h0 (by decide)) (Int.ediv_lt_of_lt_mul (by decide) (by rw [← hp]; exact h1))
    simp only [rdL]
    rw [be_snoc, rdL_left (by rw [be_len]; omega), ih]
    have : (be (v / 256) n ++ [v % 256]).getD (0 + n) 0 = v % 256 := by
      simp only [List.getD]
      rw [List.getElem?_append_right (by rw [be_len]; omega), be_len]
      simp
    rw [this]
    omega
theorem be_rng (v : Int) (n : Nat) : ∀ x ∈ be v n, 0 ≤ x ∧ x < 256 := fun x hx => by
  unfold be beT byteAt at hx
  obtain ⟨i, _, rfl⟩ := List.mem_map.1 hx
  omega
theorem enc_rng : ∀ (l : List At) (vs : List Int), ∀ x ∈ enc l vs, 0 ≤ x ∧ x < 256
  | [], _, x, hx => by simp [enc] at hx
  | a :: l, [], x, hx => by simp [enc] at hx
  | a :: l, v :: vs, x, hx => by
    simp only [enc, List.mem_append] at hx
    rcases hx with hx | hx
    · exact be_rng _ _ x hx
    · exact enc_rng l vs x hx
theorem enc_len : ∀ {l : List At} {vs : List Int}, vok l vs → (enc l vs).length = atL l
  | [], [], _ => rfl
  | a :: l, v :: vs, h => by
    simp only [enc, atL, List.length_append, be_len]
    rw [enc_len h.2]
  | [], _ :: _, h => h.elim
  | _ :: _, [], h => h.elim
theorem tk_is {s : ByteArray} {k n : Int} (h : k + n ≤ (s.size : Int)) : (tkP s k n).bad = false := decide_eq_false (by omega)
theorem run_enc {s : ByteArray} {X : List Int} {fin : Int → Pz} : ∀ {l : List At} {vs : List Int} {P : List Int}, byt s = P ++ (enc l vs ++ X) → vok l vs → runA s fin (P.length : Int) l = fin ((P.length + atL l : Nat) : Int) ∧ rds s (P.length : Int) l = vs
  | [], [], P, hs, hv => ⟨rfl, rfl⟩
  | [], _ :: _, P, hs, hv => hv.elim
  | _ :: _, [], P, hs, hv => hv.elim
  | a :: l, v :: vs, P, hs, hv => by
    obtain ⟨⟨⟨h0, h1⟩, h2⟩, h3⟩ := hv
    have hs' : byt s = P ++ (be v a.n ++ (enc l vs ++ X)) := by rw [hs]; simp only [enc, List.append_assoc]
    have hsz : s.size = P.length + (a.n + (enc l vs ++ X).length) := by
      rw [← byt_len, hs', List.length_append, List.length_append, be_len]
    have hr : rdT s (P.length : Int) a.n = v := by
      rw [rdT_byt s (by omega), Int.toNat_natCast, hs', show P.length = P.length + 0 from rfl, rdL_right, rdL_left (by rw [be_len]; omega)]
      exact rdL_be a.n v h0 h1
    have ih := run_enc (s := s) (X := X) (fin := fin) (l := l) (vs := vs) (P := P ++ be v a.n) (by rw [hs', List.append_assoc]) h3
    rw [List.length_append, be_len] at ih
    have e1 : ((P.length + a.n : Nat) : Int) = (P.length : Int) + (a.n : Int) := by omega
    rw [e1] at ih
    constructor
    · simp only [runA]
      rw [seq_ok (tk_is (by omega)), hr, seq_ok (a := ⟨a.bd v, a.er⟩) h2, ih.1]
      simp only [atL]
      rw [Nat.add_assoc]
    · simp only [rds]
      rw [hr, ih.2]
theorem runA_app {s : ByteArray} {fin : Int → Pz} : ∀ {l1 l2 : List At} {k : Int}, runA s fin k (l1 ++ l2) = runA s (fun k' => runA s fin k' l2) k l1
  | [], l2, k => rfl
  | a :: l1, l2, k => by
    simp only [List.cons_append, runA]
    rw [runA_app]
theorem seq_assoc (a b c : Pz) : (a.seq b).seq c = a.seq (b.seq c) := by
  obtain ⟨ab, ae⟩ := a
  obtain ⟨bb, bi⟩ := b
  cases ab <;> rfl
theorem atL_app : ∀ (l1 l2 : List At), atL (l1 ++ l2) = atL l1 + atL l2
  | [], l2 => by simp [atL]
  | a :: l1, l2 => by simp only [List.cons_append, atL, atL_app l1 l2, Nat.add_assoc]
theorem rds_app {s : ByteArray} : ∀ {l1 l2 : List At} {k : Int}, rds s k (l1 ++ l2) = rds s k l1 ++ rds s (k + (atL l1 : Int)) l2
  | [], l2, k => by simp [rds, atL]
  | a :: l1, l2, k => by
    simp only [List.cons_append, rds, atL]
    rw [rds_app, show k + (a.n : Int) + (atL l1 : Int) = k + ((a.n + atL l1 : Nat) : Int) by omega]
theorem enc_app : ∀ {l1 l2 : List At} {v1 v2 : List Int}, v1.length = l1.length → enc (l1 ++ l2) (v1 ++ v2) = enc l1 v1 ++ enc l2 v2
  | [], l2, [], v2, _ => rfl
  | [], l2, _ :: _, v2, h => by simp at h
  | _ :: _, l2, [], v2, h => by simp at h
  | a :: l1, l2, v :: v1, v2, h => by
    simp only [List.cons_append, enc]
    rw [enc_app (by simpa using h), List.append_assoc]
theorem vok_app : ∀ {l1 l2 : List At} {v1 v2 : List Int}, v1.length = l1.length → (vok (l1 ++ l2) (v1 ++ v2) ↔ vok l1 v1 ∧ vok l2 v2)
  | [], l2, [], v2, _ => by simp [vok]
  | [], l2, _ :: _, v2, h => by simp at h
  | _ :: _, l2, [], v2, h => by simp at h
  | a :: l1, l2, v :: v1, v2, h => by
    simp only [List.cons_append, vok]
    rw [vok_app (by simpa using h)]
    simp only [and_assoc]
end Go.Proofs.Ytjdldadmaaeimaa
end

section
set_option maxRecDepth 100000
set_option linter.unusedSimpArgs false
set_option linter.unusedVariables false
namespace Go.Proofs.Ytjdldadmaaeimaa
open Go.SE Go.RowKit
noncomputable def cP1 (s : ByteArray) (k : Int) : Pz := (shP s (k + 1 + 4)).seq ((psP s (shEnd s (k + 1 + 4))).seq ((vcP s (shEnd s (k + 1 + 4) + 8 + 1 + 8 + 1 + 8 + 1 + 8 + 1)).seq ((nuP s (shEnd s (k + 1 + 4) + 8 + 1 + 8 + 1 + 8 + 1 + 8 + 1 + 8 + 1 + 8 + 1)).seq ((tkP s (shEnd s (k + 1 + 4) + 8 + 1 + 8 + 1 + 8 + 1 + 8 + 1 + 8 + 1 + 8 + 1 + 8 + 1) 8).seq ((upP s (shEnd s (k + 1 + 4) + 8 + 1 + 8 + 1 + 8 + 1 + 8 + 1 + 8 + 1 + 8 + 1 + 8 + 1 + 8) 1 1).seq (enP s (shEnd s (k + 1 + 4) + 8 + 1 + 8 + 1 + 8 + 1 + 8 + 1 + 8 + 1 + 8 + 1 + 8 + 1 + 8 + 1)))))))
noncomputable def cV1 (s : ByteArray) (k : Int) : CV := ⟨rdT s (k + 1) 4, 0, 0, 0, (shB4 s (k + 1 + 4)).k, (shB4 s (k + 1 + 4)).r, (shB4 s (k + 1 + 4)).w, (shB4 s (k + 1 + 4)).h, rdI s (shEnd s (k + 1 + 4)), rdF s (shEnd s (k + 1 + 4) + 8), rdI s (shEnd s (k + 1 + 4) + 8 + 1), rdF s (shEnd s (k + 1 + 4) + 8 + 1 + 8), rdI s (shEnd s (k + 1 + 4) + 8 + 1 + 8 + 1), rdF s (shEnd s (k + 1 + 4) + 8 + 1 + 8 + 1 + 8), rdI s (shEnd s (k + 1 + 4) + 8 + 1 + 8 + 1 + 8 + 1), rdF s (shEnd s (k + 1 + 4) + 8 + 1 + 8 + 1 + 8 + 1 + 8), rdI s (shEnd s (k + 1 + 4) + 8 + 1 + 8 + 1 + 8 + 1 + 8 + 1), rdF s (shEnd s (k + 1 + 4) + 8 + 1 + 8 + 1 + 8 + 1 + 8 + 1 + 8), rdI s (shEnd s (k + 1 + 4) + 8 + 1 + 8 + 1 + 8 + 1 + 8 + 1 + 8 + 1), rdF s (shEnd s (k + 1 + 4) + 8 + 1 + 8 + 1 + 8 + 1 + 8 + 1 + 8 + 1 + 8), rdI s (shEnd s (k + 1 + 4) + 8 + 1 + 8 + 1 + 8 + 1 + 8 + 1 + 8 + 1 + 8 + 1), rdF s (shEnd s (k + 1 + 4) + 8 + 1 + 8 + 1 + 8 + 1 + 8 + 1 + 8 + 1 + 8 + 1 + 8), rdI s (shEnd s (k + 1 + 4) + 8 + 1 + 8 + 1 + 8 + 1 + 8 + 1 + 8 + 1 + 8 + 1 + 8 + 1), rdF s (shEnd s (k + 1 + 4) + 8 + 1 + 8 + 1 + 8 + 1 + 8 + 1 + 8 + 1 + 8 + 1 + 8 + 1 + 8), 0, false, 0, false, 0, false, 0, false, 0, 0, 0, 0, 0, 0, 0, 0, 0⟩
noncomputable def cP2 (s : ByteArray) (k : Int) : Pz := (haP s (k + 1 + 4)).seq ((upP s (k + 1 + 4 + 4 + 4) 1099511627776 8).seq (enP s (k + 1 + 4 + 4 + 4 + 8)))
noncomputable def cV2 (s : ByteArray) (k : Int) : CV := ⟨rdT s (k + 1) 4, rdT s (k + 1 + 4) 4, rdT s (k + 1 + 4 + 4) 4, rdT s (k + 1 + 4 + 4 + 4) 8, 0, 0, 0, 0, 0, false, 0, false, 0, false, 0, false, 0, false, 0, false, 0, false, 0, false, 0, false, 0, false, 0, false, 0, false, 0, 0, 0, 0, 0, 0, 0, 0, 0⟩
noncomputable def cP3 (s : ByteArray) (k : Int) : Pz := (haP s (k + 1 + 4)).seq ((upP s (k + 1 + 4 + 4 + 4) 1099511627776 8).seq ((vcP s (k + 1 + 4 + 4 + 4 + 8)).seq ((vcP s (k + 1 + 4 + 4 + 4 + 8 + 8 + 1 + 8 + 1)).seq (enP s (k + 1 + 4 + 4 + 4 + 8 + 8 + 1 + 8 + 1 + 8 + 1 + 8 + 1)))))
noncomputable def cV3 (s : ByteArray) (k : Int) : CV := ⟨rdT s (k + 1) 4, rdT s (k + 1 + 4) 4, rdT s (k + 1 + 4 + 4) 4, rdT s (k + 1 + 4 + 4 + 4) 8, 0, 0, 0, 0, 0, false, 0, false, 0, false, 0, false, 0, false, 0, false, 0, false, 0, false, rdI s (k + 1 + 4 + 4 + 4 + 8), rdF s (k + 1 + 4 + 4 + 4 + 8 + 8), rdI s (k + 1 + 4 + 4 + 4 + 8 + 8 + 1), rdF s (k + 1 + 4 + 4 + 4 + 8 + 8 + 1 + 8), rdI s (k + 1 + 4 + 4 + 4 + 8 + 8 + 1 + 8 + 1), rdF s (k + 1 + 4 + 4 + 4 + 8 + 8 + 1 + 8 + 1 + 8), rdI s (k + 1 + 4 + 4 + 4 + 8 + 8 + 1 + 8 + 1 + 8 + 1), rdF s (k + 1 + 4 + 4 + 4 + 8 + 8 + 1 + 8 + 1 + 8 + 1 + 8), 0, 0, 0, 0, 0, 0, 0, 0, 0⟩
noncomputable def cP4 (s : ByteArray) (k : Int) : Pz := (haP s (k + 1 + 4)).seq ((upP s (k + 1 + 4 + 4 + 4) 1099511627776 8).seq ((vcP s (k + 1 + 4 + 4 + 4 + 8)).seq (enP s (k + 1 + 4 + 4 + 4 + 8 + 8 + 1 + 8 + 1))))
noncomputable def cV4 (s : ByteArray) (k : Int) : CV := ⟨rdT s (k + 1) 4, rdT s (k + 1 + 4) 4, rdT s (k + 1 + 4 + 4) 4, rdT s (k + 1 + 4 + 4 + 4) 8, 0, 0, 0, 0, 0, false, 0, false, 0, false, 0, false, 0, false, 0, false, 0, false, 0, false, rdI s (k + 1 + 4 + 4 + 4 + 8), rdF s (k + 1 + 4 + 4 + 4 + 8 + 8), rdI s (k + 1 + 4 + 4 + 4 + 8 + 8 + 1), rdF s (k + 1 + 4 + 4 + 4 + 8 + 8 + 1 + 8), 0, false, 0, false, 0, 0, 0, 0, 0, 0, 0, 0, 0⟩
noncomputable def cP5 (s : ByteArray) (k : Int) : Pz := (upP s (k + 1 + 4) 2147483647 4).seq ((vcP s (k + 1 + 4 + 4)).seq (enP s (k + 1 + 4 + 4 + 8 + 1 + 8 + 1)))
noncomputable def cV5 (s : ByteArray) (k : Int) : CV := ⟨rdT s (k + 1) 4, 0, 0, 0, 0, 0, 0, 0, 0, false, 0, false, 0, false, 0, false, 0, false, 0, false, 0, false, 0, false, 0, false, 0, false, rdI s (k + 1 + 4 + 4), rdF s (k + 1 + 4 + 4 + 8), rdI s (k + 1 + 4 + 4 + 8 + 1), rdF s (k + 1 + 4 + 4 + 8 + 1 + 8), rdT s (k + 1 + 4) 4, 0, 0, 0, 0, 0, 0, 0, 0⟩
noncomputable def cP6 (s : ByteArray) (k : Int) : Pz := (upP s (k + 1 + 4) 2147483647 4).seq (enP s (k + 1 + 4 + 4))
noncomputable def cV6 (s : ByteArray) (k : Int) : CV := ⟨rdT s (k + 1) 4, 0, 0, 0, 0, 0, 0, 0, 0, false, 0, false, 0, false, 0, false, 0, false, 0, false, 0, false, 0, false, 0, false, 0, false, 0, false, 0, false, rdT s (k + 1 + 4) 4, 0, 0, 0, 0, 0, 0, 0, 0⟩
noncomputable def cP7 (s : ByteArray) (k : Int) : Pz := (haP s (k + 1 + 4)).seq (enP s (k + 1 + 4 + 4 + 4))
noncomputable def cV7 (s : ByteArray) (k : Int) : CV := ⟨rdT s (k + 1) 4, rdT s (k + 1 + 4) 4, rdT s (k + 1 + 4 + 4) 4, 0, 0, 0, 0, 0, 0, false, 0, false, 0, false, 0, false, 0, false, 0, false, 0, false, 0, false, 0, false, 0, false, 0, false, 0, false, 0, 0, 0, 0, 0, 0, 0, 0, 0⟩
noncomputable def cP8 (s : ByteArray) (k : Int) : Pz := (spP s (k + 1 + 4)).seq ((spP s (k + 1 + 4 + 8 + 8)).seq (enP s (k + 1 + 4 + 8 + 8 + 8 + 8)))
noncomputable def cV8 (s : ByteArray) (k : Int) : CV := ⟨rdT s (k + 1) 4, 0, 0, 0, 0, 0, 0, 0, 0, false, 0, false, 0, false, 0, false, 0, false, 0, false, 0, false, 0, false, 0, false, 0, false, 0, false, 0, false, 0, rdI s (k + 1 + 4), rdI s (k + 1 + 4 + 8), rdI s (k + 1 + 4 + 8 + 8), rdI s (k + 1 + 4 + 8 + 8 + 8), 0, 0, 0, 0⟩
noncomputable def cP9 (s : ByteArray) (k : Int) : Pz := (spP s (k + 1 + 4)).seq ((spP s (k + 1 + 4 + 8 + 8)).seq (enP s (k + 1 + 4 + 8 + 8 + 8 + 8)))
noncomputable def cV9 (s : ByteArray) (k : Int) : CV := ⟨rdT s (k + 1) 4, 0, 0, 0, 0, 0, 0, 0, 0, false, 0, false, 0, false, 0, false, 0, false, 0, false, 0, false, 0, false, 0, false, 0, false, 0, false, 0, false, 0, 0, 0, 0, 0, rdI s (k + 1 + 4), rdI s (k + 1 + 4 + 8), rdI s (k + 1 + 4 + 8 + 8), rdI s (k + 1 + 4 + 8 + 8 + 8)⟩
noncomputable def cP10 (s : ByteArray) (k : Int) : Pz := enP s (k + 1 + 4)
noncomputable def cV10 (s : ByteArray) (k : Int) : CV := ⟨rdT s (k + 1) 4, 0, 0, 0, 0, 0, 0, 0, 0, false, 0, false, 0, false, 0, false, 0, false, 0, false, 0, false, 0, false, 0, false, 0, false, 0, false, 0, false, 0, 0, 0, 0, 0, 0, 0, 0, 0⟩
noncomputable def caR (s : ByteArray) (k : Int) : Pz := bif rdT s k 1 == 1 then cP1 s k else (bif rdT s k 1 == 2 then cP2 s k else (bif rdT s k 1 == 3 then cP3 s k else (bif rdT s k 1 == 4 then cP4 s k else (bif rdT s k 1 == 5 then cP5 s k else (bif rdT s k 1 == 6 then cP6 s k else (bif rdT s k 1 == 7 then cP7 s k else (bif rdT s k 1 == 8 then cP8 s k else (bif rdT s k 1 == 9 then cP9 s k else (cP10 s k)))))))))
def caN (s : ByteArray) (k : Int) : Nat := bif rdT s k 1 == 1 then shC s (k + 1 + 4) else 0
noncomputable def caV (s : ByteArray) (k : Int) : CV := bif rdT s k 1 == 1 then cV1 s k else (bif rdT s k 1 == 2 then cV2 s k else (bif rdT s k 1 == 3 then cV3 s k else (bif rdT s k 1 == 4 then cV4 s k else (bif rdT s k 1 == 5 then cV5 s k else (bif rdT s k 1 == 6 then cV6 s k else (bif rdT s k 1 == 7 then cV7 s k else (bif rdT s k 1 == 8 then cV8 s k else (bif rdT s k 1 == 9 then cV9 s k else (cV10 s k)))))))))
noncomputable def caP (s : ByteArray) (k : Int) : Pz := (kiP s k 1).seq ((upP s (k + 1) 2147483647 4).seq (caR s k))
noncomputable def caSp (s : ByteArray) (k : Int) : Nat → Int × Int := rdSp s (shA (k + 1 + 4))
end Go.Proofs.Ytjdldadmaaeimaa
end

section
set_option maxRecDepth 100000
set_option linter.unusedSimpArgs false
set_option linter.unusedVariables false
namespace Go.Proofs.Ytjdldadmaaeimaa
open Go.SE Go.RowKit

noncomputable def rkK (s : ByteArray) : Int := bif (caP s 0).bad then 0 else rdT s 0 1
noncomputable def rkV (s : ByteArray) : CV := bif (caP s 0).bad then zCV else caV s 0
noncomputable def rkN (s : ByteArray) : Nat := bif (caP s 0).bad then 0 else caN s 0
noncomputable def rkE (s : ByteArray) : Int := bif (caP s 0).bad then (caP s 0).er else 0
noncomputable def rkSp (s : ByteArray) : Nat → Int × Int := caSp s 0
end Go.Proofs.Ytjdldadmaaeimaa
end
end

section
set_option maxRecDepth 100000
set_option linter.unusedSimpArgs false
set_option linter.unusedVariables false
namespace Go.Proofs.Ytjdldadmaaeimaa
open Go.SE Go.RowKit

def hL (a b : Int) : List Int := c4 a ++ c4 b
def hBad (a b : Int) : Bool := notIn a 2147483647 || notIn b 2147483647
def vL (c : CV) : List Int := vecL c.v0v c.v0f c.v1v c.v1f
def atL' (c : CV) : List Int := vecL c.a0v c.a0f c.a1v c.a1f
def toL (c : CV) : List Int := vecL c.t0v c.t0f c.t1v c.t1f
def poL (c : CV) : List Int := vecL c.p0v c.p0f c.p1v c.p1f ++ (numL c.p2v c.p2f ++ numL c.p3v c.p3f)
def caT1 (c : CV) (n : Nat) (x y : Nat → Int) : List Int := shL c.sk c.sr c.sw c.sh n x y ++ (poL c ++ (vL c ++ (numL c.w0v c.w0f ++ (i8 c.dn ++ flB c.mv))))
def caN1 (n : Nat) : Nat := shN n + 72
def caB1 (c : CV) (n : Nat) : Bool := shBad c.sk n || ((isMin c.p0v || isMin c.p1v || (isMin c.p2v || isMin c.p3v)) || ((isMin c.v0v || isMin c.v1v) || isMin c.w0v))
def caT2 (c : CV) (n : Nat) (x y : Nat → Int) : List Int := hL c.bs c.bg ++ i8 c.ver
def caN2 (n : Nat) : Nat := 16
def caB2 (c : CV) (n : Nat) : Bool := hBad c.bs c.bg || notIn c.ver 1099511627776
def caT3 (c : CV) (n : Nat) (x y : Nat → Int) : List Int := hL c.bs c.bg ++ (i8 c.ver ++ (atL' c ++ toL c))
def caN3 (n : Nat) : Nat := 52
def caB3 (c : CV) (n : Nat) : Bool := hBad c.bs c.bg || (notIn c.ver 1099511627776 || ((isMin c.a0v || isMin c.a1v) || (isMin c.t0v || isMin c.t1v)))
def caT4 (c : CV) (n : Nat) (x y : Nat → Int) : List Int := hL c.bs c.bg ++ (i8 c.ver ++ atL' c)
def caN4 (n : Nat) : Nat := 34
def caB4 (c : CV) (n : Nat) : Bool := hBad c.bs c.bg || (notIn c.ver 1099511627776 || (isMin c.a0v || isMin c.a1v))
def caT5 (c : CV) (n : Nat) (x y : Nat → Int) : List Int := c4 c.gr ++ toL c
def caN5 (n : Nat) : Nat := 22
def caB5 (c : CV) (n : Nat) : Bool := notIn c.gr 2147483647 || (isMin c.t0v || isMin c.t1v)
def caT6 (c : CV) (n : Nat) (x y : Nat → Int) : List Int := c4 c.gr
def caN6 (n : Nat) : Nat := 4
def caB6 (c : CV) (n : Nat) : Bool := notIn c.gr 2147483647
def caT7 (c : CV) (n : Nat) (x y : Nat → Int) : List Int := hL c.bs c.bg
def caN7 (n : Nat) : Nat := 8
def caB7 (c : CV) (n : Nat) : Bool := hBad c.bs c.bg
def caT8 (c : CV) (n : Nat) (x y : Nat → Int) : List Int := (i8 c.b0 ++ i8 c.b1) ++ (i8 c.b2 ++ i8 c.b3)
def caN8 (n : Nat) : Nat := 32
def caB8 (c : CV) (n : Nat) : Bool := false
def caT9 (c : CV) (n : Nat) (x y : Nat → Int) : List Int := (i8 c.f0 ++ i8 c.f1) ++ (i8 c.u0 ++ i8 c.u1)
def caN9 (n : Nat) : Nat := 32
def caB9 (c : CV) (n : Nat) : Bool := false
def caT10 (c : CV) (n : Nat) (x y : Nat → Int) : List Int := []
def caN10 (n : Nat) : Nat := 0
def caB10 (c : CV) (n : Nat) : Bool := false
def caL (k : Int) (c : CV) (T : List Int) : List Int := [k % 256] ++ (c4 c.id ++ T)
def caB (c : CV) (b : Bool) : Bool := notIn c.id 2147483647 || b
def ΓCw : Ctrs := addCtr (addCtr (addCtr ΓG0 118 (hpCtr true sSmall)) 105 (hpCtr true sSpots2)) 97 (hpCtr true sShape)
theorem vcCw1 (b : Bool) (c : CV) (e n m cap xt : Nat) (x y : Nat → Int) (wh : Bool) : (vcFn Try.prog ΓCw noΛ Try.f70 [.vp 0 0, caS 1 c (.sl 1 2 0 n cap)] (heapOf [wB (some b) true nilS, ptB e m x y xt wh]) 64 (fun y' h' => FinE [wB (some b) true nilS, ptB e m x y xt wh] (apE (.fresh (some b)) 0 True (5 + caN1 n) (caL 1 c (caT1 c n x y)) (caB c (caB1 c n))) y' h')) =
((I64 1) ∧ (∀ c_1 : Nat, ((((bytesOk 1 (1 + c_1) { elem := 5, size := 1, rw := true, lock := false, lit := false, flat := true, n := 1, row := fun i => [SV.v (Value.int IntKind.u8 ((fun i => List.getD [1] i 0) i))], ext := 1 + c_1 }) ∧ ((1 : Nat) ≤ M0)) ∧ (I64 (CV.id c))) ∧ (∀ c_2 : Nat, ((((bytesOk 5 (5 + c_2) { elem := 5, size := 1, rw := true, lock := false, lit := false, flat := true, n := 5, row := fun i => [SV.v (Value.int IntKind.u8 (apG 1 (fun i => SE.byteOf [SV.v (Value.int IntKind.u8 ((fun i => List.getD [1] i 0) i))]) (be (CV.id c % 4294967296) 4) i))], ext := 5 + c_2 }) ∧ ((5 : Nat) ≤ NB1)) ∧ ((((I64 (CV.sk c)) ∧ ((I64 (CV.sr c)) ∧ ((I64 (CV.sw c)) ∧ (I64 (CV.sh c))))) ∧ (((n : Nat) = n) ∧ ((n : Nat) < 100))) ∧ (∀ i : Nat, (((i : Nat) < n) → (isPair [SV.v (Value.int IntKind.i64 (x (0 + i))), SV.v (Value.int IntKind.i64 (y (0 + i)))]))))) ∧ (∀ c_3 : Nat, ((((bytesOk (5 + shN n) (5 + shN n + c_3) { elem := 5, size := 1, rw := true, lock := false, lit := false, flat := true, n := 5 + shN n, row := fun i => [SV.v (Value.int IntKind.u8 (apG 5 (fun i => SE.byteOf [SV.v (Value.int IntKind.u8 (apG 1 (fun i => SE.byteOf [SV.v (Value.int IntKind.u8 ((fun i => List.getD [1] i 0) i))]) (be (CV.id c % 4294967296) 4) i))]) (shL (CV.sk c) (CV.sr c) (CV.sw c) (CV.sh c) n (fun i => pX [SV.v (Value.int IntKind.i64 (x (0 + i))), SV.v (Value.int IntKind.i64 (y (0 + i)))]) fun i => pY [SV.v (Value.int IntKind.i64 (x (0 + i))), SV.v (Value.int IntKind.i64 (y (0 + i)))]) i))], ext := 5 + shN n + c_3 }) ∧ (((5 + shN n) : Nat) ≤ NB0)) ∧ ((I64 (CV.p0v c)) ∧ ((I64 (CV.p1v c)) ∧ ((I64 (CV.p2v c)) ∧ (I64 (CV.p3v c)))))) ∧ (∀ c_4 : Nat, ((((bytesOk (5 + shN n + 36) (5 + shN n + 36 + c_4) { elem := 5, size := 1, rw := true, lock := false, lit := false, flat := true, n := 5 + shN n + 36, row := fun i => [SV.v (Value.int IntKind.u8 (apG (5 + shN n) (fun i => SE.byteOf [SV.v (Value.int IntKind.u8 (apG 5 (fun i => SE.byteOf [SV.v (Value.int IntKind.u8 (apG 1 (fun i => SE.byteOf [SV.v (Value.int IntKind.u8 ((fun i => List.getD [1] i 0) i))]) (be (CV.id c % 4294967296) 4) i))]) (shL (CV.sk c) (CV.sr c) (CV.sw c) (CV.sh c) n (fun i => pX [SV.v (Value.int IntKind.i64 (x (0 + i))), SV.v (Value.int IntKind.i64 (y (0 + i)))]) fun i => pY [SV.v (Value.int IntKind.i64 (x (0 + i))), SV.v (Value.int IntKind.i64 (y (0 + i)))]) i))]) (vecL (CV.p0v c) (CV.p0f c) (CV.p1v c) (CV.p1f c) ++ (numL (CV.p2v c) (CV.p2f c) ++ numL (CV.p3v c) (CV.p3f c))) i))], ext := 5 + shN n + 36 + c_4 }) ∧ (((5 + shN n + 36) : Nat) ≤ NB0)) ∧ ((I64 (CV.v0v c)) ∧ (I64 (CV.v1v c)))) ∧ (∀ c_5 : Nat, ((((bytesOk (5 + shN n + 36 + 18) (5 + shN n + 36 + 18 + c_5) { elem := 5, size := 1, rw := true, lock := false, lit := false, flat := true, n := 5 + shN n + 36 + 18, row := fun i => [SV.v (Value.int IntKind.u8 (apG (5 + shN n + 36) (fun i => SE.byteOf [SV.v (Value.int IntKind.u8 (apG (5 + shN n) (fun i => SE.byteOf [SV.v (Value.int IntKind.u8 (apG 5 (fun i => SE.byteOf [SV.v (Value.int IntKind.u8 (apG 1 (fun i => SE.byteOf [SV.v (Value.int IntKind.u8 ((fun i => List.getD [1] i 0) i))]) (be (CV.id c % 4294967296) 4) i))]) (shL (CV.sk c) (CV.sr c) (CV.sw c) (CV.sh c) n (fun i => pX [SV.v (Value.int IntKind.i64 (x (0 + i))), SV.v (Value.int IntKind.i64 (y (0 + i)))]) fun i => pY [SV.v (Value.int IntKind.i64 (x (0 + i))), SV.v (Value.int IntKind.i64 (y (0 + i)))]) i))]) (vecL (CV.p0v c) (CV.p0f c) (CV.p1v c) (CV.p1f c) ++ (numL (CV.p2v c) (CV.p2f c) ++ numL (CV.p3v c) (CV.p3f c))) i))]) (vecL (CV.v0v c) (CV.v0f c) (CV.v1v c) (CV.v1f c)) i))], ext := 5 + shN n + 36 + 18 + c_5 }) ∧ (((5 + shN n + 36 + 18) : Nat) ≤ NB0)) ∧ (((1 : Nat) = 1) ∧ (((1 : Nat) ≤ 1) ∧ (((1 : Nat) ≤ 100) ∧ (∀ i : Nat, (((i : Nat) < 1) → (isNum [SV.v (Value.int IntKind.i64 (CV.w0v c)), SV.v (Value.bool (CV.w0f c))]))))))) ∧ (∀ c_6 : Nat, ((((bytesOk (5 + shN n + 36 + 18 + 9) (5 + shN n + 36 + 18 + 9 + c_6) { elem := 5, size := 1, rw := true, lock := false, lit := false, flat := true, n := 5 + shN n + 36 + 18 + 9, row := fun i => [SV.v (Value.int IntKind.u8 (apG (5 + shN n + 36 + 18) (fun i => SE.byteOf [SV.v (Value.int IntKind.u8 (apG (5 + shN n + 36) (fun i => SE.byteOf [SV.v (Value.int IntKind.u8 (apG (5 + shN n) (fun i => SE.byteOf [SV.v (Value.int IntKind.u8 (apG 5 (fun i => SE.byteOf [SV.v (Value.int IntKind.u8 (apG 1 (fun i => SE.byteOf [SV.v (Value.int IntKind.u8 ((fun i => List.getD [1] i 0) i))]) (be (CV.id c % 4294967296) 4) i))]) (shL (CV.sk c) (CV.sr c) (CV.sw c) (CV.sh c) n (fun i => pX [SV.v (Value.int IntKind.i64 (x (0 + i))), SV.v (Value.int IntKind.i64 (y (0 + i)))]) fun i => pY [SV.v (Value.int IntKind.i64 (x (0 + i))), SV.v (Value.int IntKind.i64 (y (0 + i)))]) i))]) (vecL (CV.p0v c) (CV.p0f c) (CV.p1v c) (CV.p1f c) ++ (numL (CV.p2v c) (CV.p2f c) ++ numL (CV.p3v c) (CV.p3f c))) i))]) (vecL (CV.v0v c) (CV.v0f c) (CV.v1v c) (CV.v1f c)) i))]) (numsL (fun i => nV [SV.v (Value.int IntKind.i64 (CV.w0v c)), SV.v (Value.bool (CV.w0f c))]) (fun i => nF [SV.v (Value.int IntKind.i64 (CV.w0v c)), SV.v (Value.bool (CV.w0f c))]) 1) i))], ext := 5 + shN n + 36 + 18 + 9 + c_6 }) ∧ (((5 + shN n + 36 + 18 + 9) : Nat) ≤ M0)) ∧ (I64 (CV.dn c))) ∧ (∀ c_7 : Nat, ((((bytesOk (5 + shN n + 36 + 18 + 9 + 8) (5 + shN n + 36 + 18 + 9 + 8 + c_7) { elem := 5, size := 1, rw := true, lock := false, lit := false, flat := true, n := 5 + shN n + 36 + 18 + 9 + 8, row := fun i => [SV.v (Value.int IntKind.u8 (apG (5 + shN n + 36 + 18 + 9) (fun i => SE.byteOf [SV.v (Value.int IntKind.u8 (apG (5 + shN n + 36 + 18) (fun i => SE.byteOf [SV.v (Value.int IntKind.u8 (apG (5 + shN n + 36) (fun i => SE.byteOf [SV.v (Value.int IntKind.u8 (apG (5 + shN n) (fun i => SE.byteOf [SV.v (Value.int IntKind.u8 (apG 5 (fun i => SE.byteOf [SV.v (Value.int IntKind.u8 (apG 1 (fun i => SE.byteOf [SV.v (Value.int IntKind.u8 ((fun i => List.getD [1] i 0) i))]) (be (CV.id c % 4294967296) 4) i))]) (shL (CV.sk c) (CV.sr c) (CV.sw c) (CV.sh c) n (fun i => pX [SV.v (Value.int IntKind.i64 (x (0 + i))), SV.v (Value.int IntKind.i64 (y (0 + i)))]) fun i => pY [SV.v (Value.int IntKind.i64 (x (0 + i))), SV.v (Value.int IntKind.i64 (y (0 + i)))]) i))]) (vecL (CV.p0v c) (CV.p0f c) (CV.p1v c) (CV.p1f c) ++ (numL (CV.p2v c) (CV.p2f c) ++ numL (CV.p3v c) (CV.p3f c))) i))]) (vecL (CV.v0v c) (CV.v0f c) (CV.v1v c) (CV.v1f c)) i))]) (numsL (fun i => nV [SV.v (Value.int IntKind.i64 (CV.w0v c)), SV.v (Value.bool (CV.w0f c))]) (fun i => nF [SV.v (Value.int IntKind.i64 (CV.w0v c)), SV.v (Value.bool (CV.w0f c))]) 1) i))]) (be (CV.dn c % 18446744073709551616) 8) i))], ext := 5 + shN n + 36 + 18 + 9 + 8 + c_7 }) ∧ (((5 + shN n + 36 + 18 + 9 + 8) : Nat) ≤ M0)) ∧ True) ∧ (∀ c_8 : Nat, (∃ c_9 : Nat, (True ∧ ((((1 : Nat) = 1) ∧ (((1 : Nat) ≤ 1) ∧ (((SV.sl 392 1 0 (5 + shN n + 36 + 18 + 9 + 8 + 1) (5 + shN n + 36 + 18 + 9 + 8 + 1 + c_8)) = (SV.sl 392 1 0 (5 + caN1 n) (5 + caN1 n + c_9))) ∧ ((SV.v (Value.bool (b || false || notIn (CV.id c) 2147483647 || shBad (CV.sk c) n || (isMin (CV.p0v c) || isMin (CV.p1v c) || (isMin (CV.p2v c) || isMin (CV.p3v c))) || (isMin (CV.v0v c) || isMin (CV.v1v c)) || anyMin (fun i => nV [SV.v (Value.int IntKind.i64 (CV.w0v c)), SV.v (Value.bool (CV.w0f c))]) 1 || false || false))) = (SV.v (Value.bool (b || caB c (caB1 c n)))))))) ∧ ((((5 + shN n + 36 + 18 + 9 + 8 + 1) : Nat) = (5 + caN1 n)) ∧ ((((5 + caN1 n + c_9) : Nat) ≤ (5 + shN n + 36 + 18 + 9 + 8 + 1 + c_8)) ∧ (∀ i : Nat, (((i : Nat) < (5 + caN1 n)) → ([(SV.v (Value.int IntKind.u8 (apG (5 + shN n + 36 + 18 + 9 + 8) (fun i => SE.byteOf [SV.v (Value.int IntKind.u8 (apG (5 + shN n + 36 + 18 + 9) (fun i => SE.byteOf [SV.v (Value.int IntKind.u8 (apG (5 + shN n + 36 + 18) (fun i => SE.byteOf [SV.v (Value.int IntKind.u8 (apG (5 + shN n + 36) (fun i => SE.byteOf [SV.v (Value.int IntKind.u8 (apG (5 + shN n) (fun i => SE.byteOf [SV.v (Value.int IntKind.u8 (apG 5 (fun i => SE.byteOf [SV.v (Value.int IntKind.u8 (apG 1 (fun i => SE.byteOf [SV.v (Value.int IntKind.u8 ((fun i => List.getD [1] i 0) i))]) (be (CV.id c % 4294967296) 4) i))]) (shL (CV.sk c) (CV.sr c) (CV.sw c) (CV.sh c) n (fun i => pX [SV.v (Value.int IntKind.i64 (x (0 + i))), SV.v (Value.int IntKind.i64 (y (0 + i)))]) fun i => pY [SV.v (Value.int IntKind.i64 (x (0 + i))), SV.v (Value.int IntKind.i64 (y (0 + i)))]) i))]) (vecL (CV.p0v c) (CV.p0f c) (CV.p1v c) (CV.p1f c) ++ (numL (CV.p2v c) (CV.p2f c) ++ numL (CV.p3v c) (CV.p3f c))) i))]) (vecL (CV.v0v c) (CV.v0f c) (CV.v1v c) (CV.v1f c)) i))]) (numsL (fun i => nV [SV.v (Value.int IntKind.i64 (CV.w0v c)), SV.v (Value.bool (CV.w0f c))]) (fun i => nF [SV.v (Value.int IntKind.i64 (CV.w0v c)), SV.v (Value.bool (CV.w0f c))]) 1) i))]) (be (CV.dn c % 18446744073709551616) 8) i))]) [bif CV.mv c then 1 else 0] i)))] = [(SV.v (Value.int IntKind.u8 (List.getD (caL 1 c (caT1 c n x y)) i 0)))])))))))))))))))))))))))) := by kernel_rfl
theorem vcCw2 (b : Bool) (c : CV) (e n m cap xt : Nat) (x y : Nat → Int) (wh : Bool) : (vcFn Try.prog ΓCw noΛ Try.f70 [.vp 0 0, caS 2 c (.sl 1 2 0 n cap)] (heapOf [wB (some b) true nilS, ptB e m x y xt wh]) 64 (fun y' h' => FinE [wB (some b) true nilS, ptB e m x y xt wh] (apE (.fresh (some b)) 0 True (5 + caN2 n) (caL 2 c (caT2 c n x y)) (caB c (caB2 c n))) y' h')) =
((I64 2) ∧ (∀ c_1 : Nat, ((((bytesOk 1 (1 + c_1) { elem := 5, size := 1, rw := true, lock := false, lit := false, flat := true, n := 1, row := fun i => [SV.v (Value.int IntKind.u8 ((fun i => List.getD [2] i 0) i))], ext := 1 + c_1 }) ∧ ((1 : Nat) ≤ M0)) ∧ (I64 (CV.id c))) ∧ (∀ c_2 : Nat, ((((bytesOk 5 (5 + c_2) { elem := 5, size := 1, rw := true, lock := false, lit := false, flat := true, n := 5, row := fun i => [SV.v (Value.int IntKind.u8 (apG 1 (fun i => SE.byteOf [SV.v (Value.int IntKind.u8 ((fun i => List.getD [2] i 0) i))]) (be (CV.id c % 4294967296) 4) i))], ext := 5 + c_2 }) ∧ ((5 : Nat) ≤ NB0)) ∧ ((I64 (CV.bs c)) ∧ (I64 (CV.bg c)))) ∧ (∀ c_3 : Nat, ((((bytesOk 13 (13 + c_3) { elem := 5, size := 1, rw := true, lock := false, lit := false, flat := true, n := 13, row := fun i => [SV.v (Value.int IntKind.u8 (apG 5 (fun i => SE.byteOf [SV.v (Value.int IntKind.u8 (apG 1 (fun i => SE.byteOf [SV.v (Value.int IntKind.u8 ((fun i => List.getD [2] i 0) i))]) (be (CV.id c % 4294967296) 4) i))]) (c4 (CV.bs c) ++ c4 (CV.bg c)) i))], ext := 13 + c_3 }) ∧ ((13 : Nat) ≤ M0)) ∧ (I64 (CV.ver c))) ∧ (∀ c_4 : Nat, (∃ c_5 : Nat, (True ∧ ((((1 : Nat) = 1) ∧ (((1 : Nat) ≤ 1) ∧ (((SV.sl 288 1 0 21 (21 + c_4)) = (SV.sl 288 1 0 21 (5 + caN2 n + c_5))) ∧ ((SV.v (Value.bool (b || false || notIn (CV.id c) 2147483647 || (notIn (CV.bs c) 2147483647 || notIn (CV.bg c) 2147483647) || notIn (CV.ver c) 1099511627776))) = (SV.v (Value.bool (b || caB c (caB2 c n)))))))) ∧ (((21 : Nat) = (5 + caN2 n)) ∧ ((((5 + caN2 n + c_5) : Nat) ≤ (21 + c_4)) ∧ (∀ i : Nat, (((i : Nat) < (5 + caN2 n)) → ([(SV.v (Value.int IntKind.u8 (apG 13 (fun i => SE.byteOf [SV.v (Value.int IntKind.u8 (apG 5 (fun i => SE.byteOf [SV.v (Value.int IntKind.u8 (apG 1 (fun i => SE.byteOf [SV.v (Value.int IntKind.u8 ((fun i => List.getD [2] i 0) i))]) (be (CV.id c % 4294967296) 4) i))]) (c4 (CV.bs c) ++ c4 (CV.bg c)) i))]) (be (CV.ver c % 18446744073709551616) 8) i)))] = [(SV.v (Value.int IntKind.u8 (List.getD (caL 2 c (caT2 c n x y)) i 0)))])))))))))))))))) := by kernel_rfl
theorem vcCw3 (b : Bool) (c : CV) (e n m cap xt : Nat) (x y : Nat → Int) (wh : Bool) : (vcFn Try.prog ΓCw noΛ Try.f70 [.vp 0 0, caS 3 c (.sl 1 2 0 n cap)] (heapOf [wB (some b) true nilS, ptB e m x y xt wh]) 64 (fun y' h' => FinE [wB (some b) true nilS, ptB e m x y xt wh] (apE (.fresh (some b)) 0 True (5 + caN3 n) (caL 3 c (caT3 c n x y)) (caB c (caB3 c n))) y' h')) =
((I64 3) ∧ (∀ c_1 : Nat, ((((bytesOk 1 (1 + c_1) { elem := 5, size := 1, rw := true, lock := false, lit := false, flat := true, n := 1, row := fun i => [SV.v (Value.int IntKind.u8 ((fun i => List.getD [3] i 0) i))], ext := 1 + c_1 }) ∧ ((1 : Nat) ≤ M0)) ∧ (I64 (CV.id c))) ∧ (∀ c_2 : Nat, ((((bytesOk 5 (5 + c_2) { elem := 5, size := 1, rw := true, lock := false, lit := false, flat := true, n := 5, row := fun i => [SV.v (Value.int IntKind.u8 (apG 1 (fun i => SE.byteOf [SV.v (Value.int IntKind.u8 ((fun i => List.getD [3] i 0) i))]) (be (CV.id c % 4294967296) 4) i))], ext := 5 + c_2 }) ∧ ((5 : Nat) ≤ NB0)) ∧ ((I64 (CV.bs c)) ∧ (I64 (CV.bg c)))) ∧ (∀ c_3 : Nat, ((((bytesOk 13 (13 + c_3) { elem := 5, size := 1, rw := true, lock := false, lit := false, flat := true, n := 13, row := fun i => [SV.v (Value.int IntKind.u8 (apG 5 (fun i => SE.byteOf [SV.v (Value.int IntKind.u8 (apG 1 (fun i => SE.byteOf [SV.v (Value.int IntKind.u8 ((fun i => List.getD [3] i 0) i))]) (be (CV.id c % 4294967296) 4) i))]) (c4 (CV.bs c) ++ c4 (CV.bg c)) i))], ext := 13 + c_3 }) ∧ ((13 : Nat) ≤ M0)) ∧ (I64 (CV.ver c))) ∧ (∀ c_4 : Nat, ((((bytesOk 21 (21 + c_4) { elem := 5, size := 1, rw := true, lock := false, lit := false, flat := true, n := 21, row := fun i => [SV.v (Value.int IntKind.u8 (apG 13 (fun i => SE.byteOf [SV.v (Value.int IntKind.u8 (apG 5 (fun i => SE.byteOf [SV.v (Value.int IntKind.u8 (apG 1 (fun i => SE.byteOf [SV.v (Value.int IntKind.u8 ((fun i => List.getD [3] i 0) i))]) (be (CV.id c % 4294967296) 4) i))]) (c4 (CV.bs c) ++ c4 (CV.bg c)) i))]) (be (CV.ver c % 18446744073709551616) 8) i))], ext := 21 + c_4 }) ∧ ((21 : Nat) ≤ NB0)) ∧ ((I64 (CV.a0v c)) ∧ (I64 (CV.a1v c)))) ∧ (∀ c_5 : Nat, ((((bytesOk 39 (39 + c_5) { elem := 5, size := 1, rw := true, lock := false, lit := false, flat := true, n := 39, row := fun i => [SV.v (Value.int IntKind.u8 (apG 21 (fun i => SE.byteOf [SV.v (Value.int IntKind.u8 (apG 13 (fun i => SE.byteOf [SV.v (Value.int IntKind.u8 (apG 5 (fun i => SE.byteOf [SV.v (Value.int IntKind.u8 (apG 1 (fun i => SE.byteOf [SV.v (Value.int IntKind.u8 ((fun i => List.getD [3] i 0) i))]) (be (CV.id c % 4294967296) 4) i))]) (c4 (CV.bs c) ++ c4 (CV.bg c)) i))]) (be (CV.ver c % 18446744073709551616) 8) i))]) (vecL (CV.a0v c) (CV.a0f c) (CV.a1v c) (CV.a1f c)) i))], ext := 39 + c_5 }) ∧ ((39 : Nat) ≤ NB0)) ∧ ((I64 (CV.t0v c)) ∧ (I64 (CV.t1v c)))) ∧ (∀ c_6 : Nat, (∃ c_7 : Nat, (True ∧ ((((1 : Nat) = 1) ∧ (((1 : Nat) ≤ 1) ∧ (((SV.sl 400 1 0 57 (57 + c_6)) = (SV.sl 400 1 0 57 (5 + caN3 n + c_7))) ∧ ((SV.v (Value.bool (b || false || notIn (CV.id c) 2147483647 || (notIn (CV.bs c) 2147483647 || notIn (CV.bg c) 2147483647) || notIn (CV.ver c) 1099511627776 || (isMin (CV.a0v c) || isMin (CV.a1v c)) || (isMin (CV.t0v c) || isMin (CV.t1v c))))) = (SV.v (Value.bool (b || caB c (caB3 c n)))))))) ∧ (((57 : Nat) = (5 + caN3 n)) ∧ ((((5 + caN3 n + c_7) : Nat) ≤ (57 + c_6)) ∧ (∀ i : Nat, (((i : Nat) < (5 + caN3 n)) → ([(SV.v (Value.int IntKind.u8 (apG 39 (fun i => SE.byteOf [SV.v (Value.int IntKind.u8 (apG 21 (fun i => SE.byteOf [SV.v (Value.int IntKind.u8 (apG 13 (fun i => SE.byteOf [SV.v (Value.int IntKind.u8 (apG 5 (fun i => SE.byteOf [SV.v (Value.int IntKind.u8 (apG 1 (fun i => SE.byteOf [SV.v (Value.int IntKind.u8 ((fun i => List.getD [3] i 0) i))]) (be (CV.id c % 4294967296) 4) i))]) (c4 (CV.bs c) ++ c4 (CV.bg c)) i))]) (be (CV.ver c % 18446744073709551616) 8) i))]) (vecL (CV.a0v c) (CV.a0f c) (CV.a1v c) (CV.a1f c)) i))]) (vecL (CV.t0v c) (CV.t0f c) (CV.t1v c) (CV.t1f c)) i)))] = [(SV.v (Value.int IntKind.u8 (List.getD (caL 3 c (caT3 c n x y)) i 0)))])))))))))))))))))))) := by kernel_rfl
theorem vcCw4 (b : Bool) (c : CV) (e n m cap xt : Nat) (x y : Nat → Int) (wh : Bool) : (vcFn Try.prog ΓCw noΛ Try.f70 [.vp 0 0, caS 4 c (.sl 1 2 0 n cap)] (heapOf [wB (some b) true nilS, ptB e m x y xt wh]) 64 (fun y' h' => FinE [wB (some b) true nilS, ptB e m x y xt wh] (apE (.fresh (some b)) 0 True (5 + caN4 n) (caL 4 c (caT4 c n x y)) (caB c (caB4 c n))) y' h')) =
((I64 4) ∧ (∀ c_1 : Nat, ((((bytesOk 1 (1 + c_1) { elem := 5, size := 1, rw := true, lock := false, lit := false, flat := true, n := 1, row := fun i => [SV.v (Value.int IntKind.u8 ((fun i => List.getD [4] i 0) i))], ext := 1 + c_1 }) ∧ ((1 : Nat) ≤ M0)) ∧ (I64 (CV.id c))) ∧ (∀ c_2 : Nat, ((((bytesOk 5 (5 + c_2) { elem := 5, size := 1, rw := true, lock := false, lit := false, flat := true, n := 5, row := fun i => [SV.v (Value.int IntKind.u8 (apG 1 (fun i => SE.byteOf [SV.v (Value.int IntKind.u8 ((fun i => List.getD [4] i 0) i))]) (be (CV.id c % 4294967296) 4) i))], ext := 5 + c_2 }) ∧ ((5 : Nat) ≤ NB0)) ∧ ((I64 (CV.bs c)) ∧ (I64 (CV.bg c)))) ∧ (∀ c_3 : Nat, ((((bytesOk 13 (13 + c_3) { elem := 5, size := 1, rw := true, lock := false, lit := false, flat := true, n := 13, row := fun i => [SV.v (Value.int IntKind.u8 (apG 5 (fun i => SE.byteOf [SV.v (Value.int IntKind.u8 (apG 1 (fun i => SE.byteOf [SV.v (Value.int IntKind.u8 ((fun i => List.getD [4] i 0) i))]) (be (CV.id c % 4294967296) 4) i))]) (c4 (CV.bs c) ++ c4 (CV.bg c)) i))], ext := 13 + c_3 }) ∧ ((13 : Nat) ≤ M0)) ∧ (I64 (CV.ver c))) ∧ (∀ c_4 : Nat, ((((bytesOk 21 (21 + c_4) { elem := 5, size := 1, rw := true, lock := false, lit := false, flat := true, n := 21, row := fun i => [SV.v (Value.int IntKind.u8 (apG 13 (fun i => SE.byteOf [SV.v (Value.int IntKind.u8 (apG 5 (fun i => SE.byteOf [SV.v (Value.int IntKind.u8 (apG 1 (fun i => SE.byteOf [SV.v (Value.int IntKind.u8 ((fun i => List.getD [4] i 0) i))]) (be (CV.id c % 4294967296) 4) i))]) (c4 (CV.bs c) ++ c4 (CV.bg c)) i))]) (be (CV.ver c % 18446744073709551616) 8) i))], ext := 21 + c_4 }) ∧ ((21 : Nat) ≤ NB0)) ∧ ((I64 (CV.a0v c)) ∧ (I64 (CV.a1v c)))) ∧ (∀ c_5 : Nat, (∃ c_6 : Nat, (True ∧ ((((1 : Nat) = 1) ∧ (((1 : Nat) ≤ 1) ∧ (((SV.sl 344 1 0 39 (39 + c_5)) = (SV.sl 344 1 0 39 (5 + caN4 n + c_6))) ∧ ((SV.v (Value.bool (b || false || notIn (CV.id c) 2147483647 || (notIn (CV.bs c) 2147483647 || notIn (CV.bg c) 2147483647) || notIn (CV.ver c) 1099511627776 || (isMin (CV.a0v c) || isMin (CV.a1v c))))) = (SV.v (Value.bool (b || caB c (caB4 c n)))))))) ∧ (((39 : Nat) = (5 + caN4 n)) ∧ ((((5 + caN4 n + c_6) : Nat) ≤ (39 + c_5)) ∧ (∀ i : Nat, (((i : Nat) < (5 + caN4 n)) → ([(SV.v (Value.int IntKind.u8 (apG 21 (fun i => SE.byteOf [SV.v (Value.int IntKind.u8 (apG 13 (fun i => SE.byteOf [SV.v (Value.int IntKind.u8 (apG 5 (fun i => SE.byteOf [SV.v (Value.int IntKind.u8 (apG 1 (fun i => SE.byteOf [SV.v (Value.int IntKind.u8 ((fun i => List.getD [4] i 0) i))]) (be (CV.id c % 4294967296) 4) i))]) (c4 (CV.bs c) ++ c4 (CV.bg c)) i))]) (be (CV.ver c % 18446744073709551616) 8) i))]) (vecL (CV.a0v c) (CV.a0f c) (CV.a1v c) (CV.a1f c)) i)))] = [(SV.v (Value.int IntKind.u8 (List.getD (caL 4 c (caT4 c n x y)) i 0)))])))))))))))))))))) := by kernel_rfl
theorem vcCw5 (b : Bool) (c : CV) (e n m cap xt : Nat) (x y : Nat → Int) (wh : Bool) : (vcFn Try.prog ΓCw noΛ Try.f70 [.vp 0 0, caS 5 c (.sl 1 2 0 n cap)] (heapOf [wB (some b) true nilS, ptB e m x y xt wh]) 64 (fun y' h' => FinE [wB (some b) true nilS, ptB e m x y xt wh] (apE (.fresh (some b)) 0 True (5 + caN5 n) (caL 5 c (caT5 c n x y)) (caB c (caB5 c n))) y' h')) =
((I64 5) ∧ (∀ c_1 : Nat, ((((bytesOk 1 (1 + c_1) { elem := 5, size := 1, rw := true, lock := false, lit := false, flat := true, n := 1, row := fun i => [SV.v (Value.int IntKind.u8 ((fun i => List.getD [5] i 0) i))], ext := 1 + c_1 }) ∧ ((1 : Nat) ≤ M0)) ∧ (I64 (CV.id c))) ∧ (∀ c_2 : Nat, ((((bytesOk 5 (5 + c_2) { elem := 5, size := 1, rw := true, lock := false, lit := false, flat := true, n := 5, row := fun i => [SV.v (Value.int IntKind.u8 (apG 1 (fun i => SE.byteOf [SV.v (Value.int IntKind.u8 ((fun i => List.getD [5] i 0) i))]) (be (CV.id c % 4294967296) 4) i))], ext := 5 + c_2 }) ∧ ((5 : Nat) ≤ M0)) ∧ (I64 (CV.gr c))) ∧ (∀ c_3 : Nat, ((((bytesOk 9 (9 + c_3) { elem := 5, size := 1, rw := true, lock := false, lit := false, flat := true, n := 9, row := fun i => [SV.v (Value.int IntKind.u8 (apG 5 (fun i => SE.byteOf [SV.v (Value.int IntKind.u8 (apG 1 (fun i => SE.byteOf [SV.v (Value.int IntKind.u8 ((fun i => List.getD [5] i 0) i))]) (be (CV.id c % 4294967296) 4) i))]) (be (CV.gr c % 4294967296) 4) i))], ext := 9 + c_3 }) ∧ ((9 : Nat) ≤ NB0)) ∧ ((I64 (CV.t0v c)) ∧ (I64 (CV.t1v c)))) ∧ (∀ c_4 : Nat, (∃ c_5 : Nat, (True ∧ ((((1 : Nat) = 1) ∧ (((1 : Nat) ≤ 1) ∧ (((SV.sl 304 1 0 27 (27 + c_4)) = (SV.sl 304 1 0 27 (5 + caN5 n + c_5))) ∧ ((SV.v (Value.bool (b || false || notIn (CV.id c) 2147483647 || notIn (CV.gr c) 2147483647 || (isMin (CV.t0v c) || isMin (CV.t1v c))))) = (SV.v (Value.bool (b || caB c (caB5 c n)))))))) ∧ (((27 : Nat) = (5 + caN5 n)) ∧ ((((5 + caN5 n + c_5) : Nat) ≤ (27 + c_4)) ∧ (∀ i : Nat, (((i : Nat) < (5 + caN5 n)) → ([(SV.v (Value.int IntKind.u8 (apG 9 (fun i => SE.byteOf [SV.v (Value.int IntKind.u8 (apG 5 (fun i => SE.byteOf [SV.v (Value.int IntKind.u8 (apG 1 (fun i => SE.byteOf [SV.v (Value.int IntKind.u8 ((fun i => List.getD [5] i 0) i))]) (be (CV.id c % 4294967296) 4) i))]) (be (CV.gr c % 4294967296) 4) i))]) (vecL (CV.t0v c) (CV.t0f c) (CV.t1v c) (CV.t1f c)) i)))] = [(SV.v (Value.int IntKind.u8 (List.getD (caL 5 c (caT5 c n x y)) i 0)))])))))))))))))))) := by kernel_rfl
theorem vcCw6 (b : Bool) (c : CV) (e n m cap xt : Nat) (x y : Nat → Int) (wh : Bool) : (vcFn Try.prog ΓCw noΛ Try.f70 [.vp 0 0, caS 6 c (.sl 1 2 0 n cap)] (heapOf [wB (some b) true nilS, ptB e m x y xt wh]) 64 (fun y' h' => FinE [wB (some b) true nilS, ptB e m x y xt wh] (apE (.fresh (some b)) 0 True (5 + caN6 n) (caL 6 c (caT6 c n x y)) (caB c (caB6 c n))) y' h')) =
((I64 6) ∧ (∀ c_1 : Nat, ((((bytesOk 1 (1 + c_1) { elem := 5, size := 1, rw := true, lock := false, lit := false, flat := true, n := 1, row := fun i => [SV.v (Value.int IntKind.u8 ((fun i => List.getD [6] i 0) i))], ext := 1 + c_1 }) ∧ ((1 : Nat) ≤ M0)) ∧ (I64 (CV.id c))) ∧ (∀ c_2 : Nat, ((((bytesOk 5 (5 + c_2) { elem := 5, size := 1, rw := true, lock := false, lit := false, flat := true, n := 5, row := fun i => [SV.v (Value.int IntKind.u8 (apG 1 (fun i => SE.byteOf [SV.v (Value.int IntKind.u8 ((fun i => List.getD [6] i 0) i))]) (be (CV.id c % 4294967296) 4) i))], ext := 5 + c_2 }) ∧ ((5 : Nat) ≤ M0)) ∧ (I64 (CV.gr c))) ∧ (∀ c_3 : Nat, (∃ c_4 : Nat, (True ∧ ((((1 : Nat) = 1) ∧ (((1 : Nat) ≤ 1) ∧ (((SV.sl 288 1 0 9 (9 + c_3)) = (SV.sl 288 1 0 9 (5 + caN6 n + c_4))) ∧ ((SV.v (Value.bool (b || false || notIn (CV.id c) 2147483647 || notIn (CV.gr c) 2147483647))) = (SV.v (Value.bool (b || caB c (caB6 c n)))))))) ∧ (((9 : Nat) = (5 + caN6 n)) ∧ ((((5 + caN6 n + c_4) : Nat) ≤ (9 + c_3)) ∧ (∀ i : Nat, (((i : Nat) < (5 + caN6 n)) → ([(SV.v (Value.int IntKind.u8 (apG 5 (fun i => SE.byteOf [SV.v (Value.int IntKind.u8 (apG 1 (fun i => SE.byteOf [SV.v (Value.int IntKind.u8 ((fun i => List.getD [6] i 0) i))]) (be (CV.id c % 4294967296) 4) i))]) (be (CV.gr c % 4294967296) 4) i)))] = [(SV.v (Value.int IntKind.u8 (List.getD (caL 6 c (caT6 c n x y)) i 0)))])))))))))))))) := by kernel_rfl
theorem vcCw7 (b : Bool) (c : CV) (e n m cap xt : Nat) (x y : Nat → Int) (wh : Bool) : (vcFn Try.prog ΓCw noΛ Try.f70 [.vp 0 0, caS 7 c (.sl 1 2 0 n cap)] (heapOf [wB (some b) true nilS, ptB e m x y xt wh]) 64 (fun y' h' => FinE [wB (some b) true nilS, ptB e m x y xt wh] (apE (.fresh (some b)) 0 True (5 + caN7 n) (caL 7 c (caT7 c n x y)) (caB c (caB7 c n))) y' h')) =
((I64 7) ∧ (∀ c_1 : Nat, ((((bytesOk 1 (1 + c_1) { elem := 5, size := 1, rw := true, lock := false, lit := false, flat := true, n := 1, row := fun i => [SV.v (Value.int IntKind.u8 ((fun i => List.getD [7] i 0) i))], ext := 1 + c_1 }) ∧ ((1 : Nat) ≤ M0)) ∧ (I64 (CV.id c))) ∧ (∀ c_2 : Nat, ((((bytesOk 5 (5 + c_2) { elem := 5, size := 1, rw := true, lock := false, lit := false, flat := true, n := 5, row := fun i => [SV.v (Value.int IntKind.u8 (apG 1 (fun i => SE.byteOf [SV.v (Value.int IntKind.u8 ((fun i => List.getD [7] i 0) i))]) (be (CV.id c % 4294967296) 4) i))], ext := 5 + c_2 }) ∧ ((5 : Nat) ≤ NB0)) ∧ ((I64 (CV.bs c)) ∧ (I64 (CV.bg c)))) ∧ (∀ c_3 : Nat, (∃ c_4 : Nat, (True ∧ ((((1 : Nat) = 1) ∧ (((1 : Nat) ≤ 1) ∧ (((SV.sl 304 1 0 13 (13 + c_3)) = (SV.sl 304 1 0 13 (5 + caN7 n + c_4))) ∧ ((SV.v (Value.bool (b || false || notIn (CV.id c) 2147483647 || (notIn (CV.bs c) 2147483647 || notIn (CV.bg c) 2147483647)))) = (SV.v (Value.bool (b || caB c (caB7 c n)))))))) ∧ (((13 : Nat) = (5 + caN7 n)) ∧ ((((5 + caN7 n + c_4) : Nat) ≤ (13 + c_3)) ∧ (∀ i : Nat, (((i : Nat) < (5 + caN7 n)) → ([(SV.v (Value.int IntKind.u8 (apG 5 (fun i => SE.byteOf [SV.v (Value.int IntKind.u8 (apG 1 (fun i => SE.byteOf [SV.v (Value.int IntKind.u8 ((fun i => List.getD [7] i 0) i))]) (be (CV.id c % 4294967296) 4) i))]) (c4 (CV.bs c) ++ c4 (CV.bg c)) i)))] = [(SV.v (Value.int IntKind.u8 (List.getD (caL 7 c (caT7 c n x y)) i 0)))])))))))))))))) := by kernel_rfl
theorem vcCw8 (b : Bool) (c : CV) (e n m cap xt : Nat) (x y : Nat → Int) (wh : Bool) : (vcFn Try.prog ΓCw noΛ Try.f70 [.vp 0 0, caS 8 c (.sl 1 2 0 n cap)] (heapOf [wB (some b) true nilS, ptB e m x y xt wh]) 64 (fun y' h' => FinE [wB (some b) true nilS, ptB e m x y xt wh] (apE (.fresh (some b)) 0 True (5 + caN8 n) (caL 8 c (caT8 c n x y)) (caB c (caB8 c n))) y' h')) =
((I64 8) ∧ (∀ c_1 : Nat, ((((bytesOk 1 (1 + c_1) { elem := 5, size := 1, rw := true, lock := false, lit := false, flat := true, n := 1, row := fun i => [SV.v (Value.int IntKind.u8 ((fun i => List.getD [8] i 0) i))], ext := 1 + c_1 }) ∧ ((1 : Nat) ≤ M0)) ∧ (I64 (CV.id c))) ∧ (∀ c_2 : Nat, ((((bytesOk 5 (5 + c_2) { elem := 5, size := 1, rw := true, lock := false, lit := false, flat := true, n := 5, row := fun i => [SV.v (Value.int IntKind.u8 (apG 1 (fun i => SE.byteOf [SV.v (Value.int IntKind.u8 ((fun i => List.getD [8] i 0) i))]) (be (CV.id c % 4294967296) 4) i))], ext := 5 + c_2 }) ∧ ((5 : Nat) ≤ NB0)) ∧ ((((2 : Nat) = 2) ∧ (((2 : Nat) < 100) ∧ ((5 : Nat) ≤ (5 + c_2)))) ∧ (∀ i : Nat, (((i : Nat) < 2) → (isPair [SV.v (Value.int IntKind.i64 (bop (Nat.beq (0 + i) 0) (CV.b0 c) (CV.b2 c))), SV.v (Value.int IntKind.i64 (bop (Nat.beq (0 + i) 0) (CV.b1 c) (CV.b3 c)))]))))) ∧ (∀ c_3 : Nat, (∃ c_4 : Nat, (True ∧ ((((1 : Nat) = 1) ∧ (((1 : Nat) ≤ 1) ∧ (((SV.sl 424 1 0 37 (37 + c_3)) = (SV.sl 424 1 0 37 (5 + caN8 n + c_4))) ∧ ((SV.v (Value.bool (b || false || notIn (CV.id c) 2147483647 || false))) = (SV.v (Value.bool (b || caB c (caB8 c n)))))))) ∧ (((37 : Nat) = (5 + caN8 n)) ∧ ((((5 + caN8 n + c_4) : Nat) ≤ (37 + c_3)) ∧ (∀ i : Nat, (((i : Nat) < (5 + caN8 n)) → ([(SV.v (Value.int IntKind.u8 (apG 5 (fun i => SE.byteOf [SV.v (Value.int IntKind.u8 (apG 1 (fun i => SE.byteOf [SV.v (Value.int IntKind.u8 ((fun i => List.getD [8] i 0) i))]) (be (CV.id c % 4294967296) 4) i))]) (spotsL (fun i => pX [SV.v (Value.int IntKind.i64 (bop (Nat.beq (0 + i) 0) (CV.b0 c) (CV.b2 c))), SV.v (Value.int IntKind.i64 (bop (Nat.beq (0 + i) 0) (CV.b1 c) (CV.b3 c)))]) (fun i => pY [SV.v (Value.int IntKind.i64 (bop (Nat.beq (0 + i) 0) (CV.b0 c) (CV.b2 c))), SV.v (Value.int IntKind.i64 (bop (Nat.beq (0 + i) 0) (CV.b1 c) (CV.b3 c)))]) 2) i)))] = [(SV.v (Value.int IntKind.u8 (List.getD (caL 8 c (caT8 c n x y)) i 0)))])))))))))))))) := by kernel_rfl
theorem vcCw9 (b : Bool) (c : CV) (e n m cap xt : Nat) (x y : Nat → Int) (wh : Bool) : (vcFn Try.prog ΓCw noΛ Try.f70 [.vp 0 0, caS 9 c (.sl 1 2 0 n cap)] (heapOf [wB (some b) true nilS, ptB e m x y xt wh]) 64 (fun y' h' => FinE [wB (some b) true nilS, ptB e m x y xt wh] (apE (.fresh (some b)) 0 True (5 + caN9 n) (caL 9 c (caT9 c n x y)) (caB c (caB9 c n))) y' h')) =
((I64 9) ∧ (∀ c_1 : Nat, ((((bytesOk 1 (1 + c_1) { elem := 5, size := 1, rw := true, lock := false, lit := false, flat := true, n := 1, row := fun i => [SV.v (Value.int IntKind.u8 ((fun i => List.getD [9] i 0) i))], ext := 1 + c_1 }) ∧ ((1 : Nat) ≤ M0)) ∧ (I64 (CV.id c))) ∧ (∀ c_2 : Nat, ((((bytesOk 5 (5 + c_2) { elem := 5, size := 1, rw := true, lock := false, lit := false, flat := true, n := 5, row := fun i => [SV.v (Value.int IntKind.u8 (apG 1 (fun i => SE.byteOf [SV.v (Value.int IntKind.u8 ((fun i => List.getD [9] i 0) i))]) (be (CV.id c % 4294967296) 4) i))], ext := 5 + c_2 }) ∧ ((5 : Nat) ≤ NB0)) ∧ ((((2 : Nat) = 2) ∧ (((2 : Nat) < 100) ∧ ((5 : Nat) ≤ (5 + c_2)))) ∧ (∀ i : Nat, (((i : Nat) < 2) → (isPair [SV.v (Value.int IntKind.i64 (bop (Nat.beq (0 + i) 0) (CV.f0 c) (CV.u0 c))), SV.v (Value.int IntKind.i64 (bop (Nat.beq (0 + i) 0) (CV.f1 c) (CV.u1 c)))]))))) ∧ (∀ c_3 : Nat, (∃ c_4 : Nat, (True ∧ ((((1 : Nat) = 1) ∧ (((1 : Nat) ≤ 1) ∧ (((SV.sl 360 1 0 37 (37 + c_3)) = (SV.sl 360 1 0 37 (5 + caN9 n + c_4))) ∧ ((SV.v (Value.bool (b || false || notIn (CV.id c) 2147483647 || false))) = (SV.v (Value.bool (b || caB c (caB9 c n)))))))) ∧ (((37 : Nat) = (5 + caN9 n)) ∧ ((((5 + caN9 n + c_4) : Nat) ≤ (37 + c_3)) ∧ (∀ i : Nat, (((i : Nat) < (5 + caN9 n)) → ([(SV.v (Value.int IntKind.u8 (apG 5 (fun i => SE.byteOf [SV.v (Value.int IntKind.u8 (apG 1 (fun i => SE.byteOf [SV.v (Value.int IntKind.u8 ((fun i => List.getD [9] i 0) i))]) (be (CV.id c % 4294967296) 4) i))]) (spotsL (fun i => pX [SV.v (Value.int IntKind.i64 (bop (Nat.beq (0 + i) 0) (CV.f0 c) (CV.u0 c))), SV.v (Value.int IntKind.i64 (bop (Nat.beq (0 + i) 0) (CV.f1 c) (CV.u1 c)))]) (fun i => pY [SV.v (Value.int IntKind.i64 (bop (Nat.beq (0 + i) 0) (CV.f0 c) (CV.u0 c))), SV.v (Value.int IntKind.i64 (bop (Nat.beq (0 + i) 0) (CV.f1 c) (CV.u1 c)))]) 2) i)))] = [(SV.v (Value.int IntKind.u8 (List.getD (caL 9 c (caT9 c n x y)) i 0)))])))))))))))))) := by kernel_rfl
theorem vcCw10 (b : Bool) (c : CV) (e n m cap xt : Nat) (x y : Nat → Int) (wh : Bool) : (vcFn Try.prog ΓCw noΛ Try.f70 [.vp 0 0, caS 10 c (.sl 1 2 0 n cap)] (heapOf [wB (some b) true nilS, ptB e m x y xt wh]) 64 (fun y' h' => FinE [wB (some b) true nilS, ptB e m x y xt wh] (apE (.fresh (some b)) 0 True (5 + caN10 n) (caL 10 c (caT10 c n x y)) (caB c (caB10 c n))) y' h')) =
((I64 10) ∧ (∀ c_1 : Nat, ((((bytesOk 1 (1 + c_1) { elem := 5, size := 1, rw := true, lock := false, lit := false, flat := true, n := 1, row := fun i => [SV.v (Value.int IntKind.u8 ((fun i => List.getD [10] i 0) i))], ext := 1 + c_1 }) ∧ ((1 : Nat) ≤ M0)) ∧ (I64 (CV.id c))) ∧ (∀ c_2 : Nat, (∃ c_3 : Nat, (True ∧ ((((1 : Nat) = 1) ∧ (((1 : Nat) ≤ 1) ∧ (((SV.sl 144 1 0 5 (5 + c_2)) = (SV.sl 144 1 0 5 (5 + caN10 n + c_3))) ∧ ((SV.v (Value.bool (b || false || notIn (CV.id c) 2147483647))) = (SV.v (Value.bool (b || caB c (caB10 c n)))))))) ∧ (((5 : Nat) = (5 + caN10 n)) ∧ ((((5 + caN10 n + c_3) : Nat) ≤ (5 + c_2)) ∧ (∀ i : Nat, (((i : Nat) < (5 + caN10 n)) → ([(SV.v (Value.int IntKind.u8 (apG 1 (fun i => SE.byteOf [SV.v (Value.int IntKind.u8 ((fun i => List.getD [10] i 0) i))]) (be (CV.id c % 4294967296) 4) i)))] = [(SV.v (Value.int IntKind.u8 (List.getD (caL 10 c (caT10 c n x y)) i 0)))])))))))))))) := by kernel_rfl
end Go.Proofs.Ytjdldadmaaeimaa
end

section
set_option maxRecDepth 100000
set_option linter.unusedSimpArgs false
set_option linter.unusedVariables false
namespace Go.Proofs.Ytjdldadmaaeimaa
open Go.SE Go.RowKit

def cvOk (c : CV) : Prop := I64 c.id ∧ I64 c.bs ∧ I64 c.bg ∧ I64 c.ver ∧ I64 c.sk ∧ I64 c.sr ∧ I64 c.sw ∧ I64 c.sh ∧ I64 c.p0v ∧ I64 c.p1v ∧ I64 c.p2v ∧ I64 c.p3v ∧ I64 c.v0v ∧ I64 c.v1v ∧ I64 c.w0v ∧ I64 c.dn ∧ I64 c.a0v ∧ I64 c.a1v ∧ I64 c.t0v ∧ I64 c.t1v ∧ I64 c.gr ∧ I64 c.b0 ∧ I64 c.b1 ∧ I64 c.b2 ∧ I64 c.b3 ∧ I64 c.f0 ∧ I64 c.f1 ∧ I64 c.u0 ∧ I64 c.u1
theorem c4l (n : Int) : (c4 n).length = 4 := be_len _ _
theorem i8l (n : Int) : (i8 n).length = 8 := be_len _ _
theorem hLl (a b : Int) : (hL a b).length = 8 := by unfold hL; rw [List.length_append, c4l, c4l]
theorem numl (v : Int) (f : Bool) : (numL v f).length = 9 := by unfold numL; rw [List.length_append, i8l]; rfl
theorem vecl (a : Int) (f : Bool) (b : Int) (g : Bool) : (vecL a f b g).length = 18 := by unfold vecL; rw [List.length_append, numl, numl]
theorem vLl (c : CV) : (vL c).length = 18 := vecl _ _ _ _
theorem aLl (c : CV) : (atL' c).length = 18 := vecl _ _ _ _
theorem tLl (c : CV) : (toL c).length = 18 := vecl _ _ _ _
theorem poLl (c : CV) : (poL c).length = 36 := by unfold poL; rw [List.length_append, vecl, List.length_append, numl, numl]
theorem shLl (k r w h : Int) (n : Nat) (x y : Nat → Int) : (shL k r w h n x y).length = shN n := by
  unfold shL shN
  cases Nat.ble n 8 with
  | true => simp only [cond_true, List.length_append, i8l, spotsL_len, List.length_cons, List.length_nil]; omega
  | false => simp only [cond_false, List.length_append, i8l, List.length_cons, List.length_nil]
theorem shN_le (n : Nat) : shN n ≤ 26 + 16 * n := by
  unfold shN
  cases Nat.ble n 8 with
  | true => exact Nat.le_refl _
  | false => show 26 ≤ _; omega
theorem apG_listQ (x : Int) (M : List Int) (i : Nat) : apG 1 (fun i => ([x] : List Int).getD i 0) M i = ([x] ++ M).getD i 0 := by
  by_cases h1 : i < 1
  · have : i = 0 := by omega
    subst this; rfl
  · obtain ⟨j, rfl⟩ : ∃ j, i = j + 1 := ⟨i - 1, by omega⟩
    rw [apG_new h1, Nat.add_sub_cancel]
    rfl
theorem add_ap {m n : Nat} {L : List Int} {k : Nat} (h : L.length = k) (e : m = n + k) : m = n + L.length := by rw [h]; exact e
theorem call_1 {b : Bool} {c : CV} {e n m cap xt : Nat} {x y : Nat → Int} {wh : Bool} (hc : cvOk c) (hn : n < 100) (hv : ∀ i, i < n → I64 (x i) ∧ I64 (y i)) : vcFn Try.prog ΓCw noΛ Try.f70 [.vp 0 0, caS 1 c (.sl 1 2 0 n cap)] (heapOf [wB (some b) true nilS, ptB e m x y xt wh]) 64 (fun y' h' => FinE [wB (some b) true nilS, ptB e m x y xt wh] (apE (.fresh (some b)) 0 True (5 + caN1 n) (caL 1 c (caT1 c n x y)) (caB c (caB1 c n))) y' h') := by
  have hsn := shN_le n
  obtain ⟨h_id, h_bs, h_bg, h_ver, h_sk, h_sr, h_sw, h_sh, h_p0v, h_p1v, h_p2v, h_p3v, h_v0v, h_v1v, h_w0v, h_dn, h_a0v, h_a1v, h_t0v, h_t1v, h_gr, h_b0, h_b1, h_b2, h_b3, h_f0, h_f1, h_u0, h_u1⟩ := hc
  refine Eq.mpr (vcCw1 b c e n m cap xt x y wh) ⟨⟨by omega, by omega⟩, fun d0 => ⟨⟨⟨bytesOk_bG _ _ _ (by omega), (by first | (show _ ≤ 1099511627776; omega) | (show _ ≤ 1000000000; omega) | (show _ ≤ 900000000; omega))⟩, h_id⟩, fun d1 => ⟨⟨⟨bytesOk_bG _ _ _ (by omega), (by first | (show _ ≤ 1099511627776; omega) | (show _ ≤ 1000000000; omega) | (show _ ≤ 900000000; omega))⟩, ⟨⟨⟨h_sk, h_sr, h_sw, h_sh⟩, rfl, hn⟩, fun i hi => by rw [Nat.zero_add]; exact hv i hi⟩⟩, fun d2 => ⟨⟨⟨bytesOk_bG _ _ _ (by omega), (by first | (show _ ≤ 1099511627776; omega) | (show _ ≤ 1000000000; omega) | (show _ ≤ 900000000; omega))⟩, ⟨h_p0v, h_p1v, h_p2v, h_p3v⟩⟩, fun d3 => ⟨⟨⟨bytesOk_bG _ _ _ (by omega), (by first | (show _ ≤ 1099511627776; omega) | (show _ ≤ 1000000000; omega) | (show _ ≤ 900000000; omega))⟩, ⟨h_v0v, h_v1v⟩⟩, fun d4 => ⟨⟨⟨bytesOk_bG _ _ _ (by omega), (by first | (show _ ≤ 1099511627776; omega) | (show _ ≤ 1000000000; omega) | (show _ ≤ 900000000; omega))⟩, ⟨rfl, by omega, by omega, fun i hi => by
    have : i = 0 := by omega
    subst this
    exact h_w0v⟩⟩, fun d5 => ⟨⟨⟨bytesOk_bG _ _ _ (by omega), (by first | (show _ ≤ 1099511627776; omega) | (show _ ≤ 1000000000; omega) | (show _ ≤ 900000000; omega))⟩, h_dn⟩, fun d6 => ⟨⟨⟨bytesOk_bG _ _ _ (by omega), (by first | (show _ ≤ 1099511627776; omega) | (show _ ≤ 1000000000; omega) | (show _ ≤ 900000000; omega))⟩, trivial⟩, fun d7 => tailU ?_ ?_ fun i hi => ?_⟩⟩⟩⟩⟩⟩⟩⟩
  · show _ = 5 + (shN n + 72)
    omega
  · simp only [Bool.or_false, caB, caB1, shBad, anyMin, nV, Bool.false_or, Bool.or_assoc]
  · show apG (5 + shN n + 36 + 18 + 9 + 8) (apG (5 + shN n + 36 + 18 + 9) (apG (5 + shN n + 36 + 18) (apG (5 + shN n + 36) (apG (5 + shN n) (apG (5) (apG (1) (fun i => ([1] : List Int).getD i 0) (c4 c.id)) (shL c.sk c.sr c.sw c.sh n (fun i => x (0 + i)) (fun i => y (0 + i)))) (poL c)) (vL c)) (numL c.w0v c.w0f)) (i8 c.dn)) (flB c.mv) i = _
    rw [show (fun i => x (0 + i)) = x from funext fun i => by rw [Nat.zero_add], show (fun i => y (0 + i)) = y from funext fun i => by rw [Nat.zero_add]]
    rw [apG_ap (n := 5 + shN n + 36 + 18 + 9) (m := 5 + shN n + 36 + 18 + 9 + 8) (add_ap (i8l _) rfl)]
    rw [apG_ap (n := 5 + shN n + 36 + 18) (m := 5 + shN n + 36 + 18 + 9) (add_ap (numl _ _) rfl)]
    rw [apG_ap (n := 5 + shN n + 36) (m := 5 + shN n + 36 + 18) (add_ap (vLl c) rfl)]
    rw [apG_ap (n := 5 + shN n) (m := 5 + shN n + 36) (add_ap (poLl c) rfl)]
    rw [apG_ap (n := 5) (m := 5 + shN n) (add_ap (shLl _ _ _ _ _ _ _) rfl)]
    rw [apG_ap (n := 1) (m := 5) (add_ap (c4l _) rfl)]
    rw [apG_listQ]
    rfl
theorem call_2 {b : Bool} {c : CV} {e n m cap xt : Nat} {x y : Nat → Int} {wh : Bool} (hc : cvOk c) (hn : n < 100) (hv : ∀ i, i < n → I64 (x i) ∧ I64 (y i)) : vcFn Try.prog ΓCw noΛ Try.f70 [.vp 0 0, caS 2 c (.sl 1 2 0 n cap)] (heapOf [wB (some b) true nilS, ptB e m x y xt wh]) 64 (fun y' h' => FinE [wB (some b) true nilS, ptB e m x y xt wh] (apE (.fresh (some b)) 0 True (5 + caN2 n) (caL 2 c (caT2 c n x y)) (caB c (caB2 c n))) y' h') := by
  have hsn := shN_le n
  obtain ⟨h_id, h_bs, h_bg, h_ver, h_sk, h_sr, h_sw, h_sh, h_p0v, h_p1v, h_p2v, h_p3v, h_v0v, h_v1v, h_w0v, h_dn, h_a0v, h_a1v, h_t0v, h_t1v, h_gr, h_b0, h_b1, h_b2, h_b3, h_f0, h_f1, h_u0, h_u1⟩ := hc
  refine Eq.mpr (vcCw2 b c e n m cap xt x y wh) ⟨⟨by omega, by omega⟩, fun d0 => ⟨⟨⟨bytesOk_bG _ _ _ (by omega), (by first | (show _ ≤ 1099511627776; omega) | (show _ ≤ 1000000000; omega) | (show _ ≤ 900000000; omega))⟩, h_id⟩, fun d1 => ⟨⟨⟨bytesOk_bG _ _ _ (by omega), (by first | (show _ ≤ 1099511627776; omega) | (show _ ≤ 1000000000; omega) | (show _ ≤ 900000000; omega))⟩, ⟨h_bs, h_bg⟩⟩, fun d2 => ⟨⟨⟨bytesOk_bG _ _ _ (by omega), (by first | (show _ ≤ 1099511627776; omega) | (show _ ≤ 1000000000; omega) | (show _ ≤ 900000000; omega))⟩, h_ver⟩, fun d3 => tailU ?_ ?_ fun i hi => ?_⟩⟩⟩⟩
  · show _ = 5 + (16)
    omega
  · simp only [Bool.or_false, caB, caB2, hBad, shBad, Bool.or_assoc, anyMin, nV, bop, Bool.false_or]
  · show apG (13) (apG (5) (apG (1) (fun i => ([2] : List Int).getD i 0) (c4 c.id)) (hL c.bs c.bg)) (i8 c.ver) i = _
    rw [apG_ap (n := 5) (m := 13) (add_ap (hLl _ _) rfl)]
    rw [apG_ap (n := 1) (m := 5) (add_ap (c4l _) rfl)]
    rw [apG_listQ]
    rfl
theorem call_3 {b : Bool} {c : CV} {e n m cap xt : Nat} {x y : Nat → Int} {wh : Bool} (hc : cvOk c) (hn : n < 100) (hv : ∀ i, i < n → I64 (x i) ∧ I64 (y i)) : vcFn Try.prog ΓCw noΛ Try.f70 [.vp 0 0, caS 3 c (.sl 1 2 0 n cap)] (heapOf [wB (some b) true nilS, ptB e m x y xt wh]) 64 (fun y' h' => FinE [wB (some b) true nilS, ptB e m x y xt wh] (apE (.fresh (some b)) 0 True (5 + caN3 n) (caL 3 c (caT3 c n x y)) (caB c (caB3 c n))) y' h') := by
  have hsn := shN_le n
  obtain ⟨h_id, h_bs, h_bg, h_ver, h_sk, h_sr, h_sw, h_sh, h_p0v, h_p1v, h_p2v, h_p3v, h_v0v, h_v1v, h_w0v, h_dn, h_a0v, h_a1v, h_t0v, h_t1v, h_gr, h_b0, h_b1, h_b2, h_b3, h_f0, h_f1, h_u0, h_u1⟩ := hc
  refine Eq.mpr (vcCw3 b c e n m cap xt x y wh) ⟨⟨by omega, by omega⟩, fun d0 => ⟨⟨⟨bytesOk_bG _ _ _ (by omega), (by first | (show _ ≤ 1099511627776; omega) | (show _ ≤ 1000000000; omega) | (show _ ≤ 900000000; omega))⟩, h_id⟩, fun d1 => ⟨⟨⟨bytesOk_bG _ _ _ (by omega), (by first | (show _ ≤ 1099511627776; omega) | (show _ ≤ 1000000000; omega) | (show _ ≤ 900000000; omega))⟩, ⟨h_bs, h_bg⟩⟩, fun d2 => ⟨⟨⟨bytesOk_bG _ _ _ (by omega), (by first | (show _ ≤ 1099511627776; omega) | (show _ ≤ 1000000000; omega) | (show _ ≤ 900000000; omega))⟩, h_ver⟩, fun d3 => ⟨⟨⟨bytesOk_bG _ _ _ (by omega), (by first | (show _ ≤ 1099511627776; omega) | (show _ ≤ 1000000000; omega) | (show _ ≤ 900000000; omega))⟩, ⟨h_a0v, h_a1v⟩⟩, fun d4 => ⟨⟨⟨bytesOk_bG _ _ _ (by omega), (by first | (show _ ≤ 1099511627776; omega) | (show _ ≤ 1000000000; omega) | (show _ ≤ 900000000; omega))⟩, ⟨h_t0v, h_t1v⟩⟩, fun d5 => tailU ?_ ?_ fun i hi => ?_⟩⟩⟩⟩⟩⟩
  · show _ = 5 + (52)
    omega
  · simp only [Bool.or_false, caB, caB3, hBad, shBad, Bool.or_assoc, anyMin, nV, bop, Bool.false_or]
  · show apG (39) (apG (21) (apG (13) (apG (5) (apG (1) (fun i => ([3] : List Int).getD i 0) (c4 c.id)) (hL c.bs c.bg)) (i8 c.ver)) (atL' c)) (toL c) i = _
    rw [apG_ap (n := 21) (m := 39) (add_ap (aLl c) rfl)]
    rw [apG_ap (n := 13) (m := 21) (add_ap (i8l _) rfl)]
    rw [apG_ap (n := 5) (m := 13) (add_ap (hLl _ _) rfl)]
    rw [apG_ap (n := 1) (m := 5) (add_ap (c4l _) rfl)]
    rw [apG_listQ]
    rfl
theorem call_4 {b : Bool} {c : CV} {e n m cap xt : Nat} {x y : Nat → Int} {wh : Bool} (hc : cvOk c) (hn : n < 100) (hv : ∀ i, i < n → I64 (x i) ∧ I64 (y i)) : vcFn Try.prog ΓCw noΛ Try.f70 [.vp 0 0, caS 4 c (.sl 1 2 0 n cap)] (heapOf [wB (some b) true nilS, ptB e m x y xt wh]) 64 (fun y' h' => FinE [wB (some b) true nilS, ptB e m x y xt wh] (apE (.fresh (some b)) 0 True (5 + caN4 n) (caL 4 c (caT4 c n x y)) (caB c (caB4 c n))) y' h') := by
  have hsn := shN_le n
  obtain ⟨h_id, h_bs, h_bg, h_ver, h_sk, h_sr, h_sw, h_sh, h_p0v, h_p1v, h_p2v, h_p3v, h_v0v, h_v1v, h_w0v, h_dn, h_a0v, h_a1v, h_t0v, h_t1v, h_gr, h_b0, h_b1, h_b2, h_b3, h_f0, h_f1, h_u0, h_u1⟩ := hc
  refine Eq.mpr (vcCw4 b c e n m cap xt x y wh) ⟨⟨by omega, by omega⟩, fun d0 => ⟨⟨⟨bytesOk_bG _ _ _ (by omega), (by first | (show _ ≤ 1099511627776; omega) | (show _ ≤ 1000000000; omega) | (show _ ≤ 900000000; omega))⟩, h_id⟩, fun d1 => ⟨⟨⟨bytesOk_bG _ _ _ (by omega), (by first | (show _ ≤ 1099511627776; omega) | (show _ ≤ 1000000000; omega) | (show _ ≤ 900000000; omega))⟩, ⟨h_bs, h_bg⟩⟩, fun d2 => ⟨⟨⟨bytesOk_bG _ _ _ (by omega), (by first | (show _ ≤ 1099511627776; omega) | (show _ ≤ 1000000000; omega) | (show _ ≤ 900000000; omega))⟩, h_ver⟩, fun d3 => ⟨⟨⟨bytesOk_bG _ _ _ (by omega), (by first | (show _ ≤ 1099511627776; omega) | (show _ ≤ 1000000000; omega) | (show _ ≤ 900000000; omega))⟩, ⟨h_a0v, h_a1v⟩⟩, fun d4 => tailU ?_ ?_ fun i hi => ?_⟩⟩⟩⟩⟩
  · show _ = 5 + (34)
    omega
  · simp only [Bool.or_false, caB, caB4, hBad, shBad, Bool.or_assoc, anyMin, nV, bop, Bool.false_or]
  · show apG (21) (apG (13) (apG (5) (apG (1) (fun i => ([4] : List Int).getD i 0) (c4 c.id)) (hL c.bs c.bg)) (i8 c.ver)) (atL' c) i = _
    rw [apG_ap (n := 13) (m := 21) (add_ap (i8l _) rfl)]
    rw [apG_ap (n := 5) (m := 13) (add_ap (hLl _ _) rfl)]
    rw [apG_ap (n := 1) (m := 5) (add_ap (c4l _) rfl)]
    rw [apG_listQ]
    rfl
theorem call_5 {b : Bool} {c : CV} {e n m cap xt : Nat} {x y : Nat → Int} {wh : Bool} (hc : cvOk c) (hn : n < 100) (hv : ∀ i, i < n → I64 (x i) ∧ I64 (y i)) : vcFn Try.prog ΓCw noΛ Try.f70 [.vp 0 0, caS 5 c (.sl 1 2 0 n cap)] (heapOf [wB (some b) true nilS, ptB e m x y xt wh]) 64 (fun y' h' => FinE [wB (some b) true nilS, ptB e m x y xt wh] (apE (.fresh (some b)) 0 True (5 + caN5 n) (caL 5 c (caT5 c n x y)) (caB c (caB5 c n))) y' h') := by
  have hsn := shN_le n
  obtain ⟨h_id, h_bs, h_bg, h_ver, h_sk, h_sr, h_sw, h_sh, h_p0v, h_p1v, h_p2v, h_p3v, h_v0v, h_v1v, h_w0v, h_dn, h_a0v, h_a1v, h_t0v, h_t1v, h_gr, h_b0, h_b1, h_b2, h_b3, h_f0, h_f1, h_u0, h_u1⟩ := hc
  refine Eq.mpr (vcCw5 b c e n m cap xt x y wh) ⟨⟨by omega, by omega⟩, fun d0 => ⟨⟨⟨bytesOk_bG _ _ _ (by omega), (by first | (show _ ≤ 1099511627776; omega) | (show _ ≤ 1000000000; omega) | (show _ ≤ 900000000; omega))⟩, h_id⟩, fun d1 => ⟨⟨⟨bytesOk_bG _ _ _ (by omega), (by first | (show _ ≤ 1099511627776; omega) | (show _ ≤ 1000000000; omega) | (show _ ≤ 900000000; omega))⟩, h_gr⟩, fun d2 => ⟨⟨⟨bytesOk_bG _ _ _ (by omega), (by first | (show _ ≤ 1099511627776; omega) | (show _ ≤ 1000000000; omega) | (show _ ≤ 900000000; omega))⟩, ⟨h_t0v, h_t1v⟩⟩, fun d3 => tailU ?_ ?_ fun i hi => ?_⟩⟩⟩⟩
  · show _ = 5 + (22)
    omega
  · simp only [Bool.or_false, caB, caB5, hBad, shBad, Bool.or_assoc, anyMin, nV, bop, Bool.false_or]
  · show apG (9) (apG (5) (apG (1) (fun i => ([5] : List Int).getD i 0) (c4 c.id)) (c4 c.gr)) (toL c) i = _
    rw [apG_ap (n := 5) (m := 9) (add_ap (c4l _) rfl)]
    rw [apG_ap (n := 1) (m := 5) (add_ap (c4l _) rfl)]
    rw [apG_listQ]
    rfl
theorem call_6 {b : Bool} {c : CV} {e n m cap xt : Nat} {x y : Nat → Int} {wh : Bool} (hc : cvOk c) (hn : n < 100) (hv : ∀ i, i < n → I64 (x i) ∧ I64 (y i)) : vcFn Try.prog ΓCw noΛ Try.f70 [.vp 0 0, caS 6 c (.sl 1 2 0 n cap)] (heapOf [wB (some b) true nilS, ptB e m x y xt wh]) 64 (fun y' h' => FinE [wB (some b) true nilS, ptB e m x y xt wh] (apE (.fresh (some b)) 0 True (5 + caN6 n) (caL 6 c (caT6 c n x y)) (caB c (caB6 c n))) y' h') := by
  have hsn := shN_le n
  obtain ⟨h_id, h_bs, h_bg, h_ver, h_sk, h_sr, h_sw, h_sh, h_p0v, h_p1v, h_p2v, h_p3v, h_v0v, h_v1v, h_w0v, h_dn, h_a0v, h_a1v, h_t0v, h_t1v, h_gr, h_b0, h_b1, h_b2, h_b3, h_f0, h_f1, h_u0, h_u1⟩ := hc
  refine Eq.mpr (vcCw6 b c e n m cap xt x y wh) ⟨⟨by omega, by omega⟩, fun d0 => ⟨⟨⟨bytesOk_bG _ _ _ (by omega), (by first | (show _ ≤ 1099511627776; omega) | (show _ ≤ 1000000000; omega) | (show _ ≤ 900000000; omega))⟩, h_id⟩, fun d1 => ⟨⟨⟨bytesOk_bG _ _ _ (by omega), (by first | (show _ ≤ 1099511627776; omega) | (show _ ≤ 1000000000; omega) | (show _ ≤ 900000000; omega))⟩, h_gr⟩, fun d2 => tailU ?_ ?_ fun i hi => ?_⟩⟩⟩
  · show _ = 5 + (4)
    omega
  · simp only [Bool.or_false, caB, caB6, hBad, shBad, Bool.or_assoc, anyMin, nV, bop, Bool.false_or]
  · show apG (5) (apG (1) (fun i => ([6] : List Int).getD i 0) (c4 c.id)) (c4 c.gr) i = _
    rw [apG_ap (n := 1) (m := 5) (add_ap (c4l _) rfl)]
    rw [apG_listQ]
    rfl
theorem call_7 {b : Bool} {c : CV} {e n m cap xt : Nat} {x y : Nat → Int} {wh : Bool} (hc : cvOk c) (hn : n < 100) (hv : ∀ i, i < n → I64 (x i) ∧ I64 (y i)) : vcFn Try.prog ΓCw noΛ Try.f70 [.vp 0 0, caS 7 c (.sl 1 2 0 n cap)] (heapOf [wB (some b) true nilS, ptB e m x y xt wh]) 64 (fun y' h' => FinE [wB (some b) true nilS, ptB e m x y xt wh] (apE (.fresh (some b)) 0 True (5 + caN7 n) (caL 7 c (caT7 c n x y)) (caB c (caB7 c n))) y' h') := by
  have hsn := shN_le n
  obtain ⟨h_id, h_bs, h_bg, h_ver, h_sk, h_sr, h_sw, h_sh, h_p0v, h_p1v, h_p2v, h_p3v, h_v0v, h_v1v, h_w0v, h_dn, h_a0v, h_a1v, h_t0v, h_t1v, h_gr, h_b0, h_b1, h_b2, h_b3, h_f0, h_f1, h_u0, h_u1⟩ := hc
  refine Eq.mpr (vcCw7 b c e n m cap xt x y wh) ⟨⟨by omega, by omega⟩, fun d0 => ⟨⟨⟨bytesOk_bG _ _ _ (by omega), (by first | (show _ ≤ 1099511627776; omega) | (show _ ≤ 1000000000; omega) | (show _ ≤ 900000000; omega))⟩, h_id⟩, fun d1 => ⟨⟨⟨bytesOk_bG _ _ _ (by omega), (by first | (show _ ≤ 1099511627776; omega) | (show _ ≤ 1000000000; omega) | (show _ ≤ 900000000; omega))⟩, ⟨h_bs, h_bg⟩⟩, fun d2 => tailU ?_ ?_ fun i hi => ?_⟩⟩⟩
  · show _ = 5 + (8)
    omega
  · simp only [Bool.or_false, caB, caB7, hBad, shBad, Bool.or_assoc, anyMin, nV, bop, Bool.false_or]
  · show apG (5) (apG (1) (fun i => ([7] : List Int).getD i 0) (c4 c.id)) (hL c.bs c.bg) i = _
    rw [apG_ap (n := 1) (m := 5) (add_ap (c4l _) rfl)]
    rw [apG_listQ]
    rfl
theorem call_8 {b : Bool} {c : CV} {e n m cap xt : Nat} {x y : Nat → Int} {wh : Bool} (hc : cvOk c) (hn : n < 100) (hv : ∀ i, i < n → I64 (x i) ∧ I64 (y i)) : vcFn Try.prog ΓCw noΛ Try.f70 [.vp 0 0, caS 8 c (.sl 1 2 0 n cap)] (heapOf [wB (some b) true nilS, ptB e m x y xt wh]) 64 (fun y' h' => FinE [wB (some b) true nilS, ptB e m x y xt wh] (apE (.fresh (some b)) 0 True (5 + caN8 n) (caL 8 c (caT8 c n x y)) (caB c (caB8 c n))) y' h') := by
  have hsn := shN_le n
  obtain ⟨h_id, h_bs, h_bg, h_ver, h_sk, h_sr, h_sw, h_sh, h_p0v, h_p1v, h_p2v, h_p3v, h_v0v, h_v1v, h_w0v, h_dn, h_a0v, h_a1v, h_t0v, h_t1v, h_gr, h_b0, h_b1, h_b2, h_b3, h_f0, h_f1, h_u0, h_u1⟩ := hc
  refine Eq.mpr (vcCw8 b c e n m cap xt x y wh) ⟨⟨by omega, by omega⟩, fun d0 => ⟨⟨⟨bytesOk_bG _ _ _ (by omega), (by first | (show _ ≤ 1099511627776; omega) | (show _ ≤ 1000000000; omega) | (show _ ≤ 900000000; omega))⟩, h_id⟩, fun d1 => ⟨⟨⟨bytesOk_bG _ _ _ (by omega), (by first | (show _ ≤ 1099511627776; omega) | (show _ ≤ 1000000000; omega) | (show _ ≤ 900000000; omega))⟩, ⟨⟨rfl, by omega, by omega⟩, fun i hi => by
    have : i = 0 ∨ i = 1 := by omega
    rcases this with rfl | rfl
    · exact ⟨h_b0, h_b1⟩
    · exact ⟨h_b2, h_b3⟩⟩⟩, fun d2 => tailU ?_ ?_ fun i hi => ?_⟩⟩⟩
  · show _ = 5 + (32)
    omega
  · simp only [Bool.or_false, caB, caB8, hBad, shBad, Bool.or_assoc, anyMin, nV, bop, Bool.false_or]
  · show apG (5) (apG (1) (fun i => ([8] : List Int).getD i 0) (c4 c.id)) ((i8 c.b0 ++ i8 c.b1) ++ (i8 c.b2 ++ i8 c.b3)) i = _
    rw [apG_ap (n := 1) (m := 5) (add_ap (c4l _) rfl)]
    rw [apG_listQ]
    rfl
theorem call_9 {b : Bool} {c : CV} {e n m cap xt : Nat} {x y : Nat → Int} {wh : Bool} (hc : cvOk c) (hn : n < 100) (hv : ∀ i, i < n → I64 (x i) ∧ I64 (y i)) : vcFn Try.prog ΓCw noΛ Try.f70 [.vp 0 0, caS 9 c (.sl 1 2 0 n cap)] (heapOf [wB (some b) true nilS, ptB e m x y xt wh]) 64 (fun y' h' => FinE [wB (some b) true nilS, ptB e m x y xt wh] (apE (.fresh (some b)) 0 True (5 + caN9 n) (caL 9 c (caT9 c n x y)) (caB c (caB9 c n))) y' h') := by
  have hsn := shN_le n
  obtain ⟨h_id, h_bs, h_bg, h_ver, h_sk, h_sr, h_sw, h_sh, h_p0v, h_p1v, h_p2v, h_p3v, h_v0v, h_v1v, h_w0v, h_dn, h_a0v, h_a1v, h_t0v, h_t1v, h_gr, h_b0, h_b1, h_b2, h_b3, h_f0, h_f1, h_u0, h_u1⟩ := hc
  refine Eq.mpr (vcCw9 b c e n m cap xt x y wh) ⟨⟨by omega, by omega⟩, fun d0 => ⟨⟨⟨bytesOk_bG _ _ _ (by omega), (by first | (show _ ≤ 1099511627776; omega) | (show _ ≤ 1000000000; omega) | (show _ ≤ 900000000; omega))⟩, h_id⟩, fun d1 => ⟨⟨⟨bytesOk_bG _ _ _ (by omega), (by first | (show _ ≤ 1099511627776; omega) | (show _ ≤ 1000000000; omega) | (show _ ≤ 900000000; omega))⟩, ⟨⟨rfl, by omega, by omega⟩, fun i hi => by
    have : i = 0 ∨ i = 1 := by omega
    rcases this with rfl | rfl
    · exact ⟨h_f0, h_f1⟩
    · exact ⟨h_u0, h_u1⟩⟩⟩, fun d2 => tailU ?_ ?_ fun i hi => ?_⟩⟩⟩
  · show _ = 5 + (32)
    omega
  · simp only [Bool.or_false, caB, caB9, hBad, shBad, Bool.or_assoc, anyMin, nV, bop, Bool.false_or]
  · show apG (5) (apG (1) (fun i => ([9] : List Int).getD i 0) (c4 c.id)) ((i8 c.f0 ++ i8 c.f1) ++ (i8 c.u0 ++ i8 c.u1)) i = _
    rw [apG_ap (n := 1) (m := 5) (add_ap (c4l _) rfl)]
    rw [apG_listQ]
    rfl
theorem call_10 {b : Bool} {c : CV} {e n m cap xt : Nat} {x y : Nat → Int} {wh : Bool} (hc : cvOk c) (hn : n < 100) (hv : ∀ i, i < n → I64 (x i) ∧ I64 (y i)) : vcFn Try.prog ΓCw noΛ Try.f70 [.vp 0 0, caS 10 c (.sl 1 2 0 n cap)] (heapOf [wB (some b) true nilS, ptB e m x y xt wh]) 64 (fun y' h' => FinE [wB (some b) true nilS, ptB e m x y xt wh] (apE (.fresh (some b)) 0 True (5 + caN10 n) (caL 10 c (caT10 c n x y)) (caB c (caB10 c n))) y' h') := by
  have hsn := shN_le n
  obtain ⟨h_id, h_bs, h_bg, h_ver, h_sk, h_sr, h_sw, h_sh, h_p0v, h_p1v, h_p2v, h_p3v, h_v0v, h_v1v, h_w0v, h_dn, h_a0v, h_a1v, h_t0v, h_t1v, h_gr, h_b0, h_b1, h_b2, h_b3, h_f0, h_f1, h_u0, h_u1⟩ := hc
  refine Eq.mpr (vcCw10 b c e n m cap xt x y wh) ⟨⟨by omega, by omega⟩, fun d0 => ⟨⟨⟨bytesOk_bG _ _ _ (by omega), (by first | (show _ ≤ 1099511627776; omega) | (show _ ≤ 1000000000; omega) | (show _ ≤ 900000000; omega))⟩, h_id⟩, fun d1 => tailU ?_ ?_ fun i hi => ?_⟩⟩
  · show _ = 5 + (0)
    omega
  · simp only [Bool.or_false, caB, caB10, hBad, shBad, Bool.or_assoc, anyMin, nV, bop, Bool.false_or]
  · show apG (1) (fun i => ([10] : List Int).getD i 0) (c4 c.id) i = _
    rw [apG_listQ]
    rfl
end Go.Proofs.Ytjdldadmaaeimaa
end

section
set_option maxRecDepth 100000
set_option linter.unusedSimpArgs false
set_option linter.unusedVariables false
namespace Go.Proofs.Ytjdldadmaaeimaa
open Go.SE Go.RowKit

def sEqualN : List SV → List Ro → Option (Option Prop × SV)
  | [.v (.slice none 0 0), .sl 0 2 0 m _], [⟨2, m', row⟩] => some (some (rowsPre m m' row), .v (.bool (Nat.beq m 0)))
  | _, _ => none
def sSameN : List SV → List Ro → Option (Option Prop × SV)
  | [.agg [.v (.int .i64 k), .v (.int .i64 r), .v (.int .i64 w), .v (.int .i64 h), .v (.slice none 0 0)], .agg [.v (.int .i64 k2), .v (.int .i64 r2), .v (.int .i64 w2), .v (.int .i64 h2), .sl 0 2 0 m _]], [⟨2, m', row⟩] => some (some (rowsPre m m' row), .v (.bool (eqSh ⟨k, r, w, h⟩ ⟨k2, r2, w2, h2⟩ && Nat.beq m 0)))
  | _, _ => none
theorem vcEqualN (m m' d : Nat) (g : Nat → Int × Int) (R : SV → Prop) : (vcFn Try.prog noCtrs (ΛZ Try.f106 13) Try.f106 [nilS, .sl 0 2 0 m d] (roHeap [⟨2, m', rowsP g⟩]) 64 (fun y _ => R y)) =

(sel (0 != (↑m : Int)) (R (SV.v (Value.bool false))) ((∃ x : Nat, (((x : Nat) = 0) ∧ (((SV.v (Value.int IntKind.i64 0)) = (SV.v (Value.int IntKind.i64 ((↑x : Int))))) ∧ True))) ∧ (∀ x : Nat, (((x : Nat) = 0) → (R (SV.v (Value.bool true))))))) := by kernel_rfl
def ΓMN : Ctrs := addCtr noCtrs 106 (roCtr sEqualN)
theorem vcSameN (a b : ShB) (m m' d : Nat) (g : Nat → Int × Int) (R : SV → Prop) : (vcFn Try.prog ΓMN noΛ Try.f72 [shS a nilS, shS b (.sl 0 2 0 m d)] (roHeap [⟨2, m', rowsP g⟩]) 64 (fun y _ => R y)) =

(sel (ShB.k a == ShB.k b && (ShB.r a == ShB.r b && (ShB.w a == ShB.w b && ShB.h a == ShB.h b))) ((rowsPre m m fun y => [SV.v (Value.int IntKind.i64 (Prod.fst (g (0 + y)))), SV.v (Value.int IntKind.i64 (Prod.snd (g (0 + y))))]) ∧ (R (SV.v (Value.bool (Nat.beq m 0))))) (R (SV.v (Value.bool false)))) := by kernel_rfl
theorem EqualN_spec : RoSpec Try.prog 106 sEqualN := ro_spec hm noCtrs_ok Try.func106 (Λ := fun _ _ => ΛZ Try.f106 13) fun args bs p x h hp => by
  unfold sEqualN at h
  split at h <;> try (cases h; done)
  rename_i m d m' row
  cases h
  obtain ⟨h0, rfl, hn⟩ := hp _ rfl
  have h0 := okAll_rows.1 h0
  refine ⟨rfl, [⟨2, m', rowsP fun i => gi (row i)⟩], ⟨⟨rfl, rfl, fun i hi => (isPI_row (h0 i hi)).1⟩, trivial⟩, ?_⟩
  refine Eq.mpr (vcEqualN m' m' d (fun i => gi (row i)) _) (sel_of (fun e => bool_mk ?_) fun e => ⟨⟨0, rfl, rfl, trivial⟩, fun _ _ => bool_mk ?_⟩)
  · refine (Go.SE.beq_false fun e0 => ?_).symm
    rw [e0] at e; cases e
  · have : m' = 0 := by
      have : ((0 : Int) != (m' : Int)) = false := e
      simp at this; omega
    rw [this]; rfl
theorem ΓMN_ok : ∀ f g, ΓMN f = some g → g.ok Try.prog f := addCtr_ok noCtrs_ok (ro_ok Try.func106 (by kernel_rfl) (by kernel_rfl) EqualN_spec)
theorem SameN_spec : RoSpec Try.prog 72 sSameN := ro_spec hm ΓMN_ok Try.func72 (Λ := fun _ _ => noΛ) fun args bs p x h hp => by
  unfold sSameN at h
  split at h <;> try (cases h; done)
  rename_i k r w hh k2 r2 w2 h2 m d m' row
  cases h
  obtain ⟨h0, rfl, hn⟩ := hp _ rfl
  have h0 := okAll_rows.1 h0
  refine ⟨rfl, [⟨2, m', rowsP fun i => gi (row i)⟩], ⟨⟨rfl, rfl, fun i hi => (isPI_row (h0 i hi)).1⟩, trivial⟩, ?_⟩
  refine Eq.mpr (vcSameN ⟨k, r, w, hh⟩ ⟨k2, r2, w2, h2⟩ m' m' d (fun i => gi (row i)) _) (sel_of (fun e => ⟨⟨okAll_rows.2 fun i hi => ?_, rfl, hn⟩, bool_mk ?_⟩) fun e => bool_mk ?_)
  · rw [Nat.zero_add]; exact (isPI_row (h0 i hi)).2
  · unfold eqSh; rw [e]; rfl
  · unfold eqSh; rw [e]; rfl
end Go.Proofs.Ytjdldadmaaeimaa
end

section
set_option maxRecDepth 100000
set_option linter.unusedSimpArgs false
set_option linter.unusedVariables false
namespace Go.Proofs.Ytjdldadmaaeimaa
open Go.SE Go.RowKit

def shOf (c : CV) : ShB := ⟨c.sk, c.sr, c.sw, c.sh⟩
def ΓU0 : Ctrs := addCtr noCtrs 72 (roCtr (orRo sSameS sSameN))
theorem vcSameC (k1 k2 : Int) (a b : CV) (n n' c m m' d : Nat) (g h : Nat → Int × Int) (R : SV → Prop) : (vcFn Try.prog ΓU0 noΛ Try.f25 [caS k1 a (.sl 0 2 0 n c), caS k2 b (.sl 1 2 0 m d)] (roHeap [⟨2, n', rowsP g⟩, ⟨2, m', rowsP h⟩]) 64 (fun y _ => R y)) =

(sel (k1 == k2) 
(sel (CV.id a == CV.id b) 
(sel (CV.bs a == CV.bs b && CV.bg a == CV.bg b) 
(sel (CV.ver a == CV.ver b) (((rowsPre n n fun y => [SV.v (Value.int IntKind.i64 (Prod.fst (g (0 + y)))), SV.v (Value.int IntKind.i64 (Prod.snd (g (0 + y))))]) ∧ (rowsPre m m fun y => [SV.v (Value.int IntKind.i64 (Prod.fst (h (0 + y)))), SV.v (Value.int IntKind.i64 (Prod.snd (h (0 + y))))])) ∧ 
(sel (sameS { k := CV.sk a, r := CV.sr a, w := CV.sw a, h := CV.sh a } n (fun i => gi [SV.v (Value.int IntKind.i64 (Prod.fst (g (0 + i)))), SV.v (Value.int IntKind.i64 (Prod.snd (g (0 + i))))]) { k := CV.sk b, r := CV.sr b, w := CV.sw b, h := CV.sh b } m fun i => gi [SV.v (Value.int IntKind.i64 (Prod.fst (h (0 + i)))), SV.v (Value.int IntKind.i64 (Prod.snd (h (0 + i))))]) 
(sel (CV.p0v a == CV.p0v b && CV.p0f a == CV.p0f b && (CV.p1v a == CV.p1v b && CV.p1f a == CV.p1f b) && (CV.p2v a == CV.p2v b && CV.p2f a == CV.p2f b && (CV.p3v a == CV.p3v b && CV.p3f a == CV.p3f b))) 
(sel (CV.v0v a == CV.v0v b && CV.v0f a == CV.v0f b && (CV.v1v a == CV.v1v b && CV.v1f a == CV.v1f b)) 
(sel (CV.w0v a == CV.w0v b && CV.w0f a == CV.w0f b) 
(sel (CV.dn a == CV.dn b) 
(sel (CV.mv a == CV.mv b) 
(sel (CV.a0v a == CV.a0v b && CV.a0f a == CV.a0f b && (CV.a1v a == CV.a1v b && CV.a1f a == CV.a1f b)) 
(sel (CV.t0v a == CV.t0v b && CV.t0f a == CV.t0f b && (CV.t1v a == CV.t1v b && CV.t1f a == CV.t1f b)) 
(sel (CV.gr a == CV.gr b) 
(sel (CV.b0 a == CV.b0 b && (CV.b1 a == CV.b1 b && (CV.b2 a == CV.b2 b && CV.b3 a == CV.b3 b))) 
(sel (CV.f0 a == CV.f0 b && CV.f1 a == CV.f1 b) (R (SV.v (Value.bool (CV.u0 a == CV.u0 b && CV.u1 a == CV.u1 b)))) (R (SV.v (Value.bool false)))) (R (SV.v (Value.bool false)))) (R (SV.v (Value.bool false)))) (R (SV.v (Value.bool false)))) (R (SV.v (Value.bool false)))) (R (SV.v (Value.bool false)))) (R (SV.v (Value.bool false)))) (R (SV.v (Value.bool false)))) (R (SV.v (Value.bool false)))) (R (SV.v (Value.bool false)))) (R (SV.v (Value.bool false))))) (R (SV.v (Value.bool false)))) (R (SV.v (Value.bool false)))) (R (SV.v (Value.bool false)))) (R (SV.v (Value.bool false)))) := by kernel_rfl
theorem vcSameCN (k1 k2 : Int) (a b : CV) (m m' d : Nat) (h : Nat → Int × Int) (R : SV → Prop) : (vcFn Try.prog ΓU0 noΛ Try.f25 [caS k1 a nilS, caS k2 b (.sl 0 2 0 m d)] (roHeap [⟨2, m', rowsP h⟩]) 64 (fun y _ => R y)) =

(sel (k1 == k2) 
(sel (CV.id a == CV.id b) 
(sel (CV.bs a == CV.bs b && CV.bg a == CV.bg b) 
(sel (CV.ver a == CV.ver b) ((rowsPre m m fun y => [SV.v (Value.int IntKind.i64 (Prod.fst (h (0 + y)))), SV.v (Value.int IntKind.i64 (Prod.snd (h (0 + y))))]) ∧ 
(sel (eqSh { k := CV.sk a, r := CV.sr a, w := CV.sw a, h := CV.sh a } { k := CV.sk b, r := CV.sr b, w := CV.sw b, h := CV.sh b } && Nat.beq m 0) 
(sel (CV.p0v a == CV.p0v b && CV.p0f a == CV.p0f b && (CV.p1v a == CV.p1v b && CV.p1f a == CV.p1f b) && (CV.p2v a == CV.p2v b && CV.p2f a == CV.p2f b && (CV.p3v a == CV.p3v b && CV.p3f a == CV.p3f b))) 
(sel (CV.v0v a == CV.v0v b && CV.v0f a == CV.v0f b && (CV.v1v a == CV.v1v b && CV.v1f a == CV.v1f b)) 
(sel (CV.w0v a == CV.w0v b && CV.w0f a == CV.w0f b) 
(sel (CV.dn a == CV.dn b) 
(sel (CV.mv a == CV.mv b) 
(sel (CV.a0v a == CV.a0v b && CV.a0f a == CV.a0f b && (CV.a1v a == CV.a1v b && CV.a1f a == CV.a1f b)) 
(sel (CV.t0v a == CV.t0v b && CV.t0f a == CV.t0f b && (CV.t1v a == CV.t1v b && CV.t1f a == CV.t1f b)) 
(sel (CV.gr a == CV.gr b) 
(sel (CV.b0 a == CV.b0 b && (CV.b1 a == CV.b1 b && (CV.b2 a == CV.b2 b && CV.b3 a == CV.b3 b))) 
(sel (CV.f0 a == CV.f0 b && CV.f1 a == CV.f1 b) (R (SV.v (Value.bool (CV.u0 a == CV.u0 b && CV.u1 a == CV.u1 b)))) (R (SV.v (Value.bool false)))) (R (SV.v (Value.bool false)))) (R (SV.v (Value.bool false)))) (R (SV.v (Value.bool false)))) (R (SV.v (Value.bool false)))) (R (SV.v (Value.bool false)))) (R (SV.v (Value.bool false)))) (R (SV.v (Value.bool false)))) (R (SV.v (Value.bool false)))) (R (SV.v (Value.bool false)))) (R (SV.v (Value.bool false))))) (R (SV.v (Value.bool false)))) (R (SV.v (Value.bool false)))) (R (SV.v (Value.bool false)))) (R (SV.v (Value.bool false)))) := by kernel_rfl
end Go.Proofs.Ytjdldadmaaeimaa
end

section
set_option maxRecDepth 100000
set_option linter.unusedSimpArgs false
set_option linter.unusedVariables false
namespace Go.Proofs.Ytjdldadmaaeimaa
open Go.SE Go.RowKit

def sameCB (k1 k2 : Int) (a b : CV) (s : Bool) : Bool := (k1 == k2) && ((a.id == b.id) && ((a.bs == b.bs && a.bg == b.bg) && ((a.ver == b.ver) && ((s) && ((a.p0v == b.p0v && a.p0f == b.p0f && (a.p1v == b.p1v && a.p1f == b.p1f) && (a.p2v == b.p2v && a.p2f == b.p2f && (a.p3v == b.p3v && a.p3f == b.p3f))) && ((a.v0v == b.v0v && a.v0f == b.v0f && (a.v1v == b.v1v && a.v1f == b.v1f)) && ((a.w0v == b.w0v && a.w0f == b.w0f) && ((a.dn == b.dn) && ((a.mv == b.mv) && ((a.a0v == b.a0v && a.a0f == b.a0f && (a.a1v == b.a1v && a.a1f == b.a1f)) && ((a.t0v == b.t0v && a.t0f == b.t0f && (a.t1v == b.t1v && a.t1f == b.t1f)) && ((a.gr == b.gr) && ((a.b0 == b.b0 && (a.b1 == b.b1 && (a.b2 == b.b2 && a.b3 == b.b3))) && ((a.f0 == b.f0 && a.f1 == b.f1) && (a.u0 == b.u0 && a.u1 == b.u1)))))))))))))))
def tkI {α : Type} (l : List SV) (K : Int → List SV → Option α) : Option α := match l with
  | .v (.int .i64 n) :: rest => K n rest
  | _ => none
def tkB {α : Type} (l : List SV) (K : Bool → List SV → Option α) : Option α := match l with
  | .v (.bool n) :: rest => K n rest
  | _ => none
def tkA {α : Type} (l : List SV) (K : SV → List SV → Option α) : Option α := match l with
  | x :: rest => K x rest
  | _ => none
def tkE {α : Type} (l : List SV) (r : α) : Option α := match l with
  | [] => some r
  | _ => none
def cellsOf (l : List SV) : Option (Int × CV × SV) := tkI l fun x_k l => tkI l fun x_id l => tkI l fun x_bs l => tkI l fun x_bg l => tkI l fun x_ver l => tkI l fun x_sk l => tkI l fun x_sr l => tkI l fun x_sw l => tkI l fun x_sh l => tkA l fun x_P l => tkI l fun x_p0v l => tkB l fun x_p0f l => tkI l fun x_p1v l => tkB l fun x_p1f l => tkI l fun x_p2v l => tkB l fun x_p2f l => tkI l fun x_p3v l => tkB l fun x_p3f l => tkI l fun x_v0v l => tkB l fun x_v0f l => tkI l fun x_v1v l => tkB l fun x_v1f l => tkI l fun x_w0v l => tkB l fun x_w0f l => tkI l fun x_dn l => tkB l fun x_mv l => tkI l fun x_a0v l => tkB l fun x_a0f l => tkI l fun x_a1v l => tkB l fun x_a1f l => tkI l fun x_t0v l => tkB l fun x_t0f l => tkI l fun x_t1v l => tkB l fun x_t1f l => tkI l fun x_gr l => tkI l fun x_b0 l => tkI l fun x_b1 l => tkI l fun x_b2 l => tkI l fun x_b3 l => tkI l fun x_f0 l => tkI l fun x_f1 l => tkI l fun x_u0 l => tkI l fun x_u1 l => tkE l (x_k, ⟨x_id, x_bs, x_bg, x_ver, x_sk, x_sr, x_sw, x_sh, x_p0v, x_p0f, x_p1v, x_p1f, x_p2v, x_p2f, x_p3v, x_p3f, x_v0v, x_v0f, x_v1v, x_v1f, x_w0v, x_w0f, x_dn, x_mv, x_a0v, x_a0f, x_a1v, x_a1f, x_t0v, x_t0f, x_t1v, x_t1f, x_gr, x_b0, x_b1, x_b2, x_b3, x_f0, x_f1, x_u0, x_u1⟩, x_P)
def sSameC : List SV → List Ro → Option (Option Prop × SV)
  | [.agg x, .agg y], rs => match cellsOf x, cellsOf y, rs with
    | some (k1, a, .sl 0 2 0 n _), some (k2, b, .sl 1 2 0 m _), [⟨2, n', row⟩, ⟨2, m', row'⟩] => some (some (rowsPre n n' row ∧ rowsPre m m' row'), .v (.bool (sameCB k1 k2 a b (sameS (shOf a) n (fun i => gi (row i)) (shOf b) m fun i => gi (row' i)))))
    | some (k1, a, .v (.slice none 0 0)), some (k2, b, .sl 0 2 0 m _), [⟨2, m', row⟩] => some (some (rowsPre m m' row), .v (.bool (sameCB k1 k2 a b (eqSh (shOf a) (shOf b) && Nat.beq m 0))))
    | _, _, _ => none
  | _, _ => none
theorem tkI_eq {α : Type} {l : List SV} {K : Int → List SV → Option α} {r : α} (h : tkI l K = some r) : ∃ n rest, l = .v (.int .i64 n) :: rest ∧ K n rest = some r := by
  unfold tkI at h
  split at h
  · exact ⟨_, _, rfl, h⟩
  · cases h
theorem tkB_eq {α : Type} {l : List SV} {K : Bool → List SV → Option α} {r : α} (h : tkB l K = some r) : ∃ n rest, l = .v (.bool n) :: rest ∧ K n rest = some r := by
  unfold tkB at h
  split at h
  · exact ⟨_, _, rfl, h⟩
  · cases h
theorem tkA_eq {α : Type} {l : List SV} {K : SV → List SV → Option α} {r : α} (h : tkA l K = some r) : ∃ x rest, l = x :: rest ∧ K x rest = some r := by
  unfold tkA at h
  split at h
  · exact ⟨_, _, rfl, h⟩
  · cases h
theorem tkE_eq {α : Type} {l : List SV} {x r : α} (h : tkE l x = some r) : l = [] ∧ x = r := by
  unfold tkE at h
  split at h
  · exact ⟨rfl, Option.some.inj h⟩
  · cases h
theorem cells_eq {l : List SV} {k : Int} {c : CV} {p : SV} (h : cellsOf l = some (k, c, p)) : SV.agg l = caS k c p := by
  unfold cellsOf at h
  obtain ⟨x_k, l_k, e_k, h_k⟩ := tkI_eq h
  subst e_k
  clear h
  obtain ⟨x_id, l_id, e_id, h_id⟩ := tkI_eq h_k
  subst e_id
  clear h_k
  obtain ⟨x_bs, l_bs, e_bs, h_bs⟩ := tkI_eq h_id
  subst e_bs
  clear h_id
  obtain ⟨x_bg, l_bg, e_bg, h_bg⟩ := tkI_eq h_bs
  subst e_bg
  clear h_bs
  obtain ⟨x_ver, l_ver, e_ver, h_ver⟩ := tkI_eq h_bg
  subst e_ver
  clear h_bg
  obtain ⟨x_sk, l_sk, e_sk, h_sk⟩ := tkI_eq h_ver
  subst e_sk
  clear h_ver
  obtain ⟨x_sr, l_sr, e_sr, h_sr⟩ := tkI_eq h_sk
  subst e_sr
  clear h_sk
  obtain ⟨x_sw, l_sw, e_sw, h_sw⟩ := tkI_eq h_sr
  subst e_sw
  clear h_sr
  obtain ⟨x_sh, l_sh, e_sh, h_sh⟩ := tkI_eq h_sw
  subst e_sh
  clear h_sw
  obtain ⟨x_P, l_P, e_P, h_P⟩ := tkA_eq h_sh
  subst e_P
  clear h_sh
  obtain ⟨x_p0v, l_p0v, e_p0v, h_p0v⟩ := tkI_eq h_P
  subst e_p0v
  clear h_P
  obtain ⟨x_p0f, l_p0f, e_p0f, h_p0f⟩ := tkB_eq h_p0v
  subst e_p0f
  clear h_p0v
  obtain ⟨x_p1v, l_p1v, e_p1v, h_p1v⟩ := tkI_eq h_p0f
  subst e_p1v
  clear h_p0f
  obtain ⟨x_p1f, l_p1f, e_p1f, h_p1f⟩ := tkB_eq h_p1v
  subst e_p1f
  clear h_p1v
  obtain ⟨x_p2v, l_p2v, e_p2v, h_p2v⟩ := tkI_eq h_p1f
  subst e_p2v
  clear h_p1f
  obtain ⟨x_p2f, l_p2f, e_p2f, h_p2f⟩ := tkB_eq h_p2v
  subst e_p2f
  clear h_p2v
  obtain ⟨x_p3v, l_p3v, e_p3v, h_p3v⟩ := tkI_eq h_p2f
  subst e_p3v
  clear h_p2f
  obtain ⟨x_p3f, l_p3f, e_p3f, h_p3f⟩ := tkB_eq h_p3v
  subst e_p3f
  clear h_p3v
  obtain ⟨x_v0v, l_v0v, e_v0v, h_v0v⟩ := tkI_eq h_p3f
  subst e_v0v
  clear h_p3f
  obtain ⟨x_v0f, l_v0f, e_v0f, h_v0f⟩ := tkB_eq h_v0v
  subst e_v0f
  clear h_v0v
  obtain ⟨x_v1v, l_v1v, e_v1v, h_v1v⟩ := tkI_eq h_v0f
  subst e_v1v
  clear h_v0f
  obtain ⟨x_v1f, l_v1f, e_v1f, h_v1f⟩ := tkB_eq h_v1v
  subst e_v1f
  clear h_v1v
  obtain ⟨x_w0v, l_w0v, e_w0v, h_w0v⟩ := tkI_eq h_v1f
  subst e_w0v
  clear h_v1f
  obtain ⟨x_w0f, l_w0f, e_w0f, h_w0f⟩ := tkB_eq h_w0v
  subst e_w0f
  clear h_w0v
  obtain ⟨x_dn, l_dn, e_dn, h_dn⟩ := tkI_eq h_w0f
  subst e_dn
  clear h_w0f
  obtain ⟨x_mv, l_mv, e_mv, h_mv⟩ := tkB_eq h_dn
  subst e_mv
  clear h_dn
  obtain ⟨x_a0v, l_a0v, e_a0v, h_a0v⟩ := tkI_eq h_mv
  subst e_a0v
  clear h_mv
  obtain ⟨x_a0f, l_a0f, e_a0f, h_a0f⟩ := tkB_eq h_a0v
  subst e_a0f
  clear h_a0v
  obtain ⟨x_a1v, l_a1v, e_a1v, h_a1v⟩ := tkI_eq h_a0f
  subst e_a1v
  clear h_a0f
  obtain ⟨x_a1f, l_a1f, e_a1f, h_a1f⟩ := tkB_eq h_a1v
  subst e_a1f
  clear h_a1v
  obtain ⟨x_t0v, l_t0v, e_t0v, h_t0v⟩ := tkI_eq h_a1f
  subst e_t0v
  clear h_a1f
  obtain ⟨x_t0f, l_t0f, e_t0f, h_t0f⟩ := tkB_eq h_t0v
  subst e_t0f
  clear h_t0v
  obtain ⟨x_t1v, l_t1v, e_t1v, h_t1v⟩ := tkI_eq h_t0f
  subst e_t1v
  clear h_t0f
  obtain ⟨x_t1f, l_t1f, e_t1f, h_t1f⟩ := tkB_eq h_t1v
  subst e_t1f
  clear h_t1v
  obtain ⟨x_gr, l_gr, e_gr, h_gr⟩ := tkI_eq h_t1f
  subst e_gr
  clear h_t1f
  obtain ⟨x_b0, l_b0, e_b0, h_b0⟩ := tkI_eq h_gr
  subst e_b0
  clear h_gr
  obtain ⟨x_b1, l_b1, e_b1, h_b1⟩ := tkI_eq h_b0
  subst e_b1
  clear h_b0
  obtain ⟨x_b2, l_b2, e_b2, h_b2⟩ := tkI_eq h_b1
  subst e_b2
  clear h_b1
  obtain ⟨x_b3, l_b3, e_b3, h_b3⟩ := tkI_eq h_b2
  subst e_b3
  clear h_b2
  obtain ⟨x_f0, l_f0, e_f0, h_f0⟩ := tkI_eq h_b3
  subst e_f0
  clear h_b3
  obtain ⟨x_f1, l_f1, e_f1, h_f1⟩ := tkI_eq h_f0
  subst e_f1
  clear h_f0
  obtain ⟨x_u0, l_u0, e_u0, h_u0⟩ := tkI_eq h_f1
  subst e_u0
  clear h_f1
  obtain ⟨x_u1, l_u1, e_u1, h_u1⟩ := tkI_eq h_u0
  subst e_u1
  clear h_u0
  obtain ⟨e0, h0⟩ := tkE_eq h_u1
  subst e0
  obtain ⟨h1, h2⟩ := Prod.mk.inj h0
  obtain ⟨h3, h4⟩ := Prod.mk.inj h2
  subst h1 h3 h4
  rfl
theorem ΓU0_ok : ∀ f g, ΓU0 f = some g → g.ok Try.prog f := addCtr_ok noCtrs_ok (ro_ok Try.func72 (by kernel_rfl) (by kernel_rfl) (ro_or SameS_spec SameN_spec))
theorem pre_rows {n : Nat} {g : Nat → Int × Int} (hn : n < 1099511627776) (hg : ∀ i, i < n → I64 (g i).1 ∧ I64 (g i).2) : rowsPre n n fun y => [SV.v (.int .i64 (g (0 + y)).1), SV.v (.int .i64 (g (0 + y)).2)] := ⟨okAll_rows.2 fun i hi => by rw [Nat.zero_add]; exact hg i hi, rfl, hn⟩
theorem same_ww (k1 k2 : Int) (a b : CV) (n c m d : Nat) (g h : Nat → Int × Int) (hn : n < 1099511627776) (hg : ∀ i, i < n → I64 (g i).1 ∧ I64 (g i).2) (hm : m < 1099511627776) (hh : ∀ i, i < m → I64 (h i).1 ∧ I64 (h i).2) : vcFn Try.prog ΓU0 noΛ Try.f25 [caS k1 a (.sl 0 2 0 n c), caS k2 b (.sl 1 2 0 m d)] (roHeap [⟨2, n, rowsP g⟩, ⟨2, m, rowsP h⟩]) 64 (fun y _ => y = .v (.bool (sameCB k1 k2 a b (sameS (shOf a) n g (shOf b) m h)))) := by
  refine Eq.mpr (vcSameC k1 k2 a b n n c m m d g h _) ?_
  rw [gi_rows, gi_rows]
  unfold sameCB shOf
  refine sel_of (fun e => ?_) fun e => by rw [e]; rfl
  rw [e, Bool.true_and]
  refine sel_of (fun e => ?_) fun e => by rw [e]; rfl
  rw [e, Bool.true_and]
  refine sel_of (fun e => ?_) fun e => by rw [e]; rfl
  rw [e, Bool.true_and]
  refine sel_of (fun e => ?_) fun e => by rw [e]; rfl
  rw [e, Bool.true_and]
  refine ⟨⟨pre_rows hn hg, pre_rows hm hh⟩, ?_⟩
  refine sel_of (fun e => ?_) fun e => by rw [e]; rfl
  rw [e, Bool.true_and]
  refine sel_of (fun e => ?_) fun e => by rw [e]; rfl
  rw [e, Bool.true_and]
  refine sel_of (fun e => ?_) fun e => by rw [e]; rfl
  rw [e, Bool.true_and]
  refine sel_of (fun e => ?_) fun e => by rw [e]; rfl
  rw [e, Bool.true_and]
  refine sel_of (fun e => ?_) fun e => by rw [e]; rfl
  rw [e, Bool.true_and]
  refine sel_of (fun e => ?_) fun e => by rw [e]; rfl
  rw [e, Bool.true_and]
  refine sel_of (fun e => ?_) fun e => by rw [e]; rfl
  rw [e, Bool.true_and]
  refine sel_of (fun e => ?_) fun e => by rw [e]; rfl
  rw [e, Bool.true_and]
  refine sel_of (fun e => ?_) fun e => by rw [e]; rfl
  rw [e, Bool.true_and]
  refine sel_of (fun e => ?_) fun e => by rw [e]; rfl
  rw [e, Bool.true_and]
  refine sel_of (fun e => ?_) fun e => by rw [e]; rfl
  rw [e, Bool.true_and]
theorem same_nw (k1 k2 : Int) (a b : CV) (m d : Nat) (h : Nat → Int × Int) (hm : m < 1099511627776) (hh : ∀ i, i < m → I64 (h i).1 ∧ I64 (h i).2) : vcFn Try.prog ΓU0 noΛ Try.f25 [caS k1 a nilS, caS k2 b (.sl 0 2 0 m d)] (roHeap [⟨2, m, rowsP h⟩]) 64 (fun y _ => y = .v (.bool (sameCB k1 k2 a b (eqSh (shOf a) (shOf b) && Nat.beq m 0)))) := by
  refine Eq.mpr (vcSameCN k1 k2 a b m m d h _) ?_
  unfold sameCB shOf
  refine sel_of (fun e => ?_) fun e => by rw [e]; rfl
  rw [e, Bool.true_and]
  refine sel_of (fun e => ?_) fun e => by rw [e]; rfl
  rw [e, Bool.true_and]
  refine sel_of (fun e => ?_) fun e => by rw [e]; rfl
  rw [e, Bool.true_and]
  refine sel_of (fun e => ?_) fun e => by rw [e]; rfl
  rw [e, Bool.true_and]
  refine ⟨pre_rows hm hh, ?_⟩
  refine sel_of (fun e => ?_) fun e => by rw [e]; rfl
  rw [e, Bool.true_and]
  refine sel_of (fun e => ?_) fun e => by rw [e]; rfl
  rw [e, Bool.true_and]
  refine sel_of (fun e => ?_) fun e => by rw [e]; rfl
  rw [e, Bool.true_and]
  refine sel_of (fun e => ?_) fun e => by rw [e]; rfl
  rw [e, Bool.true_and]
  refine sel_of (fun e => ?_) fun e => by rw [e]; rfl
  rw [e, Bool.true_and]
  refine sel_of (fun e => ?_) fun e => by rw [e]; rfl
  rw [e, Bool.true_and]
  refine sel_of (fun e => ?_) fun e => by rw [e]; rfl
  rw [e, Bool.true_and]
  refine sel_of (fun e => ?_) fun e => by rw [e]; rfl
  rw [e, Bool.true_and]
  refine sel_of (fun e => ?_) fun e => by rw [e]; rfl
  rw [e, Bool.true_and]
  refine sel_of (fun e => ?_) fun e => by rw [e]; rfl
  rw [e, Bool.true_and]
  refine sel_of (fun e => ?_) fun e => by rw [e]; rfl
  rw [e, Bool.true_and]
theorem SameC_spec : RoSpec Try.prog 25 sSameC := ro_spec hm ΓU0_ok Try.func25 (Λ := fun _ _ => noΛ) fun args bs p x hs hp => by
  unfold sSameC at hs
  split at hs
  · rename_i x y
    split at hs
    · rename_i k1 a n c k2 b m d n' row m' row' hx hy
      cases hs
      obtain ⟨⟨h0, rfl, hn⟩, k0, rfl, hm'⟩ := hp _ rfl
      have h0 := okAll_rows.1 h0
      have k0 := okAll_rows.1 k0
      refine ⟨rfl, [⟨2, n', rowsP fun i => gi (row i)⟩, ⟨2, m', rowsP fun i => gi (row' i)⟩], ⟨⟨rfl, rfl, fun i hi => (isPI_row (h0 i hi)).1⟩, ⟨rfl, rfl, fun i hi => (isPI_row (k0 i hi)).1⟩, trivial⟩, ?_⟩
      rw [cells_eq hx, cells_eq hy]
      exact same_ww k1 k2 a b n' c m' d _ _ hn (fun i hi => (isPI_row (h0 i hi)).2) hm' fun i hi => (isPI_row (k0 i hi)).2
    · rename_i k1 a k2 b m d m' row hx hy
      cases hs
      obtain ⟨h0, rfl, hn⟩ := hp _ rfl
      have h0 := okAll_rows.1 h0
      refine ⟨rfl, [⟨2, m', rowsP fun i => gi (row i)⟩], ⟨⟨rfl, rfl, fun i hi => (isPI_row (h0 i hi)).1⟩, trivial⟩, ?_⟩
      rw [cells_eq hx, cells_eq hy]
      exact same_nw k1 k2 a b m' d _ hn fun i hi => (isPI_row (h0 i hi)).2
    · cases hs
  · cases hs
end Go.Proofs.Ytjdldadmaaeimaa
end

section
set_option maxRecDepth 100000
set_option linter.unusedSimpArgs false
set_option linter.unusedVariables false
namespace Go.Proofs.Ytjdldadmaaeimaa
open Go.SE Go.RowKit

theorem vcDone0 (q : Option Prop) (n : Nat) (g : Nat → Int) (c : Nat) : (vcFn Try.prog noCtrs noΛ Try.f71 [.vp 0 0] (heapOf (uB (some false) n g c)) 64 (fun y h' => FinE (uB (some false) n g c) (.det q (.tup [strS (strOf n fun i => [.v (.int .u8 (g i))]), iV 0]) [(0, wB (some false) false (.sl 1 1 0 n c)), (1, bG n g c)]) y h')) =
((∀ y : Nat, (((y : Nat) < n) → True)) ∧ ((((SV.v (Value.string (strOf n fun y => [SV.v (Value.int IntKind.u8 (g (0 + y)))]))) = (SV.v (Value.string (strOf n fun i => [SV.v (Value.int IntKind.u8 (g i))])))) ∧ ((SV.v (Value.int IntKind.i64 0)) = (SV.v (Value.int IntKind.i64 0)))) ∧ ((((1 : Nat) = 1) ∧ (((1 : Nat) ≤ 1) ∧ (((SV.sl 1 1 0 n c) = (SV.sl 1 1 0 n c)) ∧ ((SV.v (Value.bool false)) = (SV.v (Value.bool false)))))) ∧ (((n : Nat) = n) ∧ (((c : Nat) ≤ c) ∧ (∀ i : Nat, (((i : Nat) < n) → ([(SV.v (Value.int IntKind.u8 (g i)))] = [(SV.v (Value.int IntKind.u8 (g i)))])))))))) := by kernel_rfl
theorem vcDone1 (q : Option Prop) (n : Nat) (g : Nat → Int) (c : Nat) : (vcFn Try.prog noCtrs noΛ Try.f71 [.vp 0 0] (heapOf (uB (some true) n g c)) 64 (fun y h' => FinE (uB (some true) n g c) (.det q (.tup [strS emp, iV 3]) [(0, wB (some true) false (.sl 1 1 0 n c)), (1, bG n g c)]) y h')) =
((((SV.v (Value.string ({ data := #[] }))) = (SV.v (Value.string emp))) ∧ ((SV.v (Value.int IntKind.i64 3)) = (SV.v (Value.int IntKind.i64 3)))) ∧ ((((1 : Nat) = 1) ∧ (((1 : Nat) ≤ 1) ∧ (((SV.sl 1 1 0 n c) = (SV.sl 1 1 0 n c)) ∧ ((SV.v (Value.bool true)) = (SV.v (Value.bool true)))))) ∧ (((n : Nat) = n) ∧ (((c : Nat) ≤ c) ∧ (∀ i : Nat, (((i : Nat) < n) → ([(SV.v (Value.int IntKind.u8 (g i)))] = [(SV.v (Value.int IntKind.u8 (g i)))]))))))) := by kernel_rfl
def relLs : List Int := [6] ++ (c4 1 ++ c4 2)
theorem vcCallR (b : Bool) : (vcFn Try.prog ΓG0 noΛ Try.f70 [.vp 0 0, relC] (heapOf (fB (some b))) 64 (fun y h' => FinE (fB (some b)) (apE (.fresh (some b)) 0 True 9 relLs false) y h')) =
((I64 6) ∧ (∀ c : Nat, ((((bytesOk 1 (1 + c) { elem := 5, size := 1, rw := true, lock := false, lit := false, flat := true, n := 1, row := fun i => [SV.v (Value.int IntKind.u8 ((fun i => List.getD [6] i 0) i))], ext := 1 + c }) ∧ ((1 : Nat) ≤ M0)) ∧ (I64 1)) ∧ (∀ c_1 : Nat, ((((bytesOk 5 (5 + c_1) { elem := 5, size := 1, rw := true, lock := false, lit := false, flat := true, n := 5, row := fun i => [SV.v (Value.int IntKind.u8 (apG 1 (fun i => SE.byteOf [SV.v (Value.int IntKind.u8 ((fun i => List.getD [6] i 0) i))]) (be 1 4) i))], ext := 5 + c_1 }) ∧ ((5 : Nat) ≤ M0)) ∧ (I64 2)) ∧ (∀ c_2 : Nat, (∃ c_3 : Nat, (True ∧ ((((1 : Nat) = 1) ∧ (((1 : Nat) ≤ 1) ∧ (((SV.sl 288 1 0 9 (9 + c_2)) = (SV.sl 288 1 0 9 (9 + c_3))) ∧ ((SV.v (Value.bool (b || false || false || false))) = (SV.v (Value.bool (b || false))))))) ∧ (((9 : Nat) = 9) ∧ ((((9 + c_3) : Nat) ≤ (9 + c_2)) ∧ (∀ i : Nat, (((i : Nat) < 9) → ([(SV.v (Value.int IntKind.u8 (apG 5 (fun i => SE.byteOf [SV.v (Value.int IntKind.u8 (apG 1 (fun i => SE.byteOf [SV.v (Value.int IntKind.u8 ((fun i => List.getD [6] i 0) i))]) (be 1 4) i))]) (be 2 4) i)))] = [(SV.v (Value.int IntKind.u8 (List.getD relLs i 0)))])))))))))))))) := by kernel_rfl
def doneE : WrS → Option Eff
  | .used (some true) n g c p => some (.det (some p) (.tup [strS emp, iV 3]) [(0, wB (some true) false (.sl 1 1 0 n c)), (1, bG n g c)])
  | .used (some false) n g c p => some (.det (some p) (.tup [strS (strOf n fun i => [.v (.int .u8 (g i))]), iV 0]) [(0, wB (some false) false (.sl 1 1 0 n c)), (1, bG n g c)])
  | _ => none
def sDoneX (args : List SV) (bs : List Blk) : Option Eff := match args with
  | [.vp 0 0] => match wrOf bs with
    | some w => doneE w
    | none => none
  | _ => none
def ΓI0 : Ctrs := addCtr (addCtr (addCtr (addCtr noCtrs 69 (pureCtr (sAt [relC] (.tup [relC, bV true])))) 25 (pureCtr (sAt [relC, relC] (bV true)))) 70 (hpCtr true sCallR)) 71 (hpCtr true sDoneX)
theorem vcCall (R : SV → Prop) : (vcPure Try.prog ΓI0 noΛ Try.f24 [relC] R) =
(([(SV.agg [(SV.v (Value.int IntKind.i64 6)), (SV.v (Value.int IntKind.i64 1)), (SV.v (Value.int IntKind.i64 0)), (SV.v (Value.int IntKind.i64 0)), (SV.v (Value.int IntKind.i64 0)), (SV.v (Value.int IntKind.i64 0)), (SV.v (Value.int IntKind.i64 0)), (SV.v (Value.int IntKind.i64 0)), (SV.v (Value.int IntKind.i64 0)), (SV.v (Value.slice none 0 0)), (SV.v (Value.int IntKind.i64 0)), (SV.v (Value.bool false)), (SV.v (Value.int IntKind.i64 0)), (SV.v (Value.bool false)), (SV.v (Value.int IntKind.i64 0)), (SV.v (Value.bool false)), (SV.v (Value.int IntKind.i64 0)), (SV.v (Value.bool false)), (SV.v (Value.int IntKind.i64 0)), (SV.v (Value.bool false)), (SV.v (Value.int IntKind.i64 0)), (SV.v (Value.bool false)), (SV.v (Value.int IntKind.i64 0)), (SV.v (Value.bool false)), (SV.v (Value.int IntKind.i64 0)), (SV.v (Value.bool false)), (SV.v (Value.int IntKind.i64 0)), (SV.v (Value.bool false)), (SV.v (Value.int IntKind.i64 0)), (SV.v (Value.bool false)), (SV.v (Value.int IntKind.i64 0)), (SV.v (Value.bool false)), (SV.v (Value.int IntKind.i64 0)), (SV.v (Value.bool false)), (SV.v (Value.int IntKind.i64 2)), (SV.v (Value.int IntKind.i64 0)), (SV.v (Value.int IntKind.i64 0)), (SV.v (Value.int IntKind.i64 0)), (SV.v (Value.int IntKind.i64 0)), (SV.v (Value.int IntKind.i64 0)), (SV.v (Value.int IntKind.i64 0)), (SV.v (Value.int IntKind.i64 0)), (SV.v (Value.int IntKind.i64 0))])] = [(SV.agg [(SV.v (Value.int IntKind.i64 6)), (SV.v (Value.int IntKind.i64 1)), (SV.v (Value.int IntKind.i64 0)), (SV.v (Value.int IntKind.i64 0)), (SV.v (Value.int IntKind.i64 0)), (SV.v (Value.int IntKind.i64 0)), (SV.v (Value.int IntKind.i64 0)), (SV.v (Value.int IntKind.i64 0)), (SV.v (Value.int IntKind.i64 0)), (SV.v (Value.slice none 0 0)), (SV.v (Value.int IntKind.i64 0)), (SV.v (Value.bool false)), (SV.v (Value.int IntKind.i64 0)), (SV.v (Value.bool false)), (SV.v (Value.int IntKind.i64 0)), (SV.v (Value.bool false)), (SV.v (Value.int IntKind.i64 0)), (SV.v (Value.bool false)), (SV.v (Value.int IntKind.i64 0)), (SV.v (Value.bool false)), (SV.v (Value.int IntKind.i64 0)), (SV.v (Value.bool false)), (SV.v (Value.int IntKind.i64 0)), (SV.v (Value.bool false)), (SV.v (Value.int IntKind.i64 0)), (SV.v (Value.bool false)), (SV.v (Value.int IntKind.i64 0)), (SV.v (Value.bool false)), (SV.v (Value.int IntKind.i64 0)), (SV.v (Value.bool false)), (SV.v (Value.int IntKind.i64 0)), (SV.v (Value.bool false)), (SV.v (Value.int IntKind.i64 0)), (SV.v (Value.bool false)), (SV.v (Value.int IntKind.i64 2)), (SV.v (Value.int IntKind.i64 0)), (SV.v (Value.int IntKind.i64 0)), (SV.v (Value.int IntKind.i64 0)), (SV.v (Value.int IntKind.i64 0)), (SV.v (Value.int IntKind.i64 0)), (SV.v (Value.int IntKind.i64 0)), (SV.v (Value.int IntKind.i64 0)), (SV.v (Value.int IntKind.i64 0))])]) ∧ (([(SV.agg [(SV.v (Value.int IntKind.i64 6)), (SV.v (Value.int IntKind.i64 1)), (SV.v (Value.int IntKind.i64 0)), (SV.v (Value.int IntKind.i64 0)), (SV.v (Value.int IntKind.i64 0)), (SV.v (Value.int IntKind.i64 0)), (SV.v (Value.int IntKind.i64 0)), (SV.v (Value.int IntKind.i64 0)), (SV.v (Value.int IntKind.i64 0)), (SV.v (Value.slice none 0 0)), (SV.v (Value.int IntKind.i64 0)), (SV.v (Value.bool false)), (SV.v (Value.int IntKind.i64 0)), (SV.v (Value.bool false)), (SV.v (Value.int IntKind.i64 0)), (SV.v (Value.bool false)), (SV.v (Value.int IntKind.i64 0)), (SV.v (Value.bool false)), (SV.v (Value.int IntKind.i64 0)), (SV.v (Value.bool false)), (SV.v (Value.int IntKind.i64 0)), (SV.v (Value.bool false)), (SV.v (Value.int IntKind.i64 0)), (SV.v (Value.bool false)), (SV.v (Value.int IntKind.i64 0)), (SV.v (Value.bool false)), (SV.v (Value.int IntKind.i64 0)), (SV.v (Value.bool false)), (SV.v (Value.int IntKind.i64 0)), (SV.v (Value.bool false)), (SV.v (Value.int IntKind.i64 0)), (SV.v (Value.bool false)), (SV.v (Value.int IntKind.i64 0)), (SV.v (Value.bool false)), (SV.v (Value.int IntKind.i64 2)), (SV.v (Value.int IntKind.i64 0)), (SV.v (Value.int IntKind.i64 0)), (SV.v (Value.int IntKind.i64 0)), (SV.v (Value.int IntKind.i64 0)), (SV.v (Value.int IntKind.i64 0)), (SV.v (Value.int IntKind.i64 0)), (SV.v (Value.int IntKind.i64 0)), (SV.v (Value.int IntKind.i64 0))]), (SV.agg [(SV.v (Value.int IntKind.i64 6)), (SV.v (Value.int IntKind.i64 1)), (SV.v (Value.int IntKind.i64 0)), (SV.v (Value.int IntKind.i64 0)), (SV.v (Value.int IntKind.i64 0)), (SV.v (Value.int IntKind.i64 0)), (SV.v (Value.int IntKind.i64 0)), (SV.v (Value.int IntKind.i64 0)), (SV.v (Value.int IntKind.i64 0)), (SV.v (Value.slice none 0 0)), (SV.v (Value.int IntKind.i64 0)), (SV.v (Value.bool false)), (SV.v (Value.int IntKind.i64 0)), (SV.v (Value.bool false)), (SV.v (Value.int IntKind.i64 0)), (SV.v (Value.bool false)), (SV.v (Value.int IntKind.i64 0)), (SV.v (Value.bool false)), (SV.v (Value.int IntKind.i64 0)), (SV.v (Value.bool false)), (SV.v (Value.int IntKind.i64 0)), (SV.v (Value.bool false)), (SV.v (Value.int IntKind.i64 0)), (SV.v (Value.bool false)), (SV.v (Value.int IntKind.i64 0)), (SV.v (Value.bool false)), (SV.v (Value.int IntKind.i64 0)), (SV.v (Value.bool false)), (SV.v (Value.int IntKind.i64 0)), (SV.v (Value.bool false)), (SV.v (Value.int IntKind.i64 0)), (SV.v (Value.bool false)), (SV.v (Value.int IntKind.i64 0)), (SV.v (Value.bool false)), (SV.v (Value.int IntKind.i64 2)), (SV.v (Value.int IntKind.i64 0)), (SV.v (Value.int IntKind.i64 0)), (SV.v (Value.int IntKind.i64 0)), (SV.v (Value.int IntKind.i64 0)), (SV.v (Value.int IntKind.i64 0)), (SV.v (Value.int IntKind.i64 0)), (SV.v (Value.int IntKind.i64 0)), (SV.v (Value.int IntKind.i64 0))])] = [(SV.agg [(SV.v (Value.int IntKind.i64 6)), (SV.v (Value.int IntKind.i64 1)), (SV.v (Value.int IntKind.i64 0)), (SV.v (Value.int IntKind.i64 0)), (SV.v (Value.int IntKind.i64 0)), (SV.v (Value.int IntKind.i64 0)), (SV.v (Value.int IntKind.i64 0)), (SV.v (Value.int IntKind.i64 0)), (SV.v (Value.int IntKind.i64 0)), (SV.v (Value.slice none 0 0)), (SV.v (Value.int IntKind.i64 0)), (SV.v (Value.bool false)), (SV.v (Value.int IntKind.i64 0)), (SV.v (Value.bool false)), (SV.v (Value.int IntKind.i64 0)), (SV.v (Value.bool false)), (SV.v (Value.int IntKind.i64 0)), (SV.v (Value.bool false)), (SV.v (Value.int IntKind.i64 0)), (SV.v (Value.bool false)), (SV.v (Value.int IntKind.i64 0)), (SV.v (Value.bool false)), (SV.v (Value.int IntKind.i64 0)), (SV.v (Value.bool false)), (SV.v (Value.int IntKind.i64 0)), (SV.v (Value.bool false)), (SV.v (Value.int IntKind.i64 0)), (SV.v (Value.bool false)), (SV.v (Value.int IntKind.i64 0)), (SV.v (Value.bool false)), (SV.v (Value.int IntKind.i64 0)), (SV.v (Value.bool false)), (SV.v (Value.int IntKind.i64 0)), (SV.v (Value.bool false)), (SV.v (Value.int IntKind.i64 2)), (SV.v (Value.int IntKind.i64 0)), (SV.v (Value.int IntKind.i64 0)), (SV.v (Value.int IntKind.i64 0)), (SV.v (Value.int IntKind.i64 0)), (SV.v (Value.int IntKind.i64 0)), (SV.v (Value.int IntKind.i64 0)), (SV.v (Value.int IntKind.i64 0)), (SV.v (Value.int IntKind.i64 0))]), (SV.agg [(SV.v (Value.int IntKind.i64 6)), (SV.v (Value.int IntKind.i64 1)), (SV.v (Value.int IntKind.i64 0)), (SV.v (Value.int IntKind.i64 0)), (SV.v (Value.int IntKind.i64 0)), (SV.v (Value.int IntKind.i64 0)), (SV.v (Value.int IntKind.i64 0)), (SV.v (Value.int IntKind.i64 0)), (SV.v (Value.int IntKind.i64 0)), (SV.v (Value.slice none 0 0)), (SV.v (Value.int IntKind.i64 0)), (SV.v (Value.bool false)), (SV.v (Value.int IntKind.i64 0)), (SV.v (Value.bool false)), (SV.v (Value.int IntKind.i64 0)), (SV.v (Value.bool false)), (SV.v (Value.int IntKind.i64 0)), (SV.v (Value.bool false)), (SV.v (Value.int IntKind.i64 0)), (SV.v (Value.bool false)), (SV.v (Value.int IntKind.i64 0)), (SV.v (Value.bool false)), (SV.v (Value.int IntKind.i64 0)), (SV.v (Value.bool false)), (SV.v (Value.int IntKind.i64 0)), (SV.v (Value.bool false)), (SV.v (Value.int IntKind.i64 0)), (SV.v (Value.bool false)), (SV.v (Value.int IntKind.i64 0)), (SV.v (Value.bool false)), (SV.v (Value.int IntKind.i64 0)), (SV.v (Value.bool false)), (SV.v (Value.int IntKind.i64 0)), (SV.v (Value.bool false)), (SV.v (Value.int IntKind.i64 2)), (SV.v (Value.int IntKind.i64 0)), (SV.v (Value.int IntKind.i64 0)), (SV.v (Value.int IntKind.i64 0)), (SV.v (Value.int IntKind.i64 0)), (SV.v (Value.int IntKind.i64 0)), (SV.v (Value.int IntKind.i64 0)), (SV.v (Value.int IntKind.i64 0)), (SV.v (Value.int IntKind.i64 0))])]) ∧ (((SV.agg [(SV.v (Value.int IntKind.i64 6)), (SV.v (Value.int IntKind.i64 1)), (SV.v (Value.int IntKind.i64 0)), (SV.v (Value.int IntKind.i64 0)), (SV.v (Value.int IntKind.i64 0)), (SV.v (Value.int IntKind.i64 0)), (SV.v (Value.int IntKind.i64 0)), (SV.v (Value.int IntKind.i64 0)), (SV.v (Value.int IntKind.i64 0)), (SV.v (Value.slice none 0 0)), (SV.v (Value.int IntKind.i64 0)), (SV.v (Value.bool false)), (SV.v (Value.int IntKind.i64 0)), (SV.v (Value.bool false)), (SV.v (Value.int IntKind.i64 0)), (SV.v (Value.bool false)), (SV.v (Value.int IntKind.i64 0)), (SV.v (Value.bool false)), (SV.v (Value.int IntKind.i64 0)), (SV.v (Value.bool false)), (SV.v (Value.int IntKind.i64 0)), (SV.v (Value.bool false)), (SV.v (Value.int IntKind.i64 0)), (SV.v (Value.bool false)), (SV.v (Value.int IntKind.i64 0)), (SV.v (Value.bool false)), (SV.v (Value.int IntKind.i64 0)), (SV.v (Value.bool false)), (SV.v (Value.int IntKind.i64 0)), (SV.v (Value.bool false)), (SV.v (Value.int IntKind.i64 0)), (SV.v (Value.bool false)), (SV.v (Value.int IntKind.i64 0)), (SV.v (Value.bool false)), (SV.v (Value.int IntKind.i64 2)), (SV.v (Value.int IntKind.i64 0)), (SV.v (Value.int IntKind.i64 0)), (SV.v (Value.int IntKind.i64 0)), (SV.v (Value.int IntKind.i64 0)), (SV.v (Value.int IntKind.i64 0)), (SV.v (Value.int IntKind.i64 0)), (SV.v (Value.int IntKind.i64 0)), (SV.v (Value.int IntKind.i64 0))]) = (SV.agg [(SV.v (Value.int IntKind.i64 6)), (SV.v (Value.int IntKind.i64 1)), (SV.v (Value.int IntKind.i64 0)), (SV.v (Value.int IntKind.i64 0)), (SV.v (Value.int IntKind.i64 0)), (SV.v (Value.int IntKind.i64 0)), (SV.v (Value.int IntKind.i64 0)), (SV.v (Value.int IntKind.i64 0)), (SV.v (Value.int IntKind.i64 0)), (SV.v (Value.slice none 0 0)), (SV.v (Value.int IntKind.i64 0)), (SV.v (Value.bool false)), (SV.v (Value.int IntKind.i64 0)), (SV.v (Value.bool false)), (SV.v (Value.int IntKind.i64 0)), (SV.v (Value.bool false)), (SV.v (Value.int IntKind.i64 0)), (SV.v (Value.bool false)), (SV.v (Value.int IntKind.i64 0)), (SV.v (Value.bool false)), (SV.v (Value.int IntKind.i64 0)), (SV.v (Value.bool false)), (SV.v (Value.int IntKind.i64 0)), (SV.v (Value.bool false)), (SV.v (Value.int IntKind.i64 0)), (SV.v (Value.bool false)), (SV.v (Value.int IntKind.i64 0)), (SV.v (Value.bool false)), (SV.v (Value.int IntKind.i64 0)), (SV.v (Value.bool false)), (SV.v (Value.int IntKind.i64 0)), (SV.v (Value.bool false)), (SV.v (Value.int IntKind.i64 0)), (SV.v (Value.bool false)), (SV.v (Value.int IntKind.i64 2)), (SV.v (Value.int IntKind.i64 0)), (SV.v (Value.int IntKind.i64 0)), (SV.v (Value.int IntKind.i64 0)), (SV.v (Value.int IntKind.i64 0)), (SV.v (Value.int IntKind.i64 0)), (SV.v (Value.int IntKind.i64 0)), (SV.v (Value.int IntKind.i64 0)), (SV.v (Value.int IntKind.i64 0))])) ∧ (∀ c : Nat, ((bytesOk 9 (9 + c) { elem := 5, size := 1, rw := true, lock := false, lit := false, flat := true, n := 9, row := fun i => [SV.v (Value.int IntKind.u8 ((fun i => List.getD relL i 0) i))], ext := 9 + c }) ∧ (R (SV.tup [(SV.v (Value.string (strOf 9 fun i => [SV.v (Value.int IntKind.u8 (SE.byteOf [SV.v (Value.int IntKind.u8 ((fun i => List.getD relL i 0) i))]))]))), (SV.v (Value.int IntKind.i64 0))]))))))) := by kernel_rfl
theorem done_plain (n : Nat) (g : Nat → Int) : (strOf n fun i => [SV.v (.int .u8 (g (0 + i)))]) = strOf n fun i => [SV.v (.int .u8 (g i))] := by simp only [Nat.zero_add]
theorem ΓG0_ok : ∀ f g, ΓG0 f = some g → g.ok Try.prog f := addCtr_ok (addCtr_ok (addCtr_ok ΓF1_ok (hp_ok Try.func103 (by kernel_rfl) (by kernel_rfl) Handle_spec)) (hp_ok Try.func99 (by kernel_rfl) (by kernel_rfl) Vec_spec)) (hp_ok Try.func98 (by kernel_rfl) (by kernel_rfl) Pose_spec)
theorem rel_row (i : Nat) (hi : i < 9) : apG 5 (apG 1 (fun i => ([6] : List Int).getD i 0) (be 1 4)) (be 2 4) i = relLs.getD i 0 := by
  rw [apG_ap (by rw [be_len])]
  have h := lstG_ap 1 (fun i => ([6] : List Int).getD i 0) (be 1 4 ++ be 2 4)
  have e : relLs = [6] ++ (be 1 4 ++ be 2 4) := rfl
  rw [e]
  by_cases h1 : i < 1
  · have : i = 0 := by omega
    subst this; rfl
  · obtain ⟨j, rfl⟩ : ∃ j, i = j + 1 := ⟨i - 1, by omega⟩
    rw [apG_new h1, Nat.add_sub_cancel]
    rfl
theorem CallR_spec : HpSpec Try.prog 70 sCallR := hp_spec hm ΓG0_ok Try.func70 (Λ := fun _ _ => noΛ) fun args bs e hs hp => by
  unfold sCallR at hs
  split at hs <;> try (cases hs; done)
  rename_i x
  split at hs <;> try (cases hs; done)
  rename_i b hw
  cases hs
  have hx : x = relC := hp
  subst hx
  refine ⟨_, wrOf_fresh hw, Eq.mpr (vcCallR b) ⟨⟨by omega, by omega⟩, fun c => ⟨⟨⟨bytesOk_bG _ _ _ (by omega), by show 1 ≤ 1099511627776; omega⟩, ⟨by omega, by omega⟩⟩, fun c1 => ⟨⟨⟨bytesOk_bG _ _ _ (by omega), by show 5 ≤ 1099511627776; omega⟩, ⟨by omega, by omega⟩⟩, fun c2 => tailU rfl (by simp) fun i hi => rel_row i hi⟩⟩⟩⟩
theorem done_arm {w : WrS} {e : Eff} (h : doneE w = some e) (hp : e.asks) : ∃ (b : Bool) (n : Nat) (g : Nat → Int) (c : Nat) (p : Prop), w = .used (some b) n g c p ∧ p ∧ vcFn Try.prog noCtrs noΛ Try.f71 [.vp 0 0] (heapOf (uB (some b) n g c)) 64 (fun y h' => FinE (uB (some b) n g c) e y h') := by
  cases w with
  | fresh k => cases h
  | used k n g c p =>
    cases k with
    | none => cases h
    | some b =>
      cases b with
      | true =>
        have he := Option.some.inj h
        subst he
        refine ⟨true, n, g, c, p, rfl, hp p rfl, ?_⟩
        rw [vcDone1]
        exact ⟨⟨rfl, rfl⟩, ⟨rfl, Nat.le_refl _, rfl, rfl⟩, rfl, Nat.le_refl _, fun _ _ => rfl⟩
      | false =>
        have he := Option.some.inj h
        subst he
        refine ⟨false, n, g, c, p, rfl, hp p rfl, ?_⟩
        rw [vcDone0]
        exact ⟨fun _ _ => trivial, ⟨congrArg (fun z => SV.v (.string z)) (done_plain n g), rfl⟩, ⟨rfl, Nat.le_refl _, rfl, rfl⟩, rfl, Nat.le_refl _, fun _ _ => rfl⟩
theorem Done_spec : HpSpec Try.prog 71 sDoneX := hp_spec hm noCtrs_ok Try.func71 (Λ := fun _ _ => noΛ) fun args bs e hs hp => by
  unfold sDoneX at hs
  split at hs
  · split at hs
    · rename_i w hw
      obtain ⟨b, n, g, c, p, rfl, h1, h2⟩ := done_arm hs hp
      exact ⟨_, (wrOf_used hw h1).1, h2⟩
    · cases hs
  · cases hs
theorem ΓI0_ok : ∀ f g, ΓI0 f = some g → g.ok Try.prog f := addCtr_ok (addCtr_ok (addCtr_ok (addCtr_ok noCtrs_ok (pure_ok Try.func69 (by kernel_rfl) (by kernel_rfl) UsedR_spec)) (pure_ok Try.func25 (by kernel_rfl) (by kernel_rfl) SameR_spec)) (hp_ok Try.func70 (by kernel_rfl) (by kernel_rfl) CallR_spec)) (hp_ok Try.func71 (by kernel_rfl) (by kernel_rfl) Done_spec)
end Go.Proofs.Ytjdldadmaaeimaa
end
