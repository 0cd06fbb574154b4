/-
  Contracts: the same call, in general.
-/
import Derived.Test.YtjdldadmaaeimaaWiCa
import Derived.Test.YtjdldadmaaeimaaWiM2
set_option maxRecDepth 100000
set_option linter.unusedSimpArgs false
set_option linter.unusedVariables false
namespace Go.Proofs.Ytjdldadmaaeimaa
open Go.SE Go.RowKit

def shOf (c : CV) : ShB := ⟨c.sk, c.sr, c.sw, c.sh⟩
def ΓU0 : Ctrs := addCtr noCtrs 72 (roCtr (orRo sSameS sSameN))
def ΓU1 : Ctrs := addCtr noCtrs 76 (roCtr (orRo sSameS sRSameN))
theorem vcSameC (k1 k2 : Int) (a b : CV) (n n' c m m' d : Nat) (g h : Nat → Int × Int) (R : SV → Prop) : (vcFn Try.prog ΓU0 noΛ Try.f25 [caS k1 a (.sl 0 2 0 n c), caS k2 b (.sl 1 2 0 m d)] (roHeap [⟨2, n', rowsP g⟩, ⟨2, m', rowsP h⟩]) 64 (fun y _ => R y)) =

(sel (k1 == k2) 
(sel (CV.id a == CV.id b) 
(sel (CV.bs a == CV.bs b && CV.bg a == CV.bg b) 
(sel (CV.ver a == CV.ver b) (((rowsPre n n fun y => [SV.v (Value.int IntKind.i64 (Prod.fst (g (0 + y)))), SV.v (Value.int IntKind.i64 (Prod.snd (g (0 + y))))]) ∧ (rowsPre m m fun y => [SV.v (Value.int IntKind.i64 (Prod.fst (h (0 + y)))), SV.v (Value.int IntKind.i64 (Prod.snd (h (0 + y))))])) ∧ 
(sel (sameS { k := CV.sk a, r := CV.sr a, w := CV.sw a, h := CV.sh a } n (fun i => gi [SV.v (Value.int IntKind.i64 (Prod.fst (g (0 + i)))), SV.v (Value.int IntKind.i64 (Prod.snd (g (0 + i))))]) { k := CV.sk b, r := CV.sr b, w := CV.sw b, h := CV.sh b } m fun i => gi [SV.v (Value.int IntKind.i64 (Prod.fst (h (0 + i)))), SV.v (Value.int IntKind.i64 (Prod.snd (h (0 + i))))]) 
(sel (CV.p0v a == CV.p0v b && CV.p0f a == CV.p0f b && (CV.p1v a == CV.p1v b && CV.p1f a == CV.p1f b) && (CV.p2v a == CV.p2v b && CV.p2f a == CV.p2f b && (CV.p3v a == CV.p3v b && CV.p3f a == CV.p3f b))) 
(sel (CV.v0v a == CV.v0v b && CV.v0f a == CV.v0f b && (CV.v1v a == CV.v1v b && CV.v1f a == CV.v1f b)) 
(sel (CV.w0v a == CV.w0v b && CV.w0f a == CV.w0f b) 
(sel (CV.dn a == CV.dn b) 
(sel (CV.mv a == CV.mv b) 
(sel (CV.a0v a == CV.a0v b && CV.a0f a == CV.a0f b && (CV.a1v a == CV.a1v b && CV.a1f a == CV.a1f b)) 
(sel (CV.t0v a == CV.t0v b && CV.t0f a == CV.t0f b && (CV.t1v a == CV.t1v b && CV.t1f a == CV.t1f b)) 
(sel (CV.gr a == CV.gr b) 
(sel (CV.b0 a == CV.b0 b && (CV.b1 a == CV.b1 b && (CV.b2 a == CV.b2 b && CV.b3 a == CV.b3 b))) 
(sel (CV.f0 a == CV.f0 b && CV.f1 a == CV.f1 b) (R (SV.v (Value.bool (CV.u0 a == CV.u0 b && CV.u1 a == CV.u1 b)))) (R (SV.v (Value.bool false)))) (R (SV.v (Value.bool false)))) (R (SV.v (Value.bool false)))) (R (SV.v (Value.bool false)))) (R (SV.v (Value.bool false)))) (R (SV.v (Value.bool false)))) (R (SV.v (Value.bool false)))) (R (SV.v (Value.bool false)))) (R (SV.v (Value.bool false)))) (R (SV.v (Value.bool false)))) (R (SV.v (Value.bool false))))) (R (SV.v (Value.bool false)))) (R (SV.v (Value.bool false)))) (R (SV.v (Value.bool false)))) (R (SV.v (Value.bool false)))) := by kernel_rfl
theorem vcSameCN (k1 k2 : Int) (a b : CV) (m m' d : Nat) (h : Nat → Int × Int) (R : SV → Prop) : (vcFn Try.prog ΓU0 noΛ Try.f25 [caS k1 a nilS, caS k2 b (.sl 0 2 0 m d)] (roHeap [⟨2, m', rowsP h⟩]) 64 (fun y _ => R y)) =

(sel (k1 == k2) 
(sel (CV.id a == CV.id b) 
(sel (CV.bs a == CV.bs b && CV.bg a == CV.bg b) 
(sel (CV.ver a == CV.ver b) ((rowsPre m m fun y => [SV.v (Value.int IntKind.i64 (Prod.fst (h (0 + y)))), SV.v (Value.int IntKind.i64 (Prod.snd (h (0 + y))))]) ∧ 
(sel (eqSh { k := CV.sk a, r := CV.sr a, w := CV.sw a, h := CV.sh a } { k := CV.sk b, r := CV.sr b, w := CV.sw b, h := CV.sh b } && Nat.beq m 0) 
(sel (CV.p0v a == CV.p0v b && CV.p0f a == CV.p0f b && (CV.p1v a == CV.p1v b && CV.p1f a == CV.p1f b) && (CV.p2v a == CV.p2v b && CV.p2f a == CV.p2f b && (CV.p3v a == CV.p3v b && CV.p3f a == CV.p3f b))) 
(sel (CV.v0v a == CV.v0v b && CV.v0f a == CV.v0f b && (CV.v1v a == CV.v1v b && CV.v1f a == CV.v1f b)) 
(sel (CV.w0v a == CV.w0v b && CV.w0f a == CV.w0f b) 
(sel (CV.dn a == CV.dn b) 
(sel (CV.mv a == CV.mv b) 
(sel (CV.a0v a == CV.a0v b && CV.a0f a == CV.a0f b && (CV.a1v a == CV.a1v b && CV.a1f a == CV.a1f b)) 
(sel (CV.t0v a == CV.t0v b && CV.t0f a == CV.t0f b && (CV.t1v a == CV.t1v b && CV.t1f a == CV.t1f b)) 
(sel (CV.gr a == CV.gr b) 
(sel (CV.b0 a == CV.b0 b && (CV.b1 a == CV.b1 b && (CV.b2 a == CV.b2 b && CV.b3 a == CV.b3 b))) 
(sel (CV.f0 a == CV.f0 b && CV.f1 a == CV.f1 b) (R (SV.v (Value.bool (CV.u0 a == CV.u0 b && CV.u1 a == CV.u1 b)))) (R (SV.v (Value.bool false)))) (R (SV.v (Value.bool false)))) (R (SV.v (Value.bool false)))) (R (SV.v (Value.bool false)))) (R (SV.v (Value.bool false)))) (R (SV.v (Value.bool false)))) (R (SV.v (Value.bool false)))) (R (SV.v (Value.bool false)))) (R (SV.v (Value.bool false)))) (R (SV.v (Value.bool false)))) (R (SV.v (Value.bool false))))) (R (SV.v (Value.bool false)))) (R (SV.v (Value.bool false)))) (R (SV.v (Value.bool false)))) (R (SV.v (Value.bool false)))) := by kernel_rfl
theorem vcRSameC (k1 k2 : Int) (a b : CV) (n n' c m m' d : Nat) (g h : Nat → Int × Int) (R : SV → Prop) : (vcFn Try.prog ΓU1 noΛ Try.f30 [caS k1 a (.sl 0 2 0 n c), caS k2 b (.sl 1 2 0 m d)] (roHeap [⟨2, n', rowsP g⟩, ⟨2, m', rowsP h⟩]) 64 (fun y _ => R y)) =
(((rowsPre n n fun y => [SV.v (Value.int IntKind.i64 (Prod.fst (g (0 + y)))), SV.v (Value.int IntKind.i64 (Prod.snd (g (0 + y))))]) ∧ (rowsPre m m fun y => [SV.v (Value.int IntKind.i64 (Prod.fst (h (0 + y)))), SV.v (Value.int IntKind.i64 (Prod.snd (h (0 + y))))])) ∧ 
(sel (!sameS { k := CV.sk a, r := CV.sr a, w := CV.sw a, h := CV.sh a } n (fun i => gi [SV.v (Value.int IntKind.i64 (Prod.fst (g (0 + i)))), SV.v (Value.int IntKind.i64 (Prod.snd (g (0 + i))))]) { k := CV.sk b, r := CV.sr b, w := CV.sw b, h := CV.sh b } m fun i => gi [SV.v (Value.int IntKind.i64 (Prod.fst (h (0 + i)))), SV.v (Value.int IntKind.i64 (Prod.snd (h (0 + i))))]) (R (SV.v (Value.bool false))) 
(sel (k1 == k2) 
(sel (CV.id a == CV.id b) 
(sel (CV.bs a == CV.bs b && CV.bg a == CV.bg b) 
(sel (CV.ver a == CV.ver b) 
(sel (CV.p0v a == CV.p0v b && CV.p0f a == CV.p0f b && (CV.p1v a == CV.p1v b && CV.p1f a == CV.p1f b) && (CV.p2v a == CV.p2v b && CV.p2f a == CV.p2f b && (CV.p3v a == CV.p3v b && CV.p3f a == CV.p3f b))) 
(sel (CV.v0v a == CV.v0v b && CV.v0f a == CV.v0f b && (CV.v1v a == CV.v1v b && CV.v1f a == CV.v1f b)) 
(sel (CV.w0v a == CV.w0v b && CV.w0f a == CV.w0f b) 
(sel (CV.dn a == CV.dn b) 
(sel (CV.mv a == CV.mv b) 
(sel (CV.a0v a == CV.a0v b && CV.a0f a == CV.a0f b && (CV.a1v a == CV.a1v b && CV.a1f a == CV.a1f b)) 
(sel (CV.t0v a == CV.t0v b && CV.t0f a == CV.t0f b && (CV.t1v a == CV.t1v b && CV.t1f a == CV.t1f b)) 
(sel (CV.gr a == CV.gr b) 
(sel (CV.b0 a == CV.b0 b && (CV.b1 a == CV.b1 b && (CV.b2 a == CV.b2 b && CV.b3 a == CV.b3 b))) 
(sel (CV.f0 a == CV.f0 b && CV.f1 a == CV.f1 b) (R (SV.v (Value.bool (CV.u0 a == CV.u0 b && CV.u1 a == CV.u1 b)))) (R (SV.v (Value.bool false)))) (R (SV.v (Value.bool false)))) (R (SV.v (Value.bool false)))) (R (SV.v (Value.bool false)))) (R (SV.v (Value.bool false)))) (R (SV.v (Value.bool false)))) (R (SV.v (Value.bool false)))) (R (SV.v (Value.bool false)))) (R (SV.v (Value.bool false)))) (R (SV.v (Value.bool false)))) (R (SV.v (Value.bool false)))) (R (SV.v (Value.bool false)))) (R (SV.v (Value.bool false)))) (R (SV.v (Value.bool false)))))) := by kernel_rfl
theorem vcRSameCN (k1 k2 : Int) (a b : CV) (m m' d : Nat) (h : Nat → Int × Int) (R : SV → Prop) : (vcFn Try.prog ΓU1 noΛ Try.f30 [caS k1 a (.sl 0 2 0 m d), caS k2 b nilS] (roHeap [⟨2, m', rowsP h⟩]) 64 (fun y _ => R y)) =
((rowsPre m m fun y => [SV.v (Value.int IntKind.i64 (Prod.fst (h (0 + y)))), SV.v (Value.int IntKind.i64 (Prod.snd (h (0 + y))))]) ∧ 
(sel (!(eqSh { k := CV.sk a, r := CV.sr a, w := CV.sw a, h := CV.sh a } { k := CV.sk b, r := CV.sr b, w := CV.sw b, h := CV.sh b } && Nat.beq m 0)) (R (SV.v (Value.bool false))) 
(sel (k1 == k2) 
(sel (CV.id a == CV.id b) 
(sel (CV.bs a == CV.bs b && CV.bg a == CV.bg b) 
(sel (CV.ver a == CV.ver b) 
(sel (CV.p0v a == CV.p0v b && CV.p0f a == CV.p0f b && (CV.p1v a == CV.p1v b && CV.p1f a == CV.p1f b) && (CV.p2v a == CV.p2v b && CV.p2f a == CV.p2f b && (CV.p3v a == CV.p3v b && CV.p3f a == CV.p3f b))) 
(sel (CV.v0v a == CV.v0v b && CV.v0f a == CV.v0f b && (CV.v1v a == CV.v1v b && CV.v1f a == CV.v1f b)) 
(sel (CV.w0v a == CV.w0v b && CV.w0f a == CV.w0f b) 
(sel (CV.dn a == CV.dn b) 
(sel (CV.mv a == CV.mv b) 
(sel (CV.a0v a == CV.a0v b && CV.a0f a == CV.a0f b && (CV.a1v a == CV.a1v b && CV.a1f a == CV.a1f b)) 
(sel (CV.t0v a == CV.t0v b && CV.t0f a == CV.t0f b && (CV.t1v a == CV.t1v b && CV.t1f a == CV.t1f b)) 
(sel (CV.gr a == CV.gr b) 
(sel (CV.b0 a == CV.b0 b && (CV.b1 a == CV.b1 b && (CV.b2 a == CV.b2 b && CV.b3 a == CV.b3 b))) 
(sel (CV.f0 a == CV.f0 b && CV.f1 a == CV.f1 b) (R (SV.v (Value.bool (CV.u0 a == CV.u0 b && CV.u1 a == CV.u1 b)))) (R (SV.v (Value.bool false)))) (R (SV.v (Value.bool false)))) (R (SV.v (Value.bool false)))) (R (SV.v (Value.bool false)))) (R (SV.v (Value.bool false)))) (R (SV.v (Value.bool false)))) (R (SV.v (Value.bool false)))) (R (SV.v (Value.bool false)))) (R (SV.v (Value.bool false)))) (R (SV.v (Value.bool false)))) (R (SV.v (Value.bool false)))) (R (SV.v (Value.bool false)))) (R (SV.v (Value.bool false)))) (R (SV.v (Value.bool false)))))) := by kernel_rfl
end Go.Proofs.Ytjdldadmaaeimaa
