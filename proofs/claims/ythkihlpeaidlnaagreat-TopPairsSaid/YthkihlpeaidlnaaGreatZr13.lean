/-
 What the proof uses, part 13.
-/
import Derived.RangeFuncNested
import Derived.RangeFuncBound
import Derived.Shelf.Abstract
import Derived.Shelf.RegionOpen
import Derived.OwnWalkIn
import Derived.TacticsInMore
import Derived.LoopNIn
import Derived.LoopIn
import Derived.BigRegionIn
import Derived.Stop.RegionWithIn
import Derived.Test.YthkihlpeaidlnaaGreatZr12
set_option maxRecDepth 100000
set_option linter.unusedSimpArgs false
set_option linter.unusedVariables false

section
set_option maxHeartbeats 2000000
namespace Go.Proofs.YthkihlpeaidlnaaGreat
open Go.RowKit Go.Shelf Go.SE
attribute [local go_sem] Oper.semAt_some
def gi:List SV→Int×Int
 | [.v (.int _ x),.v (.int _ y)]=>(x,y)
 | _=>(0,0)
end Go.Proofs.YthkihlpeaidlnaaGreat
end
section
namespace Go.Proofs.YthkihlpeaidlnaaGreat
open Go.SE Go.RowKit
def roS (el:Nat) (lo li fl wh:Bool) (n ext:Nat) (row:Nat→List SV):Blk:={elem:=el,size:=2,rw:=false,lock:=lo,lit:=li,flat:=fl,n:=n,row:=row,ext:=ext,dead:=false,whole:=wh}
end Go.Proofs.YthkihlpeaidlnaaGreat
end
section
section
namespace Go.Proofs.YthkihlpeaidlnaaGreat
open Go.SE Go.RowKit
def Qar (p q:Int×Int):Int×Int:=(p.1 - q.1,p.2 - q.2)
def Qae (p q:Int×Int):Int:=Qal p.1 p.2 q.1 q.2
def Q0f (p:Int×Int):Int:=Qma p.1 p.2
def Qbw (g:Nat→Int×Int):Nat→List SV:=fun i=>[.v (.int .i64 (g i).1),.v (.int .i64 (g i).2)]
def okR (n:Nat) (g:Nat→Int×Int) (k i:Nat):Bool:=Nat.beq i k||Nat.beq i ((k + 1) % n)||!decide (Qae (Qar (g ((k + 1) % n)) (g k)) (Qar (g i) (g k))≤0)
def okE (n:Nat) (g:Nat→Int×Int) (k:Nat):Bool :=
 !decide (Qae (g k) (g ((k + 1) % n))≤0)&&!decide (Qae (Qar (g ((k + 1) % n)) (g k)) (Qar (g ((k + 2) % n)) (g ((k + 1) % n)))<4*(Q0f (Qar (g ((k + 1) % n)) (g k)) + Q0f (Qar (g ((k + 2) % n)) (g ((k + 1) % n)))))
def okC (n:Nat) (g:Nat→Int×Int) (k:Nat):Bool:=okE n g k&&(List.range n).all (okR n g k)
def Qfg (n:Nat) (g:Nat→Int×Int):Bool:=(List.range n).all (okC n g)
def atOf:SV→Int
 | .agg (.v (.int _ k) :: _)=>k
 | _=>-1
def Qor:Blk:=Qct 4 [.v (.bool false)]
def Sq (x:Int):Prop:=-1048576≤x∧x≤1048576
def Qtt (n:Nat) (row:Nat→List SV):Prop:=∀ i,i<n→row i=[.v (.int .i64 (gi (row i)).1),.v (.int .i64 (gi (row i)).2)]∧Sq (gi (row i)).1∧Sq (gi (row i)).2
def Qt0:List SV→List Ro→Option (Option Prop×SV)
 | [.sl 0 2 0 n _],[⟨2,n',row⟩]=>some (some (n'=n∧n≤1099511627776∧Qtt n row),.v (.bool (Qfg n fun i=>gi (row i))))
 | _,_=>none
theorem Sq.sp {x:Int} (h:Sq x):Sp x:=⟨by have:=h.1; omega,by have:=h.2; omega⟩
theorem Sq.sub {x y:Int} (h:Sq x) (k:Sq y):Sp (x - y):=⟨by have:=h.1; have:=k.2; omega,by have:=h.2; have:=k.1; omega⟩
theorem Q0e {x y z w:Int} (h:Sq x) (k:Sq y) (h':Sq z) (k':Sq w):0≤Qma (x - y) (z - w)∧Qma (x - y) (z - w)≤4194304:=by
 obtain ⟨a,b⟩:=h
 obtain ⟨c,d⟩:=k
 obtain ⟨a',b'⟩:=h'
 obtain ⟨c',d'⟩:=k'
 unfold Qma
 omega
theorem Qng {n:Nat} {f:Nat→Bool} (h:∀ j,j<n→f j=true):(List.range n).all f=true:=by
 rw [List.all_eq_true]
 intro i hi
 exact h i (List.mem_range.1 hi)
theorem Qud {n:Nat} {f:Nat→Bool} {k:Nat} (hk:k<n) (h:f k=false):(List.range n).all f=false:=by
 rw [List.all_eq_false]
 exact ⟨k,List.mem_range.2 hk,by simp [h]⟩
theorem Q7w {n:Nat} {g:Nat→Int×Int} {k:Nat} (hk:k<n) (h:okC n g k=false):Qfg n g=false:=Qud hk h
theorem Q1y {n:Nat} {g:Nat→Int×Int} {k:Nat} (h:okE n g k=false):okC n g k=false:=by unfold okC; rw [h]; rfl
theorem Q63 {n:Nat} {g:Nat→Int×Int} {k i:Nat} (hi:i<n) (h:okR n g k i=false):okC n g k=false:=by unfold okC; rw [Qud hi h]; simp
def Zkx:SV→Int
 | .v (.int _ n)=>n
 | _=>-1
def okS (n:Nat) (g:Nat→Int×Int) (i k:Nat):Bool:=!decide (Qae (Qar (g ((i + 1) % n)) (g i)) (Qar (g ((i + k) % n)) (g i))≤0)
noncomputable def Qly (n:Nat) (g:Nat→Int×Int):Nat→Option LoopSpec :=
 Zj8 (Q8g (Qdv Qay Tryz.f170 0 Nat (fun i=>i≤n∧∀ j,j<i→okC n g j=true) (fun i=>n - i) [(4,fun i=>.v (.int .i64 i))] [])
   Tryz.f170 2 (Nat×Nat) (fun x=>x.1<n∧2≤x.2∧x.2≤n + 2∧∀ j,2≤j→j<x.2→j<n→okS n g x.1 j=true) (fun s x=>Zkx (s.tmps.getD 4 .unk)=(x.1:Int)) (fun x=>n + 2 - x.2) [(8,fun x=>.v (.int .i64 x.2))] []) 5 [(21,fun nx=>nx + 144),(22,fun nx=>nx + 152),(23,fun nx=>nx + 160)]
def Zk4:Qbz:=Qai (Qai (Qai Qbi 253 (Qao Q03)) 252 (Qao Qvq)) 254 (Qao Zcr)
theorem Qzn (n n' cap:Nat) (g:Nat→Int×Int):(Qcf Tryz.prog Zk4 (Qly n g) Tryz.f170 [.sl 0 2 0 n cap] (Qbl [⟨2,n',Qbw g⟩]) 64 (fun y _=>y=.v (.bool (Qfg n g)))) =
((∃ x:Nat,((((x:Nat)≤n)∧(∀ j:Nat,(((j:Nat)<x)→(okC n g j=true))))∧(((SV.v (.int .i64 0))=(SV.v (.int .i64 ((↑x:Int)))))∧True)))∧(∀ x:Nat,((((x:Nat)≤n)∧(∀ j:Nat,(((j:Nat)<x)→(okC n g j=true))))→(sel (decide ((↑x:Int)<(↑n:Int))) ((((0:Int)≤((↑x:Int)))∧((((↑x:Int)):Int)<((↑n:Int))))∧(((((↑n:Int)):Int)≠0)∧((((0:Int)≤(Int.tmod (IntKind.wrap IntKind.i64 ((↑x:Int) + 1)) (↑n:Int)))∧(((Int.tmod (IntKind.wrap IntKind.i64 ((↑x:Int) + 1)) (↑n:Int)):Int)<((↑n:Int))))∧(((((↑n:Int)):Int)≠0)∧((((0:Int)≤(Int.tmod (IntKind.wrap IntKind.i64 ((↑x:Int) + 2)) (↑n:Int)))∧(((Int.tmod (IntKind.wrap IntKind.i64 ((↑x:Int) + 2)) (↑n:Int)):Int)<((↑n:Int))))∧((((Sp (Prod.fst (g (0 + Int.toNat (↑x:Int)))))∧(Sp (Prod.snd (g (0 + Int.toNat (↑x:Int))))))∧((Sp (Prod.fst (g (0 + Int.toNat (Int.tmod (IntKind.wrap IntKind.i64 ((↑x:Int) + 1)) (↑n:Int))))))∧(Sp (Prod.snd (g (0 + Int.toNat (Int.tmod (IntKind.wrap IntKind.i64 ((↑x:Int) + 1)) (↑n:Int))))))))∧(sel (decide (Qal (Prod.fst (g (0 + Int.toNat (↑x:Int)))) (Prod.snd (g (0 + Int.toNat (↑x:Int)))) (Prod.fst (g (0 + Int.toNat (Int.tmod (IntKind.wrap IntKind.i64 ((↑x:Int) + 1)) (↑n:Int))))) (Prod.snd (g (0 + Int.toNat (Int.tmod (IntKind.wrap IntKind.i64 ((↑x:Int) + 1)) (↑n:Int)))))≤0)) ((SV.v (.bool false))=(SV.v (.bool (Qfg n g)))) ((((Sp (Prod.fst (g (0 + Int.toNat (Int.tmod (IntKind.wrap IntKind.i64 ((↑x:Int) + 1)) (↑n:Int))))))∧(Sp (Prod.snd (g (0 + Int.toNat (Int.tmod (IntKind.wrap IntKind.i64 ((↑x:Int) + 1)) (↑n:Int)))))))∧((Sp (Prod.fst (g (0 + Int.toNat (↑x:Int)))))∧(Sp (Prod.snd (g (0 + Int.toNat (↑x:Int)))))))∧((((Sp (Prod.fst (g (0 + Int.toNat (Int.tmod (IntKind.wrap IntKind.i64 ((↑x:Int) + 2)) (↑n:Int))))))∧(Sp (Prod.snd (g (0 + Int.toNat (Int.tmod (IntKind.wrap IntKind.i64 ((↑x:Int) + 2)) (↑n:Int)))))))∧((Sp (Prod.fst (g (0 + Int.toNat (Int.tmod (IntKind.wrap IntKind.i64 ((↑x:Int) + 1)) (↑n:Int))))))∧(Sp (Prod.snd (g (0 + Int.toNat (Int.tmod (IntKind.wrap IntKind.i64 ((↑x:Int) + 1)) (↑n:Int))))))))∧((((Sp (Prod.fst (g (0 + Int.toNat (Int.tmod (IntKind.wrap IntKind.i64 ((↑x:Int) + 1)) (↑n:Int)))) - Prod.fst (g (0 + Int.toNat (↑x:Int)))))∧(Sp (Prod.snd (g (0 + Int.toNat (Int.tmod (IntKind.wrap IntKind.i64 ((↑x:Int) + 1)) (↑n:Int)))) - Prod.snd (g (0 + Int.toNat (↑x:Int))))))∧((Sp (Prod.fst (g (0 + Int.toNat (Int.tmod (IntKind.wrap IntKind.i64 ((↑x:Int) + 2)) (↑n:Int)))) - Prod.fst (g (0 + Int.toNat (Int.tmod (IntKind.wrap IntKind.i64 ((↑x:Int) + 1)) (↑n:Int))))))∧(Sp (Prod.snd (g (0 + Int.toNat (Int.tmod (IntKind.wrap IntKind.i64 ((↑x:Int) + 2)) (↑n:Int)))) - Prod.snd (g (0 + Int.toNat (Int.tmod (IntKind.wrap IntKind.i64 ((↑x:Int) + 1)) (↑n:Int))))))))∧((((Sp (Prod.fst (g (0 + Int.toNat (Int.tmod (IntKind.wrap IntKind.i64 ((↑x:Int) + 1)) (↑n:Int))))))∧(Sp (Prod.snd (g (0 + Int.toNat (Int.tmod (IntKind.wrap IntKind.i64 ((↑x:Int) + 1)) (↑n:Int)))))))∧((Sp (Prod.fst (g (0 + Int.toNat (↑x:Int)))))∧(Sp (Prod.snd (g (0 + Int.toNat (↑x:Int)))))))∧(((Sp (Prod.fst (g (0 + Int.toNat (Int.tmod (IntKind.wrap IntKind.i64 ((↑x:Int) + 1)) (↑n:Int)))) - Prod.fst (g (0 + Int.toNat (↑x:Int)))))∧(Sp (Prod.snd (g (0 + Int.toNat (Int.tmod (IntKind.wrap IntKind.i64 ((↑x:Int) + 1)) (↑n:Int)))) - Prod.snd (g (0 + Int.toNat (↑x:Int))))))∧((((Sp (Prod.fst (g (0 + Int.toNat (Int.tmod (IntKind.wrap IntKind.i64 ((↑x:Int) + 2)) (↑n:Int))))))∧(Sp (Prod.snd (g (0 + Int.toNat (Int.tmod (IntKind.wrap IntKind.i64 ((↑x:Int) + 2)) (↑n:Int)))))))∧((Sp (Prod.fst (g (0 + Int.toNat (Int.tmod (IntKind.wrap IntKind.i64 ((↑x:Int) + 1)) (↑n:Int))))))∧(Sp (Prod.snd (g (0 + Int.toNat (Int.tmod (IntKind.wrap IntKind.i64 ((↑x:Int) + 1)) (↑n:Int))))))))∧(((Sp (Prod.fst (g (0 + Int.toNat (Int.tmod (IntKind.wrap IntKind.i64 ((↑x:Int) + 2)) (↑n:Int)))) - Prod.fst (g (0 + Int.toNat (Int.tmod (IntKind.wrap IntKind.i64 ((↑x:Int) + 1)) (↑n:Int))))))∧(Sp (Prod.snd (g (0 + Int.toNat (Int.tmod (IntKind.wrap IntKind.i64 ((↑x:Int) + 2)) (↑n:Int)))) - Prod.snd (g (0 + Int.toNat (Int.tmod (IntKind.wrap IntKind.i64 ((↑x:Int) + 1)) (↑n:Int)))))))∧(sel (decide (Qal (Prod.fst (g (0 + Int.toNat (Int.tmod (IntKind.wrap IntKind.i64 ((↑x:Int) + 1)) (↑n:Int)))) - Prod.fst (g (0 + Int.toNat (↑x:Int)))) (Prod.snd (g (0 + Int.toNat (Int.tmod (IntKind.wrap IntKind.i64 ((↑x:Int) + 1)) (↑n:Int)))) - Prod.snd (g (0 + Int.toNat (↑x:Int)))) (Prod.fst (g (0 + Int.toNat (Int.tmod (IntKind.wrap IntKind.i64 ((↑x:Int) + 2)) (↑n:Int)))) - Prod.fst (g (0 + Int.toNat (Int.tmod (IntKind.wrap IntKind.i64 ((↑x:Int) + 1)) (↑n:Int))))) (Prod.snd (g (0 + Int.toNat (Int.tmod (IntKind.wrap IntKind.i64 ((↑x:Int) + 2)) (↑n:Int)))) - Prod.snd (g (0 + Int.toNat (Int.tmod (IntKind.wrap IntKind.i64 ((↑x:Int) + 1)) (↑n:Int)))))<IntKind.wrap IntKind.i64 (4*IntKind.wrap IntKind.i64 (Qma (Prod.fst (g (0 + Int.toNat (Int.tmod (IntKind.wrap IntKind.i64 ((↑x:Int) + 1)) (↑n:Int)))) - Prod.fst (g (0 + Int.toNat (↑x:Int)))) (Prod.snd (g (0 + Int.toNat (Int.tmod (IntKind.wrap IntKind.i64 ((↑x:Int) + 1)) (↑n:Int)))) - Prod.snd (g (0 + Int.toNat (↑x:Int)))) + Qma (Prod.fst (g (0 + Int.toNat (Int.tmod (IntKind.wrap IntKind.i64 ((↑x:Int) + 2)) (↑n:Int)))) - Prod.fst (g (0 + Int.toNat (Int.tmod (IntKind.wrap IntKind.i64 ((↑x:Int) + 1)) (↑n:Int))))) (Prod.snd (g (0 + Int.toNat (Int.tmod (IntKind.wrap IntKind.i64 ((↑x:Int) + 2)) (↑n:Int)))) - Prod.snd (g (0 + Int.toNat (Int.tmod (IntKind.wrap IntKind.i64 ((↑x:Int) + 1)) (↑n:Int))))))))) ((SV.v (.bool false))=(SV.v (.bool (Qfg n g)))) ((∃ x_1:(Nat×Nat),((((((Prod.fst x_1):Nat)<n)∧(((2:Nat)≤(Prod.snd x_1))∧((((Prod.snd x_1):Nat)≤(n + 2))∧(∀ j:Nat,(((2:Nat)≤j)→(((j:Nat)<(Prod.snd x_1))→(((j:Nat)<n)→(okS n g (Prod.fst x_1) j=true))))))))∧(((Zkx (SV.v (.int .i64 (↑x:Int)))):Int)=((↑(Prod.fst x_1):Int))))∧(((SV.v (.int .i64 2))=(SV.v (.int .i64 ((↑(Prod.snd x_1):Int)))))∧True)))∧(∀ x_1:(Nat×Nat),((((((Prod.fst x_1):Nat)<n)∧(((2:Nat)≤(Prod.snd x_1))∧((((Prod.snd x_1):Nat)≤(n + 2))∧(∀ j:Nat,(((2:Nat)≤j)→(((j:Nat)<(Prod.snd x_1))→(((j:Nat)<n)→(okS n g (Prod.fst x_1) j=true))))))))∧(((Zkx (SV.v (.int .i64 (↑x:Int)))):Int)=((↑(Prod.fst x_1):Int))))→(sel (decide ((↑(Prod.snd x_1):Int)<(↑n:Int))) ((((Sp (Prod.fst (g (0 + Int.toNat (Int.tmod (IntKind.wrap IntKind.i64 ((↑x:Int) + 1)) (↑n:Int))))))∧(Sp (Prod.snd (g (0 + Int.toNat (Int.tmod (IntKind.wrap IntKind.i64 ((↑x:Int) + 1)) (↑n:Int)))))))∧((Sp (Prod.fst (g (0 + Int.toNat (↑x:Int)))))∧(Sp (Prod.snd (g (0 + Int.toNat (↑x:Int)))))))∧(((((↑n:Int)):Int)≠0)∧((((0:Int)≤(Int.tmod (IntKind.wrap IntKind.i64 ((↑x:Int) + (↑(Prod.snd x_1):Int))) (↑n:Int)))∧(((Int.tmod (IntKind.wrap IntKind.i64 ((↑x:Int) + (↑(Prod.snd x_1):Int))) (↑n:Int)):Int)<((↑n:Int))))∧((((Sp (Prod.fst (g (0 + Int.toNat (Int.tmod (IntKind.wrap IntKind.i64 ((↑x:Int) + (↑(Prod.snd x_1):Int))) (↑n:Int))))))∧(Sp (Prod.snd (g (0 + Int.toNat (Int.tmod (IntKind.wrap IntKind.i64 ((↑x:Int) + (↑(Prod.snd x_1):Int))) (↑n:Int)))))))∧((Sp (Prod.fst (g (0 + Int.toNat (↑x:Int)))))∧(Sp (Prod.snd (g (0 + Int.toNat (↑x:Int)))))))∧((((Sp (Prod.fst (g (0 + Int.toNat (Int.tmod (IntKind.wrap IntKind.i64 ((↑x:Int) + 1)) (↑n:Int)))) - Prod.fst (g (0 + Int.toNat (↑x:Int)))))∧(Sp (Prod.snd (g (0 + Int.toNat (Int.tmod (IntKind.wrap IntKind.i64 ((↑x:Int) + 1)) (↑n:Int)))) - Prod.snd (g (0 + Int.toNat (↑x:Int))))))∧((Sp (Prod.fst (g (0 + Int.toNat (Int.tmod (IntKind.wrap IntKind.i64 ((↑x:Int) + (↑(Prod.snd x_1):Int))) (↑n:Int)))) - Prod.fst (g (0 + Int.toNat (↑x:Int)))))∧(Sp (Prod.snd (g (0 + Int.toNat (Int.tmod (IntKind.wrap IntKind.i64 ((↑x:Int) + (↑(Prod.snd x_1):Int))) (↑n:Int)))) - Prod.snd (g (0 + Int.toNat (↑x:Int)))))))∧(sel (decide (Qal (Prod.fst (g (0 + Int.toNat (Int.tmod (IntKind.wrap IntKind.i64 ((↑x:Int) + 1)) (↑n:Int)))) - Prod.fst (g (0 + Int.toNat (↑x:Int)))) (Prod.snd (g (0 + Int.toNat (Int.tmod (IntKind.wrap IntKind.i64 ((↑x:Int) + 1)) (↑n:Int)))) - Prod.snd (g (0 + Int.toNat (↑x:Int)))) (Prod.fst (g (0 + Int.toNat (Int.tmod (IntKind.wrap IntKind.i64 ((↑x:Int) + (↑(Prod.snd x_1):Int))) (↑n:Int)))) - Prod.fst (g (0 + Int.toNat (↑x:Int)))) (Prod.snd (g (0 + Int.toNat (Int.tmod (IntKind.wrap IntKind.i64 ((↑x:Int) + (↑(Prod.snd x_1):Int))) (↑n:Int)))) - Prod.snd (g (0 + Int.toNat (↑x:Int))))≤0)) ((SV.v (.bool false))=(SV.v (.bool (Qfg n g)))) (∃ x':(Nat×Nat),(((((((Prod.fst x'):Nat)<n)∧(((2:Nat)≤(Prod.snd x'))∧((((Prod.snd x'):Nat)≤(n + 2))∧(∀ j:Nat,(((2:Nat)≤j)→(((j:Nat)<(Prod.snd x'))→(((j:Nat)<n)→(okS n g (Prod.fst x') j=true))))))))∧(((Zkx (SV.v (.int .i64 (↑x:Int)))):Int)=((↑(Prod.fst x'):Int))))∧(((SV.v (.int .i64 (IntKind.wrap IntKind.i64 ((↑(Prod.snd x_1):Int) + 1))))=(SV.v (.int .i64 ((↑(Prod.snd x'):Int)))))∧True))∧(((n + 2 - Prod.snd x'):Nat)<(n + 2 - Prod.snd x_1)))))))))) (∃ x':Nat,(((((x':Nat)≤n)∧(∀ j:Nat,(((j:Nat)<x')→(okC n g j=true))))∧(((SV.v (.int .i64 (IntKind.wrap IntKind.i64 ((↑x:Int) + 1))))=(SV.v (.int .i64 ((↑x':Int)))))∧True))∧(((n - x'):Nat)<(n - x))))))))))))))))))))))) ((SV.v (.bool true))=(SV.v (.bool (Qfg n g)))))))):=by kernel_rfl
structure ShB where
 k:Int
 r:Int
 w:Int
 h:Int
def shS (s:ShB) (x:SV):SV:=.agg [.v (.int .i64 s.k),.v (.int .i64 s.r),.v (.int .i64 s.w),.v (.int .i64 s.h),x]
def Qxf (s:ShB):Prop:=(I64 s.k∧I64 s.r)∧I64 s.w∧I64 s.h
def Qit (p:Int×Int):Bool:=Qi7 p.1&&Qi7 p.2
def Qgv (s:ShB) (n:Nat) (g:Nat→Int×Int):Int :=
 bif s.k==1 then (bif s.w != 0||(s.h != 0||((n:Int)) != 0) then 4 else bif Qfu s.r then 0 else 3)
 else bif s.k==2 then (bif s.r != 0||(n:Int) != 0 then 4 else bif Qfu s.w&&Qfu s.h then 0 else 3)
 else bif s.k==3 then (bif s.r != 0||(s.w != 0||(s.h != 0||(decide ((n:Int)<3)||decide ((n:Int) > 8)))) then 4 else bif (List.range n).all (fun i=>Qit (g i)) then (bif Qfg n g then 0 else 5) else 3)
 else 8
def Zef:List SV→Prop
 | [.v (.int .i64 a),.v (.int .i64 b)]=>I64 a∧I64 b
 | _=>False
def Qpr:List SV→List Ro→Option (Option Prop×SV)
 | [.agg [.v (.int .i64 k),.v (.int .i64 r),.v (.int .i64 w),.v (.int .i64 h),.sl 0 2 0 n _]],[⟨2,n',row⟩]=>some (some (Qxf ⟨k,r,w,h⟩∧Qe3 Zef (Qau n' row)∧n'=n∧n<1099511627776),.v (.int .i64 (Qgv ⟨k,r,w,h⟩ n fun i=>gi (row i))))
 | [.agg [.v (.int .i64 k),.v (.int .i64 r),.v (.int .i64 w),.v (.int .i64 h),.v (.slice none 0 0)]],[]=>some (some (Qxf ⟨k,r,w,h⟩),.v (.int .i64 (Qgv ⟨k,r,w,h⟩ 0 fun _=>(0,0))))
 | _,_=>none
noncomputable def Qfy (n:Nat) (g:Nat→Int×Int):Nat→Option LoopSpec:=Qdv Qay Tryz.f95 1 Nat (fun i=>i≤n∧∀ j,j<i→Qit (g j)=true) (fun i=>n - i) [(3,fun i=>.v (.int .i64 i))] []
def Zf4:Qbz:=Qai (Qai (Qai (Qbi) 170 (Qfc Qt0)) 168 (Qao Q0q)) 169 (Qao Zc2)
theorem Qzo (s:ShB) (n n' cap:Nat) (g:Nat→Int×Int) (R:SV→Prop):(Qcf Tryz.prog Zf4 (Qfy n g) Tryz.f95 [shS s (.sl 0 2 0 n cap)] (Qbl [⟨2,n',Qbw g⟩]) 64 (fun y _=>R y)) =
(sel (ShB.k s==1) (sel (ShB.w s != 0) (R (SV.v (.int .i64 4))) (sel (ShB.h s != 0) (R (SV.v (.int .i64 4))) (sel (decide ((↑n:Int) > 0)) (R (SV.v (.int .i64 4))) ((I64 (ShB.r s))∧(sel (!Qfu (ShB.r s)) (R (SV.v (.int .i64 3))) (R (SV.v (.int .i64 0)))))))) (sel (ShB.k s==2) (sel (ShB.r s != 0) (R (SV.v (.int .i64 4))) (sel (decide ((↑n:Int) > 0)) (R (SV.v (.int .i64 4))) ((I64 (ShB.w s))∧(sel (!Qfu (ShB.w s)) (R (SV.v (.int .i64 3))) ((I64 (ShB.h s))∧(sel (!Qfu (ShB.h s)) (R (SV.v (.int .i64 3))) (R (SV.v (.int .i64 0))))))))) (sel (ShB.k s==3) (sel (ShB.r s != 0) (R (SV.v (.int .i64 4))) (sel (ShB.w s != 0) (R (SV.v (.int .i64 4))) (sel (ShB.h s != 0) (R (SV.v (.int .i64 4))) (sel (decide ((↑n:Int)<3)) (R (SV.v (.int .i64 4))) (sel (decide ((↑n:Int) > 8)) (R (SV.v (.int .i64 4))) ((∃ x:Nat,((((x:Nat)≤n)∧(∀ j:Nat,(((j:Nat)<x)→(Qit (g j)=true))))∧(((SV.v (.int .i64 0))=(SV.v (.int .i64 ((↑x:Int)))))∧True)))∧(∀ x:Nat,((((x:Nat)≤n)∧(∀ j:Nat,(((j:Nat)<x)→(Qit (g j)=true))))→(sel (decide ((↑x:Int)<(↑n:Int))) ((((0:Int)≤((↑x:Int)))∧((((↑x:Int)):Int)<((↑n:Int))))∧((I64 (Prod.fst (g (0 + Int.toNat (↑x:Int)))))∧(sel (!Qi7 (Prod.fst (g (0 + Int.toNat (↑x:Int))))) (R (SV.v (.int .i64 3))) ((((0:Int)≤((↑x:Int)))∧((((↑x:Int)):Int)<((↑n:Int))))∧((I64 (Prod.snd (g (0 + Int.toNat (↑x:Int)))))∧(sel (!Qi7 (Prod.snd (g (0 + Int.toNat (↑x:Int))))) (R (SV.v (.int .i64 3))) (∃ x':Nat,(((((x':Nat)≤n)∧(∀ j:Nat,(((j:Nat)<x')→(Qit (g j)=true))))∧(((SV.v (.int .i64 (IntKind.wrap IntKind.i64 ((↑x:Int) + 1))))=(SV.v (.int .i64 ((↑x':Int)))))∧True))∧(((n - x'):Nat)<(n - x)))))))))) ((((n:Nat)=n)∧(((n:Nat)≤1099511627776)∧(Qtt n fun y=>[SV.v (.int .i64 (Prod.fst (g (0 + y)))),SV.v (.int .i64 (Prod.snd (g (0 + y))))])))∧(sel (!Qfg n fun i=>gi [SV.v (.int .i64 (Prod.fst (g (0 + i)))),SV.v (.int .i64 (Prod.snd (g (0 + i))))]) (R (SV.v (.int .i64 5))) (R (SV.v (.int .i64 0)))))))))))))) (R (SV.v (.int .i64 8)))))):=by kernel_rfl
theorem Qw9 (s:ShB) (g:Nat→Int×Int) (R:SV→Prop):(Qcf Tryz.prog Zf4 (Qfy 0 g) Tryz.f95 [shS s (.v (.slice none 0 0))] (Qbl []) 64 (fun y _=>R y))=(sel (ShB.k s==1) (sel (ShB.w s != 0) (R (SV.v (.int .i64 4))) (sel (ShB.h s != 0) (R (SV.v (.int .i64 4))) ((I64 (ShB.r s))∧(sel (!Qfu (ShB.r s)) (R (SV.v (.int .i64 3))) (R (SV.v (.int .i64 0))))))) (sel (ShB.k s==2) (sel (ShB.r s != 0) (R (SV.v (.int .i64 4))) ((I64 (ShB.w s))∧(sel (!Qfu (ShB.w s)) (R (SV.v (.int .i64 3))) ((I64 (ShB.h s))∧(sel (!Qfu (ShB.h s)) (R (SV.v (.int .i64 3))) (R (SV.v (.int .i64 0)))))))) (sel (ShB.k s==3) (sel (ShB.r s != 0) (R (SV.v (.int .i64 4))) (sel (ShB.w s != 0) (R (SV.v (.int .i64 4))) (sel (ShB.h s != 0) (R (SV.v (.int .i64 4))) (R (SV.v (.int .i64 4)))))) (R (SV.v (.int .i64 8)))))):=by kernel_rfl
theorem Zi3 {a n:Nat} (h:a<2*n):a % n=if a<n then a else a - n:=by
 by_cases h':a<n
 · rw [if_pos h',Nat.mod_eq_of_lt h']
 · rw [if_neg h',Nat.mod_eq_sub_mod (by omega),Nat.mod_eq_of_lt (by omega)]
theorem Q9v {n:Nat} {g:Nat→Int×Int} {i:Nat} (hi:i<n) (h:∀ k,2≤k→k<n→okS n g i k=true):(List.range n).all (okR n g i)=true:=Qng fun j hj=>by
 by_cases e:j=i
 · unfold okR; rw [e,Nat.beq_refl]; rfl
 · by_cases e':j=(i + 1) % n
   · unfold okR; rw [← e',Nat.beq_refl]; simp
   · by_cases hl:i<j
     · have hk:j - i≠1:=fun e''=>e' (by rw [Zi3 (by omega),if_pos (by omega)]; omega)
       have:=h (j - i) (by omega) (by omega)
       unfold okS at this
       rw [show i + (j - i)=j by omega,Nat.mod_eq_of_lt hj] at this
       unfold okR; rw [this]; simp
     · have hk:j + n - i≠1:=fun e''=>e' (by rw [Zi3 (by omega),if_neg (by omega)]; omega)
       have:=h (j + n - i) (by omega) (by omega)
       unfold okS at this
       rw [show i + (j + n - i)=j + n by omega,Nat.add_mod_right,Nat.mod_eq_of_lt hj] at this
       unfold okR; rw [this]; simp
theorem Ziw {n:Nat} {g:Nat→Int×Int} {i k:Nat} (hi:i<n) (h2:2≤k) (hk:k<n) (h:okS n g i k=false):okC n g i=false:=by
 refine Q63 (i:=(i + k) % n) (Nat.mod_lt _ (by omega)) ?_
 have n1:Nat.beq ((i + k) % n) i=false:=Go.SE.Qbc (by rw [Zi3 (by omega)]; split <;> omega)
 have n2:Nat.beq ((i + k) % n) ((i + 1) % n)=false:=Go.SE.Qbc (by rw [Zi3 (by omega),Zi3 (by omega)]; split <;> split <;> omega)
 unfold okS at h
 unfold okR
 rw [n1,n2,h]; rfl
theorem Zau:∀ f g,Zk4 f=some g→g.ok Tryz.prog f:=Qad (Qad (Qad Qam (Qas Tryz.func253 (by kernel_rfl) (by kernel_rfl) Qu5)) (Qas Tryz.func252 (by kernel_rfl) (by kernel_rfl) Qkw)) (Qas Tryz.func254 (by kernel_rfl) (by kernel_rfl) Qx3)
theorem Qxg {n cap:Nat} {g:Nat→Int×Int} (hn:n≤1099511627776) (hg:∀ i,i<n→Sq (g i).1∧Sq (g i).2):Qcf Tryz.prog Zk4 (Qly n g) Tryz.f170 [.sl 0 2 0 n cap] (Qbl [⟨2,n,Qbw g⟩]) 64 (fun y _=>y=.v (.bool (Qfg n g))):=by
 refine Eq.mpr (Qzn n n cap g) ?_
 simp only [Nat.zero_add,Int.toNat_natCast]
 refine ⟨⟨0,⟨Nat.zero_le _,fun j hj=>absurd hj (Nat.not_lt_zero _)⟩,rfl,trivial⟩,fun i ⟨hi,hdone⟩=>Qag (fun hlt=>?_) fun hge=>?_⟩
 · have hlt:i<n:=by simpa using hlt
   have em:∀ k:Nat,k≤n + 2→(IntKind.i64.wrap ((i:Int) + (k:Int))).tmod (n:Int)=(((i + k) % n:Nat):Int):=fun k hk=>by
     rw [Qaj ⟨by omega,by omega⟩,Int.tmod_eq_emod_of_nonneg (by omega),Int.natCast_emod]; rfl
   have em1:(IntKind.i64.wrap ((i:Int) + 1)).tmod (n:Int)=(((i + 1) % n:Nat):Int):=em 1 (by omega)
   have em2:(IntKind.i64.wrap ((i:Int) + 2)).tmod (n:Int)=(((i + 2) % n:Nat):Int):=em 2 (by omega)
   simp only [em1,em2,Int.toNat_natCast]
   have l1:(i + 1) % n<n:=Nat.mod_lt _ (by omega)
   have l2:(i + 2) % n<n:=Nat.mod_lt _ (by omega)
   obtain ⟨a1,a2⟩:=hg i hlt
   obtain ⟨b1,b2⟩:=hg _ l1
   obtain ⟨c1,c2⟩:=hg _ l2
   have bad:∀ {b:Bool},okC n g i=false→SV.v (Value.bool false)=SV.v (Value.bool (Qfg n g)):=fun {b} h=>by rw [Q7w hlt h]
   refine ⟨⟨by omega,by omega⟩,by omega,⟨Int.natCast_nonneg _,Int.ofNat_lt.2 l1⟩,by omega,⟨Int.natCast_nonneg _,Int.ofNat_lt.2 l2⟩,⟨⟨a1.sp,a2.sp⟩,b1.sp,b2.sp⟩,Qag (fun h=>bad (b:=true) (Q1y (by unfold okE Qae; rw [h]; rfl))) fun h1=>?_⟩
   have s1:=Q0e b1 a1 b2 a2
   have s2:=Q0e c1 b1 c2 b2
   refine ⟨⟨⟨b1.sp,b2.sp⟩,a1.sp,a2.sp⟩,⟨⟨c1.sp,c2.sp⟩,b1.sp,b2.sp⟩,⟨⟨b1.sub a1,b2.sub a2⟩,c1.sub b1,c2.sub b2⟩,⟨⟨b1.sp,b2.sp⟩,a1.sp,a2.sp⟩,⟨b1.sub a1,b2.sub a2⟩,⟨⟨c1.sp,c2.sp⟩,b1.sp,b2.sp⟩,⟨c1.sub b1,c2.sub b2⟩,?_⟩
   rw [Qaj (n:=Qma _ _ + Qma _ _) ⟨by omega,by omega⟩,Qaj ⟨by omega,by omega⟩]
   refine Qag (fun h=>bad (b:=true) (Q1y (by unfold okE Qae Q0f Qar; simp only; rw [h]; simp))) fun h2=>?_
   have hE:okE n g i=true:=by unfold okE Qae Q0f Qar; simp only; rw [h1,h2]; rfl
   refine ⟨⟨(i,2),⟨⟨hlt,Nat.le_refl _,by simp only; omega,fun j hj hj'=>by simp only at hj'; omega⟩,rfl⟩,rfl,trivial⟩,?_⟩
   rintro ⟨i',k⟩ ⟨⟨_,hk2,hk,hok⟩,hat⟩
   have hat:(i:Int)=(i':Int):=hat
   obtain rfl:i=i':=by omega
   simp only at hk2 hk hok ⊢
   refine Qag (fun hlt'=>?_) fun hge'=>?_
   · have hlt':k<n:=by simpa using hlt'
     have l3:(i + k) % n<n:=Nat.mod_lt _ (by omega)
     obtain ⟨d1,d2⟩:=hg _ l3
     simp only [em k (by omega),Int.toNat_natCast]
     refine ⟨⟨⟨b1.sp,b2.sp⟩,a1.sp,a2.sp⟩,by omega,⟨Int.natCast_nonneg _,Int.ofNat_lt.2 l3⟩,⟨⟨d1.sp,d2.sp⟩,a1.sp,a2.sp⟩,⟨⟨b1.sub a1,b2.sub a2⟩,d1.sub a1,d2.sub a2⟩,Qag (fun h5=>bad (b:=true) (Ziw hlt hk2 hlt' (by unfold okS Qae Qar; simp only; rw [h5]; rfl))) fun h5=>?_⟩
     refine ⟨(i,k + 1),⟨⟨⟨hlt,by simp only; omega,by simp only; omega,fun j hj hj' hj''=>?_⟩,rfl⟩,Qck (by rw [Qaj ⟨by omega,by omega⟩]; rfl),trivial⟩,by simp only; omega⟩
     by_cases e:j=k
     · rw [e]; unfold okS Qae Qar; simp only; rw [h5]; rfl
     · exact hok j hj (by simp only at hj'; omega) hj''
   · have hge':¬ k<n:=by simpa using hge'
     refine ⟨i + 1,⟨⟨hlt,fun j hj=>?_⟩,Qck (by rw [Qaj ⟨by omega,by omega⟩]; rfl),trivial⟩,by omega⟩
     by_cases e:j=i
     · rw [e]; unfold okC; rw [hE,Q9v hlt fun k' h1 h2=>hok k' h1 (by omega) h2]; rfl
     · exact hdone j (by omega)
 · have hge:¬ i<n:=by simpa using hge
   obtain rfl:i=n:=by omega
   have:Qfg i g=true:=Qng hdone
   rw [this]
theorem Qs0:Qc7 Tryz.prog 170 Qt0:=Qcq hm Zau Tryz.func170 (Λ:=fun args bs=>match args,bs with | [.sl 0 2 0 n _],[⟨2,_,row⟩]=>Qly n (fun i=>gi (row i)) | _,_=>Qay) fun args bs p x h hp=>by
 unfold Qt0 at h
 split at h <;> try (cases h; done)
 rename_i n c n' row
 cases h
 obtain ⟨rfl,hn,h0⟩:=hp _ rfl
 refine ⟨rfl,[⟨2,n',Qbw fun i=>gi (row i)⟩],⟨⟨rfl,rfl,fun i hi=>(h0 i hi).1⟩,trivial⟩,?_⟩
 exact Qxg hn fun i hi=>(h0 i hi).2
theorem Zat:∀ f g,Zf4 f=some g→g.ok Tryz.prog f:=Qad (Qad (Qad (Qam) (Qfj Tryz.func170 (by kernel_rfl) (by kernel_rfl) Qs0)) (Qas Tryz.func168 (by kernel_rfl) (by kernel_rfl) Qu3)) (Qas Tryz.func169 (by kernel_rfl) (by kernel_rfl) Qx6)
theorem Qln {r:List SV} (h:Zef r):r=[.v (.int .i64 (gi r).1),.v (.int .i64 (gi r).2)]∧I64 (gi r).1∧I64 (gi r).2:=by
 unfold Zef at h
 split at h
 · exact ⟨rfl,h.1,h.2⟩
 · exact h.elim
theorem Q1n {p:Int×Int} (h:Qit p=true):Sq p.1∧Sq p.2:=by
 unfold Qit Qi7 at h
 simp only [Bool.and_eq_true,decide_eq_true_eq] at h
 exact ⟨⟨by omega,by omega⟩,by omega,by omega⟩
theorem Qxe {n:Nat} {g:Nat→Int×Int} (h:∀ i,i<n→Qit (g i)=true):Qtt n fun y=>[SV.v (.int .i64 (g y).1),SV.v (.int .i64 (g y).2)]:=fun i hi=>⟨rfl,(Q1n (h i hi)).1,(Q1n (h i hi)).2⟩
theorem Zm4 (n:Nat):((n:Int) != 0)=decide ((n:Int) > 0):=by
 cases n with
 | zero=>rfl
 | succ n=>rw [decide_eq_true (by omega)]; simp; omega
theorem Qna {s:ShB} {n:Nat} {g:Nat→Int×Int} (h1:(s.k==1)=false) (h2:(s.k==2)=false) (h3:(s.k==3)=true) (h4:(s.r != 0)=false) (h5:(s.w != 0)=false) (h6:(s.h != 0)=false) (h7:decide ((n:Int)<3)=false) (h8:decide ((n:Int) > 8)=false) :
   Qgv s n g=bif (List.range n).all (fun i=>Qit (g i)) then (bif Qfg n g then 0 else 5) else 3:=by
 unfold Qgv; rw [h1,h2,h3,h4,h5,h6,h7,h8]; rfl
theorem maxmin {x y:Int}:Qit (x,y)=(!decide (max x y > 4096)&&!decide (min x y < -4096)):=by
 unfold Qit Qi7
 refine Bool.eq_iff_iff.2 ?_
 simp only [Bool.and_eq_true,Bool.not_eq_true',decide_eq_true_eq,decide_eq_false_iff_not]
 omega
theorem Qxh {s:ShB} {n cap:Nat} {g:Nat→Int×Int} (hs:Qxf s) (hn:n<1099511627776) (hg:∀ i,i<n→I64 (g i).1∧I64 (g i).2):Qcf Tryz.prog Zf4 (Qfy n g) Tryz.f95 [shS s (.sl 0 2 0 n cap)] (Qbl [⟨2,n,Qbw g⟩]) 64 (fun y _=>y=.v (.int .i64 (Qgv s n g))):=by
 refine Eq.mpr (Qzo s n n cap g _) ?_
 simp only [Nat.zero_add,Int.toNat_natCast,← Zm4]
 obtain ⟨⟨k1,k2⟩,k3,k4⟩:=hs
 refine Qag (fun e1=>Qag (fun e2=>?_) fun e2=>Qag (fun e3=>?_) fun e3=>Qag (fun e4=>?_) fun e4=>⟨k2,Qag (fun e5=>?_) fun e5=>?_⟩) fun e1=>Qag (fun e2=>Qag (fun e3=>?_) fun e3=>Qag (fun e4=>?_) fun e4=>⟨k3,Qag (fun e5=>?_) fun e5=>⟨k4,Qag (fun e6=>?_) fun e6=>?_⟩⟩) fun e2=>Qag (fun e3=>Qag (fun e4=>?_) fun e4=>Qag (fun e5=>?_) fun e5=>Qag (fun e6=>?_) fun e6=>Qag (fun e7=>?_) fun e7=>Qag (fun e8=>?_) fun e8=>⟨⟨0,⟨Nat.zero_le _,fun j hj=>absurd hj (Nat.not_lt_zero _)⟩,rfl,trivial⟩,fun i ⟨hi,hok⟩=>Qag (fun hlt=>?_) fun hge=>?_⟩) fun e3=>?_
 all_goals try ((try simp only [Bool.not_eq_true',Bool.not_eq_false'] at *); refine Qck ?_; unfold Qgv; simp only [*,cond_true,cond_false,Bool.true_or,Bool.or_true,Bool.false_or,Bool.or_false,Bool.and_true,Bool.true_and,Bool.and_false,Bool.false_and,Bool.and_self,Bool.or_self,Int.natCast_zero,bne_self_eq_false,Int.ofNat_eq_natCast]; done)
 · have hlt:i<n:=by simpa using hlt
   have et:=Qna (g:=g) e1 e2 e3 e4 e5 e6 e7 e8
   have bad:Qit (g i)=false→SV.v (.int .i64 3)=SV.v (.int .i64 (Qgv s n g)):=fun h=>by rw [et,Qud (f:=fun i=>Qit (g i)) hlt h]; rfl
   obtain ⟨d1,d2⟩:=hg i hlt
   refine ⟨⟨by omega,by omega⟩,d1,Qag (fun h=>bad ?_) fun h=>⟨⟨by omega,by omega⟩,d2,Qag (fun h'=>bad ?_) fun h'=>⟨i + 1,⟨⟨hlt,fun j hj=>?_⟩,Qck (by rw [Qaj ⟨by omega,by omega⟩]; rfl),trivial⟩,by omega⟩⟩⟩
   · have h:Qi7 (g i).1=false:=by simpa using h
     unfold Qit; rw [h]; rfl
   · have h':Qi7 (g i).2=false:=by simpa using h'
     unfold Qit; rw [h',Bool.and_false]
   · by_cases e:j=i
     · have h:Qi7 (g i).1=true:=by simpa using h
       have h':Qi7 (g i).2=true:=by simpa using h'
       rw [e]; unfold Qit; rw [h,h']; rfl
     · exact hok j (by omega)
 · have hge:¬ i<n:=by simpa using hge
   obtain rfl:i=n:=by omega
   have et:=Qna (g:=g) e1 e2 e3 e4 e5 e6 e7 e8
   rw [Qng (f:=fun i=>Qit (g i)) hok,cond_true] at et
   refine ⟨⟨trivial,by omega,Qxe hok⟩,?_⟩
   show sel (!Qfg i g) _ _
   rw [et]
   cases Qfg i g <;> rfl
theorem Qt4 {s:ShB} (hs:Qxf s):Qcf Tryz.prog Zf4 (Qfy 0 fun _=>(0,0)) Tryz.f95 [shS s (.v (.slice none 0 0))] (Qbl []) 64 (fun y _=>y=.v (.int .i64 (Qgv s 0 fun _=>(0,0)))):=by
 refine Eq.mpr (Qw9 s (fun _=>(0,0)) _) ?_
 obtain ⟨⟨k1,k2⟩,k3,k4⟩:=hs
 refine Qag (fun e1=>Qag (fun e2=>?_) fun e2=>Qag (fun e3=>?_) fun e3=>⟨k2,Qag (fun e5=>?_) fun e5=>?_⟩) fun e1=>Qag (fun e2=>Qag (fun e3=>?_) fun e3=>⟨k3,Qag (fun e5=>?_) fun e5=>⟨k4,Qag (fun e6=>?_) fun e6=>?_⟩⟩) fun e2=>Qag (fun e3=>Qag (fun e4=>?_) fun e4=>Qag (fun e5=>?_) fun e5=>Qag (fun e6=>?_) fun e6=>?_) fun e3=>?_
 all_goals ((try simp only [Bool.not_eq_true',Bool.not_eq_false'] at *); refine Qck ?_; unfold Qgv; simp only [*,cond_true,cond_false,Bool.true_or,Bool.or_true,Bool.false_or,Bool.or_false,Bool.and_true,Bool.true_and,Bool.and_false,Bool.false_and,Bool.and_self,Bool.or_self,Int.natCast_zero,bne_self_eq_false,Int.ofNat_eq_natCast]; try rfl)
theorem Qkx:Qc7 Tryz.prog 95 Qpr:=Qcq hm Zat Tryz.func95 (Λ:=fun args bs=>match args,bs with | [.agg [_,_,_,_,.sl 0 2 0 n _]],[⟨2,_,row⟩]=>Qfy n (fun i=>gi (row i)) | _,_=>Qfy 0 (fun _=>(0,0))) fun args bs p x h hp=>by
 unfold Qpr at h
 split at h <;> try (cases h; done)
 · rename_i k r w hh n c n' row
   cases h
   obtain ⟨hs,h0,rfl,hn⟩:=hp _ rfl
   have h0:=okAll_rows.1 h0
   refine ⟨rfl,[⟨2,n',Qbw fun i=>gi (row i)⟩],⟨⟨rfl,rfl,fun i hi=>(Qln (h0 i hi)).1⟩,trivial⟩,?_⟩
   exact Qxh (s:=⟨k,r,w,hh⟩) hs hn fun i hi=>(Qln (h0 i hi)).2
 · rename_i k r w hh
   cases h
   exact ⟨rfl,[],trivial,Qt4 (s:=⟨k,r,w,hh⟩) (hp _ rfl)⟩
def zSh:ShB:=⟨0,0,0,0⟩
def Zm9 (b:Bool) (s:ShB):ShB:=bif b then s else zSh
def zP:Nat→Int×Int:=fun _=>(0,0)
def okB (b:Blk):Bool:=!b.rw&&!b.off&&Nat.beq b.size 2&&b.flat
def Qc1 (b:Blk):Nat→Int×Int:=fun i=>gi (b.row i)
def Qcu (n:Nat) (b:Blk):Prop:=Qe3 Zef (Qau b.n b.row)∧b.n=n∧n<1099511627776
def spB (n c:Nat) (g:Nat→Int×Int):Blk:={elem:=32,size:=2,rw:=true,lock:=false,lit:=false,flat:=true,n:=n,row:=Qbw g,ext:=c}
def rdB (b:Blk) (n:Nat) (g:Nat→Int×Int):Blk:=roS b.elem b.lock b.lit true b.whole n b.ext (Qbw g)
def Zmd (args:List SV) (bs:List Blk):Option Eff:=match args,bs with
 | [.agg [.v (.int .i64 k),.v (.int .i64 r),.v (.int .i64 w),.v (.int .i64 h),.sl 0 2 0 n c]],[b]=>bif okB b then some (.det (some ((Qxf ⟨k,r,w,h⟩∧Qcu n b)∧Qgv ⟨k,r,w,h⟩ n (Qc1 b)=0)) (.tup [shS ⟨k,r,w,h⟩ (.sl 0 2 0 n c),.v (.int .i64 0)]) []) else none
 | _,_=>none
def Zlb:Qbz:=Qai (Qbi) 95 (Qfc Qpr)
def Q3a (r:Int):ShB:=⟨1,r,0,0⟩
def boxS (w h:Int):ShB:=⟨2,0,w,h⟩
def Qxj:ShB:=⟨3,0,0,0⟩
theorem Za7:∀ f g,Zlb f=some g→g.ok Tryz.prog f:=Qad (Qam) (Qfj Tryz.func95 (by kernel_rfl) (by kernel_rfl) Qkx)
theorem Q26 {e:Int} {s:ShB} (h:(e != 0)=false):Zm9 (e==0) s=s∧e=0:=by
 have h:e=0:=by simpa using h
 subst h
 exact ⟨rfl,rfl⟩
theorem Q21 (g:Nat→Int×Int):(fun i=>gi [SV.v (.int .i64 (g (0 + i)).1),SV.v (.int .i64 (g (0 + i)).2)])=g:=funext fun i=>by rw [Nat.zero_add]; rfl
theorem Q9q {n:Nat} {b:Blk} (h:Qcu n b):n<1099511627776∧∀ i,i<n→I64 (Qc1 b i).1∧I64 (Qc1 b i).2:=by
 obtain ⟨h0,rfl,hn⟩:=h
 exact ⟨hn,fun i hi=>(Qln (okAll_rows.1 h0 i hi)).2⟩
theorem Qju {b:Blk} {n:Nat} (h:okB b=true) (hp:Qcu n b):BlkSame b (rdB b n (Qc1 b)):=by
 simp only [okB,Bool.and_eq_true,Bool.not_eq_true'] at h
 obtain ⟨⟨⟨a1,a2⟩,a3⟩,a4⟩:=h
 obtain ⟨h0,rfl,hn⟩:=hp
 obtain ⟨a2,asp⟩:=Blk.off_false a2
 exact ⟨Nat.eq_of_beq_eq_true a3,a1,a4,rfl,rfl,a2,rfl,rfl,fun i hi=>(Qln (okAll_rows.1 h0 i hi)).1,asp⟩
theorem Qvc {n:Nat} {g:Nat→Int×Int} {B:Blk} (hn:n<1099511627776) (hg:∀ i,i<n→I64 (g i).1∧I64 (g i).2) (hr:∀ y,B.row y=[SV.v (.int .i64 (g (0 + y)).1),SV.v (.int .i64 (g (0 + y)).2)]):Qcu n (Qa1 B 2 0 n)∧Qc1 (Qa1 B 2 0 n)=g:=by
 refine ⟨⟨okAll_rows.2 fun i hi=>?_,rfl,hn⟩,funext fun i=>?_⟩
 · show Zef (B.row (0 + i))
   rw [hr,Nat.zero_add,Nat.zero_add]
   exact hg i hi
 · show gi (B.row (0 + i))=g i
   rw [hr,Nat.zero_add,Nat.zero_add]; rfl
theorem Qti {n:Nat} {g:Nat→Int×Int} {B:Blk} (hn:n<1099511627776) (hg:∀ i,i<n→I64 (g i).1∧I64 (g i).2) (hr:∀ y,B.row y=Qbw g y):Qcu n (Qa1 B 2 0 n) :=
 (Qvc hn hg fun y=>by rw [hr,Nat.zero_add]; rfl).1
def Zad (w h:Int):Nat→Int×Int
 | 0=>(-w,-h)
 | 1=>(w,-h)
 | 2=>(w,h)
 | _=>(-w,h)
def Qb2 (e:Int) (s:ShB) (n:Nat):Nat:=bif e != 0 then 0 else bif s.k==2 then 4 else n
def Qfx (s:ShB) (g:Nat→Int×Int) (i:Nat):Int×Int:=bif s.k==2 then Zad s.w s.h i else g i
def Zjr (e:Int) (s:ShB) (n:Nat) (g:Nat→Int×Int):Eff:=.nd True Nat 0 (fun c=>.sl 1000 2 0 (Qb2 e s n) (Qb2 e s n + c)) fun c=>[(1000,spB (Qb2 e s n) (Qb2 e s n + c) (Qfx s g))]
def Zdb (args:List SV) (bs:List Blk):Option Eff:=match args,bs with
 | [.agg [.v (.int .i64 k),.v (.int .i64 r),.v (.int .i64 w),.v (.int .i64 h),.sl 0 2 0 n c]],[b]=>bif okB b then some (.nd (Qxf ⟨k,r,w,h⟩∧Qcu n b) Nat 0 (fun c=>.sl 1000 2 0 (Qb2 (Qgv ⟨k,r,w,h⟩ n (Qc1 b)) ⟨k,r,w,h⟩ n) (Qb2 (Qgv ⟨k,r,w,h⟩ n (Qc1 b)) ⟨k,r,w,h⟩ n + c)) fun c=>[(1000,spB (Qb2 (Qgv ⟨k,r,w,h⟩ n (Qc1 b)) ⟨k,r,w,h⟩ n) (Qb2 (Qgv ⟨k,r,w,h⟩ n (Qc1 b)) ⟨k,r,w,h⟩ n + c) (Qfx ⟨k,r,w,h⟩ (Qc1 b)))]) else none
 | _,_=>none
theorem Zbt (s:ShB) (b:Blk) (n c:Nat) (g:Nat→Int×Int) (e:Int):(Qcf Tryz.prog Zlb Qay Tryz.f99 [shS s (.sl 0 2 0 n c)] (Qaf [rdB b n g]) 64 (fun y h'=>Qgb [rdB b n g] (Zjr e s n g) y h')) =
(((Qxf s)∧((Qe3 Zef (Qau n fun y=>[SV.v (.int .i64 (Prod.fst (g (0 + y)))),SV.v (.int .i64 (Prod.snd (g (0 + y))))]))∧(((n:Nat)=n)∧((n:Nat)<1099511627776))))∧(sel ((Qgv s n fun i=>gi [SV.v (.int .i64 (Prod.fst (g (0 + i)))),SV.v (.int .i64 (Prod.snd (g (0 + i))))]) != 0) (∃ c_1:Nat,((((SV.v (Value.slice none 0 0))=(SV.v (Value.slice none 0 0)))∧(((0:Nat)=0)∧((((Qb2 e s n):Nat)=0)∧(((Qb2 e s n + c_1):Nat)=0))))∧(((((Qb2 e s n):Nat)=0)∧((((Qb2 e s n + c_1):Nat)=0)∧True))∧True))) (sel (ShB.k s==2) (∃ c_1:Nat,(((SV.sl 328 2 0 4 4)=(SV.sl 328 2 0 (Qb2 e s n) (Qb2 e s n + c_1)))∧(((4:Nat)=(Qb2 e s n))∧((((Qb2 e s n + c_1):Nat)≤4)∧(∀ i:Nat,(((i:Nat)<(Qb2 e s n))→([(SV.v (.int .i64 (bop (Nat.beq i 0) (IntKind.wrap IntKind.i64 (0 - ShB.w s)) (bop (Nat.beq i 1) (ShB.w s) (bop (Nat.beq i 2) (ShB.w s) (IntKind.wrap IntKind.i64 (0 - ShB.w s))))))),(SV.v (.int .i64 (bop (Nat.beq i 0) (IntKind.wrap IntKind.i64 (0 - ShB.h s)) (bop (Nat.beq i 1) (IntKind.wrap IntKind.i64 (0 - ShB.h s)) (bop (Nat.beq i 2) (ShB.h s) (ShB.h s))))))]=[(SV.v (.int .i64 (Prod.fst (Qfx s g i)))),(SV.v (.int .i64 (Prod.snd (Qfx s g i))))]))))))) ((((((0 + n)*16):Nat)≤140737488355328)∧(((0:Nat)≤0)∧(∀ y:Nat,(((y:Nat)<n)→True))))∧(∀ c_1:Nat,(∃ c_2:Nat,(((SV.sl 368 2 0 (0 + n) (0 + n + c_1))=(SV.sl 368 2 0 (Qb2 e s n) (Qb2 e s n + c_2)))∧((((0 + n):Nat)=(Qb2 e s n))∧((((Qb2 e s n + c_2):Nat)≤(0 + n + c_1))∧(∀ i:Nat,(((i:Nat)<(Qb2 e s n))→([(SV.v (.int .i64 (Prod.fst (g (0 + (i - 0)))))),(SV.v (.int .i64 (Prod.snd (g (0 + (i - 0))))))]=[(SV.v (.int .i64 (Prod.fst (Qfx s g i)))),(SV.v (.int .i64 (Prod.snd (Qfx s g i))))])))))))))))):=by kernel_rfl
noncomputable def hid {α:Type} (x:α):α:=Classical.choose (⟨x,rfl⟩:∃ y,y=x)
theorem Qok {α:Type} (x:α):hid x=x:=Classical.choose_spec (⟨x,rfl⟩:∃ y,y=x)
def abvF (n:Int):Nat→Nat→Nat
 | 0,k=>k
 | f + 1,k=>if (k:Int)*k<n then abvF n f (k + 1) else k
noncomputable def sqUp (n:Int):Nat:=hid (abvF n 1048576 0)
theorem Qlh {x:Int} (h:Qfu x=true):16≤x∧x≤4096:=by
 unfold Qfu at h
 simpa [Bool.and_eq_true,decide_eq_true_eq] using h
theorem Quv {s:ShB} {n:Nat} {g:Nat→Int×Int} (e:Qgv s n g=0) (hk:(s.k==2)=true):(16≤s.w∧s.w≤4096)∧16≤s.h∧s.h≤4096:=by
 have k1 : (s.k == 1) = false := by have:s.k=2:=by simpa using hk
                                    rw [this]; rfl
 unfold Qgv at e
 rw [k1,hk,cond_false,cond_true] at e
 cases h1:(s.r != 0||(n:Int) != 0) with
 | true=>rw [h1] at e; cases e
 | false =>
   rw [h1,cond_false] at e
   cases h2:(Qfu s.w&&Qfu s.h) with
   | false=>rw [h2] at e; cases e
   | true =>
     rw [Bool.and_eq_true] at h2
     exact ⟨Qlh h2.1,Qlh h2.2⟩
theorem Q8t {s:ShB} {b:Blk} {n c:Nat} {g:Nat→Int×Int} (hs:Qxf s) (hn:n<1099511627776) (hg:∀ i,i<n→I64 (g i).1∧I64 (g i).2):Qcf Tryz.prog Zlb Qay Tryz.f99 [shS s (.sl 0 2 0 n c)] (Qaf [rdB b n g]) 64 (fun y h'=>Qgb [rdB b n g] (Zjr (Qgv s n g) s n g) y h'):=by
 refine Eq.mpr (Zbt s b n c g (Qgv s n g)) ?_
 rw [Q21]
 refine ⟨⟨hs,okAll_rows.2 fun i hi=>(by rw [Nat.zero_add]; exact hg i hi),rfl,hn⟩,Qag (fun h=>?_) fun h=>Qag (fun h2=>?_) fun h2=>?_⟩
 · have hN:Qb2 (Qgv s n g) s n=0:=by unfold Qb2; rw [h]; rfl
   rw [hN]
   exact ⟨0,⟨rfl,rfl,rfl,rfl⟩,⟨rfl,rfl,trivial⟩,trivial⟩
 · have e0:=(Q26 (s:=zSh) h).2
   obtain ⟨w1,w2⟩:=Quv e0 h2
   rw [e0]
   have hN:Qb2 0 s n=4:=by unfold Qb2; rw [h2]; rfl
   have hG:Qfx s g=Zad s.w s.h:=funext fun i=>by unfold Qfx; rw [h2]; rfl
   rw [hN,hG,Qaj ⟨by omega,by omega⟩,Qaj ⟨by omega,by omega⟩,Int.zero_sub,Int.zero_sub]
   refine ⟨0,rfl,rfl,Nat.le_refl _,fun i hi=>?_⟩
   obtain rfl | rfl | rfl | rfl:i=0∨i=1∨i=2∨i=3:=by omega
   · rfl
   · rfl
   · rfl
   · rfl
 · have e0:=(Q26 (s:=zSh) h).2
   rw [e0]
   have hk:(s.k==2)=false:=h2
   have hN:Qb2 0 s n=n:=by unfold Qb2; rw [hk]; rfl
   have hG:Qfx s g=g:=funext fun i=>by unfold Qfx; rw [hk]; rfl
   rw [hN,hG]
   rw [Nat.zero_add]
   exact ⟨⟨by omega,Nat.le_refl _,fun _ _=>trivial⟩,fun c1=>⟨c1,rfl,rfl,Nat.le_refl _,fun i _=>by show [SV.v (.int .i64 (g (0 + i)).1),SV.v (.int .i64 (g (0 + i)).2)]=_; rw [Nat.zero_add]⟩⟩
theorem Qx8:Qbv Tryz.prog 99 Zdb:=Qb0 hm Za7 Tryz.func99 (Λ:=fun _ _=>Qay) fun args bs e hs hp=>by
 unfold Zdb at hs
 split at hs <;> try (cases hs; done)
 rename_i k r w hh n c b
 cases hb:okB b with
 | false=>rw [hb] at hs; cases hs
 | true =>
 rw [hb] at hs
 cases hs
 obtain ⟨hs,hpre⟩:=hp
 obtain ⟨hn,hg⟩:=Q9q hpre
 exact ⟨[rdB b n (Qc1 b)],⟨Qju hb hpre,trivial⟩,Q8t (s:=⟨k,r,w,hh⟩) hs hn hg⟩
def Qnn (p q:Int×Int):Int:=dotI p.1 p.2 q.1 q.2
noncomputable def rchF (r:Int) (g:Nat→Int×Int):Nat→Int
 | 0=>r
 | k + 1=>max (rchF r g k) (sqUp (Qnn (g k) (g k)):Nat)
def Qne (n:Nat) (g:Nat→Int×Int):Nat→Int
 | 0=>0
 | k + 1=>Qne n g k + Qae (g k) (g ((k + 1) % n))
def Q19 (n:Nat) (g:Nat→Int×Int):Nat→Int
 | 0=>0
 | k + 1=>Q19 n g k + Qae (g k) (g ((k + 1) % n))*(Qnn (g k) (g k) + Qnn (g k) (g ((k + 1) % n)) + Qnn (g ((k + 1) % n)) (g ((k + 1) % n)))
def Zep:NB:=⟨13493037704,false⟩
def Q5t (r d:Int):VB:=⟨Qqp (Qqp (Qrs 65536 (r*r)) Zep) (Qoj d),Qqp (Qqp (Qrs 8589934592 (r*r*r*r)) Zep) (Qoj d)⟩
def Qtl (a m d:Int):VB:=⟨Qqp (Qrs 131072 a) (Qoj d),Qqp (Qrs 51539607552 m) (Qoj d)⟩
def Zli (e d:Int):Int:=bif e != 0 then e else bif decide (d<1)||decide (d > 1000) then 3 else 0
def Zlh (e:Int) (s:ShB) (n:Nat) (g:Nat→Int×Int) (d:Int):VB:=bif Zli e d != 0 then Zbh else bif s.k==1 then Q5t s.r d else Qtl (Qne (Qb2 0 s n) (Qfx s g) (Qb2 0 s n)) (Q19 (Qb2 0 s n) (Qfx s g) (Qb2 0 s n)) d
noncomputable def ΓK0:Qbz:=Qai (Qai (Qai (Zkf) 95 (Qfc Qpr)) 99 (Qcz false Zdb)) 252 (Qao Qvq)
theorem Za5:∀ f g,ΓK0 f=some g→g.ok Tryz.prog f:=Qad (Qad (Qad (Qte) (Qfj Tryz.func95 (by kernel_rfl) (by kernel_rfl) Qkx)) (Qc4 Tryz.func99 (by kernel_rfl) (by kernel_rfl) Qx8)) (Qas Tryz.func252 (by kernel_rfl) (by kernel_rfl) Qkw)
theorem Qzj (n' n:Nat) (g:Nat→Int×Int):Qc1 (Qa1 (Ro.blk {s:=2,n:=n',row:=fun i=>[SV.v (.int .i64 (g i).1),SV.v (.int .i64 (g i).2)]}) 2 0 n)=g:=funext fun i=>by
 show gi [SV.v (.int .i64 (g (0 + i)).1),SV.v (.int .i64 (g (0 + i)).2)]=g i
 rw [Nat.zero_add]; rfl
theorem Qla {n n':Nat} {g:Nat→Int×Int} (hn:n<1099511627776) (hg:∀ i,i<n→I64 (g i).1∧I64 (g i).2):Qcu n (Qa1 (Ro.blk {s:=2,n:=n',row:=fun i=>[SV.v (.int .i64 (g i).1),SV.v (.int .i64 (g i).2)]}) 2 0 n):=Qti hn hg fun _=>rfl
def Q12 (x:Int):Prop:=-4096≤x∧x≤4096
theorem Q12.sp {x:Int} (h:Q12 x):Sp x:=⟨by have:=h.1; omega,by have:=h.2; omega⟩
theorem Zim {p:Int×Int} (h:Qit p=true):Q12 p.1∧Q12 p.2:=by
 unfold Qit Qi7 at h
 simp only [Bool.and_eq_true,decide_eq_true_eq] at h
 exact h
theorem Qvv {x y:Int} (h:Q12 x) (k:Q12 y):-16777216≤x*y∧x*y≤16777216:=by
 obtain ⟨a,b⟩:=h
 obtain ⟨c,d⟩:=k
 have h1:(x + 4096)*(y + 4096) ≥ 0:=Int.mul_nonneg (by omega) (by omega)
 have h2:(4096 - x)*(4096 - y) ≥ 0:=Int.mul_nonneg (by omega) (by omega)
 have h3:(x + 4096)*(4096 - y) ≥ 0:=Int.mul_nonneg (by omega) (by omega)
 have h4:(4096 - x)*(y + 4096) ≥ 0:=Int.mul_nonneg (by omega) (by omega)
 simp only [Int.add_mul,Int.mul_add,Int.sub_mul,Int.mul_sub] at h1 h2 h3 h4
 omega
theorem Q3m {s:ShB} {n:Nat} {g:Nat→Int×Int} (e:Qgv s n g=0):((s.k==1)=true∧16≤s.r∧s.r≤4096∧n=0)∨((s.k==1)=false∧(s.k==2)=true∧s.r=0∧n=0∧(16≤s.w∧s.w≤4096)∧16≤s.h∧s.h≤4096)∨((s.k==1)=false∧(s.k==2)=false∧s.r=0∧3≤n∧n≤8∧(∀ i,i<n→Qit (g i)=true)∧Qfg n g=true):=by
 have e0:=e
 unfold Qgv at e
 cases h1:(s.k==1) with
 | true =>
   rw [h1,cond_true] at e
   cases h2:(s.w != 0||(s.h != 0||(n:Int) != 0)) with
   | true=>rw [h2] at e; cases e
   | false =>
     rw [h2,cond_false] at e
     simp only [Bool.or_eq_false_iff,bne_eq_false_iff_eq] at h2
     cases h3:Qfu s.r with
     | false=>rw [h3] at e; cases e
     | true=>exact .inl ⟨rfl,(Qlh h3).1,(Qlh h3).2,by omega⟩
 | false =>
   cases h2:(s.k==2) with
   | true =>
     obtain ⟨w1,w2⟩:=Quv e0 h2
     rw [h1,h2,cond_false,cond_true] at e
     cases h3:(s.r != 0||(n:Int) != 0) with
     | true=>rw [h3] at e; cases e
     | false =>
       simp only [Bool.or_eq_false_iff,bne_eq_false_iff_eq] at h3
       exact .inr (.inl ⟨rfl,rfl,h3.1,by omega,w1,w2⟩)
   | false =>
     rw [h1,h2,cond_false,cond_false] at e
     cases h3:(s.k==3) with
     | false=>rw [h3] at e; cases e
     | true =>
       rw [h3,cond_true] at e
       cases h4:(s.r != 0||(s.w != 0||(s.h != 0||(decide ((n:Int)<3)||decide ((n:Int) > 8))))) with
       | true=>rw [h4] at e; cases e
       | false =>
         rw [h4,cond_false] at e
         simp only [Bool.or_eq_false_iff,bne_eq_false_iff_eq,decide_eq_false_iff_not] at h4
         cases h5:(List.range n).all (fun i=>Qit (g i)) with
         | false=>rw [h5] at e; cases e
         | true =>
           rw [h5,cond_true] at e
           cases h6:Qfg n g with
           | false=>rw [h6] at e; cases e
           | true=>exact .inr (.inr ⟨rfl,rfl,h4.1,by omega,by omega,fun i hi=>List.all_eq_true.1 h5 i (List.mem_range.2 hi),rfl⟩)
theorem Zjs {s:ShB} {n:Nat} {g:Nat→Int×Int} (e:Qgv s n g=0):∀ i,i<Qb2 0 s n→Q12 (Qfx s g i).1∧Q12 (Qfx s g i).2:=by
 unfold Qb2 Qfx
 rcases Q3m e with ⟨h1,_,_,h4⟩ | ⟨h1,h2,h3,h4,⟨w1,w2⟩,w3,w4⟩ | ⟨h1,h2,h3,h4,h5,h6,_⟩
 · have : (s.k == 2) = false := by have:s.k=1:=by simpa using h1
                                   rw [this]; rfl
   rw [this]
   intro i hi
   have hi:i<n:=hi
   omega
 · rw [h2]
   intro i hi
   have hi:i<4:=hi
   obtain rfl | rfl | rfl | rfl:i=0∨i=1∨i=2∨i=3:=by omega
   · exact ⟨⟨by show -4096≤-s.w; omega,by show -s.w≤4096; omega⟩,by show -4096≤-s.h; omega,by show -s.h≤4096; omega⟩
   · exact ⟨⟨by show -4096≤s.w; omega,by show s.w≤4096; omega⟩,by show -4096≤-s.h; omega,by show -s.h≤4096; omega⟩
   · exact ⟨⟨by show -4096≤s.w; omega,by show s.w≤4096; omega⟩,by show -4096≤s.h; omega,by show s.h≤4096; omega⟩
   · exact ⟨⟨by show -4096≤-s.w; omega,by show -s.w≤4096; omega⟩,by show -4096≤s.h; omega,by show s.h≤4096; omega⟩
 · rw [h2]
   intro i hi
   exact Zim (h6 i hi)
theorem Q29 {p q:Int×Int} (h:Q12 p.1∧Q12 p.2) (k:Q12 q.1∧Q12 q.2):-33554432≤Qnn p q∧Qnn p q≤33554432:=by
 have h1:=Qvv h.1 k.1
 have h2:=Qvv h.2 k.2
 unfold Qnn dotI
 omega
theorem Qwu {p q:Int×Int} (h:Q12 p.1∧Q12 p.2) (k:Q12 q.1∧Q12 q.2):-33554432≤Qae p q∧Qae p q≤33554432:=by
 have h1:=Qvv h.1 k.2
 have h2:=Qvv h.2 k.1
 unfold Qae Qal
 omega
theorem Qpv {a b:Int} {A B C:Int} (ha:-A≤a∧a≤A) (hb:-B≤b∧b≤B) (hC:A*B=C):-C≤a*b∧a*b≤C:=by
 obtain ⟨a1,a2⟩:=ha
 obtain ⟨b1,b2⟩:=hb
 have h1:(a + A)*(b + B) ≥ 0:=Int.mul_nonneg (by omega) (by omega)
 have h2:(A - a)*(B - b) ≥ 0:=Int.mul_nonneg (by omega) (by omega)
 have h3:(a + A)*(B - b) ≥ 0:=Int.mul_nonneg (by omega) (by omega)
 have h4:(A - a)*(b + B) ≥ 0:=Int.mul_nonneg (by omega) (by omega)
 simp only [Int.add_mul,Int.mul_add,Int.sub_mul,Int.mul_sub] at h1 h2 h3 h4
 omega
theorem Q9r {r:Int} (h:0≤r∧r≤4096):(0≤r*r∧r*r≤16777216)∧(0≤r*r*r∧r*r*r≤68719476736)∧0≤r*r*r*r∧r*r*r*r≤281474976710656:=by
 have p1:=Qpv (a:=r) (b:=r) (A:=4096) (B:=4096) ⟨by omega,by omega⟩ ⟨by omega,by omega⟩ rfl
 have n1:0≤r*r:=Int.mul_nonneg h.1 h.1
 have p2:=Qpv (a:=r*r) (b:=r) (A:=16777216) (B:=4096) ⟨by omega,by omega⟩ ⟨by omega,by omega⟩ rfl
 have n2:0≤r*r*r:=Int.mul_nonneg n1 h.1
 have p3:=Qpv (a:=r*r*r) (b:=r) (A:=68719476736) (B:=4096) ⟨by omega,by omega⟩ ⟨by omega,by omega⟩ rfl
 have n3:0≤r*r*r*r:=Int.mul_nonneg n2 h.1
 exact ⟨⟨n1,by omega⟩,⟨n2,by omega⟩,n3,by omega⟩
theorem nd (a b:NB):I64 (Qqp a b).v:=(Qij _ _).i64
def Qgz (n s:Int):NB:=⟨Int.tmod n (IntKind.i64.wrap (s*4294967296)),false⟩
def kitV (x y s:Int):VB:=⟨Qgz x s,Qgz y s⟩
def Qtz:List SV→Option (Option Prop×SV)
 | [.v (.int .i64 n),.v (.int .i64 s)]=>some (some (0<s∧s<1073741824),nS (Qgz n s))
 | _=>none
def Q6j:List SV→Option (Option Prop×SV)
 | [.v (.int .i64 n),.v (.int .i64 m)]=>some (some (I64 n∧0<m∧I64 m),.v (.int .i64 (n % m)))
 | _=>none
theorem Q50 (n s:Int) (R:SV→Prop):(Qbe Tryz.prog Qbi Qay Tryz.f102 [.v (.int .i64 n),.v (.int .i64 s)] R)=((((IntKind.wrap IntKind.i64 (s*4294967296)):Int)≠0)∧(R (SV.agg [(SV.v (.int .i64 (Int.tmod n (IntKind.wrap IntKind.i64 (s*4294967296))))),(SV.v (.bool false))]))):=by kernel_rfl
theorem Zhc (n m:Int) (R:SV→Prop):(Qbe Tryz.prog Qbi Qay Tryz.f11 [.v (.int .i64 n),.v (.int .i64 m)] R)=(((m:Int)≠0)∧(sel (decide (Int.tmod n m<0)) (R (SV.v (.int .i64 (IntKind.wrap IntKind.i64 (Int.tmod n m + m))))) (R (SV.v (.int .i64 (Int.tmod n m)))))):=by kernel_rfl
noncomputable def ΓG1:Qbz:=Qai (ΓK0) 100 (Qao sTo)
noncomputable def ΓG2:Qbz:=ΓG1
noncomputable def ΓG3:Qbz:=Qai (Qai (ΓG2) 102 (Qao Qtz)) 11 (Qao Q6j)
noncomputable def ΓG:Qbz:=ΓG3
theorem Qu8:Qaq Tryz.prog 102 Qtz:=Qax hm Qam Tryz.func102 (Λ:=fun _=>Qay) fun args p x h hp=>by
 unfold Qtz at h
 split at h <;> try (cases h; done)
 rename_i n s
 cases h
 obtain ⟨h0,h1⟩:=hp _ rfl
 refine ⟨rfl,rfl,Eq.mpr (Q50 n s _) ?_⟩
 refine ⟨?_,rfl⟩
 rw [Qaj ⟨by omega,by omega⟩]; omega
theorem Qs6:Qaq Tryz.prog 11 Q6j:=Qax hm Qam Tryz.func11 (Λ:=fun _=>Qay) fun args p x h hp=>by
 unfold Q6j at h
 split at h <;> try (cases h; done)
 rename_i n m
 cases h
 obtain ⟨⟨n0,n1⟩,h0,m0,m1⟩:=hp _ rfl
 refine ⟨rfl,rfl,Eq.mpr (Zhc n m _) ?_⟩
 have hb:=Int.tmod_lt_of_pos n h0
 have ha:-m<Int.tmod n m:=by
   have:=Int.tmod_lt_of_pos (-n) h0
   rw [Int.neg_tmod] at this; omega
 refine ⟨by omega,Qag (fun h=>Qck ?_) fun h=>Qck ?_⟩
 · have h:=of_decide_eq_true h
   rw [Qaj ⟨by omega,by omega⟩]
   have e:=Int.tmod_add_tdiv_mul n m
   have:n=(Int.tmod n m + m) + (Int.tdiv n m - 1)*m:=by rw [Int.sub_mul,Int.one_mul]; omega
   conv=>rhs; rw [this]
   rw [Int.add_mul_emod_self_right,Int.emod_eq_of_lt (by omega) (by omega)]
 · have h:=of_decide_eq_false h
   have e:=Int.tmod_add_tdiv_mul n m
   conv=>rhs; rw [← e]
   rw [Int.add_mul_emod_self_right,Int.emod_eq_of_lt (by omega) (by omega)]
theorem Zba:∀ f g,ΓG1 f=some g→g.ok Tryz.prog f:=Qad (Za5) (Qas Tryz.func100 (by kernel_rfl) (by kernel_rfl) Q8s)
theorem Za9:∀ f g,ΓG2 f=some g→g.ok Tryz.prog f:=Zba
theorem Za8:∀ f g,ΓG3 f=some g→g.ok Tryz.prog f:=Qad (Qad (Za9) (Qas Tryz.func102 (by kernel_rfl) (by kernel_rfl) Qu8)) (Qas Tryz.func11 (by kernel_rfl) (by kernel_rfl) Qs6)
theorem Qy8:∀ f g,ΓG f=some g→g.ok Tryz.prog f:=Za8
end Go.Proofs.YthkihlpeaidlnaaGreat
end
end
section
namespace Go.Proofs.YthkihlpeaidlnaaGreat
open Go.SE Go.RowKit
def iV (n:Int):SV:=.v (.int .i64 n)
def bV (b:Bool):SV:=.v (.bool b)
abbrev zI:SV:=.v (.int .i64 0)
abbrev zF:SV:=.v (.bool false)
abbrev zS:SV:=.v (.slice none 0 0)
abbrev yI (n:Int):SV:=.v (.int .i64 n)
abbrev yF (b:Bool):SV:=.v (.bool b)
abbrev yU (n:Int):SV:=.v (.int .u8 n)
noncomputable def ΓT:Qbz:=ΓG
structure BD where
 s:ShB
 pa:VB
 pr:VB
 v:VB
 w:NB
 m:VB
 st:Int
 asl:Bool
 flt:Bool
 ver:Int
def Zj0:List SV→Option (BD×SV)
 | [.v (.int .i64 k),.v (.int .i64 r),.v (.int .i64 w),.v (.int .i64 h),x,
 .v (.int .i64 p0),.v (.bool f0),.v (.int .i64 p1),.v (.bool f1),.v (.int .i64 p2),.v (.bool f2),.v (.int .i64 p3),.v (.bool f3),
 .v (.int .i64 v0),.v (.bool g0),.v (.int .i64 v1),.v (.bool g1),.v (.int .i64 w0),.v (.bool g2),
 .v (.int .i64 m0),.v (.bool g3),.v (.int .i64 m1),.v (.bool g4),.v (.int .i64 st),.v (.bool asl),.v (.bool flt),.v (.int .i64 ver)] =>
   some (⟨⟨k,r,w,h⟩,⟨⟨p0,f0⟩,⟨p1,f1⟩⟩,⟨⟨p2,f2⟩,⟨p3,f3⟩⟩,⟨⟨v0,g0⟩,⟨v1,g1⟩⟩,⟨w0,g2⟩,⟨⟨m0,g3⟩,⟨m1,g4⟩⟩,st,asl,flt,ver⟩,x)
 | _=>none
theorem sT {b:Bool} {x y:Prop} (h:b=true) (hx:x):sel b x y:=by subst h; exact hx
theorem sF {b:Bool} {x y:Prop} (h:b=false) (hy:y):sel b x y:=by subst h; exact hy
theorem Zgb:∀ f g,ΓT f=some g→g.ok Tryz.prog f:=Qy8
theorem Qq0 {b:Bool} {α:Type _} {x y:α} (h:(bif b then some x else none)=some y):b=true∧x=y:=by
 cases b with
 | true=>cases h; exact ⟨rfl,rfl⟩
 | false=>cases h
theorem Zdl (B:Blk) (n k:Nat) (g:Nat→Int×Int):Qc1 (Qa1 (rdB B n g) 2 0 k)=g:=funext fun i=>by
 show gi [SV.v (.int .i64 (g (0 + i)).1),SV.v (.int .i64 (g (0 + i)).2)]=g i
 rw [Nat.zero_add]; rfl
theorem Zin {B:Blk} {n:Nat} {g:Nat→Int×Int} (hn:n<1099511627776) (hg:∀ i,i<n→I64 (g i).1∧I64 (g i).2):Qcu n (Qa1 (rdB B n g) 2 0 n):=Qti hn hg fun _=>rfl
noncomputable def Zkj:Qbz:=Qai (ΓT) 175 (Qao Q0r)
def Zm2 (a:NB):Int:=(Qaa a.v + 2147483648) / 4294967296
def Qfi (v:VB):Int×Int:=(Zm2 (Qn9 v.x (Qoj 256)),Zm2 (Qn9 v.y (Qoj 256)))
def pS2 (p:Int×Int):SV:=.agg [.v (.int .i64 p.1),.v (.int .i64 p.2)]
def Zmg:List SV→Option (Option Prop×SV)
 | [.agg [.v (.int .i64 a),.v (.bool f),.v (.int .i64 b),.v (.bool g)]]=>some (some (I64 a∧I64 b),pS2 (Qfi ⟨⟨a,f⟩,⟨b,g⟩⟩))
 | _=>none
theorem Zbn (v:VB) (R:SV→Prop):(Qbe Tryz.prog Zkj Qay Tryz.f98 [vS v] R)=((I64 256)∧(((I64 (NB.v (VB.x v)))∧(I64 1099511627776))∧((I64 (NB.v (Qn9 (VB.x v) {v:=1099511627776,f:=false})))∧(((I64 (NB.v (VB.y v)))∧(I64 1099511627776))∧((I64 (NB.v (Qn9 (VB.y v) {v:=1099511627776,f:=false})))∧(R (SV.agg [(yI ((Qaa (NB.v (Qn9 (VB.x v) {v:=1099511627776,f:=false})) + 2147483648) / 4294967296)),(yI ((Qaa (NB.v (Qn9 (VB.y v) {v:=1099511627776,f:=false})) + 2147483648) / 4294967296))]))))))):=by kernel_rfl
def Q91 (a:NB):Bool:=!((Qyt a).f||decide ((Qyt a).v > 17592186044416))
def sIns:List SV→Option (Option Prop×SV)
 | [.agg [.v (.int .i64 a),.v (.bool f)]]=>some (some (I64 a),bV (Q91 ⟨a,f⟩))
 | _=>none
def Zmq:List SV→Option (Option Prop×SV)
 | [.agg [.v (.int .i64 a),.v (.bool f)]]=>some (some (I64 a),bV (!Q91 ⟨a,f⟩))
 | _=>none
theorem Zlu (a:NB) (R:SV→Prop):(Qbe Tryz.prog Zkj Qay Tryz.f97 [nS a] R)=((I64 (NB.v a))∧(sel (NB.f (Qyt a)) (R (yF true)) (R (yF (decide (NB.v (Qyt a) > 17592186044416)))))):=by kernel_rfl
def Qnr (s:ShB) (pa pr:VB) (g:Nat→Int×Int) (i:Nat):Int×Int:=Qfi (Qnh pa (Qh3 pr (Qta (Qfx s g i))))
def fmL (k:Int) (c:Int×Int) (r:Int) (x:SV):List SV:=[.v (.int .i64 k),.v (.int .i64 c.1),.v (.int .i64 c.2),.v (.int .i64 r),x]
def fmS (k:Int) (c:Int×Int) (r:Int) (x:SV):SV:=.agg (fmL k c r x)
def Qrv (s:ShB):Int:=bif s.k==1 then 1 else 2
def Zks (q:Prop) (s:ShB) (pa pr:VB) (n:Nat) (g:Nat→Int×Int):Eff:=.nd q Nat 0 (fun c=>.tup [fmS (Qrv s) (Qfi pa) s.r (.sl 1000 2 0 (Qb2 0 s n) (Qb2 0 s n + c)),iV 0]) fun c=>[(1000,spB (Qb2 0 s n) (Qb2 0 s n + c) (Qnr s pa pr g))]
noncomputable def ΓPl:Qbz:=Qai (Qai (Zkj) 98 (Qao Zmg)) 97 (Qao Zmq)
structure PX where
 k:Nat
 c:Nat
def Zfv (s:ShB) (pa pr:VB) (n:Nat) (g:Nat→Int×Int):Prop:=Qxf s∧(I64 pa.x.v∧I64 pa.y.v)∧(I64 pr.x.v∧I64 pr.y.v)∧Qgv s n g=0∧Q3n pr=0∧Q91 pa.x=true∧Q91 pa.y=true∧Qb2 0 s n<1099511627776
def Zmi (args:List SV) (bs:List Blk):Option Eff:=match args,bs with
 | [.agg [.v (.int .i64 k),.v (.int .i64 r),.v (.int .i64 w),.v (.int .i64 h),.sl 0 2 0 n _],.agg [.v (.int .i64 a),.v (.bool f1),.v (.int .i64 b),.v (.bool f2),.v (.int .i64 c),.v (.bool f3),.v (.int .i64 d),.v (.bool f4)]],[B]=>bif okB B then some (Zks (Zfv ⟨k,r,w,h⟩ ⟨⟨a,f1⟩,⟨b,f2⟩⟩ ⟨⟨c,f3⟩,⟨d,f4⟩⟩ n (Qc1 B)∧Qcu n B) ⟨k,r,w,h⟩ ⟨⟨a,f1⟩,⟨b,f2⟩⟩ ⟨⟨c,f3⟩,⟨d,f4⟩⟩ n (Qc1 B)) else none
 | _,_=>none
theorem Zjg:I64 1099511627776:=⟨by decide,by decide⟩
theorem Ziz:I64 256:=⟨by decide,by decide⟩
theorem Q9y (a b:NB):I64 (Qn9 a b).v:=(Qcg _).i64
theorem Qth:∀ f g,Zkj f=some g→g.ok Tryz.prog f:=Qad (Zgb) (Qas Tryz.func175 (by kernel_rfl) (by kernel_rfl) Qu4)
theorem Qx2:Qaq Tryz.prog 98 Zmg:=Qax hm Qth Tryz.func98 (Λ:=fun _=>Qay) fun args p x h hp=>by
 unfold Zmg at h
 split at h <;> try (cases h; done)
 rename_i a f b g
 cases h
 obtain ⟨h1,h2⟩:=hp _ rfl
 exact ⟨rfl,rfl,Eq.mpr (Zbn ⟨⟨a,f⟩,⟨b,g⟩⟩ _) ⟨Ziz,⟨h1,Zjg⟩,Q9y _ _,⟨h2,Zjg⟩,Q9y _ _,rfl⟩⟩
theorem Q80:Qaq Tryz.prog 97 Zmq:=Qax hm Qth Tryz.func97 (Λ:=fun _=>Qay) fun args p x h hp=>by
 unfold Zmq at h
 split at h <;> try (cases h; done)
 rename_i a f
 cases h
 have h1:I64 a:=hp _ rfl
 refine ⟨rfl,rfl,Eq.mpr (Zlu ⟨a,f⟩ _) ⟨h1,Qag (fun e=>?_) fun e=>?_⟩⟩
 · show bV _=bV (!!((Qyt ⟨a,f⟩).f||decide ((Qyt ⟨a,f⟩).v > 17592186044416)))
   rw [e]; rfl
 · show bV _=bV (!!((Qyt ⟨a,f⟩).f||decide ((Qyt ⟨a,f⟩).v > 17592186044416)))
   rw [e,Bool.not_not]; rfl
theorem Za4:∀ f g,ΓPl f=some g→g.ok Tryz.prog f:=Qad (Qad (Qth) (Qas Tryz.func98 (by kernel_rfl) (by kernel_rfl) Qx2)) (Qas Tryz.func97 (by kernel_rfl) (by kernel_rfl) Q80)
theorem Zjt {s:ShB} {n:Nat} {g:Nat→Int×Int} (hs:Qxf s) (e:Qgv s n g=0) (hg:∀ i,i<n→I64 (g i).1∧I64 (g i).2) (i:Nat) (hi:i<Qb2 0 s n):I64 (Qfx s g i).1∧I64 (Qfx s g i).2:=by
 cases hk:s.k==2 with
 | true =>
   obtain ⟨⟨a1,a2⟩,b1,b2⟩:=Quv e hk
   have hG:Qfx s g i=Zad s.w s.h i:=by unfold Qfx; rw [hk]; rfl
   rw [hG]
   match i with
   | 0=>exact ⟨⟨by show (-9223372036854775808:Int)≤-s.w; omega,by show -s.w<9223372036854775808; omega⟩,⟨by show (-9223372036854775808:Int)≤-s.h; omega,by show -s.h<9223372036854775808; omega⟩⟩
   | 1=>exact ⟨⟨by show (-9223372036854775808:Int)≤s.w; omega,by show s.w<9223372036854775808; omega⟩,⟨by show (-9223372036854775808:Int)≤-s.h; omega,by show -s.h<9223372036854775808; omega⟩⟩
   | 2=>exact ⟨⟨by show (-9223372036854775808:Int)≤s.w; omega,by show s.w<9223372036854775808; omega⟩,⟨by show (-9223372036854775808:Int)≤s.h; omega,by show s.h<9223372036854775808; omega⟩⟩
   | _ + 3=>exact ⟨⟨by show (-9223372036854775808:Int)≤-s.w; omega,by show -s.w<9223372036854775808; omega⟩,⟨by show (-9223372036854775808:Int)≤s.h; omega,by show s.h<9223372036854775808; omega⟩⟩
 | false =>
   have hG:Qfx s g i=g i:=by unfold Qfx; rw [hk]; rfl
   have hN:Qb2 0 s n=n:=by unfold Qb2; rw [hk]; rfl
   rw [hG]; rw [hN] at hi
   exact hg i hi
theorem Zm5 (p:Int×Int):I64 (Qta p).x.v∧I64 (Qta p).y.v:=⟨Q1f _ _,Q1f _ _⟩
theorem Zj9 (u v:VB):I64 (Qnh u v).x.v∧I64 (Qnh u v).y.v:=⟨(Qcg _).i64,(Qcg _).i64⟩
theorem neF {x:Int} (h:x=0):(x != 0)=false:=by rw [h]; rfl
noncomputable def Zk9:Qbz:=Qai ΓPl 96 (Qao Zmw)
noncomputable def Qyu (s:ShB) (pa pr:VB) (n:Nat) (g:Nat→Int×Int):Nat→Option LoopSpec :=
 Qo3 (Qlx Qay Tryz.f35 0 PX (fun x=>x.k≤Qb2 0 s n∧x.k≤x.c) (fun x=>Qb2 0 s n - x.k) [(9,fun x=>.v (.int .i64 x.k))] [(440,fun x=>Qct 35 (fmL 2 (Qfi pa) 0 (.sl 40 2 0 x.k x.c)))] [(40,fun x=>spB x.k x.c (Qnr s pa pr g),Zej 440 4)])
   15 [(0,fun _=>[440]),(1,fun _=>[440]),(11,fun nx=>[40,nx + 80]),(12,fun _=>[440]),(13,fun _=>[440])]
@[reducible] noncomputable def Qpf (s:ShB) (pa:VB) (pr:VB) (B:Blk) (n:Nat) (g:Nat→Int×Int):=((I64 (NB.v (VB.x pa)))∧(sel (!Q91 (VB.x pa)) (∃ c_1:Nat,(((((SV.v (.int .i64 0))=(SV.v (.int .i64 (Qrv s))))∧(((SV.v (.int .i64 0))=(SV.v (.int .i64 (Prod.fst (Qfi pa)))))∧(((SV.v (.int .i64 0))=(SV.v (.int .i64 (Prod.snd (Qfi pa)))))∧(((SV.v (.int .i64 0))=(SV.v (.int .i64 (ShB.r s))))∧(((SV.v (Value.slice none 0 0))=(SV.v (Value.slice none 0 0)))∧(((0:Nat)=0)∧((((Qb2 0 s n):Nat)=0)∧(((Qb2 0 s n + c_1):Nat)=0))))))))∧((SV.v (.int .i64 3))=(SV.v (.int .i64 0))))∧(((((Qb2 0 s n):Nat)=0)∧((((Qb2 0 s n + c_1):Nat)=0)∧True))∧True))) ((I64 (NB.v (VB.y pa)))∧(sel (!Q91 (VB.y pa)) (∃ c_1:Nat,(((((SV.v (.int .i64 0))=(SV.v (.int .i64 (Qrv s))))∧(((SV.v (.int .i64 0))=(SV.v (.int .i64 (Prod.fst (Qfi pa)))))∧(((SV.v (.int .i64 0))=(SV.v (.int .i64 (Prod.snd (Qfi pa)))))∧(((SV.v (.int .i64 0))=(SV.v (.int .i64 (ShB.r s))))∧(((SV.v (Value.slice none 0 0))=(SV.v (Value.slice none 0 0)))∧(((0:Nat)=0)∧((((Qb2 0 s n):Nat)=0)∧(((Qb2 0 s n + c_1):Nat)=0))))))))∧((SV.v (.int .i64 3))=(SV.v (.int .i64 0))))∧(((((Qb2 0 s n):Nat)=0)∧((((Qb2 0 s n + c_1):Nat)=0)∧True))∧True))) (sel (ShB.k s==1) (((I64 (NB.v (VB.x pa)))∧(I64 (NB.v (VB.y pa))))∧(∃ c_1:Nat,(((((SV.v (.int .i64 1))=(SV.v (.int .i64 (Qrv s))))∧(((SV.v (.int .i64 (Prod.fst (Qfi pa))))=(SV.v (.int .i64 (Prod.fst (Qfi pa)))))∧(((SV.v (.int .i64 (Prod.snd (Qfi pa))))=(SV.v (.int .i64 (Prod.snd (Qfi pa)))))∧(((SV.v (.int .i64 (ShB.r s)))=(SV.v (.int .i64 (ShB.r s))))∧(((SV.v (Value.slice none 0 0))=(SV.v (Value.slice none 0 0)))∧(((0:Nat)=0)∧((((Qb2 0 s n):Nat)=0)∧(((Qb2 0 s n + c_1):Nat)=0))))))))∧((SV.v (.int .i64 0))=(SV.v (.int .i64 0))))∧(((((Qb2 0 s n):Nat)=0)∧((((Qb2 0 s n + c_1):Nat)=0)∧True))∧True)))) (((I64 (NB.v (VB.x pa)))∧(I64 (NB.v (VB.y pa))))∧(((Qxf s)∧(Qcu n (Qa1 (rdB B n g) 2 0 n)))∧(∀ c_1:Nat,((∃ x:PX,(((((PX.k x):Nat)≤(Qb2 0 s n))∧(((PX.k x):Nat)≤(PX.c x)))∧(((SV.v (.int .i64 0))=(SV.v (.int .i64 ((↑(PX.k x):Int)))))∧((((1:Nat)=1)∧(((1:Nat)≤1)∧(((SV.v (.int .i64 2))=(SV.v (.int .i64 2)))∧(((SV.v (.int .i64 (Prod.fst (Qfi pa))))=(SV.v (.int .i64 (Prod.fst (Qfi pa)))))∧(((SV.v (.int .i64 (Prod.snd (Qfi pa))))=(SV.v (.int .i64 (Prod.snd (Qfi pa)))))∧(((SV.v (.int .i64 0))=(SV.v (.int .i64 0)))∧(((SV.v (Value.slice none 0 0))=(SV.v (Value.slice none 0 0)))∧(((0:Nat)=0)∧((((PX.k x):Nat)=0)∧(((PX.c x):Nat)=0))))))))))∧(((((PX.k x):Nat)=0)∧((((PX.c x):Nat)=0)∧True))∧True)))))∧(∀ x:PX,(((((PX.k x):Nat)≤(Qb2 0 s n))∧(((PX.k x):Nat)≤(PX.c x)))→(sel (decide ((↑(PX.k x):Int)<(↑(Qb2 (Qgv s n (Qc1 (Qa1 (rdB B n g) 2 0 n))) s n):Int))) ((((0:Int)≤((↑(PX.k x):Int)))∧((((↑(PX.k x):Int)):Int)<((↑(Qb2 (Qgv s n (Qc1 (Qa1 (rdB B n g) 2 0 n))) s n):Int))))∧(((I64 (Prod.fst (Qfx s (Qc1 (Qa1 (rdB B n g) 2 0 n)) (0 + Int.toNat (↑(PX.k x):Int)))))∧(I64 (Prod.snd (Qfx s (Qc1 (Qa1 (rdB B n g) 2 0 n)) (0 + Int.toNat (↑(PX.k x):Int))))))∧((((I64 (NB.v (VB.x pa)))∧(I64 (NB.v (VB.y pa))))∧(((I64 (NB.v (VB.x pr)))∧(I64 (NB.v (VB.y pr))))∧((I64 (NB.v (VB.x (Qta (Prod.fst (Qfx s (Qc1 (Qa1 (rdB B n g) 2 0 n)) (0 + Int.toNat (↑(PX.k x):Int))),Prod.snd (Qfx s (Qc1 (Qa1 (rdB B n g) 2 0 n)) (0 + Int.toNat (↑(PX.k x):Int))))))))∧(I64 (NB.v (VB.y (Qta (Prod.fst (Qfx s (Qc1 (Qa1 (rdB B n g) 2 0 n)) (0 + Int.toNat (↑(PX.k x):Int))),Prod.snd (Qfx s (Qc1 (Qa1 (rdB B n g) 2 0 n)) (0 + Int.toNat (↑(PX.k x):Int)))))))))))∧(((I64 (NB.v (VB.x (Qnh pa (Qh3 pr (Qta (Prod.fst (Qfx s (Qc1 (Qa1 (rdB B n g) 2 0 n)) (0 + Int.toNat (↑(PX.k x):Int))),Prod.snd (Qfx s (Qc1 (Qa1 (rdB B n g) 2 0 n)) (0 + Int.toNat (↑(PX.k x):Int))))))))))∧(I64 (NB.v (VB.y (Qnh pa (Qh3 pr (Qta (Prod.fst (Qfx s (Qc1 (Qa1 (rdB B n g) 2 0 n)) (0 + Int.toNat (↑(PX.k x):Int))),Prod.snd (Qfx s (Qc1 (Qa1 (rdB B n g) 2 0 n)) (0 + Int.toNat (↑(PX.k x):Int)))))))))))∧((((((PX.k x + 1)*16):Nat)≤140737488355328)∧((((0 + PX.c x):Nat)≤(PX.c x))∧(∀ y:Nat,(((y:Nat)<1)→True))))∧(∀ c_2:Nat,(∃ x':PX,((((((PX.k x'):Nat)≤(Qb2 0 s n))∧(((PX.k x'):Nat)≤(PX.c x')))∧(((SV.v (.int .i64 (IntKind.wrap IntKind.i64 ((↑(PX.k x):Int) + 1))))=(SV.v (.int .i64 ((↑(PX.k x'):Int)))))∧((((1:Nat)=1)∧(((1:Nat)≤1)∧(((SV.v (.int .i64 2))=(SV.v (.int .i64 2)))∧(((SV.v (.int .i64 (Prod.fst (Qfi pa))))=(SV.v (.int .i64 (Prod.fst (Qfi pa)))))∧(((SV.v (.int .i64 (Prod.snd (Qfi pa))))=(SV.v (.int .i64 (Prod.snd (Qfi pa)))))∧(((SV.v (.int .i64 0))=(SV.v (.int .i64 0)))∧((SV.sl 608 2 0 (PX.k x + 1) (PX.k x + 1 + c_2))=(SV.sl 608 2 0 (PX.k x') (PX.c x')))))))))∧((((PX.k x + 1):Nat)=(PX.k x'))∧((((PX.c x'):Nat)≤(PX.k x + 1 + c_2))∧(∀ i:Nat,(((i:Nat)<(PX.k x'))→([(SV.v (.int .i64 (bop (Nat.blt i (PX.k x)) (Prod.fst (Qnr s pa pr g (0 + i))) (Prod.fst (Qfi (Qnh pa (Qh3 pr (Qta (Prod.fst (Qfx s (Qc1 (Qa1 (rdB B n g) 2 0 n)) (0 + Int.toNat (↑(PX.k x):Int))),Prod.snd (Qfx s (Qc1 (Qa1 (rdB B n g) 2 0 n)) (0 + Int.toNat (↑(PX.k x):Int)))))))))))),(SV.v (.int .i64 (bop (Nat.blt i (PX.k x)) (Prod.snd (Qnr s pa pr g (0 + i))) (Prod.snd (Qfi (Qnh pa (Qh3 pr (Qta (Prod.fst (Qfx s (Qc1 (Qa1 (rdB B n g) 2 0 n)) (0 + Int.toNat (↑(PX.k x):Int))),Prod.snd (Qfx s (Qc1 (Qa1 (rdB B n g) 2 0 n)) (0 + Int.toNat (↑(PX.k x):Int))))))))))))]=[(SV.v (.int .i64 (Prod.fst (Qnr s pa pr g i)))),(SV.v (.int .i64 (Prod.snd (Qnr s pa pr g i))))]))))))))∧(((Qb2 0 s n - PX.k x'):Nat)<(Qb2 0 s n - PX.k x)))))))))) (∃ c_2:Nat,(((((SV.v (.int .i64 2))=(SV.v (.int .i64 (Qrv s))))∧(((SV.v (.int .i64 (Prod.fst (Qfi pa))))=(SV.v (.int .i64 (Prod.fst (Qfi pa)))))∧(((SV.v (.int .i64 (Prod.snd (Qfi pa))))=(SV.v (.int .i64 (Prod.snd (Qfi pa)))))∧(((SV.v (.int .i64 0))=(SV.v (.int .i64 (ShB.r s))))∧((SV.sl 40 2 0 (PX.k x) (PX.c x))=(SV.sl 40 2 0 (Qb2 0 s n) (Qb2 0 s n + c_2)))))))∧((SV.v (.int .i64 0))=(SV.v (.int .i64 0))))∧((((PX.k x):Nat)=(Qb2 0 s n))∧((((Qb2 0 s n + c_2):Nat)≤(PX.c x))∧(∀ i:Nat,(((i:Nat)<(Qb2 0 s n))→([(SV.v (.int .i64 (Prod.fst (Qnr s pa pr g i)))),(SV.v (.int .i64 (Prod.snd (Qnr s pa pr g i))))]=[(SV.v (.int .i64 (Prod.fst (Qnr s pa pr g i)))),(SV.v (.int .i64 (Prod.snd (Qnr s pa pr g i))))])))))))))))))))))))
@[reducible] noncomputable def Qpe (s:ShB) (pa:VB) (T_:Prop):Prop:=((SV.v (.int .i64 0))=(SV.v (.int .i64 (Qrv s))))∧(((SV.v (.int .i64 0))=(SV.v (.int .i64 (Prod.fst (Qfi pa)))))∧(((SV.v (.int .i64 0))=(SV.v (.int .i64 (Prod.snd (Qfi pa)))))∧(((SV.v (.int .i64 0))=(SV.v (.int .i64 (ShB.r s))))∧(((SV.v (Value.slice none 0 0))=(SV.v (Value.slice none 0 0)))∧(((0:Nat)=0)∧(T_))))))
theorem Zgp (s:ShB) (pa pr:VB) (q:Prop) (B:Blk) (n c:Nat) (g:Nat→Int×Int):(Qcf Tryz.prog Zk9 (Qyu s pa pr n g) Tryz.f35 [shS s (.sl 0 2 0 n c),pS pa pr] (Qaf [rdB B n g]) 64 (fun y h'=>Qgb [rdB B n g] (Zks q s pa pr n g) y h')) =
(((Qxf s)∧((Qe3 Zef (Qau n fun y=>[yI (Prod.fst (g (0 + y))),yI (Prod.snd (g (0 + y)))]))∧(((n:Nat)=n)∧((n:Nat)<1099511627776))))∧(sel ((Qgv s n fun i=>gi [yI (Prod.fst (g (0 + i))),yI (Prod.snd (g (0 + i)))])==0) (((I64 (NB.v (VB.x pr)))∧(I64 (NB.v (VB.y pr))))∧(sel (Q3n pr != 0) (∃ c_1:Nat,(((Qpe s pa ((((Qb2 0 s n):Nat)=0)∧(((Qb2 0 s n + c_1):Nat)=0)))∧((yI (Q3n pr))=(yI 0)))∧(((((Qb2 0 s n):Nat)=0)∧((((Qb2 0 s n + c_1):Nat)=0)∧True))∧True))) (Qpf s pa pr B n g))) (sel ((Qgv s n fun i=>gi [yI (Prod.fst (g (0 + i))),yI (Prod.snd (g (0 + i)))]) != 0) (∃ c_1:Nat,(((Qpe s pa ((((Qb2 0 s n):Nat)=0)∧(((Qb2 0 s n + c_1):Nat)=0)))∧((yI (Qgv s n fun i=>gi [yI (Prod.fst (g (0 + i))),yI (Prod.snd (g (0 + i)))]))=(yI 0)))∧(((((Qb2 0 s n):Nat)=0)∧((((Qb2 0 s n + c_1):Nat)=0)∧True))∧True))) (Qpf s pa pr B n g)))):=by kernel_rfl
def sForm (args:List SV) (bs:List Blk):Option Eff:=match args,bs with
 | [.agg l],[B]=>match Zj0 l with
   | some (b,.sl 0 2 0 n _)=>bif okB B then some (Zks (Zfv b.s b.pa b.pr n (Qc1 B)∧Qcu n B) b.s b.pa b.pr n (Qc1 B)) else none
   | _=>none
 | _,_=>none
theorem Q4e:Qaq Tryz.prog 96 Zmw:=Qax hm Qte Tryz.func96 (Λ:=fun _=>Qay) fun args p x h hp=>by
 unfold Zmw at h
 split at h <;> try (cases h; done)
 rename_i a f b g
 cases h
 obtain ⟨h0,k0⟩:=hp _ rfl
 refine ⟨rfl,rfl,?_⟩
 refine Eq.mpr (Zgz ⟨⟨a,f⟩,⟨b,g⟩⟩ _) ?_
 have hd:=Zew ⟨⟨a,f⟩,⟨b,g⟩⟩
 have bx:∀ t,Zaf ⟨⟨a,f⟩,⟨b,g⟩⟩=t→(Qa8 a f||Qa8 b g)=t:=fun t h=>h
 refine ⟨⟨⟨h0,h0⟩,k0,k0⟩,h0,Qag (fun e=>Qck ?_) fun e=>⟨k0,Qag (fun e'=>Qck ?_) fun e'=>?_⟩⟩
 · have e:Qa8 a f=true:=e
   unfold Q3n Zaf; rw [show Qa8 (⟨⟨a,f⟩,⟨b,g⟩⟩:VB).x.v (⟨⟨a,f⟩,⟨b,g⟩⟩:VB).x.f=true from e]; rfl
 · have e':Qa8 b g=true:=e'
   unfold Q3n Zaf; rw [show Qa8 (⟨⟨a,f⟩,⟨b,g⟩⟩:VB).y.v (⟨⟨a,f⟩,⟨b,g⟩⟩:VB).y.f=true from e',Bool.or_true]; rfl
 · have e0:Zaf ⟨⟨a,f⟩,⟨b,g⟩⟩=false:=by
     show (Qa8 a f||Qa8 b g)=false
     rw [show Qa8 a f=false from e,show Qa8 b g=false from e']; rfl
   unfold Q3n; rw [e0,cond_false]
   generalize (Qq8 (⟨⟨a,f⟩,⟨b,g⟩⟩:VB).x (⟨⟨a,f⟩,⟨b,g⟩⟩:VB).x (⟨⟨a,f⟩,⟨b,g⟩⟩:VB).y (⟨⟨a,f⟩,⟨b,g⟩⟩:VB).y).v=n at *
   rw [Qaj (n:=n - 4294967296) ⟨by omega,by omega⟩,Qaj (n:=4294967296 - n) ⟨by omega,by omega⟩]
   refine Qag (fun e1=>Qck ?_) fun e1=>Qag (fun e2=>Qck ?_) fun e2=>Qck ?_
   · rw [show decide (n - 4294967296 > 65536)=true from e1]; rfl
   · rw [show decide (4294967296 - n > 65536)=true from e2,Bool.or_true]; rfl
   · rw [show decide (n - 4294967296 > 65536)=false from e1,show decide (4294967296 - n > 65536)=false from e2]; rfl
theorem Za1:∀ f g,Zk9 f=some g→g.ok Tryz.prog f:=Qad Za4 (Qas Tryz.func96 (by kernel_rfl) (by kernel_rfl) Q4e)
theorem Q6x {s:ShB} {n:Nat} {g:Nat→Int×Int} (hc:Qgv s n g=0) (hk1:(s.k==1)=true):Qb2 0 s n=0:=by
 have e1:s.k=1:=by simpa using hk1
 have e2:(s.k==2)=false:=by rw [e1]; rfl
 unfold Qgv at hc
 rw [hk1,cond_true] at hc
 unfold Qb2
 rw [e2]
 show n=0
 cases h4:(s.w != 0||(s.h != 0||((n:Int)) != 0)) with
 | true=>rw [h4] at hc; cases hc
 | false =>
   simp only [Bool.or_eq_false_iff,bne_eq_false_iff_eq] at h4
   omega
theorem Zm3 {s:ShB} {n:Nat} {g:Nat→Int×Int} (hc:Qgv s n g=0) (hk1:(s.k==1)=false):s.r=0:=by
 unfold Qgv at hc
 rw [hk1,cond_false] at hc
 by_cases hr:s.r=0
 · exact hr
 · have e:(s.r != 0)=true:=by simpa using hr
   rw [e] at hc
   simp only [Bool.true_or,cond_true] at hc
   cases h2:s.k==2 with
   | true=>rw [h2] at hc; cases hc
   | false =>
     rw [h2,cond_false] at hc
     cases h3:s.k==3 with
     | true=>rw [h3] at hc; cases hc
     | false=>rw [h3] at hc; cases hc
theorem Zfm {s:ShB} {pa pr:VB} {q:Prop} {B:Blk} {n c:Nat} {g:Nat→Int×Int} (h:Zfv s pa pr n g) (hn:n<1099511627776) (hg:∀ i,i<n→I64 (g i).1∧I64 (g i).2):Qcf Tryz.prog Zk9 (Qyu s pa pr n g) Tryz.f35 [shS s (.sl 0 2 0 n c),pS pa pr] (Qaf [rdB B n g]) 64 (fun y h'=>Qgb [rdB B n g] (Zks q s pa pr n g) y h'):=by
 obtain ⟨hs,⟨ha1,ha2⟩,⟨hr1,hr2⟩,hc,hv,hi1,hi2,hN⟩:=h
 have h_vc:=Zgp s pa pr q B n c g
 repeat (first | unfold Qpe at h_vc | unfold Qpf at h_vc)
 refine Eq.mpr h_vc ?_
 rw [Q21]
 refine ⟨⟨hs,okAll_rows.2 fun i hi=>(by rw [Nat.zero_add]; exact hg i hi),rfl,hn⟩,sT (by rw [hc]; rfl) ⟨⟨hr1,hr2⟩,sF (neF hv) ⟨ha1,sF (by rw [hi1]; rfl) ⟨ha2,sF (by rw [hi2]; rfl) ?_⟩⟩⟩⟩
 rw [Zdl,hc]
 refine Qag (fun hk1=>⟨⟨ha1,ha2⟩,?_⟩) fun hk=>⟨⟨ha1,ha2⟩,⟨hs,Zin hn hg⟩,fun c1=>⟨⟨⟨0,0⟩,⟨Nat.zero_le _,Nat.le_refl _⟩,rfl,⟨rfl,Nat.le_refl _,rfl,rfl,rfl,rfl,rfl,rfl,rfl,rfl⟩,⟨rfl,rfl,trivial⟩,trivial⟩,fun x ⟨x1,x2⟩=>?_⟩⟩
 · have hK:Qrv s=1:=by unfold Qrv; rw [hk1]; rfl
   rw [Q6x hc hk1,hK]
   exact ⟨0,⟨⟨rfl,rfl,rfl,rfl,rfl,rfl,rfl,rfl⟩,rfl⟩,⟨rfl,rfl,trivial⟩,trivial⟩
 · have hK:Qrv s=2:=by
     have:(s.k==1)=false:=hk
     unfold Qrv; rw [this]; rfl
   refine Qag (fun hlt=>?_) fun hge=>?_
   · have hlt:=of_decide_eq_true hlt
     have hkN:x.k<Qb2 0 s n:=by omega
     have hg1:=Zjt hs hc hg x.k hkN
     have hw:IntKind.i64.wrap ((x.k:Int) + 1)=((x.k + 1:Nat):Int):=by rw [Qaj ⟨by omega,by omega⟩]; omega
     rw [Int.toNat_natCast,hw,Nat.zero_add,Nat.zero_add]
     refine ⟨⟨by omega,hlt⟩,hg1,⟨⟨ha1,ha2⟩,⟨hr1,hr2⟩,Zm5 (Qfx s g x.k)⟩,Zj9 pa (Qh3 pr (Qta (Qfx s g x.k))),⟨by omega,Nat.le_refl _,fun _ _=>trivial⟩,fun c2=>⟨⟨x.k + 1,x.k + 1 + c2⟩,⟨⟨hkN,Nat.le_add_right _ _⟩,rfl,⟨rfl,Nat.le_refl _,rfl,rfl,rfl,rfl,rfl⟩,rfl,Nat.le_refl _,fun i hi=>?_⟩,by show Qb2 0 s n - (x.k + 1)<Qb2 0 s n - x.k; omega⟩⟩
     rw [Nat.zero_add]
     have hi':i<x.k + 1:=hi
     cases hb:Nat.blt i x.k with
     | true=>rfl
     | false =>
       have:¬ i<x.k:=fun hh=>by rw [show Nat.blt i x.k=true from Nat.ble_eq_true_of_le hh] at hb; cases hb
       obtain rfl:i=x.k:=by omega
       rfl
   · have hge:=of_decide_eq_false hge
     have hkN:x.k=Qb2 0 s n:=by omega
     exact ⟨x.c - Qb2 0 s n,⟨⟨by rw [hK],rfl,rfl,by rw [Zm3 hc hk],by rw [show Qb2 0 s n + (x.c - Qb2 0 s n)=x.c by omega,hkN]⟩,rfl⟩,hkN,by omega,fun i _=>rfl⟩
theorem Q38:Qbv Tryz.prog 35 Zmi:=Qb0 hm Za1 Tryz.func35 (Λ:=fun args bs=>match args,bs with
 | [.agg [.v (.int .i64 k),.v (.int .i64 r),.v (.int .i64 w),.v (.int .i64 h),.sl 0 2 0 n _],.agg [.v (.int .i64 a),.v (.bool f1),.v (.int .i64 b),.v (.bool f2),.v (.int .i64 c),.v (.bool f3),.v (.int .i64 d),.v (.bool f4)]],[B]=>Qyu ⟨k,r,w,h⟩ ⟨⟨a,f1⟩,⟨b,f2⟩⟩ ⟨⟨c,f3⟩,⟨d,f4⟩⟩ n (Qc1 B)
 | _,_=>Qay) fun args bs e hs hp=>by
 unfold Zmi at hs
 split at hs <;> try (cases hs; done)
 rename_i k r w h n cp a f1 b f2 c f3 d f4 B
 obtain ⟨hB,he⟩:=Qq0 hs
 subst he
 obtain ⟨hq,hpre⟩:Zfv _ _ _ n (Qc1 B)∧Qcu n B:=hp
 obtain ⟨hn,hg⟩:=Q9q hpre
 exact ⟨[rdB B n (Qc1 B)],⟨Qju hB hpre,trivial⟩,Zfm (s:=⟨k,r,w,h⟩) (pa:=⟨⟨a,f1⟩,⟨b,f2⟩⟩) (pr:=⟨⟨c,f3⟩,⟨d,f4⟩⟩) hq hn hg⟩
theorem Qey {n:Nat} {g:Nat→Int×Int} {k:Nat} {A B C D:Int} (hk:k<n) (h1:0<Qae (g k) (g ((k + 1) % n)))
   (he:((Qar (g ((k + 1) % n)) (g k)).1≤A∧-(Qar (g ((k + 1) % n)) (g k)).1≤A)∧(Qar (g ((k + 1) % n)) (g k)).2≤B∧-(Qar (g ((k + 1) % n)) (g k)).2≤B)
   (hf:((Qar (g ((k + 2) % n)) (g ((k + 1) % n))).1≤C∧-(Qar (g ((k + 2) % n)) (g ((k + 1) % n))).1≤C)∧(Qar (g ((k + 2) % n)) (g ((k + 1) % n))).2≤D∧-(Qar (g ((k + 2) % n)) (g ((k + 1) % n))).2≤D)
   (h2:4*(A + B + C + D)≤Qae (Qar (g ((k + 1) % n)) (g k)) (Qar (g ((k + 2) % n)) (g ((k + 1) % n))))
   (h3:∀ m,2≤m→m<n→0<Qae (Qar (g ((k + 1) % n)) (g k)) (Qar (g ((k + m) % n)) (g k))):okC n g k=true:=by
 have hR:(List.range n).all (okR n g k)=true:=Q9v hk fun m m2 hm=>by
   have:=h3 m m2 hm
   unfold okS
   rw [Bool.not_eq_true',decide_eq_false_iff_not]
   omega
 have hE:okE n g k=true:=by
   unfold okE Q0f Qma
   rw [Bool.and_eq_true,Bool.not_eq_true',Bool.not_eq_true',decide_eq_false_iff_not,decide_eq_false_iff_not]
   omega
 unfold okC
 rw [hE,hR]
 rfl
def G3 (k h:Int):Nat→Int×Int
 | 0=>(-k,-h)
 | 1=>(k,-h)
 | _=>(0,h)
def G5 (k h a:Int):Nat→Int×Int
 | 0=>(-a,-h)
 | 1=>(a,-h)
 | 2=>(k,0)
 | 3=>(0,h)
 | _=>(-k,0)
def G8 (k a:Int):Nat→Int×Int
 | 0=>(k,-a)
 | 1=>(k,a)
 | 2=>(a,k)
 | 3=>(-a,k)
 | 4=>(-k,a)
 | 5=>(-k,-a)
 | 6=>(-a,-k)
 | _=>(a,-k)
theorem Ze9 {k h:Int} (hk:64≤k∧k≤4096) (hh:64≤h∧h≤4096):Qfg 3 (G3 k h)=true:=by
 have p1:64*k≤k*h:=by have:=Int.mul_le_mul_of_nonneg_left hh.1 (show (0:Int)≤k by omega); grind
 have p2:64*h≤k*h:=Int.mul_le_mul_of_nonneg_right hk.1 (by omega)
 refine Qng fun j hj=>?_
 have hj':j=0∨j=1∨j=2:=by omega
 rcases hj' with rfl | rfl | rfl
 · refine Qey (A:=2*k) (B:=0) (C:=1*k) (D:=2*h) (by omega) ?_ ?_ ?_ ?_ ?_
   · show 0<Qae (-k,-h) (k,-h)
     unfold Qae Qal
     grind
   · show (((k,-h).1 - (-k,-h).1≤_∧-((k,-h).1 - (-k,-h).1)≤_)∧(k,-h).2 - (-k,-h).2≤_∧-((k,-h).2 - (-k,-h).2)≤_)
     simp only
     omega
   · show ((((0:Int),h).1 - (k,-h).1≤_∧-(((0:Int),h).1 - (k,-h).1)≤_)∧((0:Int),h).2 - (k,-h).2≤_∧-(((0:Int),h).2 - (k,-h).2)≤_)
     simp only
     omega
   · show _≤Qae (Qar (k,-h) (-k,-h)) (Qar (0,h) (k,-h))
     unfold Qae Qal Qar
     grind
   · intro m m2 hm
     have hm':m=2:=by omega
     rcases hm' with rfl
     · show 0<Qae (Qar (k,-h) (-k,-h)) (Qar (0,h) (-k,-h))
       unfold Qae Qal Qar
       grind
 · refine Qey (A:=1*k) (B:=2*h) (C:=1*k) (D:=2*h) (by omega) ?_ ?_ ?_ ?_ ?_
   · show 0<Qae (k,-h) (0,h)
     unfold Qae Qal
     grind
   · show ((((0:Int),h).1 - (k,-h).1≤_∧-(((0:Int),h).1 - (k,-h).1)≤_)∧((0:Int),h).2 - (k,-h).2≤_∧-(((0:Int),h).2 - (k,-h).2)≤_)
     simp only
     omega
   · show (((-k,-h).1 - ((0:Int),h).1≤_∧-((-k,-h).1 - ((0:Int),h).1)≤_)∧(-k,-h).2 - ((0:Int),h).2≤_∧-((-k,-h).2 - ((0:Int),h).2)≤_)
     simp only
     omega
   · show _≤Qae (Qar (0,h) (k,-h)) (Qar (-k,-h) (0,h))
     unfold Qae Qal Qar
     grind
   · intro m m2 hm
     have hm':m=2:=by omega
     rcases hm' with rfl
     · show 0<Qae (Qar (0,h) (k,-h)) (Qar (-k,-h) (k,-h))
       unfold Qae Qal Qar
       grind
 · refine Qey (A:=1*k) (B:=2*h) (C:=2*k) (D:=0) (by omega) ?_ ?_ ?_ ?_ ?_
   · show 0<Qae (0,h) (-k,-h)
     unfold Qae Qal
     grind
   · show (((-k,-h).1 - ((0:Int),h).1≤_∧-((-k,-h).1 - ((0:Int),h).1)≤_)∧(-k,-h).2 - ((0:Int),h).2≤_∧-((-k,-h).2 - ((0:Int),h).2)≤_)
     simp only
     omega
   · show (((k,-h).1 - (-k,-h).1≤_∧-((k,-h).1 - (-k,-h).1)≤_)∧(k,-h).2 - (-k,-h).2≤_∧-((k,-h).2 - (-k,-h).2)≤_)
     simp only
     omega
   · show _≤Qae (Qar (-k,-h) (0,h)) (Qar (k,-h) (-k,-h))
     unfold Qae Qal Qar
     grind
   · intro m m2 hm
     have hm':m=2:=by omega
     rcases hm' with rfl
     · show 0<Qae (Qar (-k,-h) (0,h)) (Qar (k,-h) (0,h))
       unfold Qae Qal Qar
       grind
theorem Ze8 {k h a:Int} (hk:64≤k∧k≤4096) (hh:64≤h∧h≤4096) (ha:2*a≤k∧k≤2*a + 1):Qfg 5 (G5 k h a)=true:=by
 have p1:64*k≤k*h:=by have:=Int.mul_le_mul_of_nonneg_left hh.1 (show (0:Int)≤k by omega); grind
 have p2:64*h≤k*h:=Int.mul_le_mul_of_nonneg_right hk.1 (by omega)
 have p3:64*a≤a*h:=by have:=Int.mul_le_mul_of_nonneg_left hh.1 (show (0:Int)≤a by omega); grind
 have p4:32*h≤a*h:=Int.mul_le_mul_of_nonneg_right (by omega) (by omega)
 have p5:2*(a*h)≤k*h:=by have:=Int.mul_le_mul_of_nonneg_right ha.1 (show (0:Int)≤h by omega); grind
 have p6:k*h≤2*(a*h) + h:=by have:=Int.mul_le_mul_of_nonneg_right ha.2 (show (0:Int)≤h by omega); grind
 refine Qng fun j hj=>?_
 have hj':j=0∨j=1∨j=2∨j=3∨j=4:=by omega
 rcases hj' with rfl | rfl | rfl | rfl | rfl
 · refine Qey (A:=2*a) (B:=0) (C:=1*k + (-1)*a) (D:=1*h) (by omega) ?_ ?_ ?_ ?_ ?_
   · show 0<Qae (-a,-h) (a,-h)
     unfold Qae Qal
     grind
   · show (((a,-h).1 - (-a,-h).1≤_∧-((a,-h).1 - (-a,-h).1)≤_)∧(a,-h).2 - (-a,-h).2≤_∧-((a,-h).2 - (-a,-h).2)≤_)
     simp only
     omega
   · show (((k,(0:Int)).1 - (a,-h).1≤_∧-((k,(0:Int)).1 - (a,-h).1)≤_)∧(k,(0:Int)).2 - (a,-h).2≤_∧-((k,(0:Int)).2 - (a,-h).2)≤_)
     simp only
     omega
   · show _≤Qae (Qar (a,-h) (-a,-h)) (Qar (k,0) (a,-h))
     unfold Qae Qal Qar
     grind
   · intro m m2 hm
     have hm':m=2∨m=3∨m=4:=by omega
     rcases hm' with rfl | rfl | rfl
     · show 0<Qae (Qar (a,-h) (-a,-h)) (Qar (k,0) (-a,-h))
       unfold Qae Qal Qar
       grind
     · show 0<Qae (Qar (a,-h) (-a,-h)) (Qar (0,h) (-a,-h))
       unfold Qae Qal Qar
       grind
     · show 0<Qae (Qar (a,-h) (-a,-h)) (Qar (-k,0) (-a,-h))
       unfold Qae Qal Qar
       grind
 · refine Qey (A:=1*k + (-1)*a) (B:=1*h) (C:=1*k) (D:=1*h) (by omega) ?_ ?_ ?_ ?_ ?_
   · show 0<Qae (a,-h) (k,0)
     unfold Qae Qal
     grind
   · show (((k,(0:Int)).1 - (a,-h).1≤_∧-((k,(0:Int)).1 - (a,-h).1)≤_)∧(k,(0:Int)).2 - (a,-h).2≤_∧-((k,(0:Int)).2 - (a,-h).2)≤_)
     simp only
     omega
   · show ((((0:Int),h).1 - (k,(0:Int)).1≤_∧-(((0:Int),h).1 - (k,(0:Int)).1)≤_)∧((0:Int),h).2 - (k,(0:Int)).2≤_∧-(((0:Int),h).2 - (k,(0:Int)).2)≤_)
     simp only
     omega
   · show _≤Qae (Qar (k,0) (a,-h)) (Qar (0,h) (k,0))
     unfold Qae Qal Qar
     grind
   · intro m m2 hm
     have hm':m=2∨m=3∨m=4:=by omega
     rcases hm' with rfl | rfl | rfl
     · show 0<Qae (Qar (k,0) (a,-h)) (Qar (0,h) (a,-h))
       unfold Qae Qal Qar
       grind
     · show 0<Qae (Qar (k,0) (a,-h)) (Qar (-k,0) (a,-h))
       unfold Qae Qal Qar
       grind
     · show 0<Qae (Qar (k,0) (a,-h)) (Qar (-a,-h) (a,-h))
       unfold Qae Qal Qar
       grind
 · refine Qey (A:=1*k) (B:=1*h) (C:=1*k) (D:=1*h) (by omega) ?_ ?_ ?_ ?_ ?_
   · show 0<Qae (k,0) (0,h)
     unfold Qae Qal
     grind
   · show ((((0:Int),h).1 - (k,(0:Int)).1≤_∧-(((0:Int),h).1 - (k,(0:Int)).1)≤_)∧((0:Int),h).2 - (k,(0:Int)).2≤_∧-(((0:Int),h).2 - (k,(0:Int)).2)≤_)
     simp only
     omega
   · show (((-k,(0:Int)).1 - ((0:Int),h).1≤_∧-((-k,(0:Int)).1 - ((0:Int),h).1)≤_)∧(-k,(0:Int)).2 - ((0:Int),h).2≤_∧-((-k,(0:Int)).2 - ((0:Int),h).2)≤_)
     simp only
     omega
   · show _≤Qae (Qar (0,h) (k,0)) (Qar (-k,0) (0,h))
     unfold Qae Qal Qar
     grind
   · intro m m2 hm
     have hm':m=2∨m=3∨m=4:=by omega
     rcases hm' with rfl | rfl | rfl
     · show 0<Qae (Qar (0,h) (k,0)) (Qar (-k,0) (k,0))
       unfold Qae Qal Qar
       grind
     · show 0<Qae (Qar (0,h) (k,0)) (Qar (-a,-h) (k,0))
       unfold Qae Qal Qar
       grind
     · show 0<Qae (Qar (0,h) (k,0)) (Qar (a,-h) (k,0))
       unfold Qae Qal Qar
       grind
 · refine Qey (A:=1*k) (B:=1*h) (C:=1*k + (-1)*a) (D:=1*h) (by omega) ?_ ?_ ?_ ?_ ?_
   · show 0<Qae (0,h) (-k,0)
     unfold Qae Qal
     grind
   · show (((-k,(0:Int)).1 - ((0:Int),h).1≤_∧-((-k,(0:Int)).1 - ((0:Int),h).1)≤_)∧(-k,(0:Int)).2 - ((0:Int),h).2≤_∧-((-k,(0:Int)).2 - ((0:Int),h).2)≤_)
     simp only
     omega
   · show (((-a,-h).1 - (-k,(0:Int)).1≤_∧-((-a,-h).1 - (-k,(0:Int)).1)≤_)∧(-a,-h).2 - (-k,(0:Int)).2≤_∧-((-a,-h).2 - (-k,(0:Int)).2)≤_)
     simp only
     omega
   · show _≤Qae (Qar (-k,0) (0,h)) (Qar (-a,-h) (-k,0))
     unfold Qae Qal Qar
     grind
   · intro m m2 hm
     have hm':m=2∨m=3∨m=4:=by omega
     rcases hm' with rfl | rfl | rfl
     · show 0<Qae (Qar (-k,0) (0,h)) (Qar (-a,-h) (0,h))
       unfold Qae Qal Qar
       grind
     · show 0<Qae (Qar (-k,0) (0,h)) (Qar (a,-h) (0,h))
       unfold Qae Qal Qar
       grind
     · show 0<Qae (Qar (-k,0) (0,h)) (Qar (k,0) (0,h))
       unfold Qae Qal Qar
       grind
 · refine Qey (A:=1*k + (-1)*a) (B:=1*h) (C:=2*a) (D:=0) (by omega) ?_ ?_ ?_ ?_ ?_
   · show 0<Qae (-k,0) (-a,-h)
     unfold Qae Qal
     grind
   · show (((-a,-h).1 - (-k,(0:Int)).1≤_∧-((-a,-h).1 - (-k,(0:Int)).1)≤_)∧(-a,-h).2 - (-k,(0:Int)).2≤_∧-((-a,-h).2 - (-k,(0:Int)).2)≤_)
     simp only
     omega
   · show (((a,-h).1 - (-a,-h).1≤_∧-((a,-h).1 - (-a,-h).1)≤_)∧(a,-h).2 - (-a,-h).2≤_∧-((a,-h).2 - (-a,-h).2)≤_)
     simp only
     omega
   · show _≤Qae (Qar (-a,-h) (-k,0)) (Qar (a,-h) (-a,-h))
     unfold Qae Qal Qar
     grind
   · intro m m2 hm
     have hm':m=2∨m=3∨m=4:=by omega
     rcases hm' with rfl | rfl | rfl
     · show 0<Qae (Qar (-a,-h) (-k,0)) (Qar (a,-h) (-k,0))
       unfold Qae Qal Qar
       grind
     · show 0<Qae (Qar (-a,-h) (-k,0)) (Qar (k,0) (-k,0))
       unfold Qae Qal Qar
       grind
     · show 0<Qae (Qar (-a,-h) (-k,0)) (Qar (0,h) (-k,0))
       unfold Qae Qal Qar
       grind
theorem Ze7 {k a:Int} (hk:64≤k∧k≤4096) (ha:2*a≤k∧k≤2*a + 1):Qfg 8 (G8 k a)=true:=by
 have p1:64*k≤k*k:=Int.mul_le_mul_of_nonneg_right hk.1 (by omega)
 have p2:2*(a*k)≤k*k:=by have:=Int.mul_le_mul_of_nonneg_right ha.1 (show (0:Int)≤k by omega); grind
 have p3:k*k≤2*(a*k) + k:=by have:=Int.mul_le_mul_of_nonneg_right ha.2 (show (0:Int)≤k by omega); grind
 have p4:2*(a*a)≤a*k:=by have:=Int.mul_le_mul_of_nonneg_left ha.1 (show (0:Int)≤a by omega); grind
 have p5:a*k≤2*(a*a) + a:=by have:=Int.mul_le_mul_of_nonneg_left ha.2 (show (0:Int)≤a by omega); grind
 refine Qng fun j hj=>?_
 have hj':j=0∨j=1∨j=2∨j=3∨j=4∨j=5∨j=6∨j=7:=by omega
 rcases hj' with rfl | rfl | rfl | rfl | rfl | rfl | rfl | rfl
 · refine Qey (A:=0) (B:=2*a) (C:=1*k + (-1)*a) (D:=1*k + (-1)*a) (by omega) ?_ ?_ ?_ ?_ ?_
   · show 0<Qae (k,-a) (k,a)
     unfold Qae Qal
     grind
   · show (((k,a).1 - (k,-a).1≤_∧-((k,a).1 - (k,-a).1)≤_)∧(k,a).2 - (k,-a).2≤_∧-((k,a).2 - (k,-a).2)≤_)
     simp only
     omega
   · show (((a,k).1 - (k,a).1≤_∧-((a,k).1 - (k,a).1)≤_)∧(a,k).2 - (k,a).2≤_∧-((a,k).2 - (k,a).2)≤_)
     simp only
     omega
   · show _≤Qae (Qar (k,a) (k,-a)) (Qar (a,k) (k,a))
     unfold Qae Qal Qar
     grind
   · intro m m2 hm
     have hm':m=2∨m=3∨m=4∨m=5∨m=6∨m=7:=by omega
     rcases hm' with rfl | rfl | rfl | rfl | rfl | rfl
     · show 0<Qae (Qar (k,a) (k,-a)) (Qar (a,k) (k,-a))
       unfold Qae Qal Qar
       grind
     · show 0<Qae (Qar (k,a) (k,-a)) (Qar (-a,k) (k,-a))
       unfold Qae Qal Qar
       grind
     · show 0<Qae (Qar (k,a) (k,-a)) (Qar (-k,a) (k,-a))
       unfold Qae Qal Qar
       grind
     · show 0<Qae (Qar (k,a) (k,-a)) (Qar (-k,-a) (k,-a))
       unfold Qae Qal Qar
       grind
     · show 0<Qae (Qar (k,a) (k,-a)) (Qar (-a,-k) (k,-a))
       unfold Qae Qal Qar
       grind
     · show 0<Qae (Qar (k,a) (k,-a)) (Qar (a,-k) (k,-a))
       unfold Qae Qal Qar
       grind
 · refine Qey (A:=1*k + (-1)*a) (B:=1*k + (-1)*a) (C:=2*a) (D:=0) (by omega) ?_ ?_ ?_ ?_ ?_
   · show 0<Qae (k,a) (a,k)
     unfold Qae Qal
     grind
   · show (((a,k).1 - (k,a).1≤_∧-((a,k).1 - (k,a).1)≤_)∧(a,k).2 - (k,a).2≤_∧-((a,k).2 - (k,a).2)≤_)
     simp only
     omega
   · show (((-a,k).1 - (a,k).1≤_∧-((-a,k).1 - (a,k).1)≤_)∧(-a,k).2 - (a,k).2≤_∧-((-a,k).2 - (a,k).2)≤_)
     simp only
     omega
   · show _≤Qae (Qar (a,k) (k,a)) (Qar (-a,k) (a,k))
     unfold Qae Qal Qar
     grind
   · intro m m2 hm
     have hm':m=2∨m=3∨m=4∨m=5∨m=6∨m=7:=by omega
     rcases hm' with rfl | rfl | rfl | rfl | rfl | rfl
     · show 0<Qae (Qar (a,k) (k,a)) (Qar (-a,k) (k,a))
       unfold Qae Qal Qar
       grind
     · show 0<Qae (Qar (a,k) (k,a)) (Qar (-k,a) (k,a))
       unfold Qae Qal Qar
       grind
     · show 0<Qae (Qar (a,k) (k,a)) (Qar (-k,-a) (k,a))
       unfold Qae Qal Qar
       grind
     · show 0<Qae (Qar (a,k) (k,a)) (Qar (-a,-k) (k,a))
       unfold Qae Qal Qar
       grind
     · show 0<Qae (Qar (a,k) (k,a)) (Qar (a,-k) (k,a))
       unfold Qae Qal Qar
       grind
     · show 0<Qae (Qar (a,k) (k,a)) (Qar (k,-a) (k,a))
       unfold Qae Qal Qar
       grind
 · refine Qey (A:=2*a) (B:=0) (C:=1*k + (-1)*a) (D:=1*k + (-1)*a) (by omega) ?_ ?_ ?_ ?_ ?_
   · show 0<Qae (a,k) (-a,k)
     unfold Qae Qal
     grind
   · show (((-a,k).1 - (a,k).1≤_∧-((-a,k).1 - (a,k).1)≤_)∧(-a,k).2 - (a,k).2≤_∧-((-a,k).2 - (a,k).2)≤_)
     simp only
     omega
   · show (((-k,a).1 - (-a,k).1≤_∧-((-k,a).1 - (-a,k).1)≤_)∧(-k,a).2 - (-a,k).2≤_∧-((-k,a).2 - (-a,k).2)≤_)
     simp only
     omega
   · show _≤Qae (Qar (-a,k) (a,k)) (Qar (-k,a) (-a,k))
     unfold Qae Qal Qar
     grind
   · intro m m2 hm
     have hm':m=2∨m=3∨m=4∨m=5∨m=6∨m=7:=by omega
     rcases hm' with rfl | rfl | rfl | rfl | rfl | rfl
     · show 0<Qae (Qar (-a,k) (a,k)) (Qar (-k,a) (a,k))
       unfold Qae Qal Qar
       grind
     · show 0<Qae (Qar (-a,k) (a,k)) (Qar (-k,-a) (a,k))
       unfold Qae Qal Qar
       grind
     · show 0<Qae (Qar (-a,k) (a,k)) (Qar (-a,-k) (a,k))
       unfold Qae Qal Qar
       grind
     · show 0<Qae (Qar (-a,k) (a,k)) (Qar (a,-k) (a,k))
       unfold Qae Qal Qar
       grind
     · show 0<Qae (Qar (-a,k) (a,k)) (Qar (k,-a) (a,k))
       unfold Qae Qal Qar
       grind
     · show 0<Qae (Qar (-a,k) (a,k)) (Qar (k,a) (a,k))
       unfold Qae Qal Qar
       grind
 · refine Qey (A:=1*k + (-1)*a) (B:=1*k + (-1)*a) (C:=0) (D:=2*a) (by omega) ?_ ?_ ?_ ?_ ?_
   · show 0<Qae (-a,k) (-k,a)
     unfold Qae Qal
     grind
   · show (((-k,a).1 - (-a,k).1≤_∧-((-k,a).1 - (-a,k).1)≤_)∧(-k,a).2 - (-a,k).2≤_∧-((-k,a).2 - (-a,k).2)≤_)
     simp only
     omega
   · show (((-k,-a).1 - (-k,a).1≤_∧-((-k,-a).1 - (-k,a).1)≤_)∧(-k,-a).2 - (-k,a).2≤_∧-((-k,-a).2 - (-k,a).2)≤_)
     simp only
     omega
   · show _≤Qae (Qar (-k,a) (-a,k)) (Qar (-k,-a) (-k,a))
     unfold Qae Qal Qar
     grind
   · intro m m2 hm
     have hm':m=2∨m=3∨m=4∨m=5∨m=6∨m=7:=by omega
     rcases hm' with rfl | rfl | rfl | rfl | rfl | rfl
     · show 0<Qae (Qar (-k,a) (-a,k)) (Qar (-k,-a) (-a,k))
       unfold Qae Qal Qar
       grind
     · show 0<Qae (Qar (-k,a) (-a,k)) (Qar (-a,-k) (-a,k))
       unfold Qae Qal Qar
       grind
     · show 0<Qae (Qar (-k,a) (-a,k)) (Qar (a,-k) (-a,k))
       unfold Qae Qal Qar
       grind
     · show 0<Qae (Qar (-k,a) (-a,k)) (Qar (k,-a) (-a,k))
       unfold Qae Qal Qar
       grind
     · show 0<Qae (Qar (-k,a) (-a,k)) (Qar (k,a) (-a,k))
       unfold Qae Qal Qar
       grind
     · show 0<Qae (Qar (-k,a) (-a,k)) (Qar (a,k) (-a,k))
       unfold Qae Qal Qar
       grind
 · refine Qey (A:=0) (B:=2*a) (C:=1*k + (-1)*a) (D:=1*k + (-1)*a) (by omega) ?_ ?_ ?_ ?_ ?_
   · show 0<Qae (-k,a) (-k,-a)
     unfold Qae Qal
     grind
   · show (((-k,-a).1 - (-k,a).1≤_∧-((-k,-a).1 - (-k,a).1)≤_)∧(-k,-a).2 - (-k,a).2≤_∧-((-k,-a).2 - (-k,a).2)≤_)
     simp only
     omega
   · show (((-a,-k).1 - (-k,-a).1≤_∧-((-a,-k).1 - (-k,-a).1)≤_)∧(-a,-k).2 - (-k,-a).2≤_∧-((-a,-k).2 - (-k,-a).2)≤_)
     simp only
     omega
   · show _≤Qae (Qar (-k,-a) (-k,a)) (Qar (-a,-k) (-k,-a))
     unfold Qae Qal Qar
     grind
   · intro m m2 hm
     have hm':m=2∨m=3∨m=4∨m=5∨m=6∨m=7:=by omega
     rcases hm' with rfl | rfl | rfl | rfl | rfl | rfl
     · show 0<Qae (Qar (-k,-a) (-k,a)) (Qar (-a,-k) (-k,a))
       unfold Qae Qal Qar
       grind
     · show 0<Qae (Qar (-k,-a) (-k,a)) (Qar (a,-k) (-k,a))
       unfold Qae Qal Qar
       grind
     · show 0<Qae (Qar (-k,-a) (-k,a)) (Qar (k,-a) (-k,a))
       unfold Qae Qal Qar
       grind
     · show 0<Qae (Qar (-k,-a) (-k,a)) (Qar (k,a) (-k,a))
       unfold Qae Qal Qar
       grind
     · show 0<Qae (Qar (-k,-a) (-k,a)) (Qar (a,k) (-k,a))
       unfold Qae Qal Qar
       grind
     · show 0<Qae (Qar (-k,-a) (-k,a)) (Qar (-a,k) (-k,a))
       unfold Qae Qal Qar
       grind
 · refine Qey (A:=1*k + (-1)*a) (B:=1*k + (-1)*a) (C:=2*a) (D:=0) (by omega) ?_ ?_ ?_ ?_ ?_
   · show 0<Qae (-k,-a) (-a,-k)
     unfold Qae Qal
     grind
   · show (((-a,-k).1 - (-k,-a).1≤_∧-((-a,-k).1 - (-k,-a).1)≤_)∧(-a,-k).2 - (-k,-a).2≤_∧-((-a,-k).2 - (-k,-a).2)≤_)
     simp only
     omega
   · show (((a,-k).1 - (-a,-k).1≤_∧-((a,-k).1 - (-a,-k).1)≤_)∧(a,-k).2 - (-a,-k).2≤_∧-((a,-k).2 - (-a,-k).2)≤_)
     simp only
     omega
   · show _≤Qae (Qar (-a,-k) (-k,-a)) (Qar (a,-k) (-a,-k))
     unfold Qae Qal Qar
     grind
   · intro m m2 hm
     have hm':m=2∨m=3∨m=4∨m=5∨m=6∨m=7:=by omega
     rcases hm' with rfl | rfl | rfl | rfl | rfl | rfl
     · show 0<Qae (Qar (-a,-k) (-k,-a)) (Qar (a,-k) (-k,-a))
       unfold Qae Qal Qar
       grind
     · show 0<Qae (Qar (-a,-k) (-k,-a)) (Qar (k,-a) (-k,-a))
       unfold Qae Qal Qar
       grind
     · show 0<Qae (Qar (-a,-k) (-k,-a)) (Qar (k,a) (-k,-a))
       unfold Qae Qal Qar
       grind
     · show 0<Qae (Qar (-a,-k) (-k,-a)) (Qar (a,k) (-k,-a))
       unfold Qae Qal Qar
       grind
     · show 0<Qae (Qar (-a,-k) (-k,-a)) (Qar (-a,k) (-k,-a))
       unfold Qae Qal Qar
       grind
     · show 0<Qae (Qar (-a,-k) (-k,-a)) (Qar (-k,a) (-k,-a))
       unfold Qae Qal Qar
       grind
 · refine Qey (A:=2*a) (B:=0) (C:=1*k + (-1)*a) (D:=1*k + (-1)*a) (by omega) ?_ ?_ ?_ ?_ ?_
   · show 0<Qae (-a,-k) (a,-k)
     unfold Qae Qal
     grind
   · show (((a,-k).1 - (-a,-k).1≤_∧-((a,-k).1 - (-a,-k).1)≤_)∧(a,-k).2 - (-a,-k).2≤_∧-((a,-k).2 - (-a,-k).2)≤_)
     simp only
     omega
   · show (((k,-a).1 - (a,-k).1≤_∧-((k,-a).1 - (a,-k).1)≤_)∧(k,-a).2 - (a,-k).2≤_∧-((k,-a).2 - (a,-k).2)≤_)
     simp only
     omega
   · show _≤Qae (Qar (a,-k) (-a,-k)) (Qar (k,-a) (a,-k))
     unfold Qae Qal Qar
     grind
   · intro m m2 hm
     have hm':m=2∨m=3∨m=4∨m=5∨m=6∨m=7:=by omega
     rcases hm' with rfl | rfl | rfl | rfl | rfl | rfl
     · show 0<Qae (Qar (a,-k) (-a,-k)) (Qar (k,-a) (-a,-k))
       unfold Qae Qal Qar
       grind
     · show 0<Qae (Qar (a,-k) (-a,-k)) (Qar (k,a) (-a,-k))
       unfold Qae Qal Qar
       grind
     · show 0<Qae (Qar (a,-k) (-a,-k)) (Qar (a,k) (-a,-k))
       unfold Qae Qal Qar
       grind
     · show 0<Qae (Qar (a,-k) (-a,-k)) (Qar (-a,k) (-a,-k))
       unfold Qae Qal Qar
       grind
     · show 0<Qae (Qar (a,-k) (-a,-k)) (Qar (-k,a) (-a,-k))
       unfold Qae Qal Qar
       grind
     · show 0<Qae (Qar (a,-k) (-a,-k)) (Qar (-k,-a) (-a,-k))
       unfold Qae Qal Qar
       grind
 · refine Qey (A:=1*k + (-1)*a) (B:=1*k + (-1)*a) (C:=0) (D:=2*a) (by omega) ?_ ?_ ?_ ?_ ?_
   · show 0<Qae (a,-k) (k,-a)
     unfold Qae Qal
     grind
   · show (((k,-a).1 - (a,-k).1≤_∧-((k,-a).1 - (a,-k).1)≤_)∧(k,-a).2 - (a,-k).2≤_∧-((k,-a).2 - (a,-k).2)≤_)
     simp only
     omega
   · show (((k,a).1 - (k,-a).1≤_∧-((k,a).1 - (k,-a).1)≤_)∧(k,a).2 - (k,-a).2≤_∧-((k,a).2 - (k,-a).2)≤_)
     simp only
     omega
   · show _≤Qae (Qar (k,-a) (a,-k)) (Qar (k,a) (k,-a))
     unfold Qae Qal Qar
     grind
   · intro m m2 hm
     have hm':m=2∨m=3∨m=4∨m=5∨m=6∨m=7:=by omega
     rcases hm' with rfl | rfl | rfl | rfl | rfl | rfl
     · show 0<Qae (Qar (k,-a) (a,-k)) (Qar (k,a) (a,-k))
       unfold Qae Qal Qar
       grind
     · show 0<Qae (Qar (k,-a) (a,-k)) (Qar (a,k) (a,-k))
       unfold Qae Qal Qar
       grind
     · show 0<Qae (Qar (k,-a) (a,-k)) (Qar (-a,k) (a,-k))
       unfold Qae Qal Qar
       grind
     · show 0<Qae (Qar (k,-a) (a,-k)) (Qar (-k,a) (a,-k))
       unfold Qae Qal Qar
       grind
     · show 0<Qae (Qar (k,-a) (a,-k)) (Qar (-k,-a) (a,-k))
       unfold Qae Qal Qar
       grind
     · show 0<Qae (Qar (k,-a) (a,-k)) (Qar (-a,-k) (a,-k))
       unfold Qae Qal Qar
       grind
section
variable {P:Program} {f:FuncId}
end
theorem Q6b {m d:Int} (h1:0<d) (h:d≤m):0<Int.tdiv m d:=by
 rw [Int.tdiv_eq_ediv_of_nonneg (by omega)]
 have:=Int.le_ediv_of_mul_le (a:=1) (b:=m) h1 (by omega)
 omega
theorem Qlk {a b L U:Int} (ha:0≤a) (hb:0<b) (h0:0≤L) (hL:L*b≤a*4294967296) (hU:a*4294967296≤U*b) (h1:U≤9223372036854775807):∃ q,Qrs a b=⟨q,false⟩∧L≤q∧q≤U:=by
 refine ⟨a*4294967296 / b,?_,Int.le_ediv_of_mul_le hb hL,Int.ediv_le_of_le_mul hb hU⟩
 have l:=Int.le_ediv_of_mul_le hb hL
 have u:=Int.ediv_le_of_le_mul hb hU
 have e:Q6p a b=a*4294967296 / b:=Int.tdiv_eq_ediv_of_nonneg (by omega)
 unfold Qrs Qex Qnq
 rw [if_neg (by omega),if_neg (by omega),e,Qff ⟨by omega,by omega⟩,Qfe ⟨by omega,by omega⟩]
theorem Qwq {q:Int} (h0:0≤q) (h1:q≤4503599627370496):Qqp ⟨q,false⟩ Zep=⟨q*4294967296 / 13493037704,false⟩:=by
 have e:Q6p q 13493037704=q*4294967296 / 13493037704:=Int.tdiv_eq_ediv_of_nonneg (by omega)
 have sq:Sd q:=⟨by omega,by omega⟩
 have sh:Sd 13493037704:=⟨by decide,by decide⟩
 show (⟨Qex (Qaa q) (Qaa 13493037704),Qnq (Qaa q) (Qaa 13493037704)||(Qa8 q false||Qa8 13493037704 false)⟩:NB)=_
 rw [sq.self,sh.self,sq.flag,sh.flag]
 unfold Qex Qnq
 rw [if_neg (by decide),if_neg (by decide),e,Qff ⟨by omega,by omega⟩,Qfe ⟨by omega,by omega⟩]
 rfl
theorem Zl5 {r:Int} (h:16≤r∧r≤4096):(256≤r*r∧r*r≤16777216)∧65536≤r*r*r*r∧r*r*r*r≤281474976710656:=by
 obtain ⟨_,⟨_,_⟩,p5,p6⟩:=Q9r (r:=r) ⟨by omega,h.2⟩
 have a1:=Int.mul_le_mul (a:=16) (b:=16) (c:=r) (d:=r) h.1 h.1 (by decide) (by omega)
 have a2:=Int.mul_le_mul (a:=256) (b:=16) (c:=r*r) (d:=r) (by omega) h.1 (by decide) (by omega)
 have a3:=Int.mul_le_mul (a:=4096) (b:=16) (c:=r*r*r) (d:=r) (by omega) h.1 (by decide) (by omega)
 have a4:=(Q9r (r:=r) ⟨by omega,h.2⟩).1
 exact ⟨⟨by omega,a4.2⟩,by omega,p6⟩
theorem Q73 (w h:Int):Qne 4 (Zad w h) 4=8*(w*h):=by
 show 0 + (-w*-h - -h*w) + (w*h - -h*w) + (w*h - h*-w) + (-w*-h - h*-w)=8*(w*h)
 simp only [Int.neg_mul,Int.mul_neg,Int.neg_neg,Int.mul_comm h w]
 omega
theorem Zfh (w h:Int):Q19 4 (Zad w h) 4=2*(w*h)*(8*(w*w + h*h)):=by
 show 0 + (-w*-h - -h*w)*((-w*-w + -h*-h) + (-w*w + -h*-h) + (w*w + -h*-h)) + (w*h - -h*w)*((w*w + -h*-h) + (w*w + -h*h) + (w*w + h*h)) + (w*h - h*-w)*((w*w + h*h) + (w*-w + h*h) + (-w*-w + h*h)) + (-w*-h - h*-w)*((-w*-w + h*h) + (-w*-w + h*-h) + (-w*-w + -h*-h))=_
 simp only [Int.neg_mul,Int.mul_neg,Int.neg_neg,Int.mul_comm h w]
 have c:w*h + w*h=2*(w*h):=by omega
 have c':w*h - -(w*h)=2*(w*h):=by omega
 simp only [c',Int.zero_add,← Int.mul_add]
 congr 1
 omega
theorem Qpn {x:Int} (h:16≤x∧x≤4096):Qfu x=true:=by unfold Qfu; rw [decide_eq_true h.1,decide_eq_true h.2]; rfl
theorem Q7z {r:Int} (h:16≤r∧r≤4096):Qgv (Q3a r) 0 zP=0:=by
 show (bif Qfu r then (0:Int) else 3)=0
 rw [Qpn h]; rfl
theorem Q70 {w h:Int} (hw:16≤w∧w≤4096) (hh:16≤h∧h≤4096):Qgv (boxS w h) 0 zP=0:=by
 show (bif Qfu w&&Qfu h then (0:Int) else 3)=0
 rw [Qpn hw,Qpn hh]; rfl
def PW (v:VB):Prop:=(v.x.f=false∧v.y.f=false)∧(0<v.x.v∧v.x.v≤4611686018427387903)∧0<v.y.v∧v.y.v≤4611686018427387903
theorem Zih {m i d:Int} (hm:1000≤m∧m≤4611686018427387903) (hi:1000≤i∧i≤4611686018427387903) (hd:1≤d∧d≤1000):PW ⟨⟨Int.tdiv m d,false⟩,⟨Int.tdiv i d,false⟩⟩:=by
 have key:∀ x:Int,1000≤x∧x≤4611686018427387903→0<Int.tdiv x d∧Int.tdiv x d≤4611686018427387903:=fun x hx=>by
   have h0:=Q6b (m:=x) (d:=d) (by omega) (by omega)
   have h1:Int.tdiv x d≤x:=by
     rw [Int.tdiv_eq_ediv_of_nonneg (by omega)]
     exact Int.ediv_le_self _ (by omega)
   exact ⟨h0,by omega⟩
 exact ⟨⟨rfl,rfl⟩,key m hm,key i hi⟩
theorem Q1l {A M d:Int} (hA:1≤A∧A≤1000000000) (hM:64≤M∧M≤100000000000000000) (hd:1≤d∧d≤1000):PW (Qtl A M d):=by
 obtain ⟨q,e1,l1,u1⟩:=Qlk (a:=131072) (b:=A) (L:=1000) (U:=562949953421312) (by decide) (by omega) (by decide) (by omega) (by omega) (by decide)
 obtain ⟨p,e2,l2,u2⟩:=Qlk (a:=51539607552) (b:=M) (L:=1000) (U:=3458764513820540928) (by decide) (by omega) (by decide) (by omega) (by omega) (by decide)
 unfold Qtl
 rw [e1,e2,Qje ⟨by show (-9223372036854775807:Int)≤q; omega,by show q≤9223372036854775807; omega⟩ (by omega) (by omega),Qje ⟨by show (-9223372036854775807:Int)≤p; omega,by show p≤9223372036854775807; omega⟩ (by omega) (by omega)]
 exact Zih (by show 1000≤q∧q≤_; omega) (by show 1000≤p∧p≤_; omega) hd
theorem Zdo {r d:Int} (hr:16≤r∧r≤4096) (hd:1≤d∧d≤1000):PW (Q5t r d):=by
 obtain ⟨⟨s1,s2⟩,s3,s4⟩:=Zl5 hr
 obtain ⟨q,e1,l1,u1⟩:=Qlk (a:=65536) (b:=r*r) (L:=16777216) (U:=1099511627776) (by decide) (by omega) (by decide) (by omega) (by omega) (by decide)
 obtain ⟨p,e2,l2,u2⟩:=Qlk (a:=8589934592) (b:=r*r*r*r) (L:=131072) (U:=562949953421312) (by decide) (by omega) (by decide) (by omega) (by omega) (by decide)
 unfold Q5t
 rw [e1,e2,Qwq (by omega) (by omega),Qwq (by omega) (by omega)]
 rw [Qje ⟨by simp only; omega,by simp only; omega⟩ (by omega) (by omega),Qje ⟨by simp only; omega,by simp only; omega⟩ (by omega) (by omega)]
 exact Zih ⟨by simp only; omega,by simp only; omega⟩ ⟨by simp only; omega,by simp only; omega⟩ hd
theorem Zjk {p q:Int×Int} (h:64≤Qae p q):1≤Qnn p p + Qnn p q + Qnn q q:=by
 obtain ⟨a,b⟩:=p
 obtain ⟨c,d⟩:=q
 have h:64≤a*d - b*c:=h
 show 1≤(a*a + b*b) + (a*c + b*d) + (c*c + d*d)
 have e:2*((a*a + b*b) + (a*c + b*d) + (c*c + d*d))=a*a + b*b + c*c + d*d + (a + c)*(a + c) + (b + d)*(b + d):=by grind
 have h1:=Qcj a
 have h2:=Qcj b
 have h3:=Qcj c
 have h4:=Qcj d
 have h5:=Qcj (a + c)
 have h6:=Qcj (b + d)
 rcases Int.lt_or_le 0 (a*a + b*b) with hp | hp
 · omega
 · have za:a*a=0:=by omega
   have zb:b*b=0:=by omega
   have za:a=0:=by rcases Int.mul_eq_zero.1 za with z | z <;> exact z
   have zb:b=0:=by rcases Int.mul_eq_zero.1 zb with z | z <;> exact z
   subst za zb
   simp at h
theorem Q3s {n:Nat} {g:Nat→Int×Int} (hq:∀ i,i<n→Q12 (g i).1∧Q12 (g i).2) (hx:∀ i,i<n→64≤Qae (g i) (g ((i + 1) % n))):∀ k:Nat,k≤n→64*(k:Int)≤Qne n g k∧Qne n g k≤33554432*(k:Int)
 | 0,_=>⟨Int.le_refl _,Int.le_refl _⟩
 | k + 1,hk=>by
   obtain ⟨l,u⟩:=Q3s hq hx k (by omega)
   have a:=hx k (by omega)
   have b:=(Qwu (hq k (by omega)) (hq ((k + 1) % n) (Nat.mod_lt _ (by omega)))).2
   show _≤Qne n g k + Qae (g k) (g ((k + 1) % n))∧Qne n g k + Qae (g k) (g ((k + 1) % n))≤_
   omega
theorem Q9z {n:Nat} {g:Nat→Int×Int} (hq:∀ i,i<n→Q12 (g i).1∧Q12 (g i).2) (hx:∀ i,i<n→64≤Qae (g i) (g ((i + 1) % n))):∀ k:Nat,k≤n→64*(k:Int)≤Q19 n g k∧Q19 n g k≤4503599627370496*(k:Int)
 | 0,_=>⟨Int.le_refl _,Int.le_refl _⟩
 | k + 1,hk=>by
   obtain ⟨l,u⟩:=Q9z hq hx k (by omega)
   have l2:(k + 1) % n<n:=Nat.mod_lt _ (by omega)
   have a:=hx k (by omega)
   have b:=(Qwu (hq k (by omega)) (hq _ l2)).2
   have c:=Zjk a
   have d1:=(Q29 (hq k (by omega)) (hq k (by omega))).2
   have d2:=(Q29 (hq k (by omega)) (hq _ l2)).2
   have d3:=(Q29 (hq _ l2) (hq _ l2)).2
   have d4:Qnn (g k) (g k) + Qnn (g k) (g ((k + 1) % n)) + Qnn (g ((k + 1) % n)) (g ((k + 1) % n))≤134217728:=by omega
   show _≤Q19 n g k + Qae (g k) (g ((k + 1) % n))*(Qnn (g k) (g k) + Qnn (g k) (g ((k + 1) % n)) + Qnn (g ((k + 1) % n)) (g ((k + 1) % n)))∧Q19 n g k + Qae (g k) (g ((k + 1) % n))*(Qnn (g k) (g k) + Qnn (g k) (g ((k + 1) % n)) + Qnn (g ((k + 1) % n)) (g ((k + 1) % n)))≤_
   generalize Qnn (g k) (g k) + Qnn (g k) (g ((k + 1) % n)) + Qnn (g ((k + 1) % n)) (g ((k + 1) % n))=q at *
   generalize Qae (g k) (g ((k + 1) % n))=x at *
   have m1:=Int.mul_le_mul (a:=64) (b:=1) (c:=x) (d:=q) a c (by decide) (by omega)
   have m2:=Int.mul_le_mul (a:=x) (b:=q) (c:=33554432) (d:=134217728) b (by omega) (by omega) (by decide)
   omega
theorem Zig {n:Nat} {g:Nat→Int×Int} {d:Int} (h1:1≤n) (h8:n≤8) (hq:∀ i,i<n→Q12 (g i).1∧Q12 (g i).2) (hx:∀ i,i<n→64≤Qae (g i) (g ((i + 1) % n))) (hd:1≤d∧d≤1000):PW (Qtl (Qne n g n) (Q19 n g n) d):=by
 have a:=Q3s hq hx n (Nat.le_refl n)
 have m:=Q9z hq hx n (Nat.le_refl n)
 exact Q1l (by omega) (by omega) hd
theorem chkP {n:Nat} {g:Nat→Int×Int} (h3:3≤n) (h8:n≤8) (hp:∀ i,i<n→Qit (g i)=true) (hc:Qfg n g=true):Qgv Qxj n g=0:=by
 have h1:(decide ((n:Int)<3)||decide ((n:Int) > 8))=false:=by
   rw [decide_eq_false (by omega),decide_eq_false (by omega)]; rfl
 have hall:(List.range n).all (fun i=>Qit (g i))=true:=Qng hp
 show (bif ((3:Int)==1) then _ else bif (3:Int)==2 then _ else bif (3:Int)==3 then (bif ((0:Int) != 0||((0:Int) != 0||((0:Int) != 0||(decide ((n:Int)<3)||decide ((n:Int) > 8))))) then 4 else bif (List.range n).all (fun i=>Qit (g i)) then (bif Qfg n g then 0 else 5) else 3) else 8)=_
 rw [h1,hall,hc]
 rfl
theorem ptQ {p:Int×Int} (h:(-4096≤p.1∧p.1≤4096)∧-4096≤p.2∧p.2≤4096):Qit p=true∧Q12 p.1∧Q12 p.2:=by
 obtain ⟨⟨_,_⟩,_,_⟩:=h
 refine ⟨?_,⟨by omega,by omega⟩,by omega,by omega⟩
 unfold Qit Qi7
 simp only [Bool.and_eq_true,decide_eq_true_eq]
 omega
theorem Zil {k h:Int} (hk:64≤k∧k≤4096) (hh:64≤h∧h≤4096):∀ i,i<3→Qit (G3 k h i)=true∧Q12 (G3 k h i).1∧Q12 (G3 k h i).2:=fun i hi=>by
 have hi':i=0∨i=1∨i=2:=by omega
 rcases hi' with rfl | rfl | rfl
 · exact ptQ (p:=(-k,-h)) (by simp only; omega)
 · exact ptQ (p:=(k,-h)) (by simp only; omega)
 · exact ptQ (p:=(0,h)) (by simp only; omega)
theorem Zjp {k h:Int} (hk:64≤k∧k≤4096) (hh:64≤h∧h≤4096):∀ i,i<3→64≤Qae (G3 k h i) (G3 k h ((i + 1) % 3)):=fun i hi=>by
 have p1:64*k≤k*h:=by have:=Int.mul_le_mul_of_nonneg_left hh.1 (show (0:Int)≤k by omega); grind
 have hi':i=0∨i=1∨i=2:=by omega
 rcases hi' with rfl | rfl | rfl
 · show 64≤Qae (-k,-h) (k,-h)
   unfold Qae Qal
   grind
 · show 64≤Qae (k,-h) (0,h)
   unfold Qae Qal
   grind
 · show 64≤Qae (0,h) (-k,-h)
   unfold Qae Qal
   grind
theorem Zik {k h a:Int} (hk:64≤k∧k≤4096) (hh:64≤h∧h≤4096) (ha:2*a≤k∧k≤2*a + 1):∀ i,i<5→Qit (G5 k h a i)=true∧Q12 (G5 k h a i).1∧Q12 (G5 k h a i).2:=fun i hi=>by
 have hi':i=0∨i=1∨i=2∨i=3∨i=4:=by omega
 rcases hi' with rfl | rfl | rfl | rfl | rfl
 · exact ptQ (p:=(-a,-h)) (by simp only; omega)
 · exact ptQ (p:=(a,-h)) (by simp only; omega)
 · exact ptQ (p:=(k,0)) (by simp only; omega)
 · exact ptQ (p:=(0,h)) (by simp only; omega)
 · exact ptQ (p:=(-k,0)) (by simp only; omega)
theorem Zjo {k h a:Int} (hk:64≤k∧k≤4096) (hh:64≤h∧h≤4096) (ha:2*a≤k∧k≤2*a + 1):∀ i,i<5→64≤Qae (G5 k h a i) (G5 k h a ((i + 1) % 5)):=fun i hi=>by
 have p1:64*k≤k*h:=by have:=Int.mul_le_mul_of_nonneg_left hh.1 (show (0:Int)≤k by omega); grind
 have p3:64*a≤a*h:=by have:=Int.mul_le_mul_of_nonneg_left hh.1 (show (0:Int)≤a by omega); grind
 have hi':i=0∨i=1∨i=2∨i=3∨i=4:=by omega
 rcases hi' with rfl | rfl | rfl | rfl | rfl
 · show 64≤Qae (-a,-h) (a,-h)
   unfold Qae Qal
   grind
 · show 64≤Qae (a,-h) (k,0)
   unfold Qae Qal
   grind
 · show 64≤Qae (k,0) (0,h)
   unfold Qae Qal
   grind
 · show 64≤Qae (0,h) (-k,0)
   unfold Qae Qal
   grind
 · show 64≤Qae (-k,0) (-a,-h)
   unfold Qae Qal
   grind
theorem Zij {k a:Int} (hk:64≤k∧k≤4096) (ha:2*a≤k∧k≤2*a + 1):∀ i,i<8→Qit (G8 k a i)=true∧Q12 (G8 k a i).1∧Q12 (G8 k a i).2:=fun i hi=>by
 have hi':i=0∨i=1∨i=2∨i=3∨i=4∨i=5∨i=6∨i=7:=by omega
 rcases hi' with rfl | rfl | rfl | rfl | rfl | rfl | rfl | rfl
 · exact ptQ (p:=(k,-a)) (by simp only; omega)
 · exact ptQ (p:=(k,a)) (by simp only; omega)
 · exact ptQ (p:=(a,k)) (by simp only; omega)
 · exact ptQ (p:=(-a,k)) (by simp only; omega)
 · exact ptQ (p:=(-k,a)) (by simp only; omega)
 · exact ptQ (p:=(-k,-a)) (by simp only; omega)
 · exact ptQ (p:=(-a,-k)) (by simp only; omega)
 · exact ptQ (p:=(a,-k)) (by simp only; omega)
theorem Zjn {k a:Int} (hk:64≤k∧k≤4096) (ha:2*a≤k∧k≤2*a + 1):∀ i,i<8→64≤Qae (G8 k a i) (G8 k a ((i + 1) % 8)):=fun i hi=>by
 have p1:64*k≤k*k:=Int.mul_le_mul_of_nonneg_right hk.1 (by omega)
 have p2:2*(a*k)≤k*k:=by have:=Int.mul_le_mul_of_nonneg_right ha.1 (show (0:Int)≤k by omega); grind
 have p3:k*k≤2*(a*k) + k:=by have:=Int.mul_le_mul_of_nonneg_right ha.2 (show (0:Int)≤k by omega); grind
 have p4:2*(a*a)≤a*k:=by have:=Int.mul_le_mul_of_nonneg_left ha.1 (show (0:Int)≤a by omega); grind
 have p5:a*k≤2*(a*a) + a:=by have:=Int.mul_le_mul_of_nonneg_left ha.2 (show (0:Int)≤a by omega); grind
 have hi':i=0∨i=1∨i=2∨i=3∨i=4∨i=5∨i=6∨i=7:=by omega
 rcases hi' with rfl | rfl | rfl | rfl | rfl | rfl | rfl | rfl
 · show 64≤Qae (k,-a) (k,a)
   unfold Qae Qal
   grind
 · show 64≤Qae (k,a) (a,k)
   unfold Qae Qal
   grind
 · show 64≤Qae (a,k) (-a,k)
   unfold Qae Qal
   grind
 · show 64≤Qae (-a,k) (-k,a)
   unfold Qae Qal
   grind
 · show 64≤Qae (-k,a) (-k,-a)
   unfold Qae Qal
   grind
 · show 64≤Qae (-k,-a) (-a,-k)
   unfold Qae Qal
   grind
 · show 64≤Qae (-a,-k) (a,-k)
   unfold Qae Qal
   grind
 · show 64≤Qae (a,-k) (k,-a)
   unfold Qae Qal
   grind
structure MD where
 k:Int
 a:Int
 b:Int
 x:Int
 y:Int
 w:Int
def mdL (m:MD):List SV:=[.v (.int .i64 m.k),.v (.int .i64 m.a),.v (.int .i64 m.b),.v (.int .i64 m.x),.v (.int .i64 m.y),.v (.int .i64 m.w)]
def mdS (m:MD):SV:=.agg (mdL m)
def mdI (m:MD):Prop:=I64 m.k∧I64 m.a∧I64 m.b∧I64 m.x∧I64 m.y∧I64 m.w
def Qk3 (m:MD) (s:Int):VB:=kitV m.x m.y s
def Qq5 (m:MD):VB:=Q8c (Qgz m.w 8)
def Zcv:List SV→Option (Option Prop×SV)
 | [.agg [.v (.int .i64 k),.v (.int .i64 a),.v (.int .i64 b),.v (.int .i64 x),.v (.int .i64 y),.v (.int .i64 w)],.v (.int .i64 s)]=>some (some (0<s∧s<1073741824),pS (Qk3 ⟨k,a,b,x,y,w⟩ s) (Qq5 ⟨k,a,b,x,y,w⟩))
 | _=>none
theorem Zg3 (m:MD) (s:Int) (R:SV→Prop):(Qbe Tryz.prog ΓG Qay Tryz.f37 [mdS m,iV s] R)=((((0:Int)<s)∧((s:Int)<1073741824))∧((((0:Int)<s)∧((s:Int)<1073741824))∧((((0:Int)<8)∧((8:Int)<1073741824))∧((I64 (NB.v (Qgz (MD.w m) 8)))∧(R (SV.agg [(yI (NB.v (Qgz (MD.x m) s))),(yF false),(yI (NB.v (Qgz (MD.y m) s))),(yF false),(yI (NB.v (VB.x (Q8c (Qgz (MD.w m) 8))))),(yF (NB.f (VB.x (Q8c (Qgz (MD.w m) 8))))),(yI (NB.v (VB.y (Q8c (Qgz (MD.w m) 8))))),(yF (NB.f (VB.y (Q8c (Qgz (MD.w m) 8)))))])))))):=by kernel_rfl
def ksZ (big:Bool) (x:Int):Int:=bif big then 16 + x % 4081 else 16 + (16 + x % 4081) % 600
def ksB (a:Int):Bool:=Int.tmod a 4==0
def ksX (a x:Int):Int:=ksZ (ksB a) x
def ksM (a x:Int):Int:=max 64 (ksX a x)
def ksS (m:MD):ShB:=bif m.k % 5==0 then ⟨1,ksX m.a m.a,0,0⟩ else bif m.k % 5==1 then ⟨2,0,ksX m.a m.a,ksX m.a m.b⟩ else ⟨3,0,0,0⟩
def ksN (m:MD):Nat:=bif m.k % 5==0 then 0 else bif m.k % 5==1 then 0 else bif m.k % 5==2 then 3 else bif m.k % 5==3 then 5 else 8
def ksG (m:MD):Nat→Int×Int:=bif m.k % 5==2 then G3 (ksM m.a m.a) (ksM m.a m.b) else bif m.k % 5==3 then G5 (ksM m.a m.a) (ksM m.a m.b) (ksM m.a m.a / 2) else G8 (ksM m.a m.a) (ksM m.a m.a / 2)
def ksE (q:Prop) (m:MD):Eff:=.nd q Nat 0 (fun c=>.agg [.v (.int .i64 (ksS m).k),.v (.int .i64 (ksS m).r),.v (.int .i64 (ksS m).w),.v (.int .i64 (ksS m).h),.sl 1000 2 0 (ksN m) (ksN m + c)]) fun c=>[(1000,spB (ksN m) (ksN m + c) (ksG m))]
def Zmf (args:List SV) (bs:List Blk):Option Eff:=match args,bs with
 | [.agg [.v (.int .i64 k),.v (.int .i64 a),.v (.int .i64 b),.v (.int .i64 x),.v (.int .i64 y),.v (.int .i64 w)]],[]=>some (ksE (mdI ⟨k,a,b,x,y,w⟩) ⟨k,a,b,x,y,w⟩)
 | _,_=>none
theorem Zln (m:MD) (q:Prop):(Qcf Tryz.prog ΓG Qay Tryz.f36 [mdS m] (Qaf []) 64 (fun y h'=>Qgb [] (ksE q m) y h'))=(((I64 (MD.a m))∧(((0:Int)<4081)∧(I64 4081)))∧(((I64 (MD.b m))∧(((0:Int)<4081)∧(I64 4081)))∧(sel (Int.tmod (MD.a m) 4 != 0) (((I64 (MD.k m))∧(((0:Int)<5)∧(I64 5)))∧(sel (MD.k m % 5==0) (∃ c:Nat,((((yI 1)=(yI (ShB.k (ksS m))))∧(((yI (IntKind.wrap IntKind.i64 (16 + Int.tmod (IntKind.wrap IntKind.i64 (16 + MD.a m % 4081)) 600)))=(yI (ShB.r (ksS m))))∧(((yI 0)=(yI (ShB.w (ksS m))))∧(((yI 0)=(yI (ShB.h (ksS m))))∧(((SV.v (Value.slice none 0 0))=(SV.v (Value.slice none 0 0)))∧(((0:Nat)=0)∧((((ksN m):Nat)=0)∧(((ksN m + c):Nat)=0))))))))∧(((((ksN m):Nat)=0)∧((((ksN m + c):Nat)=0)∧True))∧True))) (sel (MD.k m % 5==1) (∃ c:Nat,((((yI 2)=(yI (ShB.k (ksS m))))∧(((yI 0)=(yI (ShB.r (ksS m))))∧(((yI (IntKind.wrap IntKind.i64 (16 + Int.tmod (IntKind.wrap IntKind.i64 (16 + MD.a m % 4081)) 600)))=(yI (ShB.w (ksS m))))∧(((yI (IntKind.wrap IntKind.i64 (16 + Int.tmod (IntKind.wrap IntKind.i64 (16 + MD.b m % 4081)) 600)))=(yI (ShB.h (ksS m))))∧(((SV.v (Value.slice none 0 0))=(SV.v (Value.slice none 0 0)))∧(((0:Nat)=0)∧((((ksN m):Nat)=0)∧(((ksN m + c):Nat)=0))))))))∧(((((ksN m):Nat)=0)∧((((ksN m + c):Nat)=0)∧True))∧True))) (sel (MD.k m % 5==2) (∃ c:Nat,((((yI 3)=(yI (ShB.k (ksS m))))∧(((yI 0)=(yI (ShB.r (ksS m))))∧(((yI 0)=(yI (ShB.w (ksS m))))∧(((yI 0)=(yI (ShB.h (ksS m))))∧((SV.sl 464 2 0 3 3)=(SV.sl 464 2 0 (ksN m) (ksN m + c)))))))∧(((3:Nat)=(ksN m))∧((((ksN m + c):Nat)≤3)∧(∀ i:Nat,(((i:Nat)<(ksN m))→([(yI (bop (Nat.beq i 0) (IntKind.wrap IntKind.i64 (0 - max 64 (IntKind.wrap IntKind.i64 (16 + Int.tmod (IntKind.wrap IntKind.i64 (16 + MD.a m % 4081)) 600)))) (bop (Nat.beq i 1) (max 64 (IntKind.wrap IntKind.i64 (16 + Int.tmod (IntKind.wrap IntKind.i64 (16 + MD.a m % 4081)) 600))) 0))),(yI (bop (Nat.beq i 0) (IntKind.wrap IntKind.i64 (0 - max 64 (IntKind.wrap IntKind.i64 (16 + Int.tmod (IntKind.wrap IntKind.i64 (16 + MD.b m % 4081)) 600)))) (bop (Nat.beq i 1) (IntKind.wrap IntKind.i64 (0 - max 64 (IntKind.wrap IntKind.i64 (16 + Int.tmod (IntKind.wrap IntKind.i64 (16 + MD.b m % 4081)) 600)))) (max 64 (IntKind.wrap IntKind.i64 (16 + Int.tmod (IntKind.wrap IntKind.i64 (16 + MD.b m % 4081)) 600))))))]=[(yI (Prod.fst (ksG m i))),(yI (Prod.snd (ksG m i)))]))))))) (sel (MD.k m % 5==3) (∃ c:Nat,((((yI 3)=(yI (ShB.k (ksS m))))∧(((yI 0)=(yI (ShB.r (ksS m))))∧(((yI 0)=(yI (ShB.w (ksS m))))∧(((yI 0)=(yI (ShB.h (ksS m))))∧((SV.sl 536 2 0 5 5)=(SV.sl 536 2 0 (ksN m) (ksN m + c)))))))∧(((5:Nat)=(ksN m))∧((((ksN m + c):Nat)≤5)∧(∀ i:Nat,(((i:Nat)<(ksN m))→([(yI (bop (Nat.beq i 0) (IntKind.wrap IntKind.i64 (Int.tdiv (IntKind.wrap IntKind.i64 (0 - max 64 (IntKind.wrap IntKind.i64 (16 + Int.tmod (IntKind.wrap IntKind.i64 (16 + MD.a m % 4081)) 600)))) 2)) (bop (Nat.beq i 1) (IntKind.wrap IntKind.i64 (Int.tdiv (max 64 (IntKind.wrap IntKind.i64 (16 + Int.tmod (IntKind.wrap IntKind.i64 (16 + MD.a m % 4081)) 600))) 2)) (bop (Nat.beq i 2) (max 64 (IntKind.wrap IntKind.i64 (16 + Int.tmod (IntKind.wrap IntKind.i64 (16 + MD.a m % 4081)) 600))) (bop (Nat.beq i 3) 0 (IntKind.wrap IntKind.i64 (0 - max 64 (IntKind.wrap IntKind.i64 (16 + Int.tmod (IntKind.wrap IntKind.i64 (16 + MD.a m % 4081)) 600))))))))),(yI (bop (Nat.beq i 0) (IntKind.wrap IntKind.i64 (0 - max 64 (IntKind.wrap IntKind.i64 (16 + Int.tmod (IntKind.wrap IntKind.i64 (16 + MD.b m % 4081)) 600)))) (bop (Nat.beq i 1) (IntKind.wrap IntKind.i64 (0 - max 64 (IntKind.wrap IntKind.i64 (16 + Int.tmod (IntKind.wrap IntKind.i64 (16 + MD.b m % 4081)) 600)))) (bop (Nat.beq i 2) 0 (bop (Nat.beq i 3) (max 64 (IntKind.wrap IntKind.i64 (16 + Int.tmod (IntKind.wrap IntKind.i64 (16 + MD.b m % 4081)) 600))) 0)))))]=[(yI (Prod.fst (ksG m i))),(yI (Prod.snd (ksG m i)))]))))))) (∃ c:Nat,((((yI 3)=(yI (ShB.k (ksS m))))∧(((yI 0)=(yI (ShB.r (ksS m))))∧(((yI 0)=(yI (ShB.w (ksS m))))∧(((yI 0)=(yI (ShB.h (ksS m))))∧((SV.sl 1048 2 0 8 8)=(SV.sl 1048 2 0 (ksN m) (ksN m + c)))))))∧(((8:Nat)=(ksN m))∧((((ksN m + c):Nat)≤8)∧(∀ i:Nat,(((i:Nat)<(ksN m))→([(yI (bop (Nat.beq i 0) (max 64 (IntKind.wrap IntKind.i64 (16 + Int.tmod (IntKind.wrap IntKind.i64 (16 + MD.a m % 4081)) 600))) (bop (Nat.beq i 1) (max 64 (IntKind.wrap IntKind.i64 (16 + Int.tmod (IntKind.wrap IntKind.i64 (16 + MD.a m % 4081)) 600))) (bop (Nat.beq i 2) (IntKind.wrap IntKind.i64 (Int.tdiv (max 64 (IntKind.wrap IntKind.i64 (16 + Int.tmod (IntKind.wrap IntKind.i64 (16 + MD.a m % 4081)) 600))) 2)) (bop (Nat.beq i 3) (IntKind.wrap IntKind.i64 (Int.tdiv (IntKind.wrap IntKind.i64 (0 - max 64 (IntKind.wrap IntKind.i64 (16 + Int.tmod (IntKind.wrap IntKind.i64 (16 + MD.a m % 4081)) 600)))) 2)) (bop (Nat.beq i 4) (IntKind.wrap IntKind.i64 (0 - max 64 (IntKind.wrap IntKind.i64 (16 + Int.tmod (IntKind.wrap IntKind.i64 (16 + MD.a m % 4081)) 600)))) (bop (Nat.beq i 5) (IntKind.wrap IntKind.i64 (0 - max 64 (IntKind.wrap IntKind.i64 (16 + Int.tmod (IntKind.wrap IntKind.i64 (16 + MD.a m % 4081)) 600)))) (bop (Nat.beq i 6) (IntKind.wrap IntKind.i64 (Int.tdiv (IntKind.wrap IntKind.i64 (0 - max 64 (IntKind.wrap IntKind.i64 (16 + Int.tmod (IntKind.wrap IntKind.i64 (16 + MD.a m % 4081)) 600)))) 2)) (IntKind.wrap IntKind.i64 (Int.tdiv (max 64 (IntKind.wrap IntKind.i64 (16 + Int.tmod (IntKind.wrap IntKind.i64 (16 + MD.a m % 4081)) 600))) 2)))))))))),(yI (bop (Nat.beq i 0) (IntKind.wrap IntKind.i64 (Int.tdiv (IntKind.wrap IntKind.i64 (0 - max 64 (IntKind.wrap IntKind.i64 (16 + Int.tmod (IntKind.wrap IntKind.i64 (16 + MD.a m % 4081)) 600)))) 2)) (bop (Nat.beq i 1) (IntKind.wrap IntKind.i64 (Int.tdiv (max 64 (IntKind.wrap IntKind.i64 (16 + Int.tmod (IntKind.wrap IntKind.i64 (16 + MD.a m % 4081)) 600))) 2)) (bop (Nat.beq i 2) (max 64 (IntKind.wrap IntKind.i64 (16 + Int.tmod (IntKind.wrap IntKind.i64 (16 + MD.a m % 4081)) 600))) (bop (Nat.beq i 3) (max 64 (IntKind.wrap IntKind.i64 (16 + Int.tmod (IntKind.wrap IntKind.i64 (16 + MD.a m % 4081)) 600))) (bop (Nat.beq i 4) (IntKind.wrap IntKind.i64 (Int.tdiv (max 64 (IntKind.wrap IntKind.i64 (16 + Int.tmod (IntKind.wrap IntKind.i64 (16 + MD.a m % 4081)) 600))) 2)) (bop (Nat.beq i 5) (IntKind.wrap IntKind.i64 (Int.tdiv (IntKind.wrap IntKind.i64 (0 - max 64 (IntKind.wrap IntKind.i64 (16 + Int.tmod (IntKind.wrap IntKind.i64 (16 + MD.a m % 4081)) 600)))) 2)) (bop (Nat.beq i 6) (IntKind.wrap IntKind.i64 (0 - max 64 (IntKind.wrap IntKind.i64 (16 + Int.tmod (IntKind.wrap IntKind.i64 (16 + MD.a m % 4081)) 600)))) (IntKind.wrap IntKind.i64 (0 - max 64 (IntKind.wrap IntKind.i64 (16 + Int.tmod (IntKind.wrap IntKind.i64 (16 + MD.a m % 4081)) 600))))))))))))]=[(yI (Prod.fst (ksG m i))),(yI (Prod.snd (ksG m i)))])))))))))))) (((I64 (MD.k m))∧(((0:Int)<5)∧(I64 5)))∧(sel (MD.k m % 5==0) (∃ c:Nat,((((yI 1)=(yI (ShB.k (ksS m))))∧(((yI (IntKind.wrap IntKind.i64 (16 + MD.a m % 4081)))=(yI (ShB.r (ksS m))))∧(((yI 0)=(yI (ShB.w (ksS m))))∧(((yI 0)=(yI (ShB.h (ksS m))))∧(((SV.v (Value.slice none 0 0))=(SV.v (Value.slice none 0 0)))∧(((0:Nat)=0)∧((((ksN m):Nat)=0)∧(((ksN m + c):Nat)=0))))))))∧(((((ksN m):Nat)=0)∧((((ksN m + c):Nat)=0)∧True))∧True))) (sel (MD.k m % 5==1) (∃ c:Nat,((((yI 2)=(yI (ShB.k (ksS m))))∧(((yI 0)=(yI (ShB.r (ksS m))))∧(((yI (IntKind.wrap IntKind.i64 (16 + MD.a m % 4081)))=(yI (ShB.w (ksS m))))∧(((yI (IntKind.wrap IntKind.i64 (16 + MD.b m % 4081)))=(yI (ShB.h (ksS m))))∧(((SV.v (Value.slice none 0 0))=(SV.v (Value.slice none 0 0)))∧(((0:Nat)=0)∧((((ksN m):Nat)=0)∧(((ksN m + c):Nat)=0))))))))∧(((((ksN m):Nat)=0)∧((((ksN m + c):Nat)=0)∧True))∧True))) (sel (MD.k m % 5==2) (∃ c:Nat,((((yI 3)=(yI (ShB.k (ksS m))))∧(((yI 0)=(yI (ShB.r (ksS m))))∧(((yI 0)=(yI (ShB.w (ksS m))))∧(((yI 0)=(yI (ShB.h (ksS m))))∧((SV.sl 464 2 0 3 3)=(SV.sl 464 2 0 (ksN m) (ksN m + c)))))))∧(((3:Nat)=(ksN m))∧((((ksN m + c):Nat)≤3)∧(∀ i:Nat,(((i:Nat)<(ksN m))→([(yI (bop (Nat.beq i 0) (IntKind.wrap IntKind.i64 (0 - max 64 (IntKind.wrap IntKind.i64 (16 + MD.a m % 4081)))) (bop (Nat.beq i 1) (max 64 (IntKind.wrap IntKind.i64 (16 + MD.a m % 4081))) 0))),(yI (bop (Nat.beq i 0) (IntKind.wrap IntKind.i64 (0 - max 64 (IntKind.wrap IntKind.i64 (16 + MD.b m % 4081)))) (bop (Nat.beq i 1) (IntKind.wrap IntKind.i64 (0 - max 64 (IntKind.wrap IntKind.i64 (16 + MD.b m % 4081)))) (max 64 (IntKind.wrap IntKind.i64 (16 + MD.b m % 4081))))))]=[(yI (Prod.fst (ksG m i))),(yI (Prod.snd (ksG m i)))]))))))) (sel (MD.k m % 5==3) (∃ c:Nat,((((yI 3)=(yI (ShB.k (ksS m))))∧(((yI 0)=(yI (ShB.r (ksS m))))∧(((yI 0)=(yI (ShB.w (ksS m))))∧(((yI 0)=(yI (ShB.h (ksS m))))∧((SV.sl 536 2 0 5 5)=(SV.sl 536 2 0 (ksN m) (ksN m + c)))))))∧(((5:Nat)=(ksN m))∧((((ksN m + c):Nat)≤5)∧(∀ i:Nat,(((i:Nat)<(ksN m))→([(yI (bop (Nat.beq i 0) (IntKind.wrap IntKind.i64 (Int.tdiv (IntKind.wrap IntKind.i64 (0 - max 64 (IntKind.wrap IntKind.i64 (16 + MD.a m % 4081)))) 2)) (bop (Nat.beq i 1) (IntKind.wrap IntKind.i64 (Int.tdiv (max 64 (IntKind.wrap IntKind.i64 (16 + MD.a m % 4081))) 2)) (bop (Nat.beq i 2) (max 64 (IntKind.wrap IntKind.i64 (16 + MD.a m % 4081))) (bop (Nat.beq i 3) 0 (IntKind.wrap IntKind.i64 (0 - max 64 (IntKind.wrap IntKind.i64 (16 + MD.a m % 4081))))))))),(yI (bop (Nat.beq i 0) (IntKind.wrap IntKind.i64 (0 - max 64 (IntKind.wrap IntKind.i64 (16 + MD.b m % 4081)))) (bop (Nat.beq i 1) (IntKind.wrap IntKind.i64 (0 - max 64 (IntKind.wrap IntKind.i64 (16 + MD.b m % 4081)))) (bop (Nat.beq i 2) 0 (bop (Nat.beq i 3) (max 64 (IntKind.wrap IntKind.i64 (16 + MD.b m % 4081))) 0)))))]=[(yI (Prod.fst (ksG m i))),(yI (Prod.snd (ksG m i)))]))))))) (∃ c:Nat,((((yI 3)=(yI (ShB.k (ksS m))))∧(((yI 0)=(yI (ShB.r (ksS m))))∧(((yI 0)=(yI (ShB.w (ksS m))))∧(((yI 0)=(yI (ShB.h (ksS m))))∧((SV.sl 1048 2 0 8 8)=(SV.sl 1048 2 0 (ksN m) (ksN m + c)))))))∧(((8:Nat)=(ksN m))∧((((ksN m + c):Nat)≤8)∧(∀ i:Nat,(((i:Nat)<(ksN m))→([(yI (bop (Nat.beq i 0) (max 64 (IntKind.wrap IntKind.i64 (16 + MD.a m % 4081))) (bop (Nat.beq i 1) (max 64 (IntKind.wrap IntKind.i64 (16 + MD.a m % 4081))) (bop (Nat.beq i 2) (IntKind.wrap IntKind.i64 (Int.tdiv (max 64 (IntKind.wrap IntKind.i64 (16 + MD.a m % 4081))) 2)) (bop (Nat.beq i 3) (IntKind.wrap IntKind.i64 (Int.tdiv (IntKind.wrap IntKind.i64 (0 - max 64 (IntKind.wrap IntKind.i64 (16 + MD.a m % 4081)))) 2)) (bop (Nat.beq i 4) (IntKind.wrap IntKind.i64 (0 - max 64 (IntKind.wrap IntKind.i64 (16 + MD.a m % 4081)))) (bop (Nat.beq i 5) (IntKind.wrap IntKind.i64 (0 - max 64 (IntKind.wrap IntKind.i64 (16 + MD.a m % 4081)))) (bop (Nat.beq i 6) (IntKind.wrap IntKind.i64 (Int.tdiv (IntKind.wrap IntKind.i64 (0 - max 64 (IntKind.wrap IntKind.i64 (16 + MD.a m % 4081)))) 2)) (IntKind.wrap IntKind.i64 (Int.tdiv (max 64 (IntKind.wrap IntKind.i64 (16 + MD.a m % 4081))) 2)))))))))),(yI (bop (Nat.beq i 0) (IntKind.wrap IntKind.i64 (Int.tdiv (IntKind.wrap IntKind.i64 (0 - max 64 (IntKind.wrap IntKind.i64 (16 + MD.a m % 4081)))) 2)) (bop (Nat.beq i 1) (IntKind.wrap IntKind.i64 (Int.tdiv (max 64 (IntKind.wrap IntKind.i64 (16 + MD.a m % 4081))) 2)) (bop (Nat.beq i 2) (max 64 (IntKind.wrap IntKind.i64 (16 + MD.a m % 4081))) (bop (Nat.beq i 3) (max 64 (IntKind.wrap IntKind.i64 (16 + MD.a m % 4081))) (bop (Nat.beq i 4) (IntKind.wrap IntKind.i64 (Int.tdiv (max 64 (IntKind.wrap IntKind.i64 (16 + MD.a m % 4081))) 2)) (bop (Nat.beq i 5) (IntKind.wrap IntKind.i64 (Int.tdiv (IntKind.wrap IntKind.i64 (0 - max 64 (IntKind.wrap IntKind.i64 (16 + MD.a m % 4081)))) 2)) (bop (Nat.beq i 6) (IntKind.wrap IntKind.i64 (0 - max 64 (IntKind.wrap IntKind.i64 (16 + MD.a m % 4081)))) (IntKind.wrap IntKind.i64 (0 - max 64 (IntKind.wrap IntKind.i64 (16 + MD.a m % 4081))))))))))))]=[(yI (Prod.fst (ksG m i))),(yI (Prod.snd (ksG m i)))]))))))))))))))):=by kernel_rfl
theorem Qhd (n:Int) {s m:Int} (hm:IntKind.i64.wrap (s*4294967296)=m) (h0:0<m):-m<(Qgz n s).v∧(Qgz n s).v<m:=by
 show -m<Int.tmod n (IntKind.i64.wrap (s*4294967296))∧Int.tmod n (IntKind.i64.wrap (s*4294967296))<m
 rw [hm]
 have h:=Int.natAbs_tmod n m
 have h1:n.natAbs % m.natAbs<m.natAbs:=Nat.mod_lt _ (by omega)
 omega
theorem Zji (n:Int) {s m:Int} (hm:IntKind.i64.wrap (s*4294967296)=m) (h0:0<m) (h1:m<9223372036854775807):I64 (Qgz n s).v:=by
 have:=Qhd n hm h0
 exact ⟨by omega,by omega⟩
theorem Q4i:Qaq Tryz.prog 37 Zcv:=Qax hm Qy8 Tryz.func37 (Λ:=fun _=>Qay) fun args p x h hp=>by
 unfold Zcv at h
 split at h <;> try (cases h; done)
 rename_i k a b x y w s
 cases h
 have h1:0<s∧s<1073741824:=hp _ rfl
 exact ⟨rfl,rfl,Eq.mpr (Zg3 ⟨k,a,b,x,y,w⟩ s _) ⟨h1,h1,⟨by decide,by decide⟩,Zji w (m:=34359738368) (by rfl) (by decide) (by decide),rfl⟩⟩
theorem w16 (x:Int):IntKind.i64.wrap (16 + x % 4081)=16 + x % 4081:=Qaj ⟨by omega,by omega⟩
theorem w600 (x:Int):IntKind.i64.wrap (16 + Int.tmod (16 + x % 4081) 600)=16 + (16 + x % 4081) % 600:=by
 rw [Int.tmod_eq_emod_of_nonneg (by omega),Qaj ⟨by omega,by omega⟩]
theorem wK {K:Int} (h:64≤K∧K≤4096):IntKind.i64.wrap (0 - K)=-K:=by rw [Qaj ⟨by omega,by omega⟩]; omega
theorem wK2 {K:Int} (h:64≤K∧K≤4096):IntKind.i64.wrap (Int.tdiv K 2)=K / 2:=by
 rw [Int.tdiv_eq_ediv_of_nonneg (by omega),Qaj ⟨by omega,by omega⟩]
theorem wK3 {K:Int} (h:64≤K∧K≤4096):IntKind.i64.wrap (Int.tdiv (-K) 2)=-(K / 2):=by
 rw [Int.neg_tdiv,Int.tdiv_eq_ediv_of_nonneg (by omega),Qaj ⟨by omega,by omega⟩]
theorem Qod (t:Bool) (x:Int):16≤ksZ t x∧ksZ t x≤4096:=by
 unfold ksZ; cases t <;> simp only [cond_true,cond_false] <;> omega
theorem Zka {m:MD} {q:Prop} (h:mdI m):Qcf Tryz.prog ΓG Qay Tryz.f36 [mdS m] (Qaf []) 64 (fun y h'=>Qgb [] (ksE q m) y h'):=by
 obtain ⟨hk,ha,hb,-⟩:=h
 have m4081:(0:Int)<4081∧I64 4081:=⟨by decide,by decide,by decide⟩
 refine Eq.mpr (Zln m q) ⟨⟨ha,m4081⟩,⟨hb,m4081⟩,?_⟩
 rw [w16,w16]
 have hXA:ksX m.a m.a=ksZ (ksB m.a) m.a:=rfl
 have hXB:ksX m.a m.b=ksZ (ksB m.a) m.b:=rfl
 refine Qag (fun hs=>⟨⟨hk,by decide,by decide,by decide⟩,?_⟩) fun hs=>⟨⟨hk,by decide,by decide,by decide⟩,?_⟩
 · have hB:ksB m.a=false:=by unfold ksB; simpa using hs
   rw [w600,w600,show 16 + (16 + m.a % 4081) % 600=ksX m.a m.a from by rw [hXA,hB]; rfl,show 16 + (16 + m.b % 4081) % 600=ksX m.a m.b from by rw [hXB,hB]; rfl]
   have hKA:64≤ksM m.a m.a∧ksM m.a m.a≤4096:=by have:=Qod (ksB m.a) m.a; unfold ksM; rw [hXA]; omega
   have hKB:64≤ksM m.a m.b∧ksM m.a m.b≤4096:=by have:=Qod (ksB m.a) m.b; unfold ksM; rw [hXB]; omega
   rw [show max 64 (ksX m.a m.a)=ksM m.a m.a from rfl,show max 64 (ksX m.a m.b)=ksM m.a m.b from rfl,wK hKA,wK hKB,wK2 hKA,wK3 hKA]
   refine Qag (fun h0=>?_) fun h0=>Qag (fun h1=>?_) fun h1=>Qag (fun h2=>?_) fun h2=>Qag (fun h3=>?_) fun h3=>?_
   · have hS:ksS m=⟨1,ksX m.a m.a,0,0⟩:=by unfold ksS; rw [h0]; rfl
     have hN:ksN m=0:=by unfold ksN; rw [h0]; rfl
     rw [hS,hN]
     exact ⟨0,⟨rfl,rfl,rfl,rfl,rfl,rfl,rfl,rfl⟩,⟨rfl,rfl,trivial⟩,trivial⟩
   · have hS:ksS m=⟨2,0,ksX m.a m.a,ksX m.a m.b⟩:=by unfold ksS; rw [h0,h1]; rfl
     have hN:ksN m=0:=by unfold ksN; rw [h0,h1]; rfl
     rw [hS,hN]
     exact ⟨0,⟨rfl,rfl,rfl,rfl,rfl,rfl,rfl,rfl⟩,⟨rfl,rfl,trivial⟩,trivial⟩
   · have hS:ksS m=⟨3,0,0,0⟩:=by unfold ksS; rw [h0,h1]; rfl
     have hN:ksN m=3:=by unfold ksN; rw [h0,h1,h2]; rfl
     have hG:ksG m=G3 (ksM m.a m.a) (ksM m.a m.b):=by unfold ksG; rw [h2]; rfl
     rw [hS,hN,hG]
     refine ⟨0,⟨rfl,rfl,rfl,rfl,rfl⟩,rfl,Nat.le_refl _,fun i hi=>?_⟩
     obtain rfl | rfl | rfl:i=0∨i=1∨i=2:=by omega
     all_goals rfl
   · have hS:ksS m=⟨3,0,0,0⟩:=by unfold ksS; rw [h0,h1]; rfl
     have hN:ksN m=5:=by unfold ksN; rw [h0,h1,h2,h3]; rfl
     have hG:ksG m=G5 (ksM m.a m.a) (ksM m.a m.b) (ksM m.a m.a / 2):=by unfold ksG; rw [h2,h3]; rfl
     rw [hS,hN,hG]
     refine ⟨0,⟨rfl,rfl,rfl,rfl,rfl⟩,rfl,Nat.le_refl _,fun i hi=>?_⟩
     obtain rfl | rfl | rfl | rfl | rfl:i=0∨i=1∨i=2∨i=3∨i=4:=by omega
     all_goals rfl
   · have hS:ksS m=⟨3,0,0,0⟩:=by unfold ksS; rw [h0,h1]; rfl
     have hN:ksN m=8:=by unfold ksN; rw [h0,h1,h2,h3]; rfl
     have hG:ksG m=G8 (ksM m.a m.a) (ksM m.a m.a / 2):=by unfold ksG; rw [h2,h3]; rfl
     rw [hS,hN,hG]
     refine ⟨0,⟨rfl,rfl,rfl,rfl,rfl⟩,rfl,Nat.le_refl _,fun i hi=>?_⟩
     obtain rfl | rfl | rfl | rfl | rfl | rfl | rfl | rfl:i=0∨i=1∨i=2∨i=3∨i=4∨i=5∨i=6∨i=7:=by omega
     all_goals rfl
 · have hB:ksB m.a=true:=by unfold ksB; simpa using hs
   rw [show 16 + m.a % 4081=ksX m.a m.a from by rw [hXA,hB]; rfl,show 16 + m.b % 4081=ksX m.a m.b from by rw [hXB,hB]; rfl]
   have hKA:64≤ksM m.a m.a∧ksM m.a m.a≤4096:=by have:=Qod (ksB m.a) m.a; unfold ksM; rw [hXA]; omega
   have hKB:64≤ksM m.a m.b∧ksM m.a m.b≤4096:=by have:=Qod (ksB m.a) m.b; unfold ksM; rw [hXB]; omega
   rw [show max 64 (ksX m.a m.a)=ksM m.a m.a from rfl,show max 64 (ksX m.a m.b)=ksM m.a m.b from rfl,wK hKA,wK hKB,wK2 hKA,wK3 hKA]
   refine Qag (fun h0=>?_) fun h0=>Qag (fun h1=>?_) fun h1=>Qag (fun h2=>?_) fun h2=>Qag (fun h3=>?_) fun h3=>?_
   · have hS:ksS m=⟨1,ksX m.a m.a,0,0⟩:=by unfold ksS; rw [h0]; rfl
     have hN:ksN m=0:=by unfold ksN; rw [h0]; rfl
     rw [hS,hN]
     exact ⟨0,⟨rfl,rfl,rfl,rfl,rfl,rfl,rfl,rfl⟩,⟨rfl,rfl,trivial⟩,trivial⟩
   · have hS:ksS m=⟨2,0,ksX m.a m.a,ksX m.a m.b⟩:=by unfold ksS; rw [h0,h1]; rfl
     have hN:ksN m=0:=by unfold ksN; rw [h0,h1]; rfl
     rw [hS,hN]
     exact ⟨0,⟨rfl,rfl,rfl,rfl,rfl,rfl,rfl,rfl⟩,⟨rfl,rfl,trivial⟩,trivial⟩
   · have hS:ksS m=⟨3,0,0,0⟩:=by unfold ksS; rw [h0,h1]; rfl
     have hN:ksN m=3:=by unfold ksN; rw [h0,h1,h2]; rfl
     have hG:ksG m=G3 (ksM m.a m.a) (ksM m.a m.b):=by unfold ksG; rw [h2]; rfl
     rw [hS,hN,hG]
     refine ⟨0,⟨rfl,rfl,rfl,rfl,rfl⟩,rfl,Nat.le_refl _,fun i hi=>?_⟩
     obtain rfl | rfl | rfl:i=0∨i=1∨i=2:=by omega
     all_goals rfl
   · have hS:ksS m=⟨3,0,0,0⟩:=by unfold ksS; rw [h0,h1]; rfl
     have hN:ksN m=5:=by unfold ksN; rw [h0,h1,h2,h3]; rfl
     have hG:ksG m=G5 (ksM m.a m.a) (ksM m.a m.b) (ksM m.a m.a / 2):=by unfold ksG; rw [h2,h3]; rfl
     rw [hS,hN,hG]
     refine ⟨0,⟨rfl,rfl,rfl,rfl,rfl⟩,rfl,Nat.le_refl _,fun i hi=>?_⟩
     obtain rfl | rfl | rfl | rfl | rfl:i=0∨i=1∨i=2∨i=3∨i=4:=by omega
     all_goals rfl
   · have hS:ksS m=⟨3,0,0,0⟩:=by unfold ksS; rw [h0,h1]; rfl
     have hN:ksN m=8:=by unfold ksN; rw [h0,h1,h2,h3]; rfl
     have hG:ksG m=G8 (ksM m.a m.a) (ksM m.a m.a / 2):=by unfold ksG; rw [h2,h3]; rfl
     rw [hS,hN,hG]
     refine ⟨0,⟨rfl,rfl,rfl,rfl,rfl⟩,rfl,Nat.le_refl _,fun i hi=>?_⟩
     obtain rfl | rfl | rfl | rfl | rfl | rfl | rfl | rfl:i=0∨i=1∨i=2∨i=3∨i=4∨i=5∨i=6∨i=7:=by omega
     all_goals rfl
theorem Q8q:Qbv Tryz.prog 36 Zmf:=Qb0 hm Qy8 Tryz.func36 (Λ:=fun _ _=>Qay) fun args bs e hs hp=>by
 unfold Zmf at hs
 split at hs <;> try (cases hs; done)
 rename_i k a b x y w
 cases hs
 exact ⟨[],trivial,Zka (m:=⟨k,a,b,x,y,w⟩) hp⟩
theorem Zbj {d:Int} (h:1≤d∧d≤1000):Zli 0 d=0:=by
 unfold Zli
 rw [decide_eq_false (p:=d<1) (by omega),decide_eq_false (p:=d > 1000) (by omega)]; rfl
end Go.Proofs.YthkihlpeaidlnaaGreat
end
