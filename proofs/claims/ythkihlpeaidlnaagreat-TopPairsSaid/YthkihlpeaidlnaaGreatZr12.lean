/-
 What the proof uses, part 12.
-/
import Derived.Test.YthkihlpeaidlnaaGreatZr11
set_option maxRecDepth 100000
set_option linter.unusedSimpArgs false
set_option linter.unusedVariables false

section
namespace Go.Proofs.YthkihlpeaidlnaaGreat
open Go.SE Go.RowKit
def rX (r:List SV):NB:=match r with | [.v (.int _ a),.v (.bool f),_,_]=>⟨a,f⟩ | _=>⟨0,false⟩
def rY (r:List SV):NB:=match r with | [_,_,.v (.int _ a),.v (.bool f)]=>⟨a,f⟩ | _=>⟨0,false⟩
def rV (r:List SV):VB:=⟨rX r,rY r⟩
def Zfy:List SV→Prop
 | [.v (.int .i64 a),.v (.bool _),.v (.int .i64 b),.v (.bool _)]=>I64 a∧I64 b
 | _=>False
def nR (a:NB):List SV:=[.v (.int .i64 a.v),.v (.bool a.f)]
def vR (a:VB):List SV:=[.v (.int .i64 a.x.v),.v (.bool a.x.f),.v (.int .i64 a.y.v),.v (.bool a.y.f)]
def Zh7 (l:List (List SV)):NB:=⟨Qbb (Qk1 l),Qe7 (Qk1 l) (Qkf l)⟩
def Zf2 (n:Nat) (g:Nat→VB):VB:=⟨Zh7 (Qau n fun i=>nR (g i).x),Zh7 (Qau n fun i=>nR (g i).y)⟩
def Zaf (a:VB):Bool:=Qa8 a.x.v a.x.f||Qa8 a.y.v a.y.f
def Zdi:List SV→List Ro→Option (Option Prop×SV)
 | [.sl 0 4 0 n _],[⟨4,n',row⟩]=>some (some (Qe3 Zfy (Qau n' row)∧n'=n∧n<1099511627776),vS (Zf2 n fun i=>rV (row i)))
 | _,_=>none
def Zmp:List SV→Option (Option Prop×SV)
 | [.agg [.v (.int .i64 a),.v (.bool f),.v (.int .i64 b),.v (.bool g)]]=>some (some (I64 a∧I64 b),.v (.bool (Zaf ⟨⟨a,f⟩,⟨b,g⟩⟩)))
 | _=>none
def Q05:List SV→Option (Option Prop×SV)
 | [.agg [.v (.int .i64 a),.v (.bool f)]]=>some (some (I64 a),.v (.bool (Qa8 a f)))
 | _=>none
def Zdj (g:Nat→VB):Nat→List SV:=fun i=>vR (g i)
def blkN (n:Nat) (c:Nat) (g:Nat→NB):Blk:={elem:=67,size:=2,rw:=true,lock:=false,lit:=false,flat:=true,n,row:=fun i=>nR (g i),ext:=c}
structure KCD where
 k:Nat
 c:Nat
 d:Nat
noncomputable def Qyv (n:Nat) (g:Nat→VB):Nat→Option LoopSpec:=Qo3 (Qlx Qay Tryz.f177 0 KCD (fun x=>x.k≤n∧x.k≤x.c∧x.k≤x.d) (fun x=>n - x.k) [(5,fun x=>.v (.int .i64 x.k)),(3,fun x=>.sl 40 2 0 x.k x.c),(4,fun x=>.sl 41 2 0 x.k x.d)] [] [(40,fun x=>blkN x.k x.c fun i=>(g i).x,Qic 3),(41,fun x=>blkN x.k x.d fun i=>(g i).y,Qic 4)]) 5 [(7,fun nx=>[40,nx + 48]),(15,fun nx=>[41,nx + 112])]
theorem Zb5 (a:NB) (R:SV→Prop):(Qbe Tryz.prog Zk6 Qay Tryz.f172 [nS a] R)=((((Q5b [SV.v (.int .i64 (NB.v a)),SV.v (.bool (NB.f a))])∧True)∧(((1:Nat)=1)∧((1:Nat)<1099511627776)))∧(R (SV.v (.bool (Qe7 (Qk1 [[SV.v (.int .i64 (NB.v a)),SV.v (.bool (NB.f a))]]) (Qkf [[SV.v (.int .i64 (NB.v a)),SV.v (.bool (NB.f a))]])))))):=by kernel_rfl
def Zk5:Qbz:=Qai (Zk6) 172 (Qao Q05)
theorem Zbu (n n' c:Nat) (g:Nat→VB) (R:SV→Prop):(Qcf Tryz.prog Zk5 (Qyv n g) Tryz.f177 [.sl 0 4 0 n c] (Qbl [⟨4,n',Zdj g⟩]) 64 (fun y _=>R y)) =
((∃ x:KCD,(((((KCD.k x):Nat)≤n)∧((((KCD.k x):Nat)≤(KCD.c x))∧(((KCD.k x):Nat)≤(KCD.d x))))∧((((SV.v (.int .i64 0))=(SV.v (.int .i64 ((↑(KCD.k x):Int)))))∧((((SV.v (Value.slice none 0 0))=(SV.v (Value.slice none 0 0)))∧(((0:Nat)=0)∧((((KCD.k x):Nat)=0)∧(((KCD.c x):Nat)=0))))∧(((SV.v (Value.slice none 0 0))=(SV.v (Value.slice none 0 0)))∧(((0:Nat)=0)∧((((KCD.k x):Nat)=0)∧(((KCD.d x):Nat)=0))))))∧(((((KCD.k x):Nat)=0)∧((((KCD.c x):Nat)=0)∧True))∧(((((KCD.k x):Nat)=0)∧((((KCD.d x):Nat)=0)∧True))∧True)))))∧(∀ x:KCD,(((((KCD.k x):Nat)≤n)∧((((KCD.k x):Nat)≤(KCD.c x))∧(((KCD.k x):Nat)≤(KCD.d x))))→(sel (decide ((↑(KCD.k x):Int)<(↑n:Int))) ((((0:Int)≤((↑(KCD.k x):Int)))∧((((↑(KCD.k x):Int)):Int)<((↑n:Int))))∧((((((KCD.k x + 1)*16):Nat)≤140737488355328)∧((((0 + KCD.c x):Nat)≤(KCD.c x))∧(∀ y:Nat,(((y:Nat)<1)→True))))∧(∀ c_1:Nat,((((0:Int)≤((↑(KCD.k x):Int)))∧((((↑(KCD.k x):Int)):Int)<((↑n:Int))))∧((((((KCD.k x + 1)*16):Nat)≤140737488355328)∧((((0 + KCD.d x):Nat)≤(KCD.d x))∧(∀ y:Nat,(((y:Nat)<1)→True))))∧(∀ c_2:Nat,(∃ x':KCD,((((((KCD.k x'):Nat)≤n)∧((((KCD.k x'):Nat)≤(KCD.c x'))∧(((KCD.k x'):Nat)≤(KCD.d x'))))∧((((SV.v (.int .i64 (IntKind.wrap IntKind.i64 ((↑(KCD.k x):Int) + 1))))=(SV.v (.int .i64 ((↑(KCD.k x'):Int)))))∧(((SV.sl 184 2 0 (KCD.k x + 1) (KCD.k x + 1 + c_1))=(SV.sl 184 2 0 (KCD.k x') (KCD.c x')))∧((SV.sl 248 2 0 (KCD.k x + 1) (KCD.k x + 1 + c_2))=(SV.sl 248 2 0 (KCD.k x') (KCD.d x')))))∧(((((KCD.k x + 1):Nat)=(KCD.k x'))∧((((KCD.c x'):Nat)≤(KCD.k x + 1 + c_1))∧(∀ i:Nat,(((i:Nat)<(KCD.k x'))→([(SV.v (.int .i64 (bop (Nat.blt i (KCD.k x)) (NB.v (VB.x (g (0 + i)))) (NB.v (VB.x (g (0 + Int.toNat (↑(KCD.k x):Int)))))))),(SV.v (.bool (bop (Nat.blt i (KCD.k x)) (NB.f (VB.x (g (0 + i)))) (NB.f (VB.x (g (0 + Int.toNat (↑(KCD.k x):Int))))))))]=[(SV.v (.int .i64 (NB.v (VB.x (g i))))),(SV.v (.bool (NB.f (VB.x (g i)))))])))))∧((((KCD.k x + 1):Nat)=(KCD.k x'))∧((((KCD.d x'):Nat)≤(KCD.k x + 1 + c_2))∧(∀ i:Nat,(((i:Nat)<(KCD.k x'))→([(SV.v (.int .i64 (bop (Nat.blt i (KCD.k x)) (NB.v (VB.y (g (0 + i)))) (NB.v (VB.y (g (0 + Int.toNat (↑(KCD.k x):Int)))))))),(SV.v (.bool (bop (Nat.blt i (KCD.k x)) (NB.f (VB.y (g (0 + i)))) (NB.f (VB.y (g (0 + Int.toNat (↑(KCD.k x):Int))))))))]=[(SV.v (.int .i64 (NB.v (VB.y (g i))))),(SV.v (.bool (NB.f (VB.y (g i)))))]))))))))∧(((n - KCD.k x'):Nat)<(n - KCD.k x)))))))))) (((Qe3 Q5b (Qau (KCD.k x) fun y=>[SV.v (.int .i64 (NB.v (VB.x (g (0 + y))))),SV.v (.bool (NB.f (VB.x (g (0 + y)))))]))∧((((KCD.k x):Nat)=(KCD.k x))∧(((KCD.k x):Nat)<1099511627776)))∧(((Qe3 Q5b (Qau (KCD.k x) fun y=>[SV.v (.int .i64 (NB.v (VB.y (g (0 + y))))),SV.v (.bool (NB.f (VB.y (g (0 + y)))))]))∧((((KCD.k x):Nat)=(KCD.k x))∧(((KCD.k x):Nat)<1099511627776)))∧(R (SV.agg [(SV.v (.int .i64 (Qbb (Qk1 (Qau (KCD.k x) fun y=>[SV.v (.int .i64 (NB.v (VB.x (g (0 + y))))),SV.v (.bool (NB.f (VB.x (g (0 + y)))))]))))),(SV.v (.bool (Qe7 (Qk1 (Qau (KCD.k x) fun y=>[SV.v (.int .i64 (NB.v (VB.x (g (0 + y))))),SV.v (.bool (NB.f (VB.x (g (0 + y)))))])) (Qkf (Qau (KCD.k x) fun y=>[SV.v (.int .i64 (NB.v (VB.x (g (0 + y))))),SV.v (.bool (NB.f (VB.x (g (0 + y)))))]))))),(SV.v (.int .i64 (Qbb (Qk1 (Qau (KCD.k x) fun y=>[SV.v (.int .i64 (NB.v (VB.y (g (0 + y))))),SV.v (.bool (NB.f (VB.y (g (0 + y)))))]))))),(SV.v (.bool (Qe7 (Qk1 (Qau (KCD.k x) fun y=>[SV.v (.int .i64 (NB.v (VB.y (g (0 + y))))),SV.v (.bool (NB.f (VB.y (g (0 + y)))))])) (Qkf (Qau (KCD.k x) fun y=>[SV.v (.int .i64 (NB.v (VB.y (g (0 + y))))),SV.v (.bool (NB.f (VB.y (g (0 + y)))))])))))])))))))):=by kernel_rfl
def ΓV4:Qbz:=Zk5
def ΓV5:Qbz:=ΓV4
theorem Q2p {r:List SV} (h:Zfy r):r=vR (rV r)∧I64 (rV r).x.v∧I64 (rV r).y.v:=by
 unfold Zfy at h
 split at h
 · exact ⟨rfl,h.1,h.2⟩
 · exact h.elim
theorem Qv4 {n:Nat} {g:Nat→NB} (h:∀ i,i<n→I64 (g i).v):Qe3 Q5b (Qau n fun i=>nR (g i)):=okAll_rows.2 fun i hi=>h i hi
theorem Zcb {n:Nat} {row:Nat→List SV} (h:∀ i,i<n→Zfy (row i)):∀ i,i<n→row i=vR (rV (row i)):=fun i hi=>(Q2p (h i hi)).1
theorem Qym:Qaq Tryz.prog 172 Q05:=Qax hm Qy2 Tryz.func172 (Λ:=fun _=>Qay) fun args p x h hp=>by
 unfold Q05 at h
 split at h <;> try (cases h; done)
 rename_i a f
 cases h
 have h0:I64 a:=hp _ rfl
 refine ⟨rfl,rfl,?_⟩
 refine Eq.mpr (Zb5 ⟨a,f⟩ _) ?_
 refine ⟨⟨⟨h0,trivial⟩,by decide⟩,Qke ?_⟩
 show Qe7 (Qaa a + 0) (Qa8 a f||false)=_
 rw [Int.add_zero,Qfe (Q0h h0),Bool.or_false]
theorem Qy1:∀ f g,Zk5 f=some g→g.ok Tryz.prog f:=Qad (Qy2) (Qas Tryz.func172 (by kernel_rfl) (by kernel_rfl) Qym)
theorem Q6d {x n:Nat} (h:x<n) (h1:n<1099511627776):IntKind.i64.wrap ((x:Int) + 1)=((x + 1:Nat):Int):=by rw [Qaj ⟨by omega,by omega⟩]; omega
theorem Zah (g:Nat→NB) (k i:Nat) (h:i<k + 1):[SV.v (.int .i64 (bop (Nat.blt i k) (g (0 + i)).v (g (0 + Int.toNat (k:Int))).v)),SV.v (.bool (bop (Nat.blt i k) (g (0 + i)).f (g (0 + Int.toNat (k:Int))).f))]=nR (g i):=by
 rw [Int.toNat_natCast,Nat.zero_add,Nat.zero_add]
 by_cases h':i<k
 · rw [show Nat.blt i k=true from Nat.ble_eq_true_of_le h']; rfl
 · obtain rfl:i=k:=by omega
   rw [show Nat.blt i i=false from by cases hb:Nat.blt i i with | false=>rfl | true=>exact absurd (Nat.le_of_ble_eq_true hb) h']; rfl
theorem nR_0 (n:Nat) (g:Nat→NB):(Qau n fun y=>[SV.v (.int .i64 ((fun i=>g i) (0 + y)).v),SV.v (.bool ((fun i=>g i) (0 + y)).f)])=Qau n fun i=>nR (g i):=Qg8 fun i _=>by rw [Nat.zero_add]; rfl
theorem Qx9:Qc7 Tryz.prog 177 Zdi:=Qcq hm Qy1 Tryz.func177 (Λ:=fun args bs=>match args,bs with | [.sl 0 4 0 n _],[⟨4,_,row⟩]=>Qyv n (fun i=>rV (row i)) | _,_=>Qay) fun args bs p x h hp=>by
 unfold Zdi at h
 split at h <;> try (cases h; done)
 rename_i n c n' row
 cases h
 obtain ⟨h0,rfl,hn⟩:=hp _ rfl
 have h0:=okAll_rows.1 h0
 refine ⟨rfl,[⟨4,n',Zdj fun i=>rV (row i)⟩],⟨⟨rfl,rfl,fun i hi=>Zcb h0 i hi⟩,trivial⟩,?_⟩
 have hg:∀ i,i<n'→I64 ((fun i=>rV (row i)) i).x.v∧I64 ((fun i=>rV (row i)) i).y.v:=fun i hi=>(Q2p (h0 i hi)).2
 show Qcf _ _ (Qyv n' fun i=>rV (row i)) _ _ (Qbl [⟨4,n',Zdj fun i=>rV (row i)⟩]) _ (fun y _=>y=vS (Zf2 n' fun i=>rV (row i)))
 generalize (fun i=>rV (row i))=g at *
 refine Eq.mpr (Zbu n' n' c g _) ?_
 refine ⟨⟨⟨0,0,0⟩,⟨Nat.zero_le _,Nat.le_refl _,Nat.le_refl _⟩,⟨rfl,⟨rfl,rfl,rfl,rfl⟩,rfl,rfl,rfl,rfl⟩,⟨rfl,rfl,trivial⟩,⟨rfl,rfl,trivial⟩,trivial⟩,fun ⟨k,cc,d⟩ ⟨x1,x2,x3⟩=>?_⟩
 have x1:k≤n':=x1
 have x2:k≤cc:=x2
 have x3:k≤d:=x3
 simp only
 refine Qag (fun e=>?_) fun e=>?_
 · have e:=of_decide_eq_true e
   have hx:k<n':=by omega
   exact ⟨⟨by omega,by omega⟩,⟨by omega,by omega,fun _ _=>trivial⟩,fun c1=>⟨⟨by omega,by omega⟩,⟨by omega,by omega,fun _ _=>trivial⟩,fun c2=>⟨⟨k + 1,k + 1 + c1,k + 1 + c2⟩,⟨⟨hx,Nat.le_add_right _ _,Nat.le_add_right _ _⟩,⟨Qck (Q6d hx hn),rfl,rfl⟩,⟨rfl,Nat.le_refl _,fun i hi=>Zah (fun i=>(g i).x) k i hi⟩,rfl,Nat.le_refl _,fun i hi=>Zah (fun i=>(g i).y) k i hi⟩,by show n' - (k + 1)<n' - k; omega⟩⟩⟩
 · have e:=of_decide_eq_false e
   obtain rfl:k=n':=by omega
   have e1:=nR_0 k fun i=>(g i).x
   have e2:=nR_0 k fun i=>(g i).y
   simp only at e1 e2
   rw [e1,e2]
   exact ⟨⟨Qv4 fun i hi=>(hg i hi).1,trivial,hn⟩,⟨Qv4 fun i hi=>(hg i hi).2,trivial,hn⟩,rfl⟩
theorem Zaw:∀ f g,ΓV4 f=some g→g.ok Tryz.prog f:=Qy1
theorem Zav:∀ f g,ΓV5 f=some g→g.ok Tryz.prog f:=Zaw
def Zkf:Qbz:=Qai (ΓV5) 177 (Qfc Zdi)
def Zbh:VB:=⟨⟨0,false⟩,⟨0,false⟩⟩
def Qnh (a b:VB):VB:=⟨Zh7 [nR a.x,nR b.x],Zh7 [nR a.y,nR b.y]⟩
def Qol (v:VB):VB:=bif decide (Qab v.x.v<16777216)&&decide (Qab v.y.v<16777216) then ⟨⟨v.x.v*16777216,v.x.f⟩,⟨v.y.v*16777216,v.y.f⟩⟩ else v
def Zh1 (v:VB):VB×Bool:=bif Zaf v then (Zbh,false) else bif (Zkv (Qol v)).f||(Zkv (Qol v)).v==0 then (Zbh,false) else (⟨Qqp (Qol v).x (Zkv (Qol v)),Qqp (Qol v).y (Zkv (Qol v))⟩,true)
def Q3n (r:VB):Int:=bif Zaf r then 3 else bif decide ((Qq8 r.x r.x r.y r.y).v - 4294967296 > 65536)||decide (4294967296 - (Qq8 r.x r.x r.y r.y).v > 65536) then 3 else 0
def sUnit:List SV→Option (Option Prop×SV)
 | [.agg [.v (.int .i64 a),.v (.bool f),.v (.int .i64 b),.v (.bool g)]]=>some (some (I64 a∧I64 b),.tup [vS (Zh1 ⟨⟨a,f⟩,⟨b,g⟩⟩).1,.v (.bool (Zh1 ⟨⟨a,f⟩,⟨b,g⟩⟩).2)])
 | _=>none
def Zmw:List SV→Option (Option Prop×SV)
 | [.agg [.v (.int .i64 a),.v (.bool f),.v (.int .i64 b),.v (.bool g)]]=>some (some (I64 a∧I64 b),.v (.int .i64 (Q3n ⟨⟨a,f⟩,⟨b,g⟩⟩)))
 | _=>none
def sTo:List SV→Option (Option Prop×SV)
 | [.agg [.v (.int .i64 p),.v (.bool fp),.v (.int .i64 q),.v (.bool fq),.v (.int .i64 c),.v (.bool fc),.v (.int .i64 s),.v (.bool fs)],.agg [.v (.int .i64 x),.v (.bool f),.v (.int .i64 y),.v (.bool g)]] =>
   some (some ((I64 p∧I64 q)∧(I64 c∧I64 s)∧I64 x∧I64 y),vS (Qnh ⟨⟨p,fp⟩,⟨q,fq⟩⟩ (Qh3 ⟨⟨c,fc⟩,⟨s,fs⟩⟩ ⟨⟨x,f⟩,⟨y,g⟩⟩)))
 | _=>none
def pS (a r:VB):SV:=.agg [.v (.int .i64 a.x.v),.v (.bool a.x.f),.v (.int .i64 a.y.v),.v (.bool a.y.f),.v (.int .i64 r.x.v),.v (.bool r.x.f),.v (.int .i64 r.y.v),.v (.bool r.y.f)]
theorem Zgz (v:VB) (R:SV→Prop):(Qbe Tryz.prog Zkf Qay Tryz.f96 [vS v] R)=((((I64 (NB.v (VB.x v)))∧(I64 (NB.v (VB.x v))))∧((I64 (NB.v (VB.y v)))∧(I64 (NB.v (VB.y v)))))∧((I64 (NB.v (VB.x v)))∧(sel (Qa8 (NB.v (VB.x v)) (NB.f (VB.x v))) (R (SV.v (.int .i64 3))) ((I64 (NB.v (VB.y v)))∧(sel (Qa8 (NB.v (VB.y v)) (NB.f (VB.y v))) (R (SV.v (.int .i64 3))) (sel (decide (IntKind.wrap IntKind.i64 (NB.v (Qq8 (VB.x v) (VB.x v) (VB.y v) (VB.y v)) - 4294967296) > 65536)) (R (SV.v (.int .i64 3))) (sel (decide (IntKind.wrap IntKind.i64 (4294967296 - NB.v (Qq8 (VB.x v) (VB.x v) (VB.y v) (VB.y v))) > 65536)) (R (SV.v (.int .i64 3))) (R (SV.v (.int .i64 0)))))))))):=by kernel_rfl
theorem Zlp (a r v:VB) (R:SV→Prop):(Qbe Tryz.prog Zkf Qay Tryz.f100 [pS a r,vS v] R)=((((I64 (NB.v (VB.x r)))∧(I64 (NB.v (VB.y r))))∧((I64 (NB.v (VB.x v)))∧(I64 (NB.v (VB.y v)))))∧((((Zfy [SV.v (.int .i64 (NB.v (VB.x a))),SV.v (.bool (NB.f (VB.x a))),SV.v (.int .i64 (NB.v (VB.y a))),SV.v (.bool (NB.f (VB.y a)))])∧((Zfy [SV.v (.int .i64 (NB.v (VB.x (Qh3 r v)))),SV.v (.bool (NB.f (VB.x (Qh3 r v)))),SV.v (.int .i64 (NB.v (VB.y (Qh3 r v)))),SV.v (.bool (NB.f (VB.y (Qh3 r v))))])∧True))∧(((2:Nat)=2)∧((2:Nat)<1099511627776)))∧(R (SV.agg [(SV.v (.int .i64 (NB.v (VB.x (Zf2 2 fun i=>rV [SV.v (.int .i64 (bop (Nat.beq (0 + i) 0) (NB.v (VB.x a)) (NB.v (VB.x (Qh3 r v))))),SV.v (.bool (bop (Nat.beq (0 + i) 0) (NB.f (VB.x a)) (NB.f (VB.x (Qh3 r v))))),SV.v (.int .i64 (bop (Nat.beq (0 + i) 0) (NB.v (VB.y a)) (NB.v (VB.y (Qh3 r v))))),SV.v (.bool (bop (Nat.beq (0 + i) 0) (NB.f (VB.y a)) (NB.f (VB.y (Qh3 r v)))))]))))),(SV.v (.bool (NB.f (VB.x (Zf2 2 fun i=>rV [SV.v (.int .i64 (bop (Nat.beq (0 + i) 0) (NB.v (VB.x a)) (NB.v (VB.x (Qh3 r v))))),SV.v (.bool (bop (Nat.beq (0 + i) 0) (NB.f (VB.x a)) (NB.f (VB.x (Qh3 r v))))),SV.v (.int .i64 (bop (Nat.beq (0 + i) 0) (NB.v (VB.y a)) (NB.v (VB.y (Qh3 r v))))),SV.v (.bool (bop (Nat.beq (0 + i) 0) (NB.f (VB.y a)) (NB.f (VB.y (Qh3 r v)))))]))))),(SV.v (.int .i64 (NB.v (VB.y (Zf2 2 fun i=>rV [SV.v (.int .i64 (bop (Nat.beq (0 + i) 0) (NB.v (VB.x a)) (NB.v (VB.x (Qh3 r v))))),SV.v (.bool (bop (Nat.beq (0 + i) 0) (NB.f (VB.x a)) (NB.f (VB.x (Qh3 r v))))),SV.v (.int .i64 (bop (Nat.beq (0 + i) 0) (NB.v (VB.y a)) (NB.v (VB.y (Qh3 r v))))),SV.v (.bool (bop (Nat.beq (0 + i) 0) (NB.f (VB.y a)) (NB.f (VB.y (Qh3 r v)))))]))))),(SV.v (.bool (NB.f (VB.y (Zf2 2 fun i=>rV [SV.v (.int .i64 (bop (Nat.beq (0 + i) 0) (NB.v (VB.x a)) (NB.v (VB.x (Qh3 r v))))),SV.v (.bool (bop (Nat.beq (0 + i) 0) (NB.f (VB.x a)) (NB.f (VB.x (Qh3 r v))))),SV.v (.int .i64 (bop (Nat.beq (0 + i) 0) (NB.v (VB.y a)) (NB.v (VB.y (Qh3 r v))))),SV.v (.bool (bop (Nat.beq (0 + i) 0) (NB.f (VB.y a)) (NB.f (VB.y (Qh3 r v)))))])))))])))):=by kernel_rfl
theorem Qte:∀ f g,Zkf f=some g→g.ok Tryz.prog f:=Qad (Zav) (Qfj Tryz.func177 (by kernel_rfl) (by kernel_rfl) Qx9)
theorem Zew (r:VB):0≤(Qq8 r.x r.x r.y r.y).v∧(Qq8 r.x r.x r.y r.y).v≤9223372036854775807:=by
 refine ⟨?_,(Qcg _).2⟩
 show 0≤Qbb (Qwp (Qaa r.x.v) (Qaa r.x.v) (Qaa r.y.v) (Qaa r.y.v))
 have a:=Qcj (Qaa r.x.v)
 have b:=Qcj (Qaa r.y.v)
 have:0≤Qwp (Qaa r.x.v) (Qaa r.x.v) (Qaa r.y.v) (Qaa r.y.v):=by
   unfold Qwp
   rw [Int.tdiv_eq_ediv_of_nonneg (by omega)]
   exact Int.ediv_nonneg (by omega) (by decide)
 unfold Qbb
 (repeat' split) <;> omega
theorem Zj5 (r v:VB):I64 (Qh3 r v).x.v∧I64 (Qh3 r v).y.v:=⟨Q28 _ _ _ _,Q28 _ _ _ _⟩
theorem Q8s:Qaq Tryz.prog 100 sTo:=Qax hm Qte Tryz.func100 (Λ:=fun _=>Qay) fun args p x h hp=>by
 unfold sTo at h
 split at h <;> try (cases h; done)
 rename_i p fp q fq c fc s fs x f y g
 cases h
 obtain ⟨ha,hr,hv⟩:=hp _ rfl
 refine ⟨rfl,rfl,?_⟩
 refine Eq.mpr (Zlp ⟨⟨p,fp⟩,⟨q,fq⟩⟩ ⟨⟨c,fc⟩,⟨s,fs⟩⟩ ⟨⟨x,f⟩,⟨y,g⟩⟩ _) ?_
 exact ⟨⟨hr,hv⟩,⟨⟨ha,Zj5 _ _,trivial⟩,rfl,by decide⟩,rfl⟩
def Sp (x:Int):Prop:=-1073741824≤x∧x≤1073741824
def spS (x y:Int):SV:=.agg [.v (.int .i64 x),.v (.int .i64 y)]
def Qal (x y z w:Int):Int:=x*w - y*z
def dotI (x y z w:Int):Int:=x*z + y*w
def Qma (x y:Int):Int:=max x (-x) + max y (-y)
def Qfu (x:Int):Bool:=decide (16≤x)&&decide (x≤4096)
def Qi7 (x:Int):Bool:=decide (-4096≤x)&&decide (x≤4096)
def Q03:List SV→Option (Option Prop×SV)
 | [.agg [.v (.int .i64 x),.v (.int .i64 y)],.agg [.v (.int .i64 z),.v (.int .i64 w)]]=>some (some ((Sp x∧Sp y)∧Sp z∧Sp w),spS (x - z) (y - w))
 | _=>none
def Qvq:List SV→Option (Option Prop×SV)
 | [.agg [.v (.int .i64 x),.v (.int .i64 y)],.agg [.v (.int .i64 z),.v (.int .i64 w)]]=>some (some ((Sp x∧Sp y)∧Sp z∧Sp w),.v (.int .i64 (Qal x y z w)))
 | _=>none
def Zcr:List SV→Option (Option Prop×SV)
 | [.agg [.v (.int .i64 x),.v (.int .i64 y)]]=>some (some (Sp x∧Sp y),.v (.int .i64 (Qma x y)))
 | _=>none
def Q0q:List SV→Option (Option Prop×SV)
 | [.v (.int .i64 x)]=>some (some (I64 x),.v (.bool (Qfu x)))
 | _=>none
def Zc2:List SV→Option (Option Prop×SV)
 | [.v (.int .i64 x)]=>some (some (I64 x),.v (.bool (Qi7 x)))
 | _=>none
theorem Q5x (x y z w:Int) (R:SV→Prop):(Qbe Tryz.prog Qbi Qay Tryz.f253 [spS x y,spS z w] R)=(R (SV.agg [(SV.v (.int .i64 (IntKind.wrap IntKind.i64 (x - z)))),(SV.v (.int .i64 (IntKind.wrap IntKind.i64 (y - w))))])):=by kernel_rfl
theorem Qzm (x y z w:Int) (R:SV→Prop):(Qbe Tryz.prog Qbi Qay Tryz.f252 [spS x y,spS z w] R)=(R (SV.v (.int .i64 (IntKind.wrap IntKind.i64 (IntKind.wrap IntKind.i64 (x*w) - IntKind.wrap IntKind.i64 (y*z)))))):=by kernel_rfl
theorem Zbo (x y:Int) (R:SV→Prop):(Qbe Tryz.prog Qbi Qay Tryz.f254 [spS x y] R)=(R (SV.v (.int .i64 (IntKind.wrap IntKind.i64 (max x (IntKind.wrap IntKind.i64 (0 - x)) + max y (IntKind.wrap IntKind.i64 (0 - y))))))):=by kernel_rfl
theorem Q5u (x:Int) (R:SV→Prop):(Qbe Tryz.prog Qbi Qay Tryz.f168 [.v (.int .i64 x)] R)=(sel (decide (x ≥ 16)) (R (SV.v (.bool (decide (x≤4096))))) (R (SV.v (.bool false)))):=by kernel_rfl
theorem Zbr (x:Int) (R:SV→Prop):(Qbe Tryz.prog Qbi Qay Tryz.f169 [.v (.int .i64 x)] R)=(sel (decide (x ≥ -4096)) (R (SV.v (.bool (decide (x≤4096))))) (R (SV.v (.bool false)))):=by kernel_rfl
theorem Q1o {x y:Int} (h:Sp x) (k:Sp y):-1152921504606846976≤x*y∧x*y≤1152921504606846976:=by
 obtain ⟨a,b⟩:=h
 obtain ⟨c,d⟩:=k
 have h1:(x + 1073741824)*(y + 1073741824) ≥ 0:=Int.mul_nonneg (by omega) (by omega)
 have h2:(1073741824 - x)*(1073741824 - y) ≥ 0:=Int.mul_nonneg (by omega) (by omega)
 have h3:(x + 1073741824)*(1073741824 - y) ≥ 0:=Int.mul_nonneg (by omega) (by omega)
 have h4:(1073741824 - x)*(y + 1073741824) ≥ 0:=Int.mul_nonneg (by omega) (by omega)
 simp only [Int.add_mul,Int.mul_add,Int.sub_mul,Int.mul_sub] at h1 h2 h3 h4
 omega
theorem Qu5:Qaq Tryz.prog 253 Q03:=Qax hm Qam Tryz.func253 (Λ:=fun _=>Qay) fun args p x h hp=>by
 unfold Q03 at h
 split at h <;> try (cases h; done)
 rename_i x y z w
 cases h
 obtain ⟨⟨⟨a1,a2⟩,b1,b2⟩,⟨c1,c2⟩,d1,d2⟩:=hp _ rfl
 refine ⟨rfl,rfl,?_⟩
 refine Eq.mpr (Q5x x y z w _) ?_
 rw [Qaj ⟨by omega,by omega⟩,Qaj ⟨by omega,by omega⟩]
 rfl
theorem Qkw:Qaq Tryz.prog 252 Qvq:=Qax hm Qam Tryz.func252 (Λ:=fun _=>Qay) fun args p x h hp=>by
 unfold Qvq at h
 split at h <;> try (cases h; done)
 rename_i x y z w
 cases h
 obtain ⟨⟨hx,hy⟩,hz,hw⟩:=hp _ rfl
 refine ⟨rfl,rfl,?_⟩
 refine Eq.mpr (Qzm x y z w _) ?_
 have p1:=Q1o hx hw
 have p2:=Q1o hy hz
 rw [Qaj (n:=x*w) ⟨by omega,by omega⟩,Qaj (n:=y*z) ⟨by omega,by omega⟩,Qaj ⟨by omega,by omega⟩]
 rfl
theorem Qx3:Qaq Tryz.prog 254 Zcr:=Qax hm Qam Tryz.func254 (Λ:=fun _=>Qay) fun args p x h hp=>by
 unfold Zcr at h
 split at h <;> try (cases h; done)
 rename_i x y
 cases h
 obtain ⟨⟨a1,a2⟩,b1,b2⟩:=hp _ rfl
 refine ⟨rfl,rfl,?_⟩
 refine Eq.mpr (Zbo x y _) ?_
 rw [Qaj (n:=0 - x) ⟨by omega,by omega⟩,Qaj (n:=0 - y) ⟨by omega,by omega⟩,Qaj ⟨by omega,by omega⟩]
 unfold Qma
 rw [Int.zero_sub,Int.zero_sub]
theorem Qu3:Qaq Tryz.prog 168 Q0q:=Qax hm Qam Tryz.func168 (Λ:=fun _=>Qay) fun args p x h hp=>by
 unfold Q0q at h
 split at h <;> try (cases h; done)
 rename_i x
 cases h
 refine ⟨rfl,rfl,?_⟩
 refine Eq.mpr (Q5u x _) ?_
 show sel (decide (16≤x)) _ _
 unfold Qfu
 cases decide (16≤x) <;> rfl
theorem Qx6:Qaq Tryz.prog 169 Zc2:=Qax hm Qam Tryz.func169 (Λ:=fun _=>Qay) fun args p x h hp=>by
 unfold Zc2 at h
 split at h <;> try (cases h; done)
 rename_i x
 cases h
 refine ⟨rfl,rfl,?_⟩
 refine Eq.mpr (Zbr x _) ?_
 show sel (decide (-4096≤x)) _ _
 unfold Qi7
 cases decide (-4096≤x) <;> rfl
end Go.Proofs.YthkihlpeaidlnaaGreat
end
