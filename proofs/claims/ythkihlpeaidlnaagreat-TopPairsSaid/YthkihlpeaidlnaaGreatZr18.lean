/-
 What the proof uses, part 18.
-/
import Derived.Shelf.SlSortCmp.NoneTotal
import Derived.Test.YthkihlpeaidlnaaGreatZr17
set_option maxRecDepth 100000
set_option linter.unusedSimpArgs false
set_option linter.unusedVariables false

section
namespace Go.Proofs.YthkihlpeaidlnaaGreat
open Go.RowKit Go.Shelf Go.SE Go.Sort
theorem Zfc (m:MapC) (a b:Int):cmX m a b<0↔(m.val a 0<m.val b 0∨(m.val a 0=m.val b 0∧a<b)):=by
 unfold cmX orI Qb7
 split <;> split <;> (try split) <;> (try split) <;> omega
def Qd9 (m:MapC) (l:List Int):List Int:=l.mergeSort fun x y=>!(ltOf (cmX m) y x)
theorem ltX (m:MapC) (a b:Int):ltOf (cmX m) a b=decide (m.val a 0<m.val b 0∨(m.val a 0=m.val b 0∧a<b)):=by
 unfold ltOf
 rw [decide_eq_decide]
 exact Zfc m a b
theorem swoX (m:MapC):SWO (ltOf (cmX m)) where
 irrefl x:=by rw [ltX]; simp
 trans x y z h1 h2:=by rw [ltX] at *; simp only [decide_eq_true_eq] at *; omega
 ntrans x y z h1 h2:=by rw [ltX] at *; simp only [decide_eq_false_iff_not] at *; omega
theorem totX (m:MapC) (x y:Int) (h1:ltOf (cmX m) x y=false) (h2:ltOf (cmX m) y x=false):x=y:=by
 rw [ltX] at *; simp only [decide_eq_false_iff_not] at *; omega
section
variable {α:Type} [Inhabited α] (enc:α→Value)
theorem Qgc {w:World} {blk off n k:Nat} {dk:Array α} {os:Array Obj} (hk:k<w.heap.size) (hne:k≠blk):(sortWorld enc w blk off n dk os).heap[k]?=w.heap[k]?:=by
 unfold sortWorld
 rw [heap_grow_old _ _ (by simpa [putRow,mapBlock,Sort.ahead] using hk)]
 simp only [putRow,mapBlock,Sort.ahead,Array.getElem?_modify,if_neg (fun e=>hne (Eq.symm e))]
theorem Qtp {w:World} {blk off n:Nat} {dk:Array α} {os:Array Obj} {c:Array Value} {e:TypeId} {fz:Nat×Nat} (hb:w.heap[blk]?=some (.cells c e fz)):(sortWorld enc w blk off n dk os).heap[blk]?=some (.cells (putCells enc off dk c) e fz):=by
 have hk:=(Array.getElem?_eq_some_iff.1 hb).1
 unfold sortWorld
 rw [heap_grow_old _ _ (by simpa [putRow,mapBlock,Sort.ahead] using hk)]
 simp [putRow,mapBlock,Sort.ahead,Array.getElem?_modify,hb,onCells]
theorem Qto {w:World} {blk off n:Nat} {dk:Array α} {os:Array Obj}:w.heap.size≤(sortWorld enc w blk off n dk os).heap.size:=by
 simp [sortWorld,grow,putRow,mapBlock,Sort.ahead]
theorem Qt5 {off:Nat} {d:Array α} {c:Array Value} {k:Nat} (h:k<d.size) (hc:off + k<c.size):(putCells enc off d c)[off + k]?=some (enc d[k]!):=by
 simp only [putCells,Array.getElem?_mapIdx]
 rw [Array.getElem?_eq_getElem hc]
 simp [h]
end
def Qg2 (I:Blk) (l:List Int):Blk:={I with row:=fun i=>[.v (.int .i64 (l.getD i 0))]}
def Qbk (I:Blk) (n:Nat):List Int:=(List.range n).map fun i=>i1 (I.row i)
def Qxr (r:List SV):Prop:=match r with | [.v (.int .i64 _)]=>True | _=>False
def srIE (I X S D:Blk) (m:MapC) (n:Nat):Eff:=.det (some ((∀ i,i<n→Qxr (I.row i))∧I.n=n∧n<4611686018427387904)) (.tup []) [(1,X),(2,S),(3,D),(0,Qg2 I (Qd9 m (Qbk I n)))]
def Zmc (args:List SV) (bs:List Blk):Option Eff:=match args,bs with
 | [.sl 0 1 0 n _,.fn 48 [.vp 1 0]],[I,X,S,D]=>match X.row 0,S.row 0,D.sp with
   | [.vp 2 0],[.mp 3],some m=>bif (X.whole&&Nat.beq X.size 1&&Nat.beq X.n 1&&!X.off&&X.rw)&&(S.whole&&Nat.beq S.size 1&&Nat.beq S.n 1&&!S.off&&S.rw)&&(!D.dead&&Nat.beq D.size 4&&D.rw)&&(Nat.beq I.size 1&&I.rw&&!I.off&&I.flat&&!I.whole) then some (srIE I X S D m n) else none
   | _,_,_=>none
 | _,_=>none
section
variable {δ:Dict} {bs:List Blk} {w:World}
theorem Qlf {k:Nat} {B:Blk} {x:SV} (hr:HRep δ (Qaf bs) w) (hk:Qaf bs k=some B) (a1:B.whole=true) (a2:B.size=1) (a3:B.n=1) (a4:B.dead=false) (asp:B.sp=none) (hrow0:B.row 0=[x]) :
   ∃ p r,δ k=some p∧p.no=false∧p.o=0∧w.cell? ⟨p.r,0,none⟩=some r∧Qah δ x r∧Qc9 δ (Qaf bs) k p.r:=by
 obtain ⟨p,d1,d2⟩:=hr.blk k B hk
 have hlv:=d2 a4
 have hno:p.no=false:=by
   cases e:p.no with
   | false=>rfl
   | true=>have:=(hlv.no e).1; omega
 obtain ⟨c,el,fz,hcell,_,_,_,_,hwh,hrow⟩:=Qap asp (hlv.rep hno)
 obtain ⟨ho,_⟩:=hwh a1
 obtain ⟨_,hr0⟩:=hrow 0 (by omega)
 obtain ⟨r,hr1,hr2⟩:=hr0 0 x (by rw [hrow0]; rfl)
 rw [ho,a2] at hr1
 exact ⟨p,r,d1,hno,ho,by rw [Qch hcell]; exact hr1,hr2,B,p,hk,a4,d1,hno,rfl⟩
theorem Q90 {k:Nat} {D:Blk} {m:MapC} {r:Value} (hr:HRep δ (Qaf bs) w) (hk:Qaf bs k=some D) (hD:D.sp=some m) (h1:D.dead=false) (h4:D.size=4) (hx:Qah δ (.mp k) r) :
   ∃ q es clock,r=.map (some q)∧w.heap[q]?=some (.map es clock)∧MapRep 4 m es clock∧Qc9 δ (Qaf bs) k q:=by
 obtain ⟨pm,es,clock,e1,e2,e3,rfl,e5,e6⟩:=Qhx (m:=m) hr (show Qk5 (Qaf bs) k=some (D,m) by
   unfold Qk5
   rw [hk]
   simp only [hD,h1,cond_false]) hx
 rw [h4] at e6
 exact ⟨_,es,clock,rfl,e5,e6,D,pm,hk,h1,e1,e2,rfl⟩
theorem Qgr {k k' r r':Nat} {b:Blk} (hr:HRep δ (Qaf bs) w) (h1:Qc9 δ (Qaf bs) k r) (h2:Qc9 δ (Qaf bs) k' r') (hb:Qaf bs k=some b) (hrw:b.rw=true) (hne:k≠k'):r'≠r:=fun e=>hne (hr.inj k k' r b h1 (e ▸ h2) hb hrw)
end
theorem Ql6 {w:World} {r k:Nat} {c:Array Value} {e:TypeId} {fz:Nat×Nat} (hb:w.heap[r]?=some (.cells c e fz)) (hth:Zcg c.size fz) (hk:k<c.size):w.frozen? ⟨r,k,none⟩=false:=by
 obtain ⟨lo,hh⟩:=fz
 simp only [World.frozen?,hb,Bool.and_eq_false_iff,decide_eq_false_iff_not]
 rcases hth with h | h
 · simp only at h; right; omega
 · simp only at h; left; omega
theorem Qsc {r:List SV} (h:Qxr r):r=[.v (.int .i64 (i1 r))]:=by
 unfold Qxr at h
 split at h
 · rfl
 · cases h
theorem Qvi (m:MapC) (l:List Int):(Qd9 m l).length=l.length:=List.length_mergeSort _
theorem Q8p:Qbv Tryz.prog 47 Zmc:=fun args bs e hs hask δ w vals ha hr ht hl=>by
 unfold Zmc at hs
 split at hs <;> try (cases hs; done)
 rename_i n cap I X S D
 split at hs <;> try (cases hs; done)
 rename_i m hX hS hD
 obtain ⟨hc,rfl⟩:=Qer hs
 simp only [Bool.and_eq_true,Bool.not_eq_true',Nat.beq_eq] at hc
 obtain ⟨⟨⟨⟨⟨⟨⟨x1,x2⟩,x3⟩,x4⟩,x5⟩,⟨⟨⟨s1,s2⟩,s3⟩,s4⟩,s5⟩,⟨d1,d2⟩,d3⟩,⟨⟨⟨i1',i2⟩,i3⟩,i4⟩,i5⟩:=hc
 obtain ⟨x4,xsp⟩:=Blk.off_false x4
 obtain ⟨s4,ssp⟩:=Blk.off_false s4
 obtain ⟨i3,isp⟩:=Blk.off_false i3
 obtain ⟨hI,hIn,hn⟩:=hask _ rfl
 match vals,ha with
 | [v0,v1],ha =>
   simp only [Qaw,and_true] at ha
   obtain ⟨ha0,ha1⟩:=ha
   simp only [Qah] at ha1
   obtain ⟨xs,rfl,hxs⟩:=ha1
   match xs,hxs with
   | [x],hxs =>
     simp only [Qaw,Qah,and_true] at hxs
     obtain ⟨px,hpx,_,rfl⟩:=hxs
     obtain ⟨px',rx,e1,_,e3,e4,e5,lx⟩:=Qlf hr (show Qaf [I,X,S,D] 1=some X from rfl) x1 x2 x3 x4 xsp hX
     rw [hpx] at e1; cases e1
     simp only [Qah] at e5
     obtain ⟨ps,hps,_,rfl⟩:=e5
     obtain ⟨ps',rs,f1,_,f3,f4,f5,ls⟩:=Qlf hr (show Qaf [I,X,S,D] 2=some S from rfl) s1 s2 s3 s4 ssp hS
     rw [hps] at f1; cases f1
     obtain ⟨q,es,clock,rfl,g1,g2,lm⟩:=Q90 hr (show Qaf [I,X,S,D] 3=some D from rfl) hD d1 d2 f5
     rw [e3,show ps.o + 0=0 by omega] at *
     obtain ⟨pI,hpI,dI⟩:=hr.blk 0 I rfl
     have lI:=dI i3
     simp only [Qah] at ha0
     obtain ⟨pI',h1,h2,h3,hv⟩:=ha0
     rw [hpI] at h1; cases h1
     have hIn':I.n=n:=hIn
     have fin:Qg0 [I,X,S,D] [(1,X),(2,S),(3,D),(0,Qg2 I (Qd9 m (Qbk I n)))]=true:=by
       simp [Qg0,Qc8,Qd7,Qac,x4,x5,s4,s5,d1,d3,i2,i3,Qg2]
     have e0:∀ w',Upd δ (Qaf [I,X,S,D]) w δ [(0,Qg2 I (Qd9 m (Qbk I n)))] w'→Upd δ (Qaf [I,X,S,D]) w δ [(1,X),(2,S),(3,D),(0,Qg2 I (Qd9 m (Qbk I n)))] w':=fun w' u =>
       Qd1 (Qd1 (Qd1 u (show Qaf [I,X,S,D] 3=some D from rfl)) (show Qaf [I,X,S,D] 2=some S from rfl)) (show Qaf [I,X,S,D] 1=some X from rfl)
     have tupv:Qah δ (.tup []) (.tuple #[]):=by simp only [Qah]; exact ⟨[],rfl,by simp only [Qaw]⟩
     rcases hv with ⟨hno,c',_,rfl⟩ | ⟨hn0,_,a,rfl⟩
     · have lII:Qc9 δ (Qaf [I,X,S,D]) 0 pI.r:=⟨I,pI,rfl,i3,hpI,hno,rfl⟩
       have nX:px.r≠pI.r:=Qgr hr lII lx rfl i2 (by omega)
       have nS:ps.r≠pI.r:=Qgr hr lII ls rfl i2 (by omega)
       have nM:q≠pI.r:=Qgr hr lII lm rfl i2 (by omega)
       obtain ⟨c,el,fz,hcell,hth,hfl,hel,hext,hwh,hrow⟩:=Qap isp (lI.rep hno)
       rw [i1'] at hrow hext
       have hce:∀ k,k<n→c[pI.o + k]?=some (.int .i64 (i1 (I.row k))):=fun k hk=>by
         obtain ⟨_,hr0⟩:=hrow k (by omega)
         obtain ⟨r,g1,g2⟩:=hr0 0 (.v (.int .i64 (i1 (I.row k)))) (by rw [Qsc (hI k hk)]; rfl)
         rw [show pI.o + k*1 + 0=pI.o + k by omega] at g1
         simp only [Qah] at g2
         rw [g1,g2]
       have hd:(Qbk I n).toArray.size=n:=by simp [Qbk]
       have hdk:∀ k,k<n→(Qbk I n).toArray[k]! =i1 (I.row k):=fun k hk=>by
         rw [getElem!_pos _ k (by rw [hd]; exact hk)]
         simp [Qbk]
       have hH:Holds (Value.int .i64) w pI.r (pI.o + 0*1) (Qbk I n).toArray:=fun j hj=>by
         rw [hd] at hj
         have hlt:pI.o + j<c.size:=(Array.getElem?_eq_some_iff.1 (hce j hj)).1
         rw [show pI.o + 0*1 + j=pI.o + j by omega]
         exact ⟨by rw [Qch hcell,hce j hj,hdk j hj],Ql6 hcell (hth i2) hlt⟩
       have hblk:pI.r<w.heap.size:=(Array.getElem?_eq_some_iff.1 hcell).1
       have szX:px.r<w.heap.size:=Qdq hr lx
       have szS:ps.r<w.heap.size:=Qdq hr ls
       have szM:q<w.heap.size:=Qdq hr lm
       have hcmp:CmpLays1 Tryz.prog 48 #[.pointer (some ⟨px.r,0,none⟩)] (Value.int .i64) (cmX m) pI.r (pI.o + 0*1) (Qbk I n).toArray.size w:=fun mm os dk hdk x y=>by
         have cc:∀ k,k<w.heap.size→k≠pI.r→(sortWorld (Value.int .i64) w pI.r (pI.o + 0*1) mm dk os).cell? ⟨k,0,none⟩=w.cell? ⟨k,0,none⟩:=fun k hk hne=>by
           simp only [World.cell?,Qgc (Value.int .i64) hk hne]
         exact Q86 x y (by rw [cc _ szX nX]; exact e4) (by rw [cc _ szS nS]; exact f4) ((Qgc (Value.int .i64) szM nM).trans g1) g2
       have hcon:=Any.slices_SortFunc_total Q9j (Value.int .i64) (fun _=>rfl) (cmX m) (swoX m) 48 #[.pointer (some ⟨px.r,0,none⟩)] pI.r (pI.o + 0*1) c' (Qbk I n).toArray w (enters_of Tryz.func48 (by kernel_rfl) rfl) hcmp hH hblk (by rw [hd]; exact hn) (totX m)
       rw [hd] at hcon
       change Calls Tryz.prog 47 _ _ _ at hcon
       refine hcon.mono fun ed w' ⟨h1,nn,os,h2⟩=>?_
       have h2:w'=sortWorld (Value.int .i64) w pI.r (pI.o + 0*1) nn (Qd9 m (Qbk I n)).toArray os:=h2
       subst h2
       have hln:(Qd9 m (Qbk I n)).toArray.size=n:=by rw [List.size_toArray,Qvi]; simpa using hd
       refine ⟨_,_,_,δ,h1,⟨rfl,rfl⟩,fin,tupv,e0 _ ?_⟩
       refine Qec hr (show Qaf [I,X,S,D] 0=some I from rfl) i2 i3 hpI hno (fun _=>Live.mk lI.s lI.n lI.no (fun _=>Qbt isp ⟨_,el,fz,Qtp (Value.int .i64) hcell,fun h=>?_,fun _ i _=>rfl,hel,?_,fun h=>?_,fun i hi=>⟨i1'.symm,fun j x hx=>?_⟩⟩) lI.loose) rfl rfl rfl (Qto _) (fun r hne hlt=>Qgc (Value.int .i64) hlt hne)
       · have:(putCells (Value.int .i64) (pI.o + 0*1) (Qd9 m (Qbk I n)).toArray c).size=c.size:=by simp [putCells]
         rw [this]; exact hth h
       · have:(putCells (Value.int .i64) (pI.o + 0*1) (Qd9 m (Qbk I n)).toArray c).size=c.size:=by simp [putCells]
         rw [this]
         show pI.o + I.ext*I.size≤_
         rw [i1']; exact hext
       · rw [show (Qg2 I (Qd9 m (Qbk I n))).whole=I.whole from rfl,i5] at h; cases h
       · have hi:i<I.n:=hi
         match j,hx with
         | 0,hx =>
           have hx:some (SV.v (.int .i64 ((Qd9 m (Qbk I n)).getD i 0)))=some x:=hx
           cases hx
           refine ⟨_,?_,rfl⟩
           have hlt:pI.o + i<c.size:=(Array.getElem?_eq_some_iff.1 (hce i (by omega))).1
           show (putCells _ _ _ _)[pI.o + i*I.size + 0]?=_
           rw [i1',show pI.o + i*1 + 0=(pI.o + 0*1) + i by omega,Qt5 (Value.int .i64) (by rw [hln]; omega) (by omega),getElem!_pos _ i (by rw [hln]; omega)]
           congr 2
           simp only [List.getElem_toArray]
           rw [List.getD_eq_getElem?_getD,List.getElem?_eq_getElem (by rw [← List.size_toArray,hln]; omega)]
           rfl
         | j + 1,hx=>simp [Qg2] at hx
     · subst hn0
       have hcon:=AnyF.slices_SortFunc_none (P:=Tryz.prog) (ρ:=Qn3) {Q9j with} a 0 (.func (.func 48) #[] #[.pointer (some ⟨px.r,0,none⟩)]) w
       change Calls Tryz.prog 47 _ _ _ at hcon
       refine hcon.mono fun ed w' ⟨h1,h2⟩=>?_
       subst h2
       refine ⟨_,_,_,δ,h1,⟨rfl,rfl⟩,fin,tupv,e0 _ ?_⟩
       have lv:Live δ (Qg2 I (Qd9 m (Qbk I 0))) w' pI:=Live.mk lI.s lI.n lI.no (fun hno=>by
         obtain ⟨c,el,fz,hcell,hth,hfl,hel,hext,hwh,hrow⟩:=Qap isp (lI.rep hno)
         exact Qbt isp ⟨c,el,fz,hcell,hth,fun _ i _=>rfl,hel,hext,hwh,fun i hi=>absurd hi (by show ¬ i<I.n; omega)⟩) lI.loose
       cases hno:pI.no with
       | true=>exact Qrh hr (show Qaf [I,X,S,D] 0=some I from rfl) hpI hno lv
       | false=>exact Qec hr (show Qaf [I,X,S,D] 0=some I from rfl) i2 i3 hpI hno (fun _=>lv) rfl rfl rfl (Nat.le_refl _) (fun _ _ _=>rfl)
theorem Zfd (a b:Int×Int):cmP a b<0↔(a.1<b.1∨(a.1=b.1∧a.2<b.2)):=by
 unfold cmP orI Qb7
 split <;> split <;> (try split) <;> (try split) <;> omega
theorem ltP (a b:Int×Int):ltOf cmP a b=decide (a.1<b.1∨(a.1=b.1∧a.2<b.2)):=by
 unfold ltOf
 rw [decide_eq_decide]
 exact Zfd a b
theorem swoP:SWO (ltOf cmP) where
 irrefl x:=by rw [ltP]; simp
 trans x y z h1 h2:=by rw [ltP] at *; simp only [decide_eq_true_eq] at *; omega
 ntrans x y z h1 h2:=by rw [ltP] at *; simp only [decide_eq_false_iff_not] at *; omega
theorem totP (x y:Int×Int) (h1:ltOf cmP x y=false) (h2:ltOf cmP y x=false):x=y:=by
 rw [ltP] at *; simp only [decide_eq_false_iff_not] at *
 exact Prod.ext (by omega) (by omega)
def Qs9 (l:List (Int×Int)):List (Int×Int):=l.mergeSort fun x y=>!(ltOf cmP) y x
theorem Qpl (l:List (Int×Int)):(Qs9 l).length=l.length:=List.length_mergeSort _
def Q5c (x:Int×Int):List Value:=[.int .i64 x.1,.int .i64 x.2]
def Q1t (x:Int×Int):List SV:=[.v (.int .i64 x.1),.v (.int .i64 x.2)]
def Qw7 (O:Blk) (l:List (Int×Int)):Blk:={O with row:=fun i=>Q1t (l.getD i (0,0))}
def Qfb (O:Blk) (n:Nat):List (Int×Int):=(List.range n).map fun i=>gi (O.row i)
def Zkw (r:List SV):Prop:=match r with | [.v (.int .i64 _),.v (.int .i64 _)]=>True | _=>False
theorem Q7d {r:List SV} (h:Zkw r):r=Q1t (gi r):=by
 unfold Zkw at h
 split at h
 · rfl
 · cases h
def srPE (O:Blk) (n:Nat):Eff:=.det (some ((∀ i,i<n→Zkw (O.row i))∧O.n=n∧n<4611686018427387904)) (.tup []) [(0,Qw7 O (Qs9 (Qfb O n)))]
def Zmb (args:List SV) (bs:List Blk):Option Eff:=match args,bs with
 | [.sl 0 2 0 n _,.fn 55 []],[O]=>bif Nat.beq O.size 2&&O.rw&&!O.off&&O.flat&&!O.whole then some (srPE O n) else none
 | _,_=>none
theorem Q25 {d:Array (Int×Int)} {i j:Nat} (hi:i<d.size) (hj:j<2):(flatK Q5c 2 d)[i*2 + j]! =(Q5c d[i]!)[j]!:=by
 rw [get_flatK _ _ _ _ (by omega),show (i*2 + j) / 2=i by omega,show (i*2 + j) % 2=j by omega]
theorem Q8o:Qbv Tryz.prog 54 Zmb:=fun args bs e hs hask δ w vals ha hr ht hl=>by
 unfold Zmb at hs
 split at hs <;> try (cases hs; done)
 rename_i n cap O
 obtain ⟨hc,rfl⟩:=Qer hs
 simp only [Bool.and_eq_true,Bool.not_eq_true',Nat.beq_eq] at hc
 obtain ⟨⟨⟨⟨i1',i2⟩,i3⟩,i4⟩,i5⟩:=hc
 obtain ⟨i3,isp⟩:=Blk.off_false i3
 obtain ⟨hI,hIn,hn⟩:=hask _ rfl
 match vals,ha with
 | [v0,v1],ha =>
   simp only [Qaw,and_true] at ha
   obtain ⟨ha0,ha1⟩:=ha
   simp only [Qah] at ha1
   obtain ⟨xs,rfl,hxs⟩:=ha1
   match xs,hxs with
   | [],_ =>
     obtain ⟨pI,hpI,dI⟩:=hr.blk 0 O rfl
     have lI:=dI i3
     simp only [Qah] at ha0
     obtain ⟨pI',h1,h2,h3,hv⟩:=ha0
     rw [hpI] at h1; cases h1
     have hIn':O.n=n:=hIn
     have fin:Qg0 [O] [(0,Qw7 O (Qs9 (Qfb O n)))]=true:=by
       simp [Qg0,Qc8,Qd7,Qac,i2,i3,Qw7]
     have tupv:Qah δ (.tup []) (.tuple #[]):=by simp only [Qah]; exact ⟨[],rfl,by simp only [Qaw]⟩
     rcases hv with ⟨hno,c',_,rfl⟩ | ⟨hn0,_,a,rfl⟩
     · obtain ⟨c,el,fz,hcell,hth,hfl,hel,hext,hwh,hrow⟩:=Qap isp (lI.rep hno)
       rw [i1'] at hrow hext
       have hce:∀ k,k<n→∀ j,j<2→c[pI.o + (k*2 + j)]?=some (Q5c (gi (O.row k)))[j]!:=fun k hk j hj=>by
         obtain ⟨_,hr0⟩:=hrow k (by omega)
         rw [Q7d (hI k hk)] at hr0
         have hj':j=0∨j=1:=by omega
         rcases hj' with rfl | rfl
         · obtain ⟨r,g1,g2⟩:=hr0 0 _ rfl
           rw [show pI.o + k*2 + 0=pI.o + (k*2 + 0) by omega] at g1
           simp only [Qah] at g2
           rw [g1,g2]; rfl
         · obtain ⟨r,g1,g2⟩:=hr0 1 _ rfl
           rw [show pI.o + k*2 + 1=pI.o + (k*2 + 1) by omega] at g1
           simp only [Qah] at g2
           rw [g1,g2]; rfl
       have hd:(Qfb O n).toArray.size=n:=by simp [Qfb]
       have hdk:∀ k,k<n→(Qfb O n).toArray[k]! =gi (O.row k):=fun k hk=>by
         rw [getElem!_pos _ k (by rw [hd]; exact hk)]
         simp [Qfb]
       have hH:HoldsK Q5c 2 w pI.r (pI.o + 0*2) (Qfb O n).toArray:=fun t ht=>by
         rw [size_flatK,hd] at ht
         have e1:t=t / 2*2 + t % 2:=by omega
         have hk:t / 2<n:=by omega
         have hj:t % 2<2:=by omega
         have h1:=hce (t / 2) hk (t % 2) hj
         have hlt:pI.o + (t / 2*2 + t % 2)<c.size:=(Array.getElem?_eq_some_iff.1 h1).1
         have h2:=Q25 (d:=(Qfb O n).toArray) (i:=t / 2) (by rw [hd]; exact hk) hj
         rw [hdk _ hk] at h2
         rw [← e1] at h1 h2 hlt
         rw [show pI.o + 0*2 + t=pI.o + t by omega]
         exact ⟨by rw [Qch hcell,h1,h2]; rfl,Ql6 hcell (hth i2) hlt⟩
       have hblk:pI.r<w.heap.size:=(Array.getElem?_eq_some_iff.1 hcell).1
       have hcmp:CmpLays Tryz.prog 55 #[] Q5c 2 cmP pI.r (pI.o + 0*2) (Qfb O n).toArray.size w:=fun mm os dk hdk x y=>Q85 x y _
       have hcon:=AnyQ.slices_SortFunc_total Q9i 2 Tryz.isAgg56 Tryz.sizeOf56 Q5c (fun _=>rfl) (fun x v hv=>by simp [Q5c] at hv; rcases hv with rfl | rfl <;> rfl) cmP swoP 55 #[] pI.r (pI.o + 0*2) c' (Qfb O n).toArray w (enters_of Tryz.func55 (by kernel_rfl) rfl) hcmp hH hblk (by rw [hd]; exact hn) totP
       rw [hd] at hcon
       change Calls Tryz.prog 54 _ _ _ at hcon
       refine hcon.mono fun ed w' ⟨h1,nn,os,h2⟩=>?_
       have h2:w'=sortWorld id w pI.r (pI.o + 0*2) nn (flatK Q5c 2 (Qs9 (Qfb O n)).toArray) os:=h2
       subst h2
       have hln:(Qs9 (Qfb O n)).toArray.size=n:=by rw [List.size_toArray,Qpl]; simpa using hd
       have hsz:∀ d:Array Value,(putCells id (pI.o + 0*2) d c).size=c.size:=fun d=>by simp [putCells]
       refine ⟨_,_,_,δ,h1,⟨rfl,rfl⟩,fin,tupv,?_⟩
       refine Qec hr (show Qaf [O] 0=some O from rfl) i2 i3 hpI hno (fun _=>Live.mk lI.s lI.n lI.no (fun _=>Qbt isp ⟨_,el,fz,Qtp id hcell,fun h=>?_,fun _ i _=>rfl,hel,?_,fun h=>?_,fun i hi=>⟨i1'.symm,fun j x hx=>?_⟩⟩) lI.loose) rfl rfl rfl (Qto _) (fun r hne hlt=>Qgc id hlt hne)
       · rw [hsz]; exact hth h
       · rw [hsz]
         show pI.o + O.ext*O.size≤_
         rw [i1']; exact hext
       · rw [show (Qw7 O (Qs9 (Qfb O n))).whole=O.whole from rfl,i5] at h; cases h
       · have hi:i<O.n:=hi
         have hin:i<n:=by omega
         have key:∀ j,j<2→(putCells id (pI.o + 0*2) (flatK Q5c 2 (Qs9 (Qfb O n)).toArray) c)[pI.o + i*O.size + j]?=some (Q5c ((Qs9 (Qfb O n)).getD i (0,0)))[j]!:=fun j hj=>by
           have hlt:pI.o + (i*2 + j)<c.size:=(Array.getElem?_eq_some_iff.1 (hce i hin j hj)).1
           rw [i1',show pI.o + i*2 + j=(pI.o + 0*2) + (i*2 + j) by omega,Qt5 id (by rw [size_flatK,hln]; omega) (by omega),Q25 (by rw [hln]; exact hin) hj,getElem!_pos _ i (by rw [hln]; omega)]
           simp only [List.getElem_toArray]
           rw [List.getD_eq_getElem?_getD,List.getElem?_eq_getElem (by rw [← List.size_toArray,hln]; omega)]
           rfl
         match j,hx with
         | 0,hx =>
           have hx:some (SV.v (.int .i64 ((Qs9 (Qfb O n)).getD i (0,0)).1))=some x:=hx
           cases hx
           exact ⟨_,key 0 (by omega),rfl⟩
         | 1,hx =>
           have hx:some (SV.v (.int .i64 ((Qs9 (Qfb O n)).getD i (0,0)).2))=some x:=hx
           cases hx
           exact ⟨_,key 1 (by omega),rfl⟩
         | j + 2,hx=>simp [Qw7,Q1t] at hx
     · subst hn0
       have hcon:=AnyF.slices_SortFunc_none (P:=Tryz.prog) (ρ:=Qn2) Q9i a 0 (.func (.func 55) #[] #[]) w
       change Calls Tryz.prog 54 _ _ _ at hcon
       refine hcon.mono fun ed w' ⟨h1,h2⟩=>?_
       subst h2
       refine ⟨_,_,_,δ,h1,⟨rfl,rfl⟩,fin,tupv,?_⟩
       have lv:Live δ (Qw7 O (Qs9 (Qfb O 0))) w' pI:=Live.mk lI.s lI.n lI.no (fun hno=>by
         obtain ⟨c,el,fz,hcell,hth,hfl,hel,hext,hwh,hrow⟩:=Qap isp (lI.rep hno)
         exact Qbt isp ⟨c,el,fz,hcell,hth,fun _ i _=>rfl,hel,hext,hwh,fun i hi=>absurd hi (by show ¬ i<O.n; omega)⟩) lI.loose
       cases hno:pI.no with
       | true=>exact Qrh hr (show Qaf [O] 0=some O from rfl) hpI hno lv
       | false=>exact Qec hr (show Qaf [O] 0=some O from rfl) i2 i3 hpI hno (fun _=>lv) rfl rfl rfl (Nat.le_refl _) (fun _ _ _=>rfl)
end Go.Proofs.YthkihlpeaidlnaaGreat
end
