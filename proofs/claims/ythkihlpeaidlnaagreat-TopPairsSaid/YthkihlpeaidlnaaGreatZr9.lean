/-
 What the proof uses, part 9.
-/
import Derived.Test.YthkihlpeaidlnaaGreatZr8
set_option maxRecDepth 100000
set_option linter.unusedSimpArgs false
set_option linter.unusedVariables false

section
namespace Go.SE
open Go.RowKit
section
variable {h:Qbo} {δ δ' δ'':Dict} {w w':World} {es:List Ent} {bs:List Blk} {base:Nat} {ro:Bool}
theorem Q71 (hr:HRep δ h w) (hok:CanOk h δ ⟨es,bs,ro⟩ []) {j:Nat} {b:Blk} (hj:bs[j]?=some b):∃ q,Qcb δ es j=some q∧(b.dead=false→Live (Qcb δ es) b w q):=by
 have hlt:=(List.getElem?_eq_some_iff.1 hj).1
 have hlen:es.length=bs.length:=hok.len
 have he:es[j]?=some es[j]:=List.getElem?_eq_getElem (by omega)
 rcases hok.ent j _ b he hj with h0 | h0
 · cases h0
 cases hee:es[j] with
 | win k s i n =>
   rw [hee] at h0 he
   obtain ⟨b0,p,h1,h2,h3,h4,h5,h6,h7⟩:=h0
   refine ⟨⟨p.r,s,p.o + i*s,n,p.no,p.loose⟩,by unfold Qcb; simp only; rw [he]; simp only [h5],fun _=>?_⟩
   obtain ⟨p',e1,e2⟩:=hr.blk k b0 h1
   rw [h5] at e1; cases e1
   have hlv:=e2 h2
   have hpn:=hlv.n
   rcases h7 with ⟨hsp,rfl⟩ | ⟨hsp,rfl,rfl,rfl⟩
   rotate_left
   · refine ⟨h4.symm,rfl,fun hno=>hlv.no hno,fun hno=>?_,fun _=>rfl⟩
     have hb:=hlv.rep hno
     cases hs:b0.sp with
     | none=>rw [hs] at hsp; cases hsp
     | some m =>
       unfold Qcm at hb ⊢
       rw [hs] at hb
       simp only
       exact hb
   refine ⟨rfl,rfl,fun hno=>?_,fun hno=>?_,fun _=>rfl⟩
   · have:=(hlv.no hno).1
     exact ⟨show n=0 by omega,rfl⟩
   · refine Qbt rfl ?_
     obtain ⟨c,e,fz,c1,c2,c3,c4,c5,c6,c7⟩:=Qap hsp (hlv.rep hno)
     rw [h4] at c5 c7
     refine ⟨c,e,fz,c1,fun hh=>(by cases hh),fun _ y hy=>c3 h3 (i + y) (by simp only [Qa1] at hy; omega),c4,?_,fun hh=>(by cases hh),fun y hy=>?_⟩
     · simp only [Qa1,Nat.zero_mul,Nat.add_zero]
       rcases Nat.eq_zero_or_pos i with h0 | h0
       · subst h0; omega
       · rcases Nat.eq_zero_or_pos s with h0' | h0'
         · subst h0'; omega
         · obtain ⟨g1,g2⟩:=c7 (i - 1) (by omega)
           have hj:s - 1<(b0.row (i - 1)).length:=by omega
           obtain ⟨r',g3,_⟩:=g2 (s - 1) _ (List.getElem?_eq_getElem hj)
           have:=(Array.getElem?_eq_some_iff.1 g3).1
           have e:i*s=(i - 1)*s + s:=by rw [show i=(i - 1) + 1 by omega,Nat.add_mul]; simp
           omega
     · simp only [Qa1] at hy ⊢
       obtain ⟨g1,g2⟩:=c7 (i + y) (by omega)
       refine ⟨g1,fun z v hz=>?_⟩
       obtain ⟨r,g3,g4⟩:=g2 z v hz
       refine ⟨r,by rw [← g3,Nat.add_mul]; congr 1; omega,?_⟩
       exact Qda (δ:=δ) (δ':=Qcb δ es) (fun _ hq=>hq) _ _ (Qd5 (c3 h3 (i + y) (by omega)) v (List.mem_of_getElem? hz)) g4
 | whole k =>
   rw [hee] at h0 he
   obtain ⟨b0,h1,h2,h3,g1,g2,g3,g4,g5,g6,g7,g8,gsp,g9⟩:=h0
   obtain ⟨p,e1,e2⟩:=hr.blk k b0 h1
   refine ⟨p,by unfold Qcb; simp only; rw [he]; exact e1,fun _=>?_⟩
   have hlv:=e2 h2
   refine ⟨hlv.s.trans g1.symm,hlv.n.trans g4.symm,fun hno=>by rw [g4,g5]; exact hlv.no hno,fun hno=>?_,fun hh=>g2.trans (hlv.loose hh)⟩
   cases hs:b0.sp with
   | some m =>
     have hb:=hlv.rep hno
     unfold Qcm at hb ⊢
     rw [hs] at hb
     rw [gsp,hs]
     simp only at hb ⊢
     rw [g1]
     exact hb
   | none =>
   refine Qbt (gsp.trans hs) ?_
   obtain ⟨c,e,fz,c1,c2,c3,c4,c5,c6,c7⟩:=Qap hs (hlv.rep hno)
   rcases g9 with ⟨f1,f2⟩ | ⟨f1,f2,f3⟩
   · refine ⟨c,e,fz,c1,fun hh=>c2 (g2.symm.trans hh),fun _ y hy=>by rw [f2]; exact c3 f1 y (by omega),fun hh=>by rw [g7]; exact c4 (by rw [← g7]; exact hh),by rw [g5,g1]; exact c5,fun hh=>by rw [g1,g2]; exact c6 (g8.symm.trans hh),fun y hy=>?_⟩
     obtain ⟨a1,a2⟩:=c7 y (by omega)
     rw [f2,g1]
     refine ⟨a1,fun z v hz=>?_⟩
     obtain ⟨r,a3,a4⟩:=a2 z v hz
     exact ⟨r,a3,Qda (δ:=δ) (δ':=Qcb δ es) (fun _ hq=>hq) _ _ (Qd5 (c3 f1 y (by omega)) v (List.mem_of_getElem? hz)) a4⟩
   · refine ⟨c,e,fz,c1,fun hh=>c2 (g2.symm.trans hh),fun hf y hy=>?_,fun hh=>by rw [g7]; exact c4 (by rw [← g7]; exact hh),by rw [g5,g1]; exact c5,fun hh=>by rw [g1,g2]; exact c6 (g8.symm.trans hh),fun y hy=>?_⟩
     · have:y=0:=by omega
       subst this
       exact f3 (g3.symm.trans hf)
     · have:y=0:=by omega
       subst this
       obtain ⟨a1,a2⟩:=c7 0 (by omega)
       obtain ⟨xs,x1,x2⟩:=Qdt (δ:=δ) (c:=c) (b0.row 0) (p.o + 0*b0.size) (fun j x hx=>a2 j x hx)
       have x3:=f2 xs x1
       have l1:=Qa6 x1
       have l2:=Qa6 x3
       rw [g1]
       refine ⟨by omega,fun z v hz=>?_⟩
       obtain ⟨r,y1,y2⟩:=Qb5 x3 hz
       exact ⟨r,x2 z r y1,y2⟩
theorem Qio:∀ {es:List Ent},Qfq h es=true→∀ (j j':Nat) k e,es[j]?=some (.whole k)→es[j']?=some e→Qj7 k e=true→j=j'
 | [],_,j,j',k,e,h1,_,_=>by simp at h1
 | e0 :: es,ho,j,j',k,e,h1,h2,h3=>by
   match j,j' with
   | 0,0=>rfl
   | 0,j' + 1 =>
     simp at h1 h2
     subst h1
     simp only [Qfq,Bool.and_eq_true] at ho
     have:=List.all_eq_true.1 ho.1 e (List.mem_of_getElem? h2)
     rw [h3] at this; cases this
   | j + 1,0 =>
     simp at h1 h2
     subst h2
     exfalso
     have hm:=List.mem_of_getElem? h1
     cases e0 with
     | whole k' =>
       simp only [Qfq,Bool.and_eq_true] at ho
       have:=List.all_eq_true.1 ho.1 _ hm
       simp only [Qj7] at this h3
       rw [Nat.eq_of_beq_eq_true h3,Nat.beq_refl] at this
       cases this
     | win k' s i n =>
       simp only [Qfq,Bool.and_eq_true] at ho
       have:=List.all_eq_true.1 ho.1 _ hm
       simp only [Qj7] at this h3
       rw [Nat.eq_of_beq_eq_true h3,Nat.beq_refl] at this
       cases this
   | j + 1,j' + 1 =>
     simp at h1 h2
     have hr:Qfq h es=true:=by
       cases e0 <;> simp only [Qfq,Bool.and_eq_true] at ho <;> exact ho.2
     rw [Qio hr j j' k e h1 h2 h3]
def Ent.name:Ent→Nat
 | .win k _ _ _=>k
 | .whole k=>k
theorem Qlt (hok:CanOk h δ ⟨es,bs,ro⟩ []) {j r:Nat} (hl:Qc9 (Qcb δ es) (Qaf bs) j r):∃ e b b0,es[j]?=some e∧bs[j]?=some b∧h e.name=some b0∧Qc9 δ h e.name r∧(b.rw=true→b0.rw=true∧e=.whole e.name):=by
 obtain ⟨b,q,h1,h2,h3,h4,h5⟩:=hl
 have h1:bs[j]?=some b:=h1
 have hlt:=(List.getElem?_eq_some_iff.1 h1).1
 have hlen:es.length=bs.length:=hok.len
 have he:es[j]?=some es[j]:=List.getElem?_eq_getElem (by omega)
 rcases hok.ent j _ b he h1 with h0 | h0
 · cases h0
 cases hee:es[j] with
 | win k s i n =>
   rw [hee] at h0 he
   obtain ⟨b0,p,g1,g2,g3,g4,g5,g6,g7⟩:=h0
   unfold Qcb at h3
   simp only at h3
   rw [he] at h3
   simp only [g5] at h3
   cases h3
   exact ⟨_,_,b0,he,h1,g1,⟨b0,p,g1,g2,g5,h4,h5⟩,fun hh=>by rcases g7 with ⟨_,rfl⟩ | ⟨_,_,_,rfl⟩ <;> cases hh⟩
 | whole k =>
   rw [hee] at h0 he
   obtain ⟨b0,g1,g2,g3,_⟩:=h0
   unfold Qcb at h3
   simp only at h3
   rw [he] at h3
   exact ⟨_,_,b0,he,h1,g1,⟨b0,q,g1,g2,h3,h4,h5⟩,fun _=>⟨g3,rfl⟩⟩
theorem Q3p (hr:HRep δ h w) (hok:CanOk h δ ⟨es,bs,ro⟩ []) (heo:Qfq h es=true):HRep (Qcb δ es) (Qaf bs) w:=by
 refine ⟨fun j b hj=>Q71 hr hok hj,fun j j' r b h1 h2 hj hb=>?_,fun q hq=>⟨(hr.fz q hq).1,fun j b hj hb hl=>?_⟩⟩
 rotate_left
 · obtain ⟨e,b1,b0,g1,g2,g3,g4,g5⟩:=Qlt hok hl
   have:some b1=some b:=g2.symm.trans hj
   cases this
   exact (hr.fz q hq).2 _ b0 g3 (g5 hb).1 g4
 obtain ⟨e,b1,b0,g1,g2,g3,g4,g5⟩:=Qlt hok h1
 obtain ⟨e',b1',b0',f1,f2,f3,f4,_⟩:=Qlt hok h2
 have:some b1=some b:=g2.symm.trans hj
 cases this
 obtain ⟨a1,a2⟩:=g5 hb
 have:=hr.inj _ _ r b0 g4 f4 g3 a1
 rw [a2] at g1
 refine Qio heo j j' e.name e' g1 f1 ?_
 rw [this]
 cases e' <;> simp [Qj7,Ent.name]
theorem Qks:∀ {n:Nat},Qhi h base n=true→∀ j,j<n→h (base + j)=none
 | 0,_,j,hj=>by omega
 | n + 1,ho,j,hj=>by
   simp only [Qhi,Bool.and_eq_true] at ho
   rcases Nat.lt_or_eq_of_le (Nat.le_of_lt_succ hj) with h1 | h1
   · exact Qks ho.2 j h1
   · subst h1
     simpa using ho.1
theorem Qxx {j k s i n:Nat} (he:es[j]?=some (.win k s i n)):Qcd es base j=.win k i:=by simp [Qcd,he]
theorem Qhp {j k:Nat} (he:es[j]?=some (.whole k)):Qcd es base j=.whole k:=by simp [Qcd,he]
structure Turn (h:Qbo) (δ δ' δ'':Dict) (es:List Ent) (base:Nat):Prop where
 old:δ.le δ''
 dic:(Qcb δ es).le δ'
 ent:∀ (j:Nat) k s i n,es[j]?=some (.win k s i n)→∃ p,δ k=some p∧p.s=s∧i + n≤p.n
 new:∀ j,es[j]?=none→∀ p,δ' j=some p→1000≤j∧j<1008∧δ'' (base + (j - 1000))=some p
 whl:∀ (j:Nat) k,es[j]?=some (.whole k)→∃ p,δ k=some p
 fzz:∀ q,δ'.fz q→δ''.fz q
theorem Turn.at (ht:Turn h δ δ' δ'' es base) (j:Nat) (q:Loc) (hq:δ' j=some q):(∃ k i p,Qcd es base j=.win k i∧δ'' k=some p∧q.r=p.r∧q.s=p.s∧q.o=p.o + i*p.s∧i + q.n≤p.n∧q.no=p.no∧q.loose=p.loose)∨(∃ k,Qcd es base j=.whole k∧δ'' k=some q):=by
 cases he:es[j]? with
 | none =>
   obtain ⟨h1,h2,h3⟩:=ht.new j he q hq
   right
   refine ⟨base + (j - 1000),?_,h3⟩
   unfold Qcd
   rw [he]
   simp only
   rw [show (Nat.ble 1000 j&&Nat.blt j 1008)=true by rw [Nat.ble_eq_true_of_le h1,show Nat.blt j 1008=true from Nat.ble_eq_true_of_le h2]; rfl]
   rfl
 | some e =>
   cases e with
   | win k s i n =>
     obtain ⟨p,p1,p2,p3⟩:=ht.ent j k s i n he
     have hd:Qcb δ es j=some ⟨p.r,s,p.o + i*s,n,p.no,p.loose⟩:=by unfold Qcb; simp only; rw [he]; simp only [p1]
     have:=ht.dic _ _ hd
     rw [hq] at this
     cases this
     exact .inl ⟨k,i,p,Qxx he,ht.old _ _ p1,rfl,p2.symm,by rw [p2],p3,rfl,rfl⟩
   | whole k =>
     obtain ⟨p,p1⟩:=ht.whl j k he
     have hd:Qcb δ es j=some p:=by unfold Qcb; simp only; rw [he]; exact p1
     have:=ht.dic _ _ hd
     rw [hq] at this
     cases this
     exact .inr ⟨k,Qhp he,ht.old _ _ p1⟩
mutual
theorem Qqr (ht:Turn h δ δ' δ'' es base):∀ (x:SV) (r:Value),Qah δ' x r→Qah δ'' (Qq9 es base x) r
 | .unk,_,_=>by simp only [Qq9,Qah]
 | .v x,r,hr=>by simp only [Qq9,Qah] at *; exact hr
 | .vp j x,r,hr=>by
   simp only [Qah] at hr
   obtain ⟨q,h1,h2,rfl⟩:=hr
   simp only [Qq9]
   rcases ht.at j q h1 with ⟨k,i,p,g1,g2,g3,g4,g5,g6,_⟩ | ⟨k,g1,g2⟩
   · rw [g1]; simp only [Qah]
   · rw [g1]; simp only [Qah]; exact ⟨q,g2,h2,rfl⟩
 | .ptr j i' x,r,hr=>by
   simp only [Qah] at hr
   obtain ⟨q,h1,h2,rfl⟩:=hr
   simp only [Qq9]
   rcases ht.at j q h1 with ⟨k,i,p,g1,g2,g3,g4,g5,g6,_⟩ | ⟨k,g1,g2⟩
   · rw [g1]; simp only [Qah]
     exact ⟨p,g2,by omega,by rw [g3,g4,g5,Nat.add_mul,Nat.add_assoc p.o]⟩
   · rw [g1]; simp only [Qah]; exact ⟨q,g2,h2,rfl⟩
 | .sl j s i' n c,r,hr=>by
   simp only [Qah] at hr
   obtain ⟨q,h1,h2,h3,h4⟩:=hr
   simp only [Qq9]
   rcases ht.at j q h1 with ⟨k,i,p,g1,g2,g3,g4,g5,g6,g7,g8⟩ | ⟨k,g1,g2⟩
   · rw [g1]; simp only [Qah]
     refine ⟨p,g2,g4.symm.trans h2,by omega,h4.imp (fun ⟨e1,c',ec,e2⟩=>⟨g7.symm.trans e1,c',by rw [← g8]; exact ec,?_⟩) (fun ⟨e1,e2,e3⟩=>⟨e1,by rw [← g8]; exact e2,e3⟩)⟩
     rw [e2,g3,g5,← g4,h2,Nat.add_mul,Nat.add_assoc p.o]
   · rw [g1]; simp only [Qah]; exact ⟨q,g2,h2,h3,h4⟩
 | .ap j m l,r,hr=>by
   simp only [Qah] at hr
   obtain ⟨q,h1,h2⟩:=hr
   simp only [Qq9]
   rcases ht.at j q h1 with ⟨k,i,p,g1,_⟩ | ⟨k,g1,g2⟩
   · rw [g1]; simp only [Qah]
   · rw [g1]; simp only [Qah]; exact ⟨q,g2,h2⟩
 | .mp j,r,hr=>by
   simp only [Qah] at hr
   obtain ⟨q,h1,h2,rfl⟩:=hr
   simp only [Qq9]
   rcases ht.at j q h1 with ⟨k,i,p,g1,g2,g3,g4,g5,g6,g7,_⟩ | ⟨k,g1,g2⟩
   · rw [g1]; simp only [Qah]; exact ⟨p,g2,g7.symm.trans h2,by rw [g3]⟩
   · rw [g1]; simp only [Qah]; exact ⟨q,g2,h2,rfl⟩
 | .fz s n row,r,hr=>by
   simp only [Qah,Qq9] at *
   rcases hr with h1 | ⟨q,c,h1,h2⟩
   · exact .inl h1
   · exact .inr ⟨q,c,ht.fzz q h1,h2⟩
 | .fn f cs,r,hr=>by
   simp only [Qah,Qq9] at *
   obtain ⟨xs,h1,h2⟩:=hr
   exact ⟨xs,h1,Qjf ht cs xs h2⟩
 | .ifc t x,r,hr=>by
   simp only [Qah,Qq9] at *
   obtain ⟨y,h1,h2⟩:=hr
   exact ⟨y,h1,Qqr ht x y h2⟩
 | .agg cs,r,hr=>by
   simp only [Qah,Qq9] at *
   obtain ⟨xs,h1,h2⟩:=hr
   exact ⟨xs,h1,Qjf ht cs xs h2⟩
 | .tup cs,r,hr=>by
   simp only [Qah,Qq9] at *
   obtain ⟨xs,h1,h2⟩:=hr
   exact ⟨xs,h1,Qjf ht cs xs h2⟩
theorem Qjf (ht:Turn h δ δ' δ'' es base):∀ (xs:List SV) (rs:List Value),Qaw δ' xs rs→Qaw δ'' (Q7q es base xs) rs
 | [],rs,hr=>by cases rs <;> simp only [Qaw,Q7q] at *
 | x :: xs,rs,hr=>by
   cases rs with
   | nil=>simp only [Qaw] at hr
   | cons r rs =>
     simp only [Qaw,Q7q] at *
     exact ⟨Qqr ht x r hr.1,Qjf ht xs rs hr.2⟩
end
theorem Q3c (ht:Turn h δ δ' δ'' es base) {b:Blk} {q:Loc} (hl:Live δ' b w q):Live δ'' (Qra es base b) w q:=by
 refine ⟨hl.s,hl.n,hl.no,fun hno=>?_,hl.loose⟩
 cases hs:b.sp with
 | some m =>
   have hb:=hl.rep hno
   unfold Qcm at hb ⊢
   rw [hs] at hb
   rw [show (Qra es base b).sp=some m from hs]
   exact hb
 | none =>
 refine Qbt (show (Qra es base b).sp=none from hs) ?_
 obtain ⟨c,e,fz,c1,c2,c3,c4,c5,c6,c7⟩:=Qap hs (hl.rep hno)
 cases hf:b.flat with
 | true =>
   have hrow:(Qra es base b).row=b.row:=by simp only [Qra,hf]
   refine ⟨c,e,fz,c1,c2,fun _ y hy=>by rw [hrow]; exact c3 hf y hy,c4,c5,c6,fun y hy=>?_⟩
   rw [hrow]
   obtain ⟨a1,a2⟩:=c7 y hy
   exact ⟨a1,fun z v hz=>(a2 z v hz).imp fun r ⟨a3,a4⟩=>⟨a3,Qda ht.fzz _ _ (Qd5 (c3 hf y hy) v (List.mem_of_getElem? hz)) a4⟩⟩
 | false =>
   have hrow:∀ i,(Qra es base b).row i=Q7q es base (b.row i):=fun i=>by simp only [Qra,hf]
   refine ⟨c,e,fz,c1,c2,fun hh=>(by have:b.flat=true:=hh; rw [hf] at this; cases this),c4,c5,c6,fun y hy=>?_⟩
   rw [hrow]
   obtain ⟨a1,a2⟩:=c7 y hy
   obtain ⟨xs,x1,x2⟩:=Qdt (δ:=δ') (c:=c) (b.row y) (q.o + y*b.size) (fun j x hx=>a2 j x hx)
   have x3:=Qjf ht _ _ x1
   have l1:=Qa6 x1
   have l2:=Qa6 x3
   refine ⟨by show _=b.size; omega,fun z v hz=>?_⟩
   obtain ⟨r,y1,y2⟩:=Qb5 x3 hz
   exact ⟨r,x2 z r y1,y2⟩
theorem Q7j {u:List (Nat×Blk)}:(∀ j j' k,Qac j u=true→Qac j' u=true→Qcd es base j=.whole k→Qcd es base j'=.whole k→j=j')→∀ (H hc:Qbo) (j k:Nat),Qac j u=true→Qcd es base j=.whole k →
   Qb3 H (Qiu es base u) k=(Qb3 hc u j).map (Qra es base):=by
 induction u with
 | nil=>intro _ H hc j k hj; simp [Qac] at hj
 | cons q rest ih =>
   obtain ⟨j0,b⟩:=q
   intro hinj H hc j k hj hk
   have hinj':∀ j j' k,Qac j rest=true→Qac j' rest=true→Qcd es base j=.whole k→Qcd es base j'=.whole k→j=j':=fun j j' k h1 h2=>hinj j j' k (by simp [Qac,h1]) (by simp [Qac,h2])
   cases hr:Qac j rest with
   | true =>
     simp only [Qb3]
     have h1:=ih hinj' (match Qcd es base j0 with | .whole k0=>Qew H k0 (Qra es base b) | _=>H) (Qew hc j0 b) j k hr hk
     rw [← h1]
     simp only [Qiu]
     cases Qcd es base j0 <;> rfl
   | false =>
     simp only [Qac,hr,Bool.or_false] at hj
     have e0:j=j0:=Nat.eq_of_beq_eq_true hj
     subst e0
     have hnot:Qac k (Qiu es base rest)=false:=by
       cases hin:Qac k (Qiu es base rest) with
       | false=>rfl
       | true =>
         exfalso
         have:∀ (l:List (Nat×Blk)),Qac k (Qiu es base l)=true→∃ j',Qac j' l=true∧Qcd es base j'=.whole k:=by
           intro l
           induction l with
           | nil=>intro h0; simp [Qiu,Qac] at h0
           | cons q l ihl =>
             obtain ⟨j1,b1⟩:=q
             intro h0
             simp only [Qiu] at h0
             cases hb:Qcd es base j1 with
             | whole k1 =>
               rw [hb] at h0
               simp only [Qac,Bool.or_eq_true] at h0
               rcases h0 with h0 | h0
               · exact ⟨j1,by simp [Qac],by rw [hb,Nat.eq_of_beq_eq_true h0]⟩
               · obtain ⟨j',e1,e2⟩:=ihl h0; exact ⟨j',by simp [Qac,e1],e2⟩
             | win k1 i1=>rw [hb] at h0; obtain ⟨j',e1,e2⟩:=ihl h0; exact ⟨j',by simp [Qac,e1],e2⟩
             | no=>rw [hb] at h0; obtain ⟨j',e1,e2⟩:=ihl h0; exact ⟨j',by simp [Qac,e1],e2⟩
         obtain ⟨j',e1,e2⟩:=this rest hin
         have:=hinj j j' k (by simp [Qac]) (by simp [Qac,e1]) hk e2
         subst this
         rw [hr] at e1; cases e1
     simp only [Qiu,hk,Qb3]
     rw [Qat _ _ hnot,Qat _ _ hr]
     simp [Qew]
theorem decU_names {u:List (Nat×Blk)} {k:Nat}:Qac k (Qiu es base u)=true↔∃ j,Qac j u=true∧Qcd es base j=.whole k:=by
 induction u with
 | nil=>simp [Qiu,Qac]
 | cons q l ihl =>
   obtain ⟨j1,b1⟩:=q
   simp only [Qiu]
   constructor
   · intro h0
     cases hb:Qcd es base j1 with
     | whole k1 =>
       rw [hb] at h0
       simp only [Qac,Bool.or_eq_true] at h0
       rcases h0 with h0 | h0
       · exact ⟨j1,by simp [Qac],by rw [hb,Nat.eq_of_beq_eq_true h0]⟩
       · obtain ⟨j',e1,e2⟩:=ihl.1 h0; exact ⟨j',by simp [Qac,e1],e2⟩
     | win k1 i1=>rw [hb] at h0; obtain ⟨j',e1,e2⟩:=ihl.1 h0; exact ⟨j',by simp [Qac,e1],e2⟩
     | no=>rw [hb] at h0; obtain ⟨j',e1,e2⟩:=ihl.1 h0; exact ⟨j',by simp [Qac,e1],e2⟩
   · rintro ⟨j,e1,e2⟩
     simp only [Qac,Bool.or_eq_true] at e1
     rcases e1 with e1 | e1
     · rw [Nat.eq_of_beq_eq_true e1] at e2
       rw [e2]
       simp [Qac]
     · have:=ihl.2 ⟨j,e1,e2⟩
       cases hb:Qcd es base j1 <;> simp [Qac,this]
end
section
variable {P:Program} {Γ:Qbz}
theorem Q3b {h:Qbo} {δ δ':Dict} {w w':World} {es:List Ent} {bs:List Blk} {ro:Bool} {base:Nat} {u:List (Nat×Blk)} (hr:HRep δ h w) (hok:CanOk h δ ⟨es,bs,ro⟩ []) (heo:Qfq h es=true) (hfr:Qhi h base 8=true) (hlen:es.length≤1000)
   (hfo:Qg0 bs u=true) (hu:Upd (Qcb δ es) (Qaf bs) w δ' u w') (hf:∀ k,Qac k (Qiu es base u)=true→h k=none→δ k=none) :
   ∃ δ'',Turn h δ δ' δ'' es base∧Upd δ h w δ'' (Qiu es base u) w':=by
 unfold Qg0 at hfo
 rw [Bool.and_eq_true] at hfo
 have hlen':es.length=bs.length:=hok.len
 have hnames:∀ j,Qac j u=true→(∃ b,bs[j]?=some b∧b.rw=true∧b.dead=false)∨(bs[j]?=none∧1000≤j∧j<1008):=fun j hj=>by
   obtain ⟨p,hp⟩:=Qdr hj
   rcases Qd3 hfo.1 j p hp with h1 | ⟨h1,h2,h3,_⟩
   · exact .inl h1
   · exact .inr ⟨h1,h2,h3⟩
 -- an entry that may be written is a whole block
 have hwh:∀ (j:Nat) b,bs[j]?=some b→b.rw=true→∃ k b0,es[j]?=some (.whole k)∧h k=some b0∧b0.rw=true∧b0.dead=b.dead:=fun j b hj hb=>by
   have hlt:=(List.getElem?_eq_some_iff.1 hj).1
   have he:es[j]?=some es[j]:=List.getElem?_eq_getElem (by omega)
   rcases hok.ent j _ b he hj with h0 | h0
   · cases h0
   cases hee:es[j] with
   | win k s i n =>
     rw [hee] at h0
     obtain ⟨b0,p,_,_,_,_,_,_,⟨_,rfl⟩ | ⟨_,_,_,rfl⟩⟩:=h0 <;> cases hb
   | whole k =>
     rw [hee] at h0 he
     obtain ⟨b0,g1,g2,g3,_,_,_,_,_,g4,_⟩:=h0
     exact ⟨k,b0,he,g1,g3,g4.symm⟩
 have hback:∀ j,Qac j u=true→∃ k,Qcd es base j=.whole k∧((es[j]?=some (.whole k)∧∃ b0,h k=some b0∧b0.rw=true∧b0.dead=false)∨(es[j]?=none∧1000≤j∧j<1008∧k=base + (j - 1000)∧h k=none)):=fun j hj=>by
   rcases hnames j hj with ⟨b,h1,h2,h3⟩ | ⟨h1,h2,h3⟩
   · obtain ⟨k,b0,g1,g2,g3,g4⟩:=hwh j b h1 h2
     exact ⟨k,Qhp g1,.inl ⟨g1,b0,g2,g3,g4.trans h3⟩⟩
   · have he:es[j]?=none:=by rw [List.getElem?_eq_none_iff] at h1 ⊢; omega
     refine ⟨base + (j - 1000),?_,.inr ⟨he,h2,h3,rfl,Qks hfr (j - 1000) (by omega)⟩⟩
     unfold Qcd
     rw [he]
     simp only
     rw [show (Nat.ble 1000 j&&Nat.blt j 1008)=true by rw [Nat.ble_eq_true_of_le h2,show Nat.blt j 1008=true from Nat.ble_eq_true_of_le h3]; rfl]
     rfl
 have hinj:∀ j j' k,Qac j u=true→Qac j' u=true→Qcd es base j=.whole k→Qcd es base j'=.whole k→j=j':=fun j j' k h1 h2 h3 h4=>by
   obtain ⟨k1,a1,a2⟩:=hback j h1
   obtain ⟨k2,b1,b2⟩:=hback j' h2
   rw [h3] at a1; cases a1
   rw [h4] at b1; cases b1
   rcases a2 with ⟨e1,b0,e2,_⟩ | ⟨e1,e2,e3,e4,e5⟩ <;> rcases b2 with ⟨f1,b0',f2,_⟩ | ⟨f1,f2,f3,f4,f5⟩
   · exact Qio heo j j' k _ e1 f1 (by simp [Qj7])
   · rw [f5] at e2; cases e2
   · rw [e5] at f2; cases f2
   · omega
 let δ'':Dict:=⟨fun k=>match δ k with
   | some p=>some p
   | none=>if base≤k∧k<base + 8 then δ' (1000 + (k - base)) else none,δ'.fz⟩
 have hold:δ.le δ'':=⟨fun k p hk=>by simp only [δ'',hk],fun q hq=>hu.le.fz q hq⟩
 have hnew:∀ k,δ k=none→base≤k→k<base + 8→δ'' k=δ' (1000 + (k - base)):=fun k hk h1 h2=>by simp only [δ'',hk,h1,h2,and_self,if_true]
 have hnone:∀ j,es[j]?=none→Qcb δ es j=none:=fun j he=>by unfold Qcb; simp only; rw [he]
 have hturn:Turn h δ δ' δ'' es base:=by
   refine ⟨hold,hu.le,fun j k s i n he=>?_,fun j he p hp=>?_,fun j k he=>?_,fun q hq=>hq⟩
   · have hlt:=(List.getElem?_eq_some_iff.1 he).1
     have hb:bs[j]?=some bs[j]:=List.getElem?_eq_getElem (by omega)
     rcases hok.ent j _ _ he hb with h0 | h0
     · cases h0
     · obtain ⟨b0,p,g1,g2,_,g4,g5,g6,_⟩:=h0
       obtain ⟨p',q1,q2⟩:=hr.blk k b0 g1
       rw [g5] at q1; cases q1
       exact ⟨p,g5,(q2 g2).s.trans g4,g6⟩
   · have hj:=hu.fresh j (hnone j he) (by rw [hp]; simp)
     obtain ⟨k,a1,a2⟩:=hback j hj
     rcases a2 with ⟨e1,_⟩ | ⟨_,e2,e3,e4,e5⟩
     · rw [he] at e1; cases e1
     · refine ⟨e2,e3,?_⟩
       have hd:δ k=none:=hf k (decU_names.2 ⟨j,hj,a1⟩) e5
       rw [← e4,hnew k hd (by omega) (by omega),show 1000 + (k - base)=j by omega,hp]
   · have hlt:=(List.getElem?_eq_some_iff.1 he).1
     have hb:bs[j]?=some bs[j]:=List.getElem?_eq_getElem (by omega)
     rcases hok.ent j _ _ he hb with h0 | h0
     · cases h0
     · obtain ⟨b0,g1,_⟩:=h0
       obtain ⟨p,q1,_⟩:=hr.blk k b0 g1
       exact ⟨p,q1⟩
 refine ⟨δ'',hturn,?_⟩
 -- a name that is written
 have wr:∀ k,Qac k (Qiu es base u)=true→∃ j p,Qac j u=true∧Qcd es base j=.whole k∧Qb3 (Qaf bs) u j=some p∧Qb3 h (Qiu es base u) k=some (Qra es base p)∧δ'' k=δ' j∧(es[j]?=some (.whole k)∨(es[j]?=none∧h k=none∧δ k=none)):=fun k hk=>by
   obtain ⟨j,h1,h2⟩:=decU_names.1 hk
   obtain ⟨p,_,h3⟩:=Qe6 u (Qaf bs) h1
   refine ⟨j,p,h1,h2,h3,by rw [Q7j hinj h (Qaf bs) j k h1 h2,h3]; rfl,?_⟩
   obtain ⟨k',a1,a2⟩:=hback j h1
   rw [h2] at a1; cases a1
   rcases a2 with ⟨e1,_⟩ | ⟨e1,e2,e3,e4,e5⟩
   · obtain ⟨q,q1⟩:=hturn.whl j k e1
     have hd:Qcb δ es j=some q:=by unfold Qcb; simp only; rw [e1]; exact q1
     exact ⟨by rw [hold _ _ q1,hu.le _ _ hd],.inl e1⟩
   · have hd:δ k=none:=hf k hk e5
     exact ⟨by rw [hnew k hd (by omega) (by omega),show 1000 + (k - base)=j by omega],.inr ⟨e1,e5,hd⟩⟩
 have hrwOf:∀ r,Qfl (Qcb δ es) (Qaf bs) r→∃ k b0,h k=some b0∧b0.rw=true∧Qc9 δ h k r∧Qac k (Qiu es base u)=true:=fun r ⟨j,b,h1,h2,h3⟩=>by
   have h1:bs[j]?=some b:=h1
   obtain ⟨e,b1,b0,g1,g2,g3,g4,g5⟩:=Qlt hok h3
   rw [h1] at g2; cases g2
   obtain ⟨a1,a2⟩:=g5 h2
   refine ⟨e.name,b0,g3,a1,g4,decU_names.2 ⟨j,?_,by rw [a2] at g1; exact Qhp g1⟩⟩
   obtain ⟨b2,q,c1,c2,_⟩:=h3
   have c1:bs[j]?=some b2:=c1
   rw [h1] at c1; cases c1
   have:=Qfh hfo.2 j _ h1 h2 c2
   rwa [Nat.zero_add] at this
 have hrwOf':∀ r,Qfl (Qcb δ es) (Qaf bs) r→Qfl δ h r:=fun r hh=>by
   obtain ⟨k,b0,h1,h2,h3,_⟩:=hrwOf r hh
   exact ⟨k,b0,h1,h2,h3⟩
 -- what is not written stays
 have stay:∀ k r,Qac k (Qiu es base u)=false→Qc9 δ h k r→¬ Qfl (Qcb δ es) (Qaf bs) r:=fun k r hk hl hh=>by
   obtain ⟨k0,b0,h1,h2,h3,h4⟩:=hrwOf r hh
   have:=hr.inj k0 k r b0 h3 hl h1 h2
   subst this
   rw [hk] at h4; cases h4
 -- a name behind
 have cls:∀ k r,Qc9 δ'' (Qb3 h (Qiu es base u)) k r→(∃ j p,Qac j u=true∧Qb3 h (Qiu es base u) k=some (Qra es base p)∧Qb3 (Qaf bs) u j=some p∧Qc9 δ' (Qb3 (Qaf bs) u) j r∧Qcd es base j=.whole k∧Qac k (Qiu es base u)=true)∨(Qac k (Qiu es base u)=false∧Qc9 δ h k r):=fun k r ⟨b,q,h1,h2,h3,h4,h5⟩=>by
   cases hi:Qac k (Qiu es base u) with
   | true =>
     obtain ⟨j,p,a1,a2,a3,a4,a5,_⟩:=wr k hi
     rw [h1] at a4
     cases a4
     exact .inl ⟨j,p,a1,h1,a3,⟨p,q,a3,h2,by rw [← a5]; exact h3,h4,h5⟩,a2,rfl⟩
   | false =>
     rw [Qat _ _ hi] at h1
     obtain ⟨q',d1,_⟩:=hr.blk k b h1
     have:=hold _ _ d1
     rw [h3] at this; cases this
     exact .inr ⟨rfl,b,q,h1,h2,d1,h4,h5⟩
 -- one that is written against one that is not
 have mix:∀ j k' r,Qc9 δ' (Qb3 (Qaf bs) u) j r→Qac j u=true→Qac k' (Qiu es base u)=false→Qc9 δ h k' r→(∃ b,h k'=some b∧b.rw=true)∨(∃ p,Qb3 (Qaf bs) u j=some p∧p.rw=true)→False:=fun j k' r hl hj hk' hl' hor=>by
   have hlt:=Qdq hr hl'
   obtain ⟨k,a1,a2⟩:=hback j hj
   have hk:Qac k (Qiu es base u)=true:=decU_names.2 ⟨j,hj,a1⟩
   obtain ⟨p,q,l1,l2,l3,l4,l5⟩:=hl
   rcases a2 with ⟨e1,b0,e2,e3,e4⟩ | ⟨e1,e2,e3,e4,e5⟩
   · obtain ⟨q',q1⟩:=hturn.whl j k e1
     have hd:Qcb δ es j=some q':=by unfold Qcb; simp only; rw [e1]; exact q1
     have:=hu.le _ _ hd
     rw [l3] at this; cases this
     have:=hr.inj k k' r b0 ⟨b0,q,e2,e4,q1,l4,l5⟩ hl' e2 e3
     subst this
     rw [hk] at hk'; cases hk'
   · rcases hu.place j q (hnone j e1) l3 l4 with h1 | h1
     · omega
     · rw [l5] at h1; exact stay k' r hk' hl' h1
 refine ⟨hold,⟨fun k b hk=>?_,fun k1 k2 r b h1 h2 hk hb=>?_,fun q hq=>⟨(hu.rep.fz q hq).1,fun k b hk hb hl=>?_⟩⟩,fun k h0 h1=>?_,fun k q h0 h1 hno=>?_,hu.wrel.mono fun r _=>hrwOf' r,fun q hq=>(hu.fzp q hq).imp id fun hx=>hx.imp id (hrwOf' _)⟩
 · cases hi:Qac k (Qiu es base u) with
   | true =>
     obtain ⟨j,p,a1,a2,a3,a4,a5,_⟩:=wr k hi
     rw [hk] at a4; cases a4
     obtain ⟨q,d1,d2⟩:=hu.rep.blk j p a3
     exact ⟨q,a5.trans d1,fun hd=>Q3c hturn (d2 hd)⟩
   | false =>
     rw [Qat _ _ hi] at hk
     obtain ⟨q,d1,d2⟩:=hr.blk k b hk
     refine ⟨q,hold _ _ d1,fun hd=>(d2 hd).mono hold fun hno=>hu.wrel.block q.r (Qcw ((d2 hd).rep hno)) ?_⟩
     exact stay k q.r hi ⟨b,q,hk,hd,d1,hno,rfl⟩
 · rcases cls k1 r h1 with ⟨j1,p1,e1,e2,e3,e4,e5,e6⟩ | ⟨e1,e2⟩ <;> rcases cls k2 r h2 with ⟨j2,p2,f1,f2,f3,f4,f5,f6⟩ | ⟨f1,f2⟩
   · rw [hk] at e2
     cases e2
     have:=hu.rep.inj j1 j2 r p1 e4 f4 e3 hb
     subst this
     rw [e5] at f5; cases f5; rfl
   · rw [hk] at e2
     cases e2
     exact (mix j1 k2 r e4 e1 f1 f2 (.inr ⟨p1,e3,hb⟩)).elim
   · rw [Qat _ _ e1] at hk
     exact (mix j2 k1 r f4 f1 e1 e2 (.inl ⟨b,hk,hb⟩)).elim
   · rw [Qat _ _ e1] at hk
     exact hr.inj k1 k2 r b e2 f2 hk hb
 · rcases cls k q.r hl with ⟨j1,p1,e1,e2,e3,e4,e5,e6⟩ | ⟨e1,e2⟩
   · rw [hk] at e2
     cases e2
     exact (hu.rep.fz q hq).2 j1 p1 e3 hb e4
   · rw [Qat _ _ e1] at hk
     rcases hu.fzp q hq with g | g | g
     · exact (hr.fz q g).2 k b hk hb e2
     · have:=Qdq hr e2; omega
     · exact stay k q.r e1 e2 g
 · have hb:base≤k∧k<base + 8:=by
     refine Classical.byContradiction fun hc=>h1 ?_
     simp only [δ'',h0,if_neg hc]
   rw [hnew k h0 hb.1 hb.2] at h1
   have he:es[1000 + (k - base)]?=none:=by rw [List.getElem?_eq_none_iff]; omega
   have hj:=hu.fresh _ (hnone _ he) h1
   obtain ⟨k',a1,a2⟩:=hback _ hj
   rcases a2 with ⟨e1,_⟩ | ⟨_,e2,e3,e4,e5⟩
   · rw [he] at e1; cases e1
   · have:k'=k:=by omega
     subst this
     exact decU_names.2 ⟨_,hj,a1⟩
 · have hb:base≤k∧k<base + 8:=by
     refine Classical.byContradiction fun hc=>?_
     simp only [δ'',h0,if_neg hc] at h1
     cases h1
   rw [hnew k h0 hb.1 hb.2] at h1
   have he:es[1000 + (k - base)]?=none:=by rw [List.getElem?_eq_none_iff]; omega
   exact (hu.place _ q (hnone _ he) h1 hno).imp id (hrwOf' _)
theorem Qlq {es:List Ent} {base:Nat}:∀ {e:Eff} {x:SV} {u:List (Nat×Blk)},Qce e x u→Qce (Zf0 es base e) (Qq9 es base x) (Qiu es base u)
 | .det p y v,x,u,h=>by obtain ⟨rfl,rfl⟩:=h; exact ⟨rfl,rfl⟩
 | .nd p C c0 y v,x,u,h=>by obtain ⟨c,rfl,rfl⟩:=h; exact ⟨c,rfl,rfl⟩
 | .alt true e1 e2,x,u,h=>Qlq (e:=e1) h
 | .alt false e1 e2,x,u,h=>Qlq (e:=e2) h
theorem Qjg {es:List Ent} {base:Nat}:∀ {e:Eff},(Zf0 es base e).asks→e.asks
 | .det p y v,h=>h
 | .nd p C c0 y v,h=>h
 | .alt true e1 e2,h=>Qjg (e:=e1) h
 | .alt false e1 e2,h=>Qjg (e:=e2) h
theorem Qc4 {f : FuncId} {fn : Func} (hf : P.funcs[f]? = some fn) (hn : (fn.name == "runtime.NumGoroutine") = false) (hb : fn.body.isNone = false) {wr : Bool} {spec : List SV → List Blk → Option Eff} (hs : Qbv P f spec) : (Qcz wr spec).ok P f := by
 intro args h base e he δ w vals ha hr hp hfr
 simp only [Qcz] at he
 cases hc:Qtc 400 h false args ⟨[],[],!wr⟩ with
 | none=>rw [hc] at he; cases he
 | some lc =>
   obtain ⟨l,c⟩:=lc
   rw [hc] at he
   simp only at he
   cases hb1:(Qfq h c.es&&Qhi h base 8&&Nat.ble c.es.length 1000) with
   | false=>rw [hb1] at he; cases he
   | true =>
     rw [hb1,cond_true] at he
     simp only [Bool.and_eq_true] at hb1
     obtain ⟨⟨b1,b2⟩,b3⟩:=hb1
     cases hsp:spec l c.bs with
     | none=>rw [hsp] at he; cases he
     | some e0 =>
       rw [hsp] at he
       cases he
       have hrun:(callFunc f vals.toArray).run P w=.ok (.enter f vals.toArray) w:=by
         have hn' : ¬ fn.name = "runtime.NumGoroutine" := by simpa using hn
         have hb':¬ fn.body=none:=fun e=>by rw [e] at hb; cases hb
         simp [callFunc,hf,hn',hb']
       rw [hrun]
       have hempty:CanOk h δ ⟨[],[],!wr⟩ []:=⟨rfl,fun j e b h1 _=>by simp at h1⟩
       obtain ⟨c1,c2,_⟩:=(Qqv hr 400).2 false args ⟨[],[],!wr⟩ l c [] hc hempty ⟨vals,ha⟩
       have hlen:=Nat.le_of_ble_eq_true b3
       have hlen2:c.es.length=c.bs.length:=c1.ok.len
       refine (hs l c.bs e0 hsp (Qjg hp) (Qcb δ c.es) w vals (c2 vals ha) (Q3p hr c1.ok b1) (fun k hk=>?_) (by omega)).mono fun ed w' ⟨r,x,u,δ',h1,h2,h3,h4,h5⟩=>?_
       · unfold Qaf at hk
         unfold Qcb; simp only
         rw [List.getElem?_eq_none_iff] at hk
         rw [List.getElem?_eq_none (by omega)]
       · have ho:=Qlq (es:=c.es) (base:=base) h2
         obtain ⟨δ'',t1,t2⟩:=Q3b hr c1.ok b1 b2 hlen h3 h5 (fun k hk hh=>hfr _ _ ho k hk hh)
         exact ⟨r,_,_,δ'',h1,ho,Qqr t1 x r h4,t2⟩
end
structure Ro where
 s:Nat
 n:Nat
 row:Nat→List SV
def Ro.blk (b:Ro):Blk:={elem:=0,size:=b.s,rw:=false,lock:=false,lit:=false,flat:=true,n:=b.n,row:=b.row,ext:=0}
def Qbl (bs:List Ro):Qbo:=fun k=>match bs[k]? with | some b=>some b.blk | none=>none
def Q6n:List Blk→Option (List Ro)
 | []=>some []
 | b :: rest=>bif b.rw||b.off||!b.flat then none else match Q6n rest with
   | some l=>some (⟨b.size,b.n,b.row⟩ :: l)
   | none=>none
def Qrr (spec:List SV→List Ro→Option (Option Prop×SV)) (args:List SV) (bs:List Blk):Option Eff :=
 match Q6n bs with
 | some rs=>match spec args rs with
   | some (p,x)=>some (.det p x [])
   | none=>none
 | none=>none
def Qfc (spec:List SV→List Ro→Option (Option Prop×SV)):Ctr:=Qcz false (Qrr spec)
def Qc7 (P:Program) (f:FuncId) (spec:List SV→List Ro→Option (Option Prop×SV)):Prop:=Qbv P f (Qrr spec)
def Q1d:List Ro→List Ro→Prop
 | [],[]=>True
 | a :: as,b :: bs=>(a.s=b.s∧a.n=b.n∧∀ i,i<b.n→a.row i=b.row i)∧Q1d as bs
 | _,_=>False
theorem Qjz:∀ {as bs:List Ro},Q1d as bs→∀ (k:Nat),(as[k]?=none∧bs[k]?=none)∨∃ a b,as[k]?=some a∧bs[k]?=some b∧a.s=b.s∧a.n=b.n∧∀ i,i<b.n→a.row i=b.row i
 | [],[],_,k=>.inl ⟨by simp,by simp⟩
 | a :: as,b :: bs,h,0=>.inr ⟨a,b,by simp,by simp,h.1⟩
 | a :: as,b :: bs,h,k + 1=>by
   have:=Qjz h.2 k
   simpa using this
 | [],_ :: _,h,_=>h.elim
 | _ :: _,[],h,_=>h.elim
theorem Qvt:∀ {bs:List Blk} {rs:List Ro},Q6n bs=some rs→∀ (k:Nat),(bs[k]?=none∧rs[k]?=none)∨∃ b,bs[k]?=some b∧rs[k]?=some ⟨b.size,b.n,b.row⟩∧b.rw=false∧b.off=false∧b.flat=true
 | [],rs,h,k=>by
   simp only [Q6n,Option.some.injEq] at h
   subst h
   exact .inl ⟨by simp,by simp⟩
 | b :: bs,rs,h,k=>by
   simp only [Q6n] at h
   cases hb:(b.rw||b.off||!b.flat) with
   | true=>rw [hb] at h; cases h
   | false =>
     rw [hb,cond_false] at h
     simp only [Bool.or_eq_false_iff,Bool.not_eq_false'] at hb
     cases hr:Q6n bs with
     | none=>rw [hr] at h; cases h
     | some l =>
       rw [hr] at h
       cases h
       cases k with
       | zero=>exact .inr ⟨b,by simp,by simp,hb.1.1,hb.1.2,hb.2⟩
       | succ k=>simpa using Qvt hr k
theorem Zdm {δ:Dict} {b:Blk} {c:Ro} {w:World} {p:Loc} (hsp:b.sp=none) (hf:b.flat=true) (h1:b.size=c.s) (h2:b.n=c.n) (h3:∀ i,i<c.n→b.row i=c.row i) (hl:Live δ b w p):Live δ c.blk w p:=by
 refine ⟨hl.s.trans h1,hl.n.trans h2,fun hno=>⟨h2.symm.trans (hl.no hno).1,rfl⟩,fun hno=>?_,fun _=>rfl⟩
 obtain ⟨cc,e,fz,c1,c2,c3,c4,c5,c6,c7⟩:=Qap hsp (hl.rep hno)
 refine Qbt rfl ⟨cc,e,fz,c1,fun hh=>(by cases hh),fun _ i hi=>?_,fun hh=>absurd rfl hh,?_,fun hh=>(by cases hh),fun i hi=>?_⟩
 · have hi':i<c.n:=hi
   show Qan (c.row i)=true
   rw [← h3 i hi']; exact c3 hf i (by omega)
 · show p.o + 0*_≤_
   omega
 · have hi':i<c.n:=hi
   show Qf2 δ cc c.s p.o i (c.row i)
   rw [← h3 i hi',← h1]; exact c7 i (by omega)
mutual
theorem Qr6 (m:List (Nat×Cur)) (h:Qbo):∀ x:SV,Qea x=true→mtS m h x x
 | .v x,_=>by simp only [mtS]
 | .agg cs,hx=>by simp only [Qea] at hx; simp only [mtS]; exact Qmr m h cs hx
 | .tup cs,hx=>by simp only [Qea] at hx; simp only [mtS]; exact Qmr m h cs hx
 | .unk,hx=>by simp [Qea] at hx
 | .vp _ _,hx=>by simp [Qea] at hx
 | .ptr _ _ _,hx=>by simp [Qea] at hx
 | .sl _ _ _ _ _,hx=>by simp [Qea] at hx
 | .ap _ _ _,hx=>by simp [Qea] at hx
 | .fn _ _,hx=>by simp [Qea] at hx
 | .ifc _ _,hx=>by simp [Qea] at hx
 | .mp _,hx=>by simp [Qea] at hx
 | .fz _ _ _,hx=>by simp [Qea] at hx
theorem Qmr (m:List (Nat×Cur)) (h:Qbo):∀ xs:List SV,Qf5 xs=true→mtL m h xs xs
 | [],_=>by simp only [mtL]
 | [x],hx=>by simp only [Qf5,Bool.and_eq_true] at hx; simp only [mtL]; exact Qr6 m h x hx.1
 | x :: y :: xs,hx=>by
   simp only [Qf5,Bool.and_eq_true] at hx
   simp only [mtL]
   have:=Qmr m h (y :: xs) (by simp only [Qf5,Bool.and_eq_true]; exact hx.2)
   simp only [mtL] at this
   exact ⟨Qr6 m h x hx.1,this⟩
end
section
variable {P:Program} {Γ:Qbz}
theorem Qcq (hm:P.follows .mixedOrders=true) (hΓ:∀ f g,Γ f=some g→g.ok P f) {f:FuncId} {fn:Func} (hf:P.funcs[f]?=some fn) {spec:List SV→List Ro→Option (Option Prop×SV)} {Λ:List SV→List Ro→Nat→Option LoopSpec}
   (h:∀ args bs p x,spec args bs=some (p,x)→(∀ q,p=some q→q)→Qea x=true∧∃ bs',Q1d bs bs'∧Qcf P Γ (Λ args bs) fn args (Qbl bs') 64 (fun y _=>y=x)):Qc7 P f spec:=fun args bs e hs hp δ w vals ha hr ht _=>by
 unfold Qrr at hs
 cases hrs:Q6n bs with
 | none=>rw [hrs] at hs; cases hs
 | some rs =>
   rw [hrs] at hs
   simp only at hs
   cases hsp:spec args rs with
   | none=>rw [hsp] at hs; cases hs
   | some px =>
     obtain ⟨p,x⟩:=px
     rw [hsp] at hs
     cases hs
     obtain ⟨h1,rs',h2,h3⟩:=h args rs p x hsp hp
     -- the blocks,as they are read
     have hget:∀ (k:Nat),(bs[k]?=none∧rs'[k]?=none)∨∃ b c,bs[k]?=some b∧rs'[k]?=some c∧b.rw=false∧b.off=false∧b.flat=true∧b.size=c.s∧b.n=c.n∧∀ i,i<c.n→b.row i=c.row i:=fun k=>by
       rcases Qvt hrs k with ⟨g1,g2⟩ | ⟨b,g1,g2,g3,g4,g5⟩
       · rcases Qjz h2 k with ⟨_,e⟩ | ⟨a,c,e,_⟩
         · exact .inl ⟨g1,e⟩
         · rw [g2] at e; cases e
       · rcases Qjz h2 k with ⟨e,_⟩ | ⟨a,c,e1,e2,e3,e4,e5⟩
         · rw [g2] at e; cases e
         · rw [g2] at e1; cases e1
           exact .inr ⟨b,c,g1,e2,g3,g4,g5,e3,e4,e5⟩
     have hr1:HRep δ (Qbl rs') w:=by
       refine ⟨fun k b hk=>?_,fun k k' r b _ _ hk hb=>?_,fun q hq=>⟨(hr.fz q hq).1,fun k b hk hb _=>?_⟩⟩
       · unfold Qbl at hk
         rcases hget k with ⟨_,g⟩ | ⟨b0,c,g1,g2,g3,g4,g5,g6,g7,g8⟩
         · rw [g] at hk; cases hk
         · rw [g2] at hk; cases hk
           obtain ⟨q,d1,d2⟩:=hr.blk k b0 g1
           exact ⟨q,d1,fun _=>Zdm (Blk.off_false g4).2 g5 g6 g7 g8 (d2 (Blk.off_false g4).1)⟩
       · unfold Qbl at hk
         split at hk
         · cases hk; cases hb
         · cases hk
       · unfold Qbl at hk
         split at hk
         · cases hk; cases hb
         · cases hk
     have ht1:∀ k,Qbl rs' k=none→δ k=none:=fun k hk=>by
       refine ht k ?_
       unfold Qaf
       unfold Qbl at hk
       rcases hget k with ⟨g,_⟩ | ⟨b0,c,_,g2,_⟩
       · exact g
       · rw [g2] at hk; cases hk
     have noRw:∀ r,¬ Qfl δ (Qbl rs') r:=fun r ⟨k,b,hk,hb,_⟩=>by
       unfold Qbl at hk
       split at hk
       · cases hk; cases hb
       · cases hk
     refine (Qqj hm hΓ hf ha hr1 ht1 h3).mono fun ed w' ⟨r,y,δ',h',g1,g2,g3,_,_,g6,_⟩=>?_
     subst g2
     refine ⟨r,y,[],δ,g1,⟨rfl,rfl⟩,?_,(Qe8 y r h1).2 ((Qe8 y r h1).1 g3),Qri hr ⟨g6.os,g6.tape,g6.output,g6.size,fun k hk=>g6.block k hk (noRw k)⟩⟩
     -- nothing is written
     have hall:∀ (l:List Blk) (j:Nat),(∀ b∈l,b.rw=false)→Qd7 [] l j=true:=by
       intro l
       induction l with
       | nil=>intro j _; rfl
       | cons b l ih=>intro j hl; simp [Qd7,hl b List.mem_cons_self,ih (j + 1) fun b hb=>hl b (List.mem_cons_of_mem _ hb)]
     unfold Qg0
     rw [hall bs 0 fun b hb=>?_]
     · rfl
     · obtain ⟨k,hk⟩:=List.getElem?_of_mem hb
       rcases hget k with ⟨e,_⟩ | ⟨b0,c,e1,_,e2,_⟩
       · rw [hk] at e; cases e
       · rw [hk] at e1; cases e1; exact e2
theorem Qfj {f : FuncId} {fn : Func} (hf : P.funcs[f]? = some fn) (hn : (fn.name == "runtime.NumGoroutine") = false) (hb : fn.body.isNone = false) {spec : List SV → List Ro → Option (Option Prop × SV)} (hs : Qc7 P f spec) : (Qfc spec).ok P f := Qc4 hf hn hb hs
end
def Q23 (s n:Nat) (row:Nat→List Value):Blk:={elem:=0,size:=s,rw:=false,lock:=false,lit:=false,flat:=true,n,row:=fun i=>(row i).map .v,ext:=0}
mutual
def Qe2 (k:Nat):SV→List Blk→SV×List Blk
 | .fz s n row,acc=>(.sl (k + acc.length) s 0 n n,acc++[Q23 s n row])
 | .agg cs,acc=>(.agg (Qq6 k cs acc).1,(Qq6 k cs acc).2)
 | x,acc=>(x,acc)
def Qq6 (k:Nat):List SV→List Blk→List SV×List Blk
 | [],acc=>([],acc)
 | x :: xs,acc=>((Qe2 k x acc).1 :: (Qq6 k xs (Qe2 k x acc).2).1,(Qq6 k xs (Qe2 k x acc).2).2)
end
def okN (N k:Nat):Bool:=Nat.blt k N||Nat.ble 1000 k
mutual
def okS (N:Nat):SV→Bool
 | .unk=>true
 | .v _=>true
 | .vp k _=>okN N k
 | .ptr k _ _=>okN N k
 | .sl k _ _ _ _=>okN N k
 | .ap k _ _=>okN N k
 | .fn _ cs=>okL N cs
 | .agg cs=>okL N cs
 | .tup cs=>okL N cs
 | .ifc _ x=>okS N x
 | .mp k=>okN N k
 | .fz _ _ _=>true
def okL (N:Nat):List SV→Bool
 | []=>true
 | x :: xs=>okS N x&&okL N xs
end
def Q58:SV→Value
 | .v x=>x
 | _=>undef
mutual
def Qtb (b:Blk):SV→SV
 | .sl k s i l c=>bif Nat.beq k 1000&&Nat.beq i 0 then .fz s l (fun y=>(b.row y).map Q58) else .sl k s i l c
 | .agg cs=>.agg (Zfz b cs)
 | .tup cs=>.tup (Zfz b cs)
 | .ifc t x=>.ifc t (Qtb b x)
 | x=>x
def Zfz (b:Blk):List SV→List SV
 | []=>[]
 | x :: xs=>Qtb b x :: Zfz b xs
end
mutual
def okF (N n s0:Nat):SV→Prop
 | .sl k s i l c=>(k=1000∧i=0∧s=s0∧l≤n∧l≤c)∨k<N
 | .agg cs=>Zfw N n s0 cs
 | .tup cs=>Zfw N n s0 cs
 | .ifc _ x=>okF N n s0 x
 | .vp k _=>k<N
 | .ptr k _ _=>k<N
 | .ap k _ _=>k<N
 | .mp k=>k<N
 | .fn _ cs=>Qan cs=true
 | .v _=>True
 | .unk=>True
 | .fz _ _ _=>True
def Zfw (N n s0:Nat):List SV→Prop
 | []=>True
 | x :: xs=>okF N n s0 x∧Zfw N n s0 xs
end
def Znk (l:List SV):Prop:=∀ x∈l,∃ v,x=.v v
def Frz (N:Nat) (x0:SV) (u0:List (Nat×Blk)) (x:SV) (u:List (Nat×Blk)):Prop :=
 (x=x0∧u=u0∧okS N x0=true∧∀ k b,(k,b)∈u0→b.dead=false→b.flat=true∨∀ i,i<b.n→okL N (b.row i)=true) ∨
 (∃ b,u0=[(1000,b)]∧u=[]∧b.dead=false∧b.sp=none∧(∀ i,i<b.n→Znk (b.row i))∧x=Qtb b x0∧okF N b.n b.size x0)
section
variable {P:Program} {δ:Dict} {w:World} {bs:List Blk}
theorem Qgl (bs:List Blk) (b:Blk):Qaf (bs++[b])=Qew (Qaf bs) bs.length b:=by
 funext k
 unfold Qaf Qew
 by_cases e:k=bs.length
 · subst e; simp
 · rw [Qbc e,cond_false]
   by_cases h:k<bs.length
   · rw [List.getElem?_append_left h]
   · rw [List.getElem?_eq_none (by simp; omega)]; exact (List.getElem?_eq_none (by omega)).symm
theorem Zak {δ1:Dict} {bs:List Blk} {b:Blk} {p:Loc} (hr:HRep δ1 (Qaf bs) w) (ht:∀ k,Qaf bs k=none→δ1 k=none) (hrw:b.rw=false) (hdead:b.dead=false)
   (hl:Live (⟨fun k=>if k=bs.length then some p else δ1 k,δ1.fz⟩:Dict) b w p) (hno:∀ k c,p.no=false→Qaf bs k=some c→c.rw=true→¬ Qc9 δ1 (Qaf bs) k p.r) :
   δ1.le (⟨fun k=>if k=bs.length then some p else δ1 k,δ1.fz⟩:Dict)∧HRep (⟨fun k=>if k=bs.length then some p else δ1 k,δ1.fz⟩:Dict) (Qaf (bs++[b])) w∧∀ k,Qaf (bs++[b]) k=none→(⟨fun k=>if k=bs.length then some p else δ1 k,δ1.fz⟩:Dict) k=none:=by
 have hn:Qaf bs bs.length=none:=by unfold Qaf; simp
 have hd:δ1 bs.length=none:=ht _ hn
 have hle:δ1.le (⟨fun k=>if k=bs.length then some p else δ1 k,δ1.fz⟩:Dict):=⟨fun k q hk=>by
   have:k≠bs.length:=fun e=>by subst e; rw [hd] at hk; cases hk
   simp [this,hk],fun _ hq=>hq⟩
 have cls:∀ k r,Qc9 (⟨fun k=>if k=bs.length then some p else δ1 k,δ1.fz⟩:Dict) (Qaf (bs++[b])) k r→(k=bs.length∧p.no=false∧r=p.r)∨(k≠bs.length∧Qc9 δ1 (Qaf bs) k r):=fun k r ⟨c,q,h1,h2,h3,h4,h5⟩=>by
   rw [Qgl] at h1
   simp only [Qew] at h1
   by_cases e:k=bs.length
   · simp only [e,if_true] at h3
     cases h3
     exact .inl ⟨e,h4,h5.symm⟩
   · rw [Qbc e,cond_false] at h1
     simp only [e,if_false] at h3
     exact .inr ⟨e,c,q,h1,h2,h3,h4,h5⟩
 have got:∀ k c,Qaf (bs++[b]) k=some c→c.rw=true→k≠bs.length∧Qaf bs k=some c:=fun k c hk hc=>by
   rw [Qgl] at hk
   simp only [Qew] at hk
   by_cases e:k=bs.length
   · subst e
     simp at hk
     subst hk
     rw [hrw] at hc; cases hc
   · rw [Qbc e,cond_false] at hk
     exact ⟨e,hk⟩
 refine ⟨hle,⟨fun k c hk=>?_,fun k k' r c h1 h2 hk hc=>?_,fun q hq=>⟨(hr.fz q hq).1,fun k c hk hc hl'=>?_⟩⟩,fun k hk=>?_⟩
 · rw [Qgl] at hk
   simp only [Qew] at hk
   by_cases e:k=bs.length
   · subst e
     simp at hk
     subst hk
     exact ⟨p,by simp,fun _=>hl⟩
   · rw [Qbc e,cond_false] at hk
     obtain ⟨q,d1,d2⟩:=hr.blk k c hk
     exact ⟨q,hle _ _ d1,fun hd=>(d2 hd).mono hle fun _=>rfl⟩
 · obtain ⟨e1,g1⟩:=got k c hk hc
   rcases cls k r h1 with ⟨a1,_⟩ | ⟨a1,a2⟩
   · exact absurd a1 e1
   · rcases cls k' r h2 with ⟨b1,b2,b3⟩ | ⟨b1,b2⟩
     · exact absurd (b3 ▸ a2) (hno k c b2 g1 hc)
     · exact hr.inj k k' r c a2 b2 g1 hc
 · obtain ⟨e1,g1⟩:=got k c hk hc
   rcases cls k q.r hl' with ⟨a1,_⟩ | ⟨a1,a2⟩
   · exact absurd a1 e1
   · exact (hr.fz q hq).2 k c g1 hc a2
 · rw [Qgl] at hk
   simp only [Qew] at hk
   by_cases e:k=bs.length
   · subst e; simp at hk
   · rw [Qbc e,cond_false] at hk
     simp only [e,if_false]
     exact ht k hk
mutual
theorem Zd0 (bs0:List Blk):∀ (x:SV) (acc:List Blk) (δ1:Dict) (r:Value),Qah δ x r→δ.le δ1→δ1.fz=δ.fz→HRep δ1 (Qaf (bs0++acc)) w→(∀ k,Qaf (bs0++acc) k=none→δ1 k=none) →
   ∃ δ2,δ1.le δ2∧δ2.fz=δ.fz∧HRep δ2 (Qaf (bs0++(Qe2 bs0.length x acc).2)) w∧(∀ k,Qaf (bs0++(Qe2 bs0.length x acc).2) k=none→δ2 k=none)∧Qah δ2 (Qe2 bs0.length x acc).1 r∧(∃ t,(Qe2 bs0.length x acc).2=acc++t∧∀ b∈t,b.rw=false∧b.flat=true)
 | .fz s n row,acc,δ1,r,hx,hle,hz,hr,ht=>by
   simp only [Qe2]
   simp only [Qah] at hx
   have hlen:(bs0++acc).length=bs0.length + acc.length:=by simp
   rcases hx with ⟨rfl,a,rfl⟩ | ⟨q,c,h1,rfl,rfl,h4,h5,rfl⟩
   · obtain ⟨a1,a2,a3⟩:=Zak (b:=Q23 s 0 row) (p:=⟨0,s,0,0,true,false⟩) hr ht rfl rfl ⟨rfl,rfl,fun _=>⟨rfl,rfl⟩,fun hh=>(by cases hh),fun hh=>(by cases hh)⟩ (fun k c hh=>(by cases hh))
     rw [List.append_assoc] at a2 a3
     refine ⟨_,a1,hz,a2,a3,?_,_,rfl,by simp [Q23]⟩
     simp only [Qah]
     exact ⟨⟨0,s,0,0,true,false⟩,if_pos hlen.symm,rfl,Nat.le_refl _,.inr ⟨trivial,.inl trivial,_,rfl⟩⟩
   · have hq:δ1.fz q:=by rw [hz]; exact h1
     obtain ⟨⟨cc,e,z,c1,c2,c3⟩,f2⟩:=hr.fz q hq
     obtain ⟨a1,a2,a3⟩:=Zak (b:=Q23 q.s q.n row) (p:=⟨q.r,q.s,q.o,q.n,false,true⟩) hr ht rfl rfl ⟨rfl,rfl,fun hh=>(by cases hh),fun _=>Qbt rfl ⟨cc,e,z,c1,fun hh=>(by cases hh),fun _ i _=>Qfn _,fun hh=>absurd rfl hh,by show q.o + 0*_≤_; omega,fun hh=>(by cases hh),fun i hi=>by
         obtain ⟨g1,g2⟩:=c3 i hi
         have hi':i<q.n:=hi
         rw [h4 i hi'] at g1 g2
         refine ⟨by show ((row i).map SV.v).length=q.s; simpa using g1,fun j x hx=>?_⟩
         have hx:((row i).map SV.v)[j]?=some x:=hx
         rw [List.getElem?_map] at hx
         cases hj:(row i)[j]? with
         | none=>rw [hj] at hx; cases hx
         | some v =>
           rw [hj] at hx
           simp only [Option.map_some,Option.some.injEq] at hx
           subst hx
           exact ⟨v,g2 j v hj,by simp only [Qah]⟩⟩,fun _=>rfl⟩ (fun k c' _ hk hc hl=>f2 k c' hk hc hl)
     rw [List.append_assoc] at a2 a3
     refine ⟨_,a1,hz,a2,a3,?_,_,rfl,by simp [Q23]⟩
     simp only [Qah]
     exact ⟨⟨q.r,q.s,q.o,q.n,false,true⟩,if_pos hlen.symm,rfl,by simp,.inl ⟨rfl,c,.inr ⟨rfl,h5⟩,by simp⟩⟩
 | .agg cs,acc,δ1,r,hx,hle,hz,hr,ht=>by
   simp only [Qah] at hx
   obtain ⟨xs,rfl,h2⟩:=hx
   obtain ⟨δ2,a1,a2,a3,a4,a5,a6⟩:=Qub bs0 cs acc δ1 xs h2 hle hz hr ht
   simp only [Qe2]
   exact ⟨δ2,a1,a2,a3,a4,by simp only [Qah]; exact ⟨xs,rfl,a5⟩,a6⟩
 | .unk,acc,δ1,r,hx,hle,hz,hr,ht=>⟨δ1,Dict.le_refl _,hz,by simpa only [Qe2] using hr,by simpa only [Qe2] using ht,by simp only [Qe2,Qah],[],by simp [Qe2],by simp⟩
 | .v x,acc,δ1,r,hx,hle,hz,hr,ht=>⟨δ1,Dict.le_refl _,hz,by simpa only [Qe2] using hr,by simpa only [Qe2] using ht,by simpa only [Qe2] using Qb4 hle _ _ hx,[],by simp [Qe2],by simp⟩
 | .vp k j,acc,δ1,r,hx,hle,hz,hr,ht=>⟨δ1,Dict.le_refl _,hz,by simpa only [Qe2] using hr,by simpa only [Qe2] using ht,by simpa only [Qe2] using Qb4 hle _ _ hx,[],by simp [Qe2],by simp⟩
 | .ptr k i j,acc,δ1,r,hx,hle,hz,hr,ht=>⟨δ1,Dict.le_refl _,hz,by simpa only [Qe2] using hr,by simpa only [Qe2] using ht,by simpa only [Qe2] using Qb4 hle _ _ hx,[],by simp [Qe2],by simp⟩
 | .sl k s i l c,acc,δ1,r,hx,hle,hz,hr,ht=>⟨δ1,Dict.le_refl _,hz,by simpa only [Qe2] using hr,by simpa only [Qe2] using ht,by simpa only [Qe2] using Qb4 hle _ _ hx,[],by simp [Qe2],by simp⟩
 | .ap k m l,acc,δ1,r,hx,hle,hz,hr,ht=>⟨δ1,Dict.le_refl _,hz,by simpa only [Qe2] using hr,by simpa only [Qe2] using ht,by simpa only [Qe2] using Qb4 hle _ _ hx,[],by simp [Qe2],by simp⟩
 | .fn f cs,acc,δ1,r,hx,hle,hz,hr,ht=>⟨δ1,Dict.le_refl _,hz,by simpa only [Qe2] using hr,by simpa only [Qe2] using ht,by simpa only [Qe2] using Qb4 hle _ _ hx,[],by simp [Qe2],by simp⟩
 | .tup cs,acc,δ1,r,hx,hle,hz,hr,ht=>⟨δ1,Dict.le_refl _,hz,by simpa only [Qe2] using hr,by simpa only [Qe2] using ht,by simpa only [Qe2] using Qb4 hle _ _ hx,[],by simp [Qe2],by simp⟩
 | .ifc t x,acc,δ1,r,hx,hle,hz,hr,ht=>⟨δ1,Dict.le_refl _,hz,by simpa only [Qe2] using hr,by simpa only [Qe2] using ht,by simpa only [Qe2] using Qb4 hle _ _ hx,[],by simp [Qe2],by simp⟩
 | .mp k,acc,δ1,r,hx,hle,hz,hr,ht=>⟨δ1,Dict.le_refl _,hz,by simpa only [Qe2] using hr,by simpa only [Qe2] using ht,by simpa only [Qe2] using Qb4 hle _ _ hx,[],by simp [Qe2],by simp⟩
theorem Qub (bs0:List Blk):∀ (xs:List SV) (acc:List Blk) (δ1:Dict) (rs:List Value),Qaw δ xs rs→δ.le δ1→δ1.fz=δ.fz→HRep δ1 (Qaf (bs0++acc)) w→(∀ k,Qaf (bs0++acc) k=none→δ1 k=none) →
   ∃ δ2,δ1.le δ2∧δ2.fz=δ.fz∧HRep δ2 (Qaf (bs0++(Qq6 bs0.length xs acc).2)) w∧(∀ k,Qaf (bs0++(Qq6 bs0.length xs acc).2) k=none→δ2 k=none)∧Qaw δ2 (Qq6 bs0.length xs acc).1 rs∧(∃ t,(Qq6 bs0.length xs acc).2=acc++t∧∀ b∈t,b.rw=false∧b.flat=true)
 | [],acc,δ1,rs,hx,hle,hz,hr,ht=>⟨δ1,Dict.le_refl _,hz,by simpa only [Qq6] using hr,by simpa only [Qq6] using ht,by cases rs <;> simp only [Qq6,Qaw] at *,[],by simp [Qq6],by simp⟩
 | x :: xs,acc,δ1,rs,hx,hle,hz,hr,ht=>by
   cases rs with
   | nil=>simp only [Qaw] at hx
   | cons r rs =>
     simp only [Qaw] at hx
     obtain ⟨δ2,a1,a2,a3,a4,a5,t1,a6,a7⟩:=Zd0 bs0 x acc δ1 r hx.1 hle hz hr ht
     obtain ⟨δ3,b1,b2,b3,b4,b5,t2,b6,b7⟩:=Qub bs0 xs _ δ2 rs hx.2 (Dict.le_trans hle a1) a2 a3 a4
     simp only [Qq6]
     refine ⟨δ3,Dict.le_trans a1 b1,b2,b3,b4,by simp only [Qaw]; exact ⟨Qb4 b1 _ _ a5,b5⟩,t1++t2,by rw [b6,a6,List.append_assoc],fun b hb=>?_⟩
     rcases List.mem_append.1 hb with hb | hb
     · exact a7 b hb
     · exact b7 b hb
end
mutual
theorem Qp0 {δ' δ'':Dict} {N:Nat} (hz:∀ q,δ'.fz q→δ''.fz q) (hn:∀ k p,okN N k=true→δ' k=some p→δ'' k=some p):∀ (x:SV) (r:Value),okS N x=true→Qah δ' x r→Qah δ'' x r
 | .unk,_,_,_=>by simp only [Qah]
 | .v x,r,_,hr=>by simp only [Qah] at *; exact hr
 | .vp k j,r,h,hr=>by
   simp only [Qah,okS] at *
   obtain ⟨p,h1,h2⟩:=hr
   exact ⟨p,hn _ _ h h1,h2⟩
 | .ptr k i j,r,h,hr=>by
   simp only [Qah,okS] at *
   obtain ⟨p,h1,h2⟩:=hr
   exact ⟨p,hn _ _ h h1,h2⟩
 | .sl k s i l c,r,h,hr=>by
   simp only [Qah,okS] at *
   obtain ⟨p,h1,h2⟩:=hr
   exact ⟨p,hn _ _ h h1,h2⟩
 | .ap k m l,r,h,hr=>by
   simp only [Qah,okS] at *
   obtain ⟨p,h1,h2⟩:=hr
   exact ⟨p,hn _ _ h h1,h2⟩
 | .mp k,r,h,hr=>by
   simp only [Qah,okS] at *
   obtain ⟨p,h1,h2⟩:=hr
   exact ⟨p,hn _ _ h h1,h2⟩
 | .fz s n row,r,_,hr=>by
   simp only [Qah] at *
   rcases hr with h1 | ⟨q,c,h1,h2⟩
   · exact .inl h1
   · exact .inr ⟨q,c,hz q h1,h2⟩
 | .fn f cs,r,h,hr=>by
   simp only [Qah,okS] at *
   obtain ⟨xs,h1,h2⟩:=hr
   exact ⟨xs,h1,Qp1 hz hn cs xs h h2⟩
 | .ifc t x,r,h,hr=>by
   simp only [Qah,okS] at *
   obtain ⟨y,h1,h2⟩:=hr
   exact ⟨y,h1,Qp0 hz hn x y h h2⟩
 | .agg cs,r,h,hr=>by
   simp only [Qah,okS] at *
   obtain ⟨xs,h1,h2⟩:=hr
   exact ⟨xs,h1,Qp1 hz hn cs xs h h2⟩
 | .tup cs,r,h,hr=>by
   simp only [Qah,okS] at *
   obtain ⟨xs,h1,h2⟩:=hr
   exact ⟨xs,h1,Qp1 hz hn cs xs h h2⟩
theorem Qp1 {δ' δ'':Dict} {N:Nat} (hz:∀ q,δ'.fz q→δ''.fz q) (hn:∀ k p,okN N k=true→δ' k=some p→δ'' k=some p):∀ (xs:List SV) (rs:List Value),okL N xs=true→Qaw δ' xs rs→Qaw δ'' xs rs
 | [],rs,_,hr=>by cases rs <;> simp only [Qaw] at *
 | x :: xs,rs,h,hr=>by
   cases rs with
   | nil=>simp only [Qaw] at hr
   | cons r rs =>
     simp only [Qaw,okL,Bool.and_eq_true] at *
     exact ⟨Qp0 hz hn x r h.1 hr.1,Qp1 hz hn xs rs h.2 hr.2⟩
end
mutual
theorem Qqh {δ' δ'':Dict} {N:Nat} {b:Blk} {p:Loc} (hp:δ' 1000=some p) (hps:p.s=b.size) (hN:N≤1000) (hz:∀ q,δ'.fz q→δ''.fz q) (hn:∀ k p,k<N→δ' k=some p→δ'' k=some p)
   (hq:p.no=false→∀ l,l≤b.n→δ''.fz ⟨p.r,p.s,p.o,l,fun y=>(b.row y).map Q58⟩):∀ (x:SV) (r:Value),okF N b.n b.size x→Qah δ' x r→Qah δ'' (Qtb b x) r
 | .unk,_,_,_=>by simp only [Qtb,Qah]
 | .v x,r,_,hr=>by simp only [Qtb,Qah] at *; exact hr
 | .vp k j,r,h,hr=>by
   simp only [Qtb,Qah,okF] at *
   obtain ⟨p,h1,h2⟩:=hr
   exact ⟨p,hn _ _ h h1,h2⟩
 | .ptr k i j,r,h,hr=>by
   simp only [Qtb,Qah,okF] at *
   obtain ⟨p,h1,h2⟩:=hr
   exact ⟨p,hn _ _ h h1,h2⟩
 | .ap k m l,r,h,hr=>by
   simp only [Qtb,Qah,okF] at *
   obtain ⟨p,h1,h2⟩:=hr
   exact ⟨p,hn _ _ h h1,h2⟩
 | .mp k,r,h,hr=>by
   simp only [Qtb,Qah,okF] at *
   obtain ⟨p,h1,h2⟩:=hr
   exact ⟨p,hn _ _ h h1,h2⟩
 | .fz s n row,r,_,hr=>by
   simp only [Qtb,Qah] at *
   rcases hr with h1 | ⟨q,c,h1,h2⟩
   · exact .inl h1
   · exact .inr ⟨q,c,hz q h1,h2⟩
 | .fn f cs,r,h,hr=>by
   simp only [Qtb,Qah,okF] at *
   obtain ⟨xs,h1,h2⟩:=hr
   exact ⟨xs,h1,Qcv hz cs xs h h2⟩
 | .sl k s i l c,r,h,hr=>by
   simp only [Qah,okF] at h hr
   obtain ⟨p',h1,h2,h3,h4⟩:=hr
   simp only [Qtb]
   rcases h with ⟨rfl,rfl,rfl,g1,g2⟩ | g
   · rw [hp] at h1; cases h1
     simp only [Nat.beq_refl,Bool.and_self,cond_true,Qah]
     rcases h4 with ⟨n1,c',n2,rfl⟩ | ⟨n1,n2,a,rfl⟩
     · refine .inr ⟨⟨p.r,p.s,p.o,l,fun y=>(b.row y).map Q58⟩,c',hq n1 l g1,h2,rfl,fun i _=>rfl,?_,by simp⟩
       rcases n2 with rfl | n2
       · exact g2
       · exact n2.2
     · exact .inl ⟨n1,a,by subst n1; rfl⟩
   · have:Nat.beq k 1000=false:=Qbc (by omega)
     rw [this]
     simp only [Bool.false_and,cond_false,Qah]
     exact ⟨p',hn _ _ g h1,h2,h3,h4⟩
 | .ifc t x,r,h,hr=>by
   simp only [Qtb,Qah,okF] at *
   obtain ⟨y,h1,h2⟩:=hr
   exact ⟨y,h1,Qqh hp hps hN hz hn hq x y h h2⟩
 | .agg cs,r,h,hr=>by
   simp only [Qtb,Qah,okF] at *
   obtain ⟨xs,h1,h2⟩:=hr
   exact ⟨xs,h1,Qqi hp hps hN hz hn hq cs xs h h2⟩
 | .tup cs,r,h,hr=>by
   simp only [Qtb,Qah,okF] at *
   obtain ⟨xs,h1,h2⟩:=hr
   exact ⟨xs,h1,Qqi hp hps hN hz hn hq cs xs h h2⟩
theorem Qqi {δ' δ'':Dict} {N:Nat} {b:Blk} {p:Loc} (hp:δ' 1000=some p) (hps:p.s=b.size) (hN:N≤1000) (hz:∀ q,δ'.fz q→δ''.fz q) (hn:∀ k p,k<N→δ' k=some p→δ'' k=some p)
   (hq:p.no=false→∀ l,l≤b.n→δ''.fz ⟨p.r,p.s,p.o,l,fun y=>(b.row y).map Q58⟩):∀ (xs:List SV) (rs:List Value),Zfw N b.n b.size xs→Qaw δ' xs rs→Qaw δ'' (Zfz b xs) rs
 | [],rs,_,hr=>by cases rs <;> simp only [Zfz,Qaw] at *
 | x :: xs,rs,h,hr=>by
   cases rs with
   | nil=>simp only [Qaw] at hr
   | cons r rs =>
     simp only [Zfz,Qaw,Zfw] at *
     exact ⟨Qqh hp hps hN hz hn hq x r h.1 hr.1,Qqi hp hps hN hz hn hq xs rs h.2 hr.2⟩
end
theorem Zec {δ' δ'':Dict} {N:Nat} (hz:∀ q,δ'.fz q→δ''.fz q) (hn:∀ k p,okN N k=true→δ' k=some p→δ'' k=some p) {b:Blk} {w:World} {p:Loc} (hb:b.flat=true∨∀ i,i<b.n→okL N (b.row i)=true) (hl:Live δ' b w p):Live δ'' b w p:=by
 refine ⟨hl.s,hl.n,hl.no,fun hno=>?_,hl.loose⟩
 have h:=hl.rep hno
 unfold Qcm at h ⊢
 split at h
 · exact h
 · obtain ⟨c,e,fz,c1,c2,c3,c4,c5,c6,c7⟩:=h
   refine ⟨c,e,fz,c1,c2,c3,c4,c5,c6,fun i hi=>⟨(c7 i hi).1,fun j x hx=>?_⟩⟩
   obtain ⟨r,g1,g2⟩:=(c7 i hi).2 j x hx
   refine ⟨r,g1,?_⟩
   rcases hb with hb | hb
   · exact Qda hz _ _ (Qd5 (c3 hb i hi) x (List.mem_of_getElem? hx)) g2
   · have key:∀ (l:List SV),okL N l=true→∀ x∈l,okS N x=true:=by
       intro l
       induction l with
       | nil=>intro _ x hx; cases hx
       | cons a l ih =>
         intro h x hx
         simp only [okL,Bool.and_eq_true] at h
         rcases List.mem_cons.1 hx with rfl | hx
         · exact h.1
         · exact ih h.2 x hx
     exact Qp0 hz hn _ _ (key _ (hb i hi) x (List.mem_of_getElem? hx)) g2
theorem Qur {P:Program} {f:FuncId} {spec0 specF:List SV→List Blk→Option Eff} (hs:Qbv P f spec0)
   (H:∀ args bs e,specF args bs=some e→e.asks→bs.length + (Qq6 bs.length args []).2.length≤1000∧∃ e0,spec0 (Qq6 bs.length args []).1 (bs++(Qq6 bs.length args []).2)=some e0∧e0.asks ∧
     ∀ x0 u0,Qce e0 x0 u0→∃ x u,Qce e x u∧Frz bs.length x0 u0 x u):Qbv P f specF:=by
 intro args bs e he hp δ w vals ha hr ht hlen
 obtain ⟨hlen2,e0,s1,s2,s3⟩:=H args bs e he hp
 obtain ⟨δ1,a1,a2,a3,a4,a5,t,a6,a7⟩:=Qub bs args [] δ vals ha (Dict.le_refl _) rfl (by simpa using hr) (by simpa using ht)
 generalize hl:(Qq6 bs.length args []).1=l at *
 generalize hacc:(Qq6 bs.length args []).2=acc at *
 rw [List.nil_append] at a6
 subst a6
 have hN:bs.length≤1000:=by omega
 -- an opened block may not be written
 have hin:∀ k b,Qaf bs k=some b→Qaf (bs++acc) k=some b:=fun k b hk=>by
   unfold Qaf at *
   rw [List.getElem?_append_left (List.getElem?_eq_some_iff.1 hk).1]; exact hk
 have hout:∀ k b,Qaf (bs++acc) k=some b→(k<bs.length∧Qaf bs k=some b)∨(bs.length≤k∧k<bs.length + acc.length∧b.rw=false):=fun k b hk=>by
   unfold Qaf at *
   by_cases h:k<bs.length
   · rw [List.getElem?_append_left h] at hk; exact .inl ⟨h,hk⟩
   · rw [List.getElem?_append_right (by omega)] at hk
     have h2:=(List.getElem?_eq_some_iff.1 hk).1
     exact .inr ⟨by omega,by omega,(a7 b (List.mem_of_getElem? hk)).1⟩
 have hdom:∀ k p,δ k=some p→k<bs.length:=fun k p hk=>by
   rcases Nat.lt_or_ge k bs.length with h | h
   · exact h
   · rw [ht k (by unfold Qaf; rw [List.getElem?_eq_none h])] at hk; cases hk
 have hdom1:∀ k p,δ1 k=some p→k<bs.length + acc.length:=fun k p hk=>by
   rcases Nat.lt_or_ge k (bs.length + acc.length) with h | h
   · exact h
   · rw [a4 k (by unfold Qaf; rw [List.getElem?_eq_none (by simpa using h)])] at hk; cases hk
 have hback:∀ k p,k<bs.length→δ1 k=some p→δ k=some p:=fun k p h hk=>by
   obtain ⟨q,d1,_⟩:=hr.blk k bs[k] (by unfold Qaf; exact List.getElem?_eq_getElem h)
   have:=a1 _ _ d1
   rw [hk] at this; cases this; exact d1
 have rwBack:∀ r,Qfl δ1 (Qaf (bs++acc)) r→Qfl δ (Qaf bs) r:=fun r ⟨k,b,h1,h2,b',p,g1,g2,g3,g4,g5⟩=>by
   have e1:b'=b:=by
     have h:some b'=some b:=g1.symm.trans h1
     cases h; rfl
   subst e1
   rcases hout k b' h1 with ⟨c1,c2⟩ | ⟨_,_,c3⟩
   · exact ⟨k,b',c2,h2,b',p,c2,g2,hback k p c1 g3,g4,g5⟩
   · rw [c3] at h2; cases h2
 refine (hs l (bs++acc) e0 s1 s2 δ1 w vals a5 a3 a4 (by simpa using hlen2)).mono fun ed w' ⟨r,x0,u0,δ',h1,h2,h3,h4,h5⟩=>?_
 obtain ⟨x,u,h6,h7⟩:=s3 x0 u0 h2
 unfold Qg0 at h3
 rw [Bool.and_eq_true] at h3
 rcases h7 with ⟨rfl,rfl,k1,k2⟩ | ⟨b,rfl,rfl,k1,k2,k3,rfl,k4⟩
 · -- as it is
   have unames:∀ k b,(k,b)∈u→(k<bs.length∧∃ c,bs[k]?=some c∧c.rw=true∧c.dead=false)∨(bs.length≤k∧1000≤k∧k<1008∧b.rw=true∧b.dead=false):=fun k b hk=>by
     rcases Qd3 h3.1 k b hk with ⟨c,e1,e2,e3⟩ | ⟨e1,e2,e3,e4,e5⟩
     · rcases hout k c e1 with ⟨f1,f2⟩ | ⟨_,_,f3⟩
       · exact .inl ⟨f1,c,f2,e2,e3⟩
       · rw [f3] at e2; cases e2
     · exact .inr ⟨by omega,e2,e3,e4,e5⟩
   have hno:∀ k,Qac k u=true→okN bs.length k=true:=fun k hk=>by
     obtain ⟨b,hb⟩:=Qdr hk
     unfold okN
     rw [Bool.or_eq_true]
     rcases unames k b hb with ⟨g,_⟩ | ⟨_,g,_⟩
     · exact .inl (Nat.ble_eq_true_of_le g)
     · exact .inr (Nat.ble_eq_true_of_le g)
   let δ'':Dict:=⟨fun k=>if bs.length≤k∧k<bs.length + acc.length then none else δ' k,δ'.fz⟩
   have dok:∀ k p,okN bs.length k=true→δ' k=some p→δ'' k=some p:=fun k p hk hp=>by
     unfold okN at hk
     rw [Bool.or_eq_true] at hk
     have:¬ (bs.length≤k∧k<bs.length + acc.length):=by
       rcases hk with hk | hk
       · have:k<bs.length:=Nat.le_of_ble_eq_true hk
         omega
       · have:1000≤k:=Nat.le_of_ble_eq_true hk
         omega
     simp only [δ'',if_neg this,hp]
   have dback:∀ k p,δ'' k=some p→δ' k=some p∧¬ (bs.length≤k∧k<bs.length + acc.length):=fun k p hp=>by
     by_cases h:bs.length≤k∧k<bs.length + acc.length
     · simp only [δ'',if_pos h] at hp; cases hp
     · simp only [δ'',if_neg h] at hp; exact ⟨hp,h⟩
   have hle:δ.le δ'':=⟨fun k p hk=>by
     have h:=hdom k p hk
     have h':=h5.le _ _ (a1 _ _ hk)
     simp only [δ'']
     rw [if_neg (by omega)]; exact h',fun q hq=>h5.le.fz q (a1.fz q hq)⟩
   have hsame:∀ k b,Qb3 (Qaf bs) u k=some b→Qb3 (Qaf (bs++acc)) u k=some b:=fun k b hk=>by
     cases hi:Qac k u with
     | true=>rw [Qf8 u _ (Qaf bs) hi]; exact hk
     | false=>rw [Qat u _ hi] at hk ⊢; exact hin k b hk
   have hlies:∀ k r,Qc9 δ'' (Qb3 (Qaf bs) u) k r→Qc9 δ' (Qb3 (Qaf (bs++acc)) u) k r:=fun k r ⟨b,p,g1,g2,g3,g4⟩=>⟨b,p,hsame k b g1,g2,(dback k p g3).1,g4⟩
   have hd1:∀ k,δ k=none→(∃ p,δ'' k=some p)→δ1 k=none:=fun k hk ⟨p,hp⟩=>by
     cases h:δ1 k with
     | none=>rfl
     | some q =>
       have g1:=hdom1 k q h
       have g2:=(dback k p hp).2
       rw [hback k q (by omega) h] at hk; cases hk
   refine ⟨r,x,u,δ'',h1,h6,?_,Qp0 (δ':=δ') (δ'':=δ'') (fun _ hq=>hq) dok x r k1 h4,hle,⟨fun k b hk=>?_,fun k k' r' b l1 l2 hk hb=>h5.rep.inj k k' r' b (hlies k r' l1) (hlies k' r' l2) (hsame k b hk) hb,fun q hq=>⟨(h5.rep.fz q hq).1,fun k b hk hb hl=>(h5.rep.fz q hq).2 k b (hsame k b hk) hb (hlies k q.r hl)⟩⟩,
     fun k g1 g2=>?_,fun k p g1 g2 g3=>(h5.place k p (hd1 k g1 ⟨p,g2⟩) (dback k p g2).1 g3).imp id (rwBack _),h5.wrel.mono fun r _=>rwBack r,fun q hq=>(h5.fzp q hq).imp (fun g=>by rw [a2] at g; exact g) fun g=>g.imp id (rwBack _)⟩
   · unfold Qg0
     rw [Bool.and_eq_true]
     constructor
     · have:∀ (v:List (Nat×Blk)),(∀ k b,(k,b)∈v→(k,b)∈u)→Qc8 bs v=true:=by
         intro v
         induction v with
         | nil=>intro _; rfl
         | cons q v ih =>
           obtain ⟨k,b⟩:=q
           intro hv
           simp only [Qc8,Bool.and_eq_true]
           refine ⟨?_,ih fun k b hk=>hv k b (List.mem_cons_of_mem _ hk)⟩
           rcases unames k b (hv k b List.mem_cons_self) with ⟨_,c,e1,e2,e3⟩ | ⟨e1,e2,e3,e4,e5⟩
           · rw [e1]; simp [e2,e3]
           · rw [List.getElem?_eq_none e1]
             simp only [e4,e5,Bool.not_false,Bool.and_true,Bool.and_eq_true]
             exact ⟨Nat.ble_eq_true_of_le e2,Nat.ble_eq_true_of_le e3⟩
       exact this u fun _ _ h=>h
     · have:∀ (as:List Blk) (t:List Blk) (j:Nat),Qd7 u (as++t) j=true→Qd7 u as j=true:=by
         intro as
         induction as with
         | nil=>intro t j _; rfl
         | cons a as ih =>
           intro t j h
           simp only [List.cons_append,Qd7,Bool.and_eq_true] at h ⊢
           exact ⟨h.1,ih t (j + 1) h.2⟩
       exact this bs acc 0 h3.2
   · cases hi:Qac k u with
     | true =>
       obtain ⟨b',e1,e2⟩:=Qe6 u (Qaf bs) hi
       rw [hk] at e2; cases e2
       obtain ⟨p,d1,d2⟩:=h5.rep.blk k b (hsame k b hk)
       exact ⟨p,dok k p (hno k hi) d1,fun hd=>Zec (δ':=δ') (δ'':=δ'') (fun _ hq=>hq) dok (k2 k b e1 hd) (d2 hd)⟩
     | false =>
       rw [Qat u _ hi] at hk
       obtain ⟨p,d1,d2⟩:=hr.blk k b hk
       refine ⟨p,hle _ _ d1,fun hd=>(d2 hd).mono hle fun hn=>h5.wrel.block p.r (Qcw ((d2 hd).rep hn)) ?_⟩
       intro hx
       obtain ⟨k0,b0,e1,e2,e3⟩:=rwBack _ hx
       have:=hr.inj k0 k p.r b0 e3 ⟨b,p,hk,hd,d1,hn,rfl⟩ e1 e2
       subst this
       rw [hk] at e1; cases e1
       have:=Qfh h3.2 k0 b (hin k0 b hk) e2 hd
       rw [Nat.zero_add,hi] at this; cases this
   · cases h:δ'' k with
     | none=>exact absurd h g2
     | some p=>exact h5.fresh k (hd1 k g1 ⟨p,h⟩) (by rw [(dback k p h).1]; simp)
 · -- a row that is unwritten from now on
   have noRw:∀ k c,Qaf bs k=some c→c.rw=true→c.dead=false→False:=fun k c hk hc hd=>by
     have:=Qfh h3.2 k c (hin k c hk) hc hd
     simp only [Nat.zero_add,Qac,Bool.or_false] at this
     have h:=Nat.eq_of_beq_eq_true this
     have:=(List.getElem?_eq_some_iff.1 (show bs[k]?=some c from hk)).1
     omega
   have noRwOf:∀ r,¬ Qfl δ (Qaf bs) r:=fun r ⟨k,c,g1,g2,c',p,g3,g4,_⟩=>by
     have h:some c'=some c:=g3.symm.trans g1
     cases h
     exact noRw k _ g1 g2 g4
   obtain ⟨p,d1,d2⟩:=h5.rep.blk 1000 b (by simp [Qb3,Qew])
   have hlv:=d2 k1
   have hd0:δ1 1000=none:=by
     cases h:δ1 1000 with
     | none=>rfl
     | some q=>have:=hdom1 _ q h; omega
   let δ'':Dict:=⟨fun k=>if bs.length≤k then none else δ' k,fun q=>δ'.fz q∨(p.no=false∧∃ l,l≤b.n∧q=⟨p.r,p.s,p.o,l,fun y=>(b.row y).map Q58⟩)⟩
   have dok:∀ k q,k<bs.length→δ' k=some q→δ'' k=some q:=fun k q hk hq=>by
     simp only [δ'',if_neg (show ¬ bs.length≤k by omega),hq]
   have hle:δ.le δ'':=⟨fun k q hk=>dok k q (hdom k q hk) (h5.le _ _ (a1 _ _ hk)),fun q hq=>Or.inl (h5.le.fz q (a1.fz q hq))⟩
   have vac:∀ k,δ k=none→δ'' k=none:=fun k hk=>by
     by_cases h:bs.length≤k
     · simp only [δ'',if_pos h]
     · exfalso
       obtain ⟨q,e1,_⟩:=hr.blk k bs[k] (by unfold Qaf; exact List.getElem?_eq_getElem (by omega))
       rw [hk] at e1; cases e1
   have newAt:p.no=false→∀ l,l≤b.n→(⟨p.r,p.s,p.o,l,fun y=>(b.row y).map Q58⟩:Fz).at w':=fun hn l hl=>by
     obtain ⟨c,e,z,c1,_,_,_,c5,_,c7⟩:=Qap k2 (hlv.rep hn)
     have hs:=hlv.s
     have rows:∀ i,i<l→((b.row i).map Q58).length=p.s∧∀ j x,((b.row i).map Q58)[j]?=some x→c[p.o + i*p.s + j]?=some x:=fun i hi=>by
       obtain ⟨g1,g2⟩:=c7 i (by omega)
       refine ⟨by rw [List.length_map,g1,hs],fun j x hx=>?_⟩
       rw [List.getElem?_map] at hx
       cases hj:(b.row i)[j]? with
       | none=>rw [hj] at hx; cases hx
       | some y =>
         rw [hj] at hx
         simp only [Option.map_some,Option.some.injEq] at hx
         obtain ⟨v,rfl⟩:=k3 i (by omega) y (List.mem_of_getElem? hj)
         obtain ⟨r',f1,f2⟩:=g2 j _ hj
         simp only [Qah] at f2
         rw [hs,f1,f2,← hx]
         rfl
     refine ⟨c,e,z,c1,?_,rows⟩
     show p.o + l*p.s≤c.size
     rcases Nat.eq_zero_or_pos l with h0 | h0
     · subst h0; rw [Nat.zero_mul]; omega
     · rcases Nat.eq_zero_or_pos p.s with h0' | h0'
       · rw [h0',Nat.mul_zero]; omega
       · obtain ⟨g1,g2⟩:=rows (l - 1) (by omega)
         have hj:p.s - 1<((b.row (l - 1)).map Q58).length:=by omega
         have:=(Array.getElem?_eq_some_iff.1 (g2 (p.s - 1) _ (List.getElem?_eq_getElem hj))).1
         have e:l*p.s=(l - 1)*p.s + p.s:=by rw [show l=(l - 1) + 1 by omega,Nat.add_mul]; simp
         omega
   have still:∀ r,r<w.heap.size→w'.heap[r]?=w.heap[r]?:=fun r hr'=>h5.wrel.block r hr' fun hx=>noRwOf r (rwBack r hx)
   refine ⟨r,_,[],δ'',h1,h6,?_,Qqh (δ':=δ') (δ'':=δ'') (N:=bs.length) d1 hlv.s hN (fun _ hq=>Or.inl hq) dok (fun hn l hl=>Or.inr ⟨hn,l,hl,rfl⟩) x0 r k4 h4,hle,⟨fun k c hk=>?_,fun k k' r' c l1 l2 hk hc=>?_,fun q hq=>⟨?_,fun k c hk hc hl=>?_⟩⟩,fun k g1 g2=>absurd (vac k g1) g2,fun k q g1 g2 _=>(by rw [vac k g1] at g2; cases g2),h5.wrel.mono fun r _=>rwBack r,fun q hq=>?_⟩
   · unfold Qg0
     rw [Bool.and_eq_true]
     refine ⟨rfl,?_⟩
     have:∀ (as:List Blk) (j:Nat),(∀ a∈as,a.rw=true→a.dead=false→False)→Qd7 [] as j=true:=by
       intro as
       induction as with
       | nil=>intro j _; rfl
       | cons a as ih =>
         intro j h
         simp only [Qd7,Bool.and_eq_true]
         refine ⟨?_,ih (j + 1) fun a' ha'=>h a' (List.mem_cons_of_mem _ ha')⟩
         cases e1:a.rw with
         | false=>rfl
         | true =>
           cases e2:a.dead with
           | true=>rfl
           | false=>exact (h a List.mem_cons_self e1 e2).elim
     exact this bs 0 fun a ha' e1 e2=>by
       obtain ⟨k,hk⟩:=List.mem_iff_getElem?.1 ha'
       exact noRw k a hk e1 e2
   · rw [Qjd] at hk
     obtain ⟨q,e1,e2⟩:=hr.blk k c hk
     exact ⟨q,hle _ _ e1,fun hd=>(e2 hd).mono hle fun hn=>still q.r (Qcw ((e2 hd).rep hn))⟩
   · rw [Qjd] at hk
     obtain ⟨c',p',g3,g4,_⟩:=l1
     rw [Qjd] at g3
     have h:some c'=some c:=g3.symm.trans hk
     cases h
     exact (noRw k _ hk hc g4).elim
   · rcases hq with hq | ⟨hn,l,hl,rfl⟩
     · exact (h5.rep.fz q hq).1
     · exact newAt hn l hl
   · rw [Qjd] at hk
     obtain ⟨c',p',g3,g4,_⟩:=hl
     rw [Qjd] at g3
     have h:some c'=some c:=g3.symm.trans hk
     cases h
     exact noRw k _ hk hc g4
   · rcases hq with hq | ⟨hn,l,hl,rfl⟩
     · exact (h5.fzp q hq).imp (fun g=>by rw [a2] at g; exact g) fun g=>g.imp id (rwBack _)
     · exact .inr ((h5.place 1000 p hd0 d1 hn).imp id (rwBack _))
end
section
variable {P:Program} {ops:Array Oper} {Q:Exit→Act→World→Prop} {ro:Option Nat} {n:Nat}
structure DetAt (m:Nat) (dst:Nat→Nat) (vals:Nat→Value) (a0:Act) (listed:Array Bool) (a:Act):Prop where
 hit:∀ i,i<m→listed.getD i false=true→a.tmps[dst i]?=some (vals i)
 miss:∀ t,(∀ i,i<m→listed.getD i false=true→dst i≠t)→a.tmps[t]?=a0.tmps[t]?
 df:a.defers=a0.defers
 size:a.tmps.size=a0.tmps.size
def Qk6 (dst:Nat→Nat) (vals:Nat→Value) (t:Array Value):Nat→Array Value
 | 0=>t
 | k + 1=>(Qk6 dst vals t k).setIfInBounds (dst k) (vals k)
theorem Qop (dst:Nat→Nat) (vals:Nat→Value) (t:Array Value):∀ k,(Qk6 dst vals t k).size=t.size
 | 0=>rfl
 | k + 1=>by simp [Qk6,Qop dst vals t k]
theorem Qsi {dst:Nat→Nat} {vals:Nat→Value} {t:Array Value} {m:Nat} (hinj:∀ i j,i<m→j<m→dst i=dst j→i=j) (hlt:∀ i,i<m→dst i<t.size):∀ k,k≤m→∀ i,i<k→(Qk6 dst vals t k)[dst i]?=some (vals i)
 | 0,_,i,hi=>absurd hi (Nat.not_lt_zero _)
 | k + 1,hk,i,hi=>by
   by_cases h:i=k
   · subst h
     have:=hlt i (by omega)
     simp [Qk6,Qop,this]
   · have hne:dst k≠dst i:=fun e=>h (hinj k i (by omega) (by omega) e).symm
     simp only [Qk6]
     rw [Array.getElem?_setIfInBounds_ne hne]
     exact Qsi hinj hlt k (by omega) i (by omega)
theorem Qoq {dst:Nat→Nat} {vals:Nat→Value} {t:Array Value} {s:Nat}:∀ k,(∀ i,i<k→dst i≠s)→(Qk6 dst vals t k)[s]?=t[s]?
 | 0,_=>rfl
 | k + 1,h=>by
   simp only [Qk6]
   rw [Array.getElem?_setIfInBounds_ne (h k (Nat.lt_succ_self k)),Qoq k fun i hi=>h i (by omega)]
theorem DetAt.full {m:Nat} {dst:Nat→Nat} {vals:Nat→Value} {a0:Act} {listed:Array Bool} {a:Act} (hinj:∀ i j,i<m→j<m→dst i=dst j→i=j) (hlt:∀ i,i<m→dst i<a0.tmps.size)
   (h:DetAt m dst vals a0 listed a) (hall:∀ i,i<m→listed.getD i false=true):a={tmps:=Qk6 dst vals a0.tmps m,defers:=a0.defers}:=by
 have e:a.tmps=Qk6 dst vals a0.tmps m:=by
   refine Array.ext_getElem? fun s=>?_
   by_cases hs:∃ i,i<m∧dst i=s
   · obtain ⟨i,hi,rfl⟩:=hs
     rw [h.hit i hi (hall i hi),Qsi hinj hlt m (Nat.le_refl _) i hi]
   · have hs':∀ i,i<m→dst i≠s:=fun i hi e=>hs ⟨i,hi,e⟩
     rw [h.miss s fun i hi _=>hs' i hi,Qoq m hs']
 cases a
 simp only at e ⊢
 rw [e]
 have:=h.df
 simp only at this
 rw [this]
theorem Qgm {listed:Array Bool} {i:Nat} (h:i<listed.size):(listed.setIfInBounds i true).getD i false=true:=by simp [Array.getD_eq_getD_getElem?,h]
def left (listed:Array Bool):Nat→Nat
 | 0=>0
 | k + 1=>left listed k + (if listed.getD k false=true then 0 else 1)
theorem Qhc {listed:Array Bool}:∀ k,left listed k=0→∀ i,i<k→listed.getD i false=true
 | 0,_,i,hi=>absurd hi (Nat.not_lt_zero _)
 | k + 1,h,i,hi=>by
   simp only [left] at h
   by_cases hl:listed.getD k false=true
   · by_cases e:i=k
     · rw [e]; exact hl
     · exact Qhc k (by omega) i (by omega)
   · rw [if_neg hl] at h; omega
theorem Qwd {listed:Array Bool} {i:Nat} (hi:listed.getD i false=false) (hs:i<listed.size):∀ k,left (listed.setIfInBounds i true) k=if i<k then left listed k - 1 else left listed k
 | 0=>rfl
 | k + 1=>by
   simp only [left,Qwd hi hs k]
   by_cases e:k=i
   · subst e
     rw [Qgm hs,hi,if_neg (Nat.lt_irrefl _),if_pos (Nat.lt_succ_self _)]
     simp
   · rw [getD_set_ne false (fun h=>e h.symm)]
     generalize (if listed.getD k false=true then 0 else 1)=c
     by_cases h:i<k
     · have hk:i<k + 1:=by omega
       rw [if_pos h,if_pos hk]
       have:0<left listed k:=by
         rcases Nat.eq_zero_or_pos (left listed k) with h0 | h0
         · have:=Qhc k h0 i h; rw [hi] at this; cases this
         · exact h0
       omega
     · have hk:¬ i<k + 1:=by omega
       rw [if_neg h,if_neg hk]
theorem Q1x {fuel i:Nat} {o:Oper} {listed:Array Bool} {a:Act} {w:World} (ho:ops[i]?=some o) (hin:i∈Region.ready .any ops listed) (hone:∀ j,j∈Region.ready .any ops listed→j=i) (hg:o.guard=none)
   (h:o.wpIn (WF ro) n P a w (wpAnyIn (WF ro) n P .any ops Q fuel (listed.setIfInBounds i true)) Q):wpAnyIn (WF ro) n P .any ops Q (fuel + 1) listed a w:=by
 refine ⟨fun hnil=>absurd (by rw [hnil] at hin; exact hin:i∈([]:List Nat)) (by simp),fun j hj=>?_⟩
 rw [hone j hj]
 unfold wpOpIn
 rw [ho]
 simp only
 rw [if_pos (by simp [Region.wanted,hg])]
 exact h
theorem Qgj {m fuel:Nat} {o:Oper} {listed:Array Bool} {a:Act} {w:World} (hs:listed.size=ops.size) (hc:Qgw ops listed) (h1:∀ i,i<m→listed.getD i false=true) (h0:∀ i,m≤i→listed.getD i false=false)
   (hback:∀ (j:Nat) o,ops[j]?=some o→∀ e∈o.after,Region.binds .any e=true→e.on<j) (ho:ops[m]?=some o) (hg:o.guard=none)
   (hlate:∀ i,m<i→∀ o,ops[i]?=some o→((Qa7 ops.toList []).getD i 0).testBit m=true)
   (h:∀ listed',listed'.size=ops.size→Qgw ops listed'→(∀ i,i<m + 1→listed'.getD i false=true)→(∀ i,m + 1≤i→listed'.getD i false=false)→o.wpIn (WF ro) n P a w (wpAnyIn (WF ro) n P .any ops Q fuel listed') Q) :
   wpAnyIn (WF ro) n P .any ops Q (fuel + 1) listed a w:=by
 have hm:m<ops.size:=(Array.getElem?_eq_some_iff.1 ho).1
 have hin:m∈Region.ready .any ops listed:=mem_ready.2 ⟨by
   have hl:m<listed.size:=by omega
   have h2:=h0 m (Nat.le_refl _)
   rw [Array.getD_eq_getD_getElem?,Array.getElem?_eq_getElem hl] at h2 ⊢
   simpa using h2,o,ho,fun e he hb=>h1 e.on (hback m o ho e he hb)⟩
 refine Q1x ho hin (fun j hj=>?_) hg (h _ (by simp [hs]) (Qkd hc hin) (fun i hi=>?_) fun i hi=>?_)
 · obtain ⟨hun,oj,hoj,hall⟩:=mem_ready.1 hj
   have hj':j<ops.size:=(Array.getElem?_eq_some_iff.1 hoj).1
   have hl:j<listed.size:=by omega
   rw [Array.getD_eq_getD_getElem?,Array.getElem?_eq_getElem hl] at hun
   rcases Nat.lt_trichotomy j m with hlt | heq | hgt
   · have h2:=h1 j hlt
     rw [Array.getD_eq_getD_getElem?,Array.getElem?_eq_getElem hl] at h2
     simp_all
   · exact heq
   · have:=Qgp (fun j o ho e he=>hback j o (by simpa using ho) e (by simpa using he)) hc j oj hoj hall (hlate j hgt oj hoj)
     rw [h0 m (Nat.le_refl _)] at this
     cases this
 · by_cases e:i=m
   · rw [e]; exact Qgm (by omega)
   · rw [getD_set_ne false (fun h=>e h.symm)]; exact h1 i (by omega)
 · rw [getD_set_ne false (by omega)]; exact h0 i (by omega)
theorem Qqo {listed:Array Bool} {a:Act} {w:World} (hs:listed.size=ops.size) (h1:∀ i,i<ops.size→listed.getD i false=true) (h:Q .normal a w):wpAnyIn (WF ro) n P .any ops Q 0 listed a w:=by
 refine ⟨List.eq_nil_iff_forall_not_mem.2 fun i hi=>?_,h⟩
 obtain ⟨hun,o,ho,_⟩:=mem_ready.1 hi
 have hj':i<ops.size:=(Array.getElem?_eq_some_iff.1 ho).1
 have hl:i<listed.size:=by omega
 have h2:=h1 i hj'
 rw [Array.getD_eq_getD_getElem?,Array.getElem?_eq_getElem hl] at hun h2
 simp_all
end
def Qse (spec:List SV→List Blk→Option Eff):Ctr :=
 {writes:=true,run:=fun args h base=>match Qtc 400 h true args ⟨[],[],false⟩ with
     | some (l,c)=>bif Qfq h c.es&&Qhi h base 8&&Nat.ble c.es.length 1000 then match spec l c.bs with
       | some e=>some (Zf0 c.es base e)
       | none=>none
       else none
     | none=>none}
section
variable {P:Program}
theorem Q2x {f : FuncId} {fn : Func} (hf : P.funcs[f]? = some fn) (hn : (fn.name == "runtime.NumGoroutine") = false) (hb : fn.body.isNone = false) {spec : List SV → List Blk → Option Eff} (hs : Qbv P f spec) : (Qse spec).ok P f := by
 intro args h base e he δ w vals ha hr hp hfr
 simp only [Qse] at he
 cases hc:Qtc 400 h true args ⟨[],[],false⟩ with
 | none=>rw [hc] at he; cases he
 | some lc =>
   obtain ⟨l,c⟩:=lc
   rw [hc] at he
   simp only at he
   cases hb1:(Qfq h c.es&&Qhi h base 8&&Nat.ble c.es.length 1000) with
   | false=>rw [hb1] at he; cases he
   | true =>
     rw [hb1,cond_true] at he
     simp only [Bool.and_eq_true] at hb1
     obtain ⟨⟨b1,b2⟩,b3⟩:=hb1
     cases hsp:spec l c.bs with
     | none=>rw [hsp] at he; cases he
     | some e0 =>
       rw [hsp] at he
       cases he
       have hrun:(callFunc f vals.toArray).run P w=.ok (.enter f vals.toArray) w:=by
         have hn' : ¬ fn.name = "runtime.NumGoroutine" := by simpa using hn
         have hb':¬ fn.body=none:=fun e=>by rw [e] at hb; cases hb
         simp [callFunc,hf,hn',hb']
       rw [hrun]
       have hempty:CanOk h δ ⟨[],[],false⟩ []:=⟨rfl,fun j e b h1 _=>by simp at h1⟩
       obtain ⟨c1,c2,_⟩:=(Qqv hr 400).2 true args ⟨[],[],false⟩ l c [] hc hempty ⟨vals,ha⟩
       have hlen:=Nat.le_of_ble_eq_true b3
       have hlen2:c.es.length=c.bs.length:=c1.ok.len
       refine (hs l c.bs e0 hsp (Qjg hp) (Qcb δ c.es) w vals (c2 vals ha) (Q3p hr c1.ok b1) (fun k hk=>?_) (by omega)).mono fun ed w' ⟨r,x,u,δ',h1,h2,h3,h4,h5⟩=>?_
       · unfold Qaf at hk
         unfold Qcb; simp only
         rw [List.getElem?_eq_none_iff] at hk
         rw [List.getElem?_eq_none (by omega)]
       · have ho:=Qlq (es:=c.es) (base:=base) h2
         obtain ⟨δ'',t1,t2⟩:=Q3b hr c1.ok b1 b2 hlen h3 h5 (fun k hk hh=>hfr _ _ ho k hk hh)
         exact ⟨r,_,_,δ'',h1,ho,Qqr t1 x r h4,t2⟩
end
end Go.SE
end
