/-
 What the proof uses, part 5.
-/
import Derived.Laws.Append
import Derived.Lib.UnsafeStr
import Derived.Test.YthkihlpeaidlnaaGreatZr4
set_option maxRecDepth 100000
set_option linter.unusedSimpArgs false
set_option linter.unusedVariables false

section
namespace Go.SE
section
variable {P:Program} {δ:Dict} {h:Qbo} {w:World}
def ValOk (δ:Dict) (h:Qbo) (w:World) (e:Eff) (r:Result Value):Prop :=
 ∃ y w' x u δ',r=.ok y w'∧Qce e x u∧Qah δ' x y∧Upd δ h w δ' u w'
theorem ValOk.same {e:Eff} {x:SV} {y:Value} {p:Option Prop} {r:Result Value} (hr:HRep δ h w) (he:e=.det p x []) (hrun:r=.ok y w) (hx:Qah δ x y):ValOk δ h w e r :=
 ⟨y,w,x,[],δ,hrun,by subst he; exact ⟨rfl,rfl⟩,hx,Upd.same hr⟩
theorem Qpp {k base:Nat} {b nb:Blk} {p p':Loc} {w':World} (hr:HRep δ h w) (hk:h k=some b) (hrw:b.rw=true) (hdead:b.dead=false) (hd:δ k=some p) (hn:h base=none) (hdb:δ base=none)
   (hos:w'.os=w.os) (htape:w'.tape=w.tape) (hout:w'.output=w.output) (hsize:w.heap.size≤w'.heap.size) (hold:∀ r,r<w.heap.size→(p.no=false→r≠p.r)→w'.heap[r]?=w.heap[r]?)
   (hp':p'.no=false→w.heap.size≤p'.r∨(p.no=false∧p'.r=p.r)) (hlive:∀ δ',δ.le δ'→Live δ' nb w' p') :
   ∃ δ',Upd δ h w δ' [(k,Qdb b),(base,nb)] w'∧δ' base=some p':=by
 refine ⟨⟨fun x=>if x=base then some p' else δ x,δ.fz⟩,?_,by simp⟩
 have hne:k≠base:=fun e=>by subst e; rw [hk] at hn; cases hn
 have hle:δ.le (⟨fun x=>if x=base then some p' else δ x,δ.fz⟩:Dict):=⟨fun x q hx=>by
   have:x≠base:=fun e=>by subst e; rw [hdb] at hx; cases hx
   simp [this,hx],fun _ hq=>hq⟩
 have hat:∀ x,Qb3 h [(k,Qdb b),(base,nb)] x=if x=base then some nb else if x=k then some (Qdb b) else h x:=fun x=>by
   simp only [Qb3,Qew]
   by_cases h1:x=base
   · subst h1; simp
   · rw [Qbc h1,cond_false,if_neg h1]
     by_cases h2:x=k
     · subst h2; simp
     · rw [Qbc h2,cond_false,if_neg h2]
 have hlk:p.no=false→Qc9 δ h k p.r:=fun hno=>⟨b,p,hk,hdead,hd,hno,rfl⟩
 have cls:∀ x r,Qc9 (⟨fun x=>if x=base then some p' else δ x,δ.fz⟩:Dict) (Qb3 h [(k,Qdb b),(base,nb)]) x r→(x=base∧p'.no=false∧r=p'.r)∨(x≠base∧x≠k∧Qc9 δ h x r):=fun x r ⟨b',q,h1,h2,h3,h4,h5⟩=>by
   rw [hat] at h1
   simp only at h3
   by_cases hx:x=base
   · rw [if_pos hx] at h3
     cases h3
     exact .inl ⟨hx,h4,h5.symm⟩
   · rw [if_neg hx] at h1 h3
     by_cases hx2:x=k
     · rw [if_pos hx2] at h1
       cases h1
       simp [Qdb] at h2
     · rw [if_neg hx2] at h1
       exact .inr ⟨hx,hx2,b',q,h1,h2,h3,h4,h5⟩
 have off:∀ x r,p'.no=false→r=p'.r→x≠k→Qc9 δ h x r→False:=fun x r hno hrr hx hl=>by
   have hlt:=Qdq hr hl
   rcases hp' hno with h1 | ⟨h1,h2⟩
   · omega
   · rw [hrr,h2] at hl
     exact hx (hr.inj k x p.r b (hlk h1) hl hk hrw).symm
 refine ⟨hle,⟨fun x b' hx=>?_,fun x y r b' h1 h2 hx hb=>?_,fun q hq=>⟨Fz.at_same (hr.fz q hq).1 (hold q.r (Fz.at_lt (hr.fz q hq).1) fun hpn e=>(hr.fz q hq).2 k b hk hrw (by rw [e]; exact hlk hpn)),fun x b' hx hb hl=>?_⟩⟩,fun x h0 h1=>?_,fun x q h0 h1 hno=>?_,⟨hos,htape,hout,hsize,fun r hlt hnr=>?_⟩,fun q hq=>.inl hq⟩
 · rw [hat] at hx
   by_cases e1:x=base
   · rw [if_pos e1] at hx
     cases hx
     exact ⟨p',by simp [e1],fun _=>hlive _ hle⟩
   · rw [if_neg e1] at hx
     by_cases e2:x=k
     · rw [if_pos e2] at hx
       cases hx
       exact ⟨p,by simp [e2,hne,hd],fun hh=>by simp [Qdb] at hh⟩
     · rw [if_neg e2] at hx
       obtain ⟨q,d1,d2⟩:=hr.blk x b' hx
       refine ⟨q,hle _ _ d1,fun hdd=>(d2 hdd).mono hle fun hno=>hold q.r (Qcw ((d2 hdd).rep hno)) fun hpn e=>?_⟩
       exact e2 (hr.inj k x p.r b (hlk hpn) ⟨b',q,hx,hdd,d1,hno,e⟩ hk hrw).symm
 · rcases cls x r h1 with ⟨a1,a2,a3⟩ | ⟨a1,a2,a3⟩ <;> rcases cls y r h2 with ⟨c1,c2,c3⟩ | ⟨c1,c2,c3⟩
   · rw [a1,c1]
   · exact (off y r a2 a3 c2 c3).elim
   · exact (off x r c2 c3 a2 a3).elim
   · rw [hat,if_neg a1,if_neg a2] at hx
     exact hr.inj x y r b' a3 c3 hx hb
 · rcases cls x q.r hl with ⟨a1,a2,a3⟩ | ⟨a1,a2,a3⟩
   · rcases hp' a2 with g1 | ⟨g1,g2⟩
     · have:=Fz.at_lt (hr.fz q hq).1; omega
     · exact (hr.fz q hq).2 k b hk hrw (by rw [a3,g2]; exact hlk g1)
   · rw [hat,if_neg a1,if_neg a2] at hx
     exact (hr.fz q hq).2 x b' hx hb a3
 · by_cases e1:x=base
   · subst e1; simp [Qac]
   · simp [e1,h0] at h1
 · by_cases e1:x=base
   · simp [e1] at h1
     subst h1
     rcases hp' hno with h1 | ⟨h1,h2⟩
     · exact .inl h1
     · exact .inr ⟨k,b,hk,hrw,by rw [h2]; exact hlk h1⟩
   · simp [e1,h0] at h1
 · exact hold r hlt fun hpn e=>hnr ⟨k,b,hk,hrw,by rw [e]; exact hlk hpn⟩
theorem Ziy {base:Nat} {nb:Blk} (hr:HRep δ h w) (hn:h base=none) (hdb:δ base=none) (h0:nb.n=0) (hx:nb.ext=0) :
   ∃ δ',Upd δ h w δ' [(base,nb)] w∧∃ q,δ' base=some q∧q.s=nb.size∧q.n=0:=by
 refine ⟨⟨fun x=>if x=base then some ⟨0,nb.size,0,0,true,false⟩ else δ x,δ.fz⟩,?_,⟨0,nb.size,0,0,true,false⟩,by simp,rfl,rfl⟩
 have hle:δ.le (⟨fun x=>if x=base then some ⟨0,nb.size,0,0,true,false⟩ else δ x,δ.fz⟩:Dict):=⟨fun x q hx=>by
   have:x≠base:=fun e=>by subst e; rw [hdb] at hx; cases hx
   simp [this,hx],fun _ hq=>hq⟩
 have cls:∀ x r,Qc9 (⟨fun x=>if x=base then some ⟨0,nb.size,0,0,true,false⟩ else δ x,δ.fz⟩:Dict) (Qb3 h [(base,nb)]) x r→x≠base∧Qc9 δ h x r:=fun x r ⟨b',q,h1,h2,h3,h4,h5⟩=>by
   simp only [Qb3,Qew] at h1
   simp only at h3
   by_cases e:x=base
   · rw [if_pos e] at h3; cases h3; cases h4
   · rw [if_neg e] at h3
     rw [Qbc e,cond_false] at h1
     exact ⟨e,b',q,h1,h2,h3,h4,h5⟩
 refine ⟨hle,⟨fun x b' hx'=>?_,fun x y r b' h1 h2 hx' hb=>?_,fun q hq=>⟨(hr.fz q hq).1,fun x b' hx' hb hl=>?_⟩⟩,fun x g0 g1=>?_,fun x q g0 g1 hno=>?_,WRel.refl _ _,fun q hq=>.inl hq⟩
 · simp only [Qb3,Qew] at hx'
   by_cases e:x=base
   · subst e
     simp at hx'
     subst hx'
     exact ⟨⟨0,nb.size,0,0,true,false⟩,by simp,fun _=>⟨rfl,h0.symm,fun _=>⟨h0,hx⟩,fun hh=>(by cases hh),fun hh=>(by cases hh)⟩⟩
   · rw [Qbc e,cond_false] at hx'
     obtain ⟨q,d1,d2⟩:=hr.blk x b' hx'
     exact ⟨q,hle _ _ d1,fun hdd=>(d2 hdd).mono hle fun _=>rfl⟩
 · obtain ⟨e1,l1⟩:=cls x r h1
   obtain ⟨_,l2⟩:=cls y r h2
   simp only [Qb3,Qew,Qbc e1,cond_false] at hx'
   exact hr.inj x y r b' l1 l2 hx' hb
 · obtain ⟨e1,l1⟩:=cls x q.r hl
   simp only [Qb3,Qew,Qbc e1,cond_false] at hx'
   exact (hr.fz q hq).2 x b' hx' hb l1
 · by_cases e:x=base
   · subst e; simp [Qac]
   · simp [e,g0] at g1
 · by_cases e:x=base
   · simp [e] at g1; subst g1; cases hno
   · simp [e,g0] at g1
theorem WRel.drew2 {own:Nat→Prop} {w':World} (h:WRel own w.drew w'):WRel own w w':=⟨h.os,h.tape,h.output,h.size,h.block⟩
theorem Upd.drew {δ':Dict} {u:List (Nat×Blk)} {w':World} (hu:Upd δ h w.drew δ' u w'):Upd δ h w δ' u w':=⟨hu.le,hu.rep,hu.fresh,hu.place,hu.wrel.drew2,hu.fzp⟩
theorem HRep.drew (hr:HRep δ h w):HRep δ h w.drew:=⟨fun k b hk=>(hr.blk k b hk).imp fun _ ⟨d1,d2⟩=>⟨d1,fun hd=>(d2 hd).mono δ.le_refl fun _=>rfl⟩,hr.inj,hr.fz⟩
def Rows (δ:Dict) (sz m:Nat) (rows:Nat→List SV) (l:List Value):Prop :=
 l.length=m*sz∧∀ y,y<m→Qf2 δ l.toArray sz 0 y (rows y)
theorem Qdw {r:Nat} {c:Array Value} {e:TypeId} {fz:Nat×Nat} (hb:w.heap[r]?=some (.cells c e fz)) (o n:Nat) (hle:o + n≤c.size) :
   ∃ l:List Value,l.length=n∧(∀ j,j<n→l[j]?=c[o + j]?)∧(loadCells ⟨r,o,none⟩ n).run P w=.ok l.toArray w:=by
 refine ⟨(c.toList.drop o).take n,by simp; omega,fun j hj=>?_,?_⟩
 · rw [List.getElem?_take,if_pos hj,List.getElem?_drop]; simp
 · have hl:((c.toList.drop o).take n).length=n:=by simp; omega
   have:=run_loadCells_list (P:=P) w ⟨r,o,none⟩ ((c.toList.drop o).take n) (fun j v hv=>by
     rw [Addr.add_lit,Qch hb]
     rw [List.getElem?_take] at hv
     split at hv
     · rw [List.getElem?_drop] at hv; simpa using hv
     · cases hv)
   rw [hl] at this
   exact this
theorem Qrn {sz m:Nat} {rows:Nat→List SV} {fl:Bool} {x:SV} {rx:Value} (hs:Qig sz x h=some (m,rows,fl)) (hx:Qah δ x rx) (hr:HRep δ h w) (hsz:0<sz) :
   Builtin.lenOf rx=pure m∧(fl=true→∀ y,y<m→Qan (rows y)=true) ∧
     ∀ q,q≤m→∃ l,Rows δ sz q rows l∧∀ w1:World,w1.heap=w.heap→(Builtin.firstCells sz q rx).run P w1=.ok l.toArray w1:=by
 unfold Qig at hs
 split at hs
 · rename_i k s i n cap
   split at hs <;> try (cases hs; done)
   rename_i b hk
   cases hb:(!b.off&&Nat.beq s sz) with
   | false=>rw [hb] at hs; cases hs
   | true =>
     rw [hb,cond_true] at hs
     simp only [Option.some.injEq,Prod.mk.injEq] at hs
     obtain ⟨rfl,rfl,rfl⟩:=hs
     simp only [Bool.and_eq_true,Bool.not_eq_true'] at hb
     have hss:=Nat.eq_of_beq_eq_true hb.2
     subst hss
     obtain ⟨p,d1,d2⟩:=hr.blk k b hk
     have hsp:=(Blk.off_false hb.1).2
     have hlv:=d2 (Blk.off_false hb.1).1
     simp only [Qah] at hx
     obtain ⟨p',e1,e2,e3,e4⟩:=hx
     rw [d1] at e1; cases e1
     have hn:=hlv.n
     have hfl:b.flat=true→∀ y,y<n→Qan (b.row (i + y))=true:=fun hf y hy=>by
       have hno:=hlv.notNo (by omega)
       obtain ⟨c,e,fz,h1,_,h3,_⟩:=Qap hsp (hlv.rep hno)
       exact h3 hf (i + y) (by omega)
     rcases e4 with ⟨hno,c',_,rfl⟩ | ⟨h1,h2,a,rfl⟩
     · refine ⟨rfl,hfl,fun q hq=>?_⟩
       obtain ⟨c,e,fz,h1,h2,h3,h4,h5,_,h6⟩:=Qap hsp (hlv.rep hno)
       have hbs:b.size=s:=hlv.s.symm.trans e2
       by_cases hq0:q=0
       · subst hq0
         refine ⟨[],⟨by simp,fun y hy=>by omega⟩,fun w1 _=>?_⟩
         simp [Builtin.firstCells,loadCells,loadCellsFrom]
       · have hlast:=(h6 (i + q - 1) (by omega))
         have hin:p.o + (i + q)*s≤c.size:=by
           rw [hbs] at hlast
           obtain ⟨g1,g2⟩:=hlast
           have hj:s - 1<(b.row (i + q - 1)).length:=by omega
           obtain ⟨r',g3,_⟩:=g2 (s - 1) _ (List.getElem?_eq_getElem hj)
           have:=(Array.getElem?_eq_some_iff.1 g3).1
           have e:(i + q)*s=(i + q - 1)*s + s:=by
             rw [show i + q=(i + q - 1) + 1 by omega,Nat.add_mul]; simp
           omega
         have hmul:(i + q)*s=i*s + q*s:=Nat.add_mul _ _ _
         obtain ⟨l,l1,l2,_⟩:=Qdw (P:=P) h1 (p.o + i*s) (q*s) (by omega)
         refine ⟨l,⟨l1,fun y hy=>?_⟩,fun w1 hw1=>?_⟩
         · obtain ⟨g1,g2⟩:=h6 (i + y) (by omega)
           rw [hbs] at g1 g2
           refine ⟨g1,fun j v hv=>?_⟩
           obtain ⟨r',g3,g4⟩:=g2 j v hv
           refine ⟨r',?_,g4⟩
           have hj:j<s:=by rw [← g1]; exact (List.getElem?_eq_some_iff.1 hv).1
           have hlt:y*s + j<q*s:=by
             have:(y + 1)*s≤q*s:=Nat.mul_le_mul_right _ hy
             rw [Nat.add_mul] at this
             omega
           have e:p.o + i*s + (y*s + j)=p.o + (i + y)*s + j:=by rw [Nat.add_mul]; omega
           simp only [Nat.zero_add,List.getElem?_toArray]
           rw [l2 _ hlt,e,g3]
         · obtain ⟨l',m1,m2,m3⟩:=Qdw (P:=P) (w:=w1) (by rw [hw1]; exact h1) (p.o + i*s) (q*s) (by omega)
           have:l'=l:=List.ext_getElem? fun j=>by
             by_cases hj:j<q*s
             · rw [m2 j hj,l2 j hj]
             · rw [List.getElem?_eq_none (by omega),List.getElem?_eq_none (by omega)]
           subst this
           simpa [Builtin.firstCells] using m3
     · subst h1
       refine ⟨rfl,hfl,fun q hq=>?_⟩
       have:q=0:=by omega
       subst this
       refine ⟨[],⟨by simp,fun y hy=>by omega⟩,fun w1 _=>?_⟩
       cases a <;> simp [Builtin.firstCells,loadCells,loadCellsFrom]
 · rename_i n cap
   cases hb:Nat.beq n 0 with
   | false=>rw [hb] at hs; cases hs
   | true =>
     rw [hb,cond_true] at hs
     simp only [Option.some.injEq,Prod.mk.injEq] at hs
     obtain ⟨rfl,rfl,rfl⟩:=hs
     have:=Nat.eq_of_beq_eq_true hb
     subst this
     simp only [Qah] at hx
     subst hx
     refine ⟨rfl,fun _ y hy=>by omega,fun q hq=>?_⟩
     have:q=0:=by omega
     subst this
     exact ⟨[],⟨by simp,fun y hy=>by omega⟩,fun w1 _=>by simp [Builtin.firstCells]⟩
 · -- a row that nobody writes
   rename_i s n row
   cases hb:Nat.beq s sz with
   | false=>rw [hb] at hs; cases hs
   | true =>
     rw [hb,cond_true] at hs
     simp only [Option.some.injEq,Prod.mk.injEq] at hs
     obtain ⟨rfl,rfl,rfl⟩:=hs
     have hss:=Nat.eq_of_beq_eq_true hb
     subst hss
     simp only [Qah] at hx
     have hfl:true=true→∀ y,y<n→Qan ((row y).map SV.v)=true:=fun _ y _=>Qfn _
     rcases hx with ⟨rfl,a,rfl⟩ | ⟨q,c',hq,rfl,rfl,e3,e4,rfl⟩
     · refine ⟨rfl,hfl,fun q hq=>?_⟩
       have:q=0:=by omega
       subst this
       exact ⟨[],⟨by simp,fun y hy=>by omega⟩,fun w1 _=>by cases a <;> simp [Builtin.firstCells,loadCells,loadCellsFrom]⟩
     · refine ⟨rfl,hfl,fun k hk=>?_⟩
       obtain ⟨c,e,z,h1,h2,h3⟩:=(hr.fz q hq).1
       have hmul:k*q.s≤q.n*q.s:=Nat.mul_le_mul_right _ hk
       obtain ⟨l,l1,l2,_⟩:=Qdw (P:=P) h1 q.o (k*q.s) (by omega)
       refine ⟨l,⟨l1,fun y hy=>?_⟩,fun w1 hw1=>?_⟩
       · obtain ⟨g1,g2⟩:=h3 y (by omega)
         rw [e3 y (by omega)] at g1 g2
         refine ⟨by simpa using g1,fun j v hv=>?_⟩
         rw [List.getElem?_map] at hv
         cases hj:(row y)[j]? with
         | none=>rw [hj] at hv; cases hv
         | some x =>
           rw [hj] at hv
           simp only [Option.map_some,Option.some.injEq] at hv
           subst hv
           refine ⟨x,?_,by simp only [Qah]⟩
           have hj':j<q.s:=by rw [← g1]; exact (List.getElem?_eq_some_iff.1 hj).1
           have hlt:y*q.s + j<k*q.s:=by
             have:(y + 1)*q.s≤k*q.s:=Nat.mul_le_mul_right _ hy
             rw [Nat.add_mul] at this
             omega
           simp only [Nat.zero_add,List.getElem?_toArray]
           rw [l2 _ hlt,← g2 j x hj,Nat.add_assoc]
       · obtain ⟨l',m1,m2,m3⟩:=Qdw (P:=P) (w:=w1) (by rw [hw1]; exact h1) q.o (k*q.s) (by omega)
         have:l'=l:=List.ext_getElem? fun j=>by
           by_cases hj:j<k*q.s
           · rw [m2 j hj,l2 j hj]
           · rw [List.getElem?_eq_none (by omega),List.getElem?_eq_none (by omega)]
         subst this
         simpa [Builtin.firstCells] using m3
 · rename_i s
   cases hb:Nat.beq sz 1 with
   | false=>rw [hb] at hs; cases hs
   | true =>
     rw [hb,cond_true] at hs
     simp only [Option.some.injEq,Prod.mk.injEq] at hs
     obtain ⟨rfl,rfl,rfl⟩:=hs
     have:=Nat.eq_of_beq_eq_true hb
     subst this
     simp only [Qah] at hx
     subst hx
     refine ⟨rfl,fun _ y hy=>by simp [Qan,Qbr],fun q hq=>?_⟩
     have hq':q≤s.data.size:=hq
     refine ⟨((s.extract 0 q).data.map fun b=>Value.int .u8 b.toNat).toList,⟨?_,fun y hy=>⟨rfl,fun j v hv=>?_⟩⟩,fun w1 _=>?_⟩
     · have:(s.extract 0 q).data.size=q:=by
         have:=ByteArray.size_extract (a:=s) (b:=0) (e:=q)
         show (s.extract 0 q).size=q
         rw [this]
         show min q s.data.size - 0=q
         omega
       simp; omega
     · match j,hv with
       | 0,hv =>
         simp only [List.getElem?_cons_zero,Option.some.injEq] at hv
         subst hv
         have hlt:y<s.data.size:=by omega
         refine ⟨.int .u8 (s.data.toList.getD y 0).toNat,?_,by simp only [Qah]⟩
         have hd:(s.extract 0 q).data=s.data.extract 0 q:=ByteArray.data_extract
         simp only [hd,List.getD,Nat.zero_add,Nat.mul_one,Nat.add_zero,List.getElem?_toArray,Array.getElem?_toList,Array.getElem?_map,Array.getElem?_eq_getElem hlt,Option.getD_some]
         rw [Array.getElem?_extract_of_lt (by omega)]
         simp [hlt]
       | j + 1,hv=>simp at hv
     · simp [Builtin.firstCells]
       apply Array.ext'
       simp
 · cases hs
section
variable {ts:Array TypeId} {as:Array Value} {ty t tx e:TypeId} {info:TypeInfo} {d:TypeDesc} {m n c:Nat} {rx:Value} {news olds:List Value}
theorem Qg7 (h0:ts[0]?=some t) (h1:ts[1]?=some tx) (g1:as[1]?=some rx) (ht:P.underlying t=some (.slice e)) (hi:P.info? e=some info) (htx:P.underlying tx=some d) (hd:Qoh d=true)
   (hlen:Builtin.lenOf rx=pure m) (hnews:(Builtin.firstCells info.size m rx).run P w=.ok news.toArray w) {base:Option Addr} (g0:as[0]?=some (.slice base n c)) (hroom:n + m≤c) :
   (Builtin.append_ ts ty as).run P w=(do
     if let some a:=base then storeCells (a.add (n*info.size)) news
     pure (.slice base (n + m) c):Sem Value).run P w:=by
 cases d <;> simp only [Qoh,Bool.false_eq_true] at hd <;>
   simp [Builtin.append_,h0,h1,g0,g1,run_underlying ht,run_underlying htx,sizeOf,typeInfo,hi,hlen,hroom,hnews] <;> cases base <;> simp
theorem Qkl (h0:ts[0]?=some t) (h1:ts[1]?=some tx) (g1:as[1]?=some rx) (ht:P.underlying t=some (.slice e)) (hi:P.info? e=some info) {z:Value} (hz:info.zero=some z) (htx:P.underlying tx=some d) (hd:Qoh d=true)
   (hlen:Builtin.lenOf rx=pure m) (hnews:(Builtin.firstCells info.size m rx).run P w.drew=.ok news.toArray w.drew) {base:Option Addr} (g0:as[0]?=some (.slice base n c)) (hgrow:c<n + m) (hb0:0<info.bytes) (hfit:(n + m)*info.bytes≤140737488355328)
   (holds:(Builtin.firstCells info.size n (.slice base n c)).run P w.drew=.ok olds.toArray w.drew) :
   (Builtin.append_ ts ty as).run P w=.ok (.slice (some ⟨w.heap.size,0,none⟩) (n + m) (grownCap w (n + m) c e)) (w.drew.alloc (.cells (olds.toArray++news.toArray++Builtin.zeroCells z.cells (grownCap w (n + m) c e - (n + m))) e)):=by
 have hn:¬ (n + m≤c):=by omega
 have h48:=growslice_fits hgrow hfit
 have h48':¬ (281474976710656<Builtin.nextslicecap (n + m) c*info.bytes):=by omega
 have hle:n + m≤(n + m)*info.bytes:=Nat.le_mul_of_pos_right _ hb0
 have h63':¬ (9223372036854775807<((n:Int) + (m:Int))):=by omega
 cases d <;> simp only [Qoh,Bool.false_eq_true] at hd <;>
   simp [Builtin.append_,h0,h1,g0,g1,run_underlying ht,run_underlying htx,sizeOf,typeInfo,zeroValue,hi,hz,hlen,hn,h63',h48',Question.forced,hnews,holds,newRow,grownCap] <;> congr 2 <;> apply Array.ext' <;> simp [List.append_assoc]
end
theorem Qqg (w:World) (need old:Nat) (e:TypeId):need≤grownCap w need old e:=by
 unfold grownCap Question.cut
 exact Nat.le_add_right _ _
theorem Qme {sz n m:Nat} {rows news:Nat→List SV} {l l' rest:List Value} (h1:Rows δ sz n rows l) (h2:Rows δ sz m news l') (y:Nat) (hy:y<n + m) :
   Qf2 δ (l++l'++rest).toArray sz 0 y (Qns (Nat.blt y n) (rows y) (news (y - n))):=by
 rw [Qeg]
 by_cases hlt:y<n
 · have hb:Nat.blt y n=true:=by simp [Nat.blt]; omega
   rw [hb,cond_true]
   obtain ⟨g1,g2⟩:=h1.2 y hlt
   refine ⟨g1,fun j x hx=>?_⟩
   obtain ⟨r,g3,g4⟩:=g2 j x hx
   refine ⟨r,?_,g4⟩
   have hin:0 + y*sz + j<l.length:=by
     have:=(Array.getElem?_eq_some_iff.1 g3).1
     simpa using this
   simp only [List.getElem?_toArray] at g3 ⊢
   rw [List.append_assoc,List.getElem?_append_left hin,g3]
 · have hb:Nat.blt y n=false:=by
     cases h:Nat.blt y n with
     | false=>rfl
     | true=>simp [Nat.blt] at h; omega
   rw [hb,cond_false]
   obtain ⟨g1,g2⟩:=h2.2 (y - n) (by omega)
   refine ⟨g1,fun j x hx=>?_⟩
   obtain ⟨r,g3,g4⟩:=g2 j x hx
   refine ⟨r,?_,g4⟩
   have hin:0 + (y - n)*sz + j<l'.length:=by
     have:=(Array.getElem?_eq_some_iff.1 g3).1
     simpa using this
   have e:0 + y*sz + j=l.length + (0 + (y - n)*sz + j):=by
     rw [h1.1]
     have:y*sz=n*sz + (y - n)*sz:=by rw [← Nat.add_mul]; congr 1; omega
     omega
   simp only [List.getElem?_toArray] at g3 ⊢
   rw [e,List.append_assoc,List.getElem?_append_right (by omega),Nat.add_sub_cancel_left,List.getElem?_append_left hin,g3]
theorem Qi3 {δ':Dict} {sz n:Nat} {rows:Nat→List SV} {l:List Value} (hle:δ.le δ') (h:Rows δ sz n rows l):Rows δ' sz n rows l :=
 ⟨h.1,fun y hy=>⟨(h.2 y hy).1,fun j x hx=>((h.2 y hy).2 j x hx).imp fun _ ⟨a,b⟩=>⟨a,Qb4 hle _ _ b⟩⟩⟩
theorem Qft (z:Array Value) (n:Nat):(Builtin.zeroCells z n).size=n*z.size:=by simp [Builtin.zeroCells]
theorem Qpt {sz m:Nat} {rows:Nat→List SV} {l:List Value} (h:Rows δ sz m rows l) (hsz:0<sz) (hc:∀ y,y<m→Qho (rows y)):∀ v∈l,Qcr v:=fun v hv=>by
 obtain ⟨k,hk⟩:=List.getElem?_of_mem hv
 have hlt:=(List.getElem?_eq_some_iff.1 hk).1
 rw [h.1] at hlt
 have hy:k / sz<m:=Nat.div_lt_of_lt_mul (by rw [Nat.mul_comm]; exact hlt)
 obtain ⟨g1,g2⟩:=h.2 (k / sz) hy
 have hj:k % sz<(rows (k / sz)).length:=by rw [g1]; exact Nat.mod_lt _ hsz
 obtain ⟨r,g3,g4⟩:=g2 (k % sz) _ (List.getElem?_eq_getElem hj)
 have e:0 + k / sz*sz + k % sz=k:=by rw [Nat.zero_add,Nat.mul_comm]; exact Nat.div_add_mod k sz
 rw [e] at g3
 simp only [List.getElem?_toArray,hk,Option.some.injEq] at g3
 subst g3
 have hcc:=hc _ hy
 unfold Qho at hcc
 cases ha:(rows (k / sz)).all Qep with
 | false=>rw [ha] at hcc; exact hcc.elim
 | true=>exact Qef (List.all_eq_true.1 ha _ (List.getElem_mem hj)) g4
theorem Qjp {c c':Array Value} {o:Nat} {l:List Value} (hl:∀ q,q<l.length→o + 0 + q<c.size) (h:∀ x:Nat,c'[x]?=if o + 0≤x∧x<o + 0 + l.length then l[x - (o + 0)]? else c[x]?):c'.size=c.size:=by
 have key:∀ x,(c'[x]?=none↔c[x]?=none):=fun x=>by
   rw [h x]
   split
   · rename_i hx
     have hlt:x<c.size:=by
       have:=hl (x - (o + 0)) (by omega)
       omega
     have hlt2:x - (o + 0)<l.length:=by omega
     constructor
     · intro h; rw [List.getElem?_eq_getElem hlt2] at h; cases h
     · intro h; rw [Array.getElem?_eq_none_iff] at h; omega
   · rfl
 have k1:=key c.size
 have k2:=key c'.size
 simp only [Array.getElem?_eq_none_iff,Nat.le_refl,iff_true,true_iff] at k1 k2
 omega
set_option maxHeartbeats 1000000 in
theorem Q3u {ts:Array TypeId} {as:Array Value} {ty t tx:TypeId} {s x:SV} {rs rx:Value} {base:Nat} {e:Eff} (he:Qu0 P t tx s x h base=some e) (h0:ts[0]?=some t) (h1:ts[1]?=some tx) (g0:as[0]?=some rs) (g1:as[1]?=some rx)
   (hs:Qah δ s rs) (hx:Qah δ x rx) (hr:HRep δ h w) (hp:e.asks) (hf:∀ x u,Qce e x u→∀ k,Qac k u=true→h k=none→δ k=none):ValOk δ h w e ((Builtin.append_ ts ty as).run P w):=by
 unfold Qu0 at he
 split at he <;> try (cases he; done)
 rename_i el ht
 split at he <;> try (cases he; done)
 rename_i sz info d z hsz hi htx hz
 cases hb:((h base).isSome||!Qoh d||Nat.beq sz 0||Nat.beq info.bytes 0||!Nat.beq z.length sz) with
 | true=>rw [hb] at he; cases he
 | false =>
   rw [hb,cond_false] at he
   simp only [Bool.or_eq_false_iff,Bool.not_eq_false'] at hb
   obtain ⟨⟨⟨⟨b0,b1⟩,b2⟩,b3⟩,b4⟩:=hb
   have hn:h base=none:=by simpa using b0
   have hszp:0<sz:=by
     rcases Nat.eq_zero_or_pos sz with e0 | e0
     · subst e0; simp at b2
     · exact e0
   have hbyp:0<info.bytes:=by
     rcases Nat.eq_zero_or_pos info.bytes with e0 | e0
     · rw [e0] at b3; simp at b3
     · exact e0
   have hsize:info.size=sz:=by
     unfold Qco at hsz
     rw [hi] at hsz
     simpa using hsz
   subst hsize
   obtain ⟨zv,hzv,hzs⟩:∃ zv,info.zero=some zv∧zv.cells.size=info.size:=by
     unfold Qk0 at hz
     rw [hi] at hz
     simp only at hz
     cases hzz:info.zero with
     | none=>rw [hzz] at hz; cases hz
     | some zv =>
       rw [hzz] at hz
       cases hz
       have:=Nat.eq_of_beq_eq_true b4
       exact ⟨zv,rfl,by simpa using this⟩
   split at he <;> try (cases he; done)
   rename_i m rows fl hsrc
   obtain ⟨hlen,hflx,hcells⟩:=Qrn (P:=P) hsrc hx hr hszp
   obtain ⟨news,hnr,hnc⟩:=hcells m (Nat.le_refl _)
   have hnc0:=hnc w rfl
   have hnc1:=hnc w.drew rfl
   split at he
   · -- upon a slice
     rename_i k s' i n c
     split at he <;> try (cases he; done)
     rename_i b hk
     cases hb:(b.rw&&!b.off&&Nat.beq s' info.size) with
     | false=>rw [hb] at he; cases he
     | true =>
       rw [hb,cond_true] at he
       cases he
       simp only [Bool.and_eq_true,Bool.not_eq_true'] at hb
       obtain ⟨⟨hrw,hoff⟩,hss⟩:=hb
       obtain ⟨hdead,hsp⟩:=Blk.off_false hoff
       have:=Nat.eq_of_beq_eq_true hss
       subst this
       obtain ⟨hp1,hp2,hp3⟩:=hp
       have hdb:δ base=none:=hf _ _ ⟨0,rfl,rfl⟩ base (by simp [Qac]) hn
       have hs0:=hs
       obtain ⟨p,d1,d2⟩:=hr.blk k b hk
       have hlv:=d2 hdead
       simp only [Qah] at hs
       obtain ⟨p',e1,e2,e3,e4⟩:=hs
       rw [d1] at e1; cases e1
       have hbs:b.size=info.size:=hlv.s.symm.trans e2
       have hpn:=hlv.n
       -- the old rows
       obtain ⟨_,hflo,hco⟩:=Qrn (P:=P) (sz:=info.size) (x:=.sl k info.size i n c) (h:=h) (m:=n) (rows:=fun y=>b.row (i + y)) (fl:=b.flat) (by simp [Qig,hk,hoff]) hs0 hr hszp
       obtain ⟨olds,hor,hoc⟩:=hco n (Nat.le_refl _)
       have hoc1:=hoc w.drew rfl
       have hflat:(b.flat&&fl)=true→∀ y,y<n + m→Qan (Qns (Nat.blt y n) (b.row (i + y)) (rows (y - n)))=true:=fun hf y hy=>by
         rw [Bool.and_eq_true] at hf
         rw [Qeg]
         by_cases hlt:y<n
         · have hb:Nat.blt y n=true:=by simp [Nat.blt]; omega
           rw [hb,cond_true]
           exact hflo hf.1 y hlt
         · have hb:Nat.blt y n=false:=by
             cases h:Nat.blt y n with
             | false=>rfl
             | true=>simp [Nat.blt] at h; omega
           rw [hb,cond_false]
           exact hflx hf.2 _ (by omega)
       have hel:∀ e0:TypeId,(b.elem≠0→e0=b.elem)→(bif Nat.beq b.elem el then el else 0)≠0→e0=(bif Nat.beq b.elem el then el else 0):=fun e0 h1 h2=>by
         cases hb:Nat.beq b.elem el with
         | false=>rw [hb] at h2; exact absurd rfl h2
         | true =>
           rw [hb,cond_true] at h2
           have:=Nat.eq_of_beq_eq_true hb
           rw [cond_true,← this]
           exact h1 (by rw [this]; exact h2)
       -- a new array
       have grow:∀ (bs:Option Addr) (c0:Nat),rs=.slice bs n c0→c0<n + m→ValOk δ h w (.nd ((n + m)*info.bytes≤140737488355328∧i + c≤b.ext∧∀ y,y<m→Qho (rows y)) Nat 0 (fun c'=>.sl base info.size 0 (n + m) (n + m + c'))
           (fun c'=>[(k,Qdb b),(base,{elem:=bif Nat.beq b.elem el then el else 0,size:=info.size,rw:=true,lock:=false,lit:=false,flat:=b.flat&&fl,n:=n + m,row:=fun y=>Qns (Nat.blt y n) (b.row (i + y)) (rows (y - n)),ext:=n + m + c'})])) ((Builtin.append_ ts ty as).run P w):=fun bs c0 hrs hgr=>by
         subst hrs
         have hrun:=Qkl (ty:=ty) h0 h1 g1 ht hi hzv htx b1 hlen hnc1 g0 hgr hbyp hp1 hoc1
         have hge:=Qqg w (n + m) c0 el
         obtain ⟨q,hq⟩:∃ q,grownCap w (n + m) c0 el=n + m + q:=⟨_,(Nat.add_sub_cancel' hge).symm⟩
         have hold:∀ r,r<w.heap.size→(w.drew.alloc (.cells (olds.toArray++news.toArray++Builtin.zeroCells zv.cells (grownCap w (n + m) c0 el - (n + m))) el):World).heap[r]?=w.heap[r]?:=fun r hr'=>heap_alloc_old w.drew _ hr'
         have hrows:∀ δ',δ.le δ'→∀ y,y<n + m→Qf2 δ' (olds.toArray++news.toArray++Builtin.zeroCells zv.cells (grownCap w (n + m) c0 el - (n + m))) info.size 0 y (Qns (Nat.blt y n) (b.row (i + y)) (rows (y - n))):=fun δ' hle y hy=>by
           have:=Qme (rest:=(Builtin.zeroCells zv.cells (grownCap w (n + m) c0 el - (n + m))).toList) (Qi3 hle hor) (Qi3 hle hnr) y hy
           have ea:(olds.toArray++news.toArray++Builtin.zeroCells zv.cells (grownCap w (n + m) c0 el - (n + m)))=(olds++news++(Builtin.zeroCells zv.cells (grownCap w (n + m) c0 el - (n + m))).toList).toArray:=by
             apply Array.ext'; simp
           rw [ea]
           exact this
         obtain ⟨δ',u1,u2⟩:=Qpp (p':=⟨w.heap.size,info.size,0,n + m,false,false⟩) (base:=base) (nb:={elem:=bif Nat.beq b.elem el then el else 0,size:=info.size,rw:=true,lock:=false,lit:=false,flat:=b.flat&&fl,n:=n + m,row:=fun y=>Qns (Nat.blt y n) (b.row (i + y)) (rows (y - n)),ext:=n + m + q})
           (w':=w.drew.alloc (.cells (olds.toArray++news.toArray++Builtin.zeroCells zv.cells (grownCap w (n + m) c0 el - (n + m))) el)) hr hk hrw hdead d1 hn hdb rfl rfl rfl (by simp [World.alloc]) (fun r hr' _=>hold r hr') (fun _=>.inl (Nat.le_refl _))
           (fun δ' hle=>⟨rfl,rfl,fun hh=>(by cases hh),fun _=>⟨_,el,(0,0),heap_alloc_new w.drew _,fun _=>.inl rfl,hflat,fun h2=>(by
               cases hb:Nat.beq b.elem el with
               | false=>rw [hb] at h2; exact absurd rfl h2
               | true=>rfl),by
                 simp only [Nat.zero_add,Array.size_append,List.size_toArray,Qft,hzs,hor.1,hnr.1,hq]
                 rw [Nat.add_sub_cancel_left,← Nat.add_mul,← Nat.add_mul]
                 exact Nat.le_refl _,fun hh=>(by cases hh),hrows δ' hle⟩,fun hh=>(by cases hh)⟩)
         refine ⟨_,_,_,_,δ',hrun,⟨q,rfl,rfl⟩,?_,u1⟩
         simp only [Qah]
         exact ⟨_,u2,rfl,by simp,.inl ⟨rfl,_,.inl rfl,by simp [hq]⟩⟩
       rcases e4 with ⟨hno,c',hc',rfl⟩ | ⟨rfl,hc0,a,rfl⟩
       rotate_left
       · obtain rfl:c=0:=hc0.resolve_right fun hx=>by rw [hlv.loose hx] at hrw; cases hrw
         by_cases hm:m=0
         · subst hm
           have hrun:=Qg7 (ty:=ty) h0 h1 g1 ht hi htx b1 hlen hnc0 g0 (by omega)
           obtain ⟨δ',u1,u2⟩:=Qpp (p':=⟨0,info.size,0,0,true,false⟩) (base:=base) (nb:={elem:=bif Nat.beq b.elem el then el else 0,size:=info.size,rw:=true,lock:=false,lit:=false,flat:=b.flat&&fl,n:=0 + 0,row:=fun y=>Qns (Nat.blt y 0) (b.row (i + y)) (rows (y - 0)),ext:=0 + 0 + 0})
             (w':=w) hr hk hrw hdead d1 hn hdb rfl rfl rfl (Nat.le_refl _) (fun r _ _=>rfl) (fun hh=>(by cases hh)) (fun δ' hle=>⟨rfl,rfl,fun _=>⟨rfl,rfl⟩,fun hh=>(by cases hh),fun hh=>(by cases hh)⟩)
           refine ⟨.slice a 0 0,w,_,_,δ',?_,⟨0,rfl,rfl⟩,?_,u1⟩
           · rw [hrun]
             have:news=[]:=List.eq_nil_of_length_eq_zero (by rw [hnr.1]; simp)
             subst this
             cases a <;> simp [storeCells]
           · simp only [Qah]
             exact ⟨_,u2,rfl,by simp,.inr ⟨trivial,.inl trivial,a,rfl⟩⟩
         · exact grow _ 0 rfl (by omega)
       · obtain rfl:c=c':=Eq.symm <| hc'.resolve_right fun hx=>by rw [hlv.loose hx.1] at hrw; cases hrw
         by_cases hroom:n + m≤c
         · -- in place
           obtain ⟨cc,e0,fz,c1,c2,c3,c4,c5,c6,c7⟩:=Qap hsp (hlv.rep hno)
           have hone:∀ v∈news,Qcr v:=Qpt hnr hszp hp3
           have hlast:∀ q,q<news.length→p.o + i*info.size + n*info.size + 0 + q<cc.size:=fun q hq=>by
             rw [hnr.1] at hq
             rw [hbs] at c5
             have h2:(i + c)*info.size≤b.ext*info.size:=Nat.mul_le_mul_right _ hp2
             have h3:(i + (n + m))*info.size≤(i + c)*info.size:=Nat.mul_le_mul_right _ (by omega)
             rw [Nat.add_mul i (n + m),Nat.add_mul n m] at h3
             omega
           obtain ⟨w',c',k1,k2,k3,k4,k5,k6,k7,k8⟩:=Qd2 (P:=P) (r:=p.r) (e:=e0) news 0 (p.o + i*info.size + n*info.size) w cc c1 (c2 hrw) hlast hone
           have ha:(⟨p.r,p.o + i*info.size,none⟩:Addr).add (n*info.size)=⟨p.r,p.o + i*info.size + n*info.size,none⟩:=Addr.add_lit _ _ _
           have hrun:=Qg7 (ty:=ty) h0 h1 g1 ht hi htx b1 hlen hnc0 g0 hroom
           have hcs:=Qjp hlast k3
           obtain ⟨q,hq⟩:∃ q,c=n + m + q:=⟨_,(Nat.add_sub_cancel' hroom).symm⟩
           have hrows:∀ δ',δ.le δ'→∀ y,y<n + m→Qf2 δ' c' info.size (p.o + i*info.size) y (Qns (Nat.blt y n) (b.row (i + y)) (rows (y - n))):=fun δ' hle y hy=>by
             have hj:=Qme (rest:=[]) (Qi3 hle hor) (Qi3 hle hnr) y hy
             refine ⟨hj.1,fun j x hx=>?_⟩
             obtain ⟨r,g3,g4⟩:=hj.2 j x hx
             refine ⟨r,?_,g4⟩
             have hjl:j<info.size:=by rw [← hj.1]; exact (List.getElem?_eq_some_iff.1 hx).1
             have hys:y*info.size + j<(n + m)*info.size:=by
               have:(y + 1)*info.size≤(n + m)*info.size:=Nat.mul_le_mul_right _ hy
               rw [Nat.add_mul] at this
               omega
             rw [Nat.add_mul n m] at hys
             simp only [List.append_nil,Nat.zero_add,List.getElem?_toArray] at g3
             rw [k3]
             by_cases hold:y*info.size + j<n*info.size
             · rw [if_neg (by omega)]
               rw [List.getElem?_append_left (by rw [hor.1]; exact hold)] at g3
               -- an old cell
               obtain ⟨l0,_,l2,l3⟩:=Qdw (P:=P) (w:=w) c1 (p.o + i*info.size) (n*info.size) (by
                 rw [hbs] at c5
                 have h2:(i + c)*info.size≤b.ext*info.size:=Nat.mul_le_mul_right _ hp2
                 have h3:(i + n)*info.size≤(i + c)*info.size:=Nat.mul_le_mul_right _ (by omega)
                 rw [Nat.add_mul i n] at h3
                 omega)
               have h4:=hoc w rfl
               simp only [Builtin.firstCells] at h4
               rw [l3] at h4
               have h5:l0=olds:=by simpa using h4
               rw [← h5,l2 _ hold] at g3
               rw [Nat.add_assoc]
               exact g3
             · rw [if_pos (by rw [hnr.1]; omega)]
               rw [List.getElem?_append_right (by rw [hor.1]; omega),hor.1] at g3
               rw [show p.o + i*info.size + y*info.size + j - (p.o + i*info.size + n*info.size + 0)=y*info.size + j - n*info.size by omega]
               exact g3
           obtain ⟨δ',u1,u2⟩:=Qpp (p':=⟨p.r,info.size,p.o + i*info.size,n + m,false,false⟩) (base:=base) (nb:={elem:=bif Nat.beq b.elem el then el else 0,size:=info.size,rw:=true,lock:=false,lit:=false,flat:=b.flat&&fl,n:=n + m,row:=fun y=>Qns (Nat.blt y n) (b.row (i + y)) (rows (y - n)),ext:=n + m + q})
             (w':=w') hr hk hrw hdead d1 hn hdb k6 k7 k8 (by omega) (fun r _ hr2=>k4 r (hr2 hno)) (fun _=>.inr ⟨hno,rfl⟩)
             (fun δ' hle=>⟨rfl,rfl,fun hh=>(by cases hh),fun _=>⟨c',e0,fz,k2,fun _=>by rw [hcs]; exact c2 hrw,hflat,hel e0 c4,by
                 rw [hcs]
                 rw [hbs] at c5
                 have h2:(i + c)*info.size≤b.ext*info.size:=Nat.mul_le_mul_right _ hp2
                 rw [Nat.add_mul,hq] at h2
                 exact Nat.le_trans (show p.o + i*info.size + (n + m + q)*info.size≤p.o + b.ext*info.size by omega) c5,fun hh=>(by cases hh),hrows δ' hle⟩,fun hh=>(by cases hh)⟩)
           refine ⟨.slice (some ⟨p.r,p.o + i*info.size,none⟩) (n + m) c,w',_,_,δ',?_,⟨q,rfl,rfl⟩,?_,u1⟩
           · rw [hrun]
             simp only [Sem.run_bind,ha,k1,Result.andThen_ok]
             rfl
           · simp only [Qah]
             exact ⟨_,u2,rfl,by simp,.inl ⟨rfl,_,.inl rfl,by simp [hq]⟩⟩
         · exact grow _ c rfl (by omega)
   · -- upon nil
     rename_i n c
     cases hb:(Nat.beq n 0&&Nat.beq c 0) with
     | false=>rw [hb] at he; cases he
     | true =>
       rw [hb,cond_true] at he
       cases he
       rw [Bool.and_eq_true] at hb
       have:=Nat.eq_of_beq_eq_true hb.1
       subst this
       have:=Nat.eq_of_beq_eq_true hb.2
       subst this
       have hdb:δ base=none:=hf _ _ ⟨0,rfl,rfl⟩ base (by simp [Qac]) hn
       simp only [Qah] at hs
       subst hs
       by_cases hm:m=0
       · subst hm
         have hrun:=Qg7 (ty:=ty) h0 h1 g1 ht hi htx b1 hlen hnc0 g0 (by omega)
         obtain ⟨δ',u1,q,u2,u3,u4⟩:=Ziy (base:=base) (nb:={elem:=el,size:=info.size,rw:=true,lock:=false,lit:=false,flat:=fl,n:=0,row:=rows,ext:=0 + 0}) hr hn hdb rfl rfl
         refine ⟨.slice none 0 0,w,_,_,δ',?_,⟨0,rfl,rfl⟩,?_,u1⟩
         · rw [hrun]; simp
         · simp only [Qah]
           exact ⟨_,u2,u3,by omega,.inr ⟨trivial,.inl trivial,_,rfl⟩⟩
       · have hrun:=Qkl (ty:=ty) (olds:=[]) h0 h1 g1 ht hi hzv htx b1 hlen hnc1 g0 (by omega) hbyp (by rw [Nat.zero_add]; exact hp) (run_firstCells_none _ _ _ _ _)
         have hge:=Qqg w (0 + m) 0 el
         obtain ⟨q,hq⟩:∃ q,grownCap w (0 + m) 0 el=0 + m + q:=⟨_,(Nat.add_sub_cancel' hge).symm⟩
         obtain ⟨δ',u1,u2⟩:=Qr2 (w:=w.drew) (n:=base) (el:=el) (b:={elem:=el,size:=info.size,rw:=true,lock:=false,lit:=false,flat:=fl,n:=m,row:=rows,ext:=m + q}) (c:=([]:List Value).toArray++news.toArray++Builtin.zeroCells zv.cells (grownCap w (0 + m) 0 el - (0 + m))) hr.drew hn hdb (fun _=>rfl) (by
             simp only [Array.size_append,List.size_toArray,Qft,hzs,hnr.1,hq]
             rw [Nat.add_sub_cancel_left,Nat.add_mul]
             simp) (fun hh=>(by cases hh)) hflx (fun y hy=>by
             have:=Qme (rest:=(Builtin.zeroCells zv.cells (grownCap w (0 + m) 0 el - (0 + m))).toList) (l:=[]) (n:=0) (rows:=fun _=>[]) ⟨by simp,fun y hy=>by omega⟩ hnr y (by have hy':y<m:=hy; omega)
             have ea:(([]:List Value).toArray++news.toArray++Builtin.zeroCells zv.cells (grownCap w (0 + m) 0 el - (0 + m)))=([]++news++(Builtin.zeroCells zv.cells (grownCap w (0 + m) 0 el - (0 + m))).toList).toArray:=by
               apply Array.ext'; simp
             rw [ea]
             rw [Qeg] at this
             exact this)
         refine ⟨_,_,_,_,δ',hrun,⟨q,rfl,rfl⟩,?_,u1.drew⟩
         simp only [Qah]
         exact ⟨_,u2,rfl,by simp,.inl ⟨rfl,by rw [hq]; simp⟩⟩
   · cases he
end
end Go.SE
end
section
namespace Go.SE
section
variable {P:Program} {δ:Dict} {h:Qbo} {w:World}
theorem Qrh {k:Nat} {b b':Blk} {p:Loc} (hr:HRep δ h w) (hk:h k=some b) (hd:δ k=some p) (hno:p.no=true) (hb:Live δ b' w p):Upd δ h w δ [(k,b')] w:=by
 have hl:∀ k' r,Qc9 δ (Qb3 h [(k,b')]) k' r→k'≠k∧Qc9 δ h k' r:=fun k' r ⟨b1,p1,h1,h2,h3,h4,h5⟩=>by
   have hne:k'≠k:=fun e=>by subst e; rw [hd] at h3; cases h3; rw [hno] at h4; cases h4
   simp only [Qb3,Qew,Qbc hne,cond_false] at h1
   exact ⟨hne,b1,p1,h1,h2,h3,h4,h5⟩
 refine ⟨δ.le_refl,⟨fun k' c hk'=>?_,fun k1 k2 r c hl1 hl2 hk' hrwc=>?_,fun q hq=>⟨(hr.fz q hq).1,fun k1 c hk' hrwc hl1=>?_⟩⟩,fun k' h0 h0'=>absurd h0 h0',fun k' p' h0 h0'=>(by rw [h0] at h0'; cases h0'),WRel.refl _ _,fun q hq=>.inl hq⟩
 · simp only [Qb3,Qew] at hk'
   cases he:Nat.beq k' k with
   | true =>
     have ek:k'=k:=Nat.eq_of_beq_eq_true he
     subst ek
     rw [he,cond_true] at hk'
     cases hk'
     exact ⟨p,hd,fun _=>hb⟩
   | false=>rw [he,cond_false] at hk'; exact hr.blk k' c hk'
 · obtain ⟨hne,l1⟩:=hl _ _ hl1
   simp only [Qb3,Qew,Qbc hne,cond_false] at hk'
   exact hr.inj k1 k2 r c l1 (hl _ _ hl2).2 hk' hrwc
 · obtain ⟨hne,l1⟩:=hl _ _ hl1
   simp only [Qb3,Qew,Qbc hne,cond_false] at hk'
   exact (hr.fz q hq).2 k1 c hk' hrwc l1
theorem Ze4 {ts:Array TypeId} {as:Array Value} {ty t:TypeId} {s x:SV} {rs rx:Value} {e:Eff} (he:Ze5 P t s x h=some e) (h0:ts[0]?=some t) (g0:as[0]?=some rs) (g1:as[1]?=some rx)
   (hs:Qah δ s rs) (hx:Qah δ x rx) (hr:HRep δ h w) (hp:e.asks):ValOk δ h w e ((Builtin.copy_ ts ty as).run P w):=by
 unfold Ze5 at he
 split at he <;> try (cases he; done)
 rename_i el ht
 split at he <;> try (cases he; done)
 rename_i sz hsz
 cases hb:Nat.beq sz 0 with
 | true=>rw [hb] at he; cases he
 | false =>
   rw [hb,cond_false] at he
   have hszp:0<sz:=by
     rcases Nat.eq_zero_or_pos sz with e0 | e0
     · subst e0; simp at hb
     · exact e0
   split at he <;> try (cases he; done)
   rename_i m rows fl hsrc
   split at he <;> try (cases he; done)
   rename_i k s' i n c
   split at he <;> try (cases he; done)
   rename_i b hk
   cases hb:(b.rw&&!b.off&&Nat.beq s' sz) with
   | false=>rw [hb] at he; cases he
   | true =>
     rw [hb,cond_true] at he
     cases he
     simp only [Bool.and_eq_true,Bool.not_eq_true'] at hb
     obtain ⟨⟨hrw,hoff⟩,hss⟩:=hb
     obtain ⟨hdead,hsp⟩:=Blk.off_false hoff
     have:=Nat.eq_of_beq_eq_true hss
     subst this
     have hp:∀ y,y<m→Qho (rows y):=hp _ rfl
     obtain ⟨hlen,hflx,hcells⟩:=Qrn (P:=P) hsrc hx hr hszp
     obtain ⟨news,hnr,hnc⟩:=hcells (min n m) (Nat.min_le_right _ _)
     have hnc0:=hnc w rfl
     have hone:∀ v∈news,Qcr v:=Qpt hnr hszp fun y hy=>hp y (by omega)
     obtain ⟨p,d1,d2⟩:=hr.blk k b hk
     have hlv:=d2 hdead
     simp only [Qah] at hs
     obtain ⟨p',e1,e2,e3,e4⟩:=hs
     rw [d1] at e1; cases e1
     have hbs:b.size=s':=hlv.s.symm.trans e2
     have hpn:=hlv.n
     have hmin:Nat.min m n=min n m:=Nat.min_comm m n
     have hfl:∀ q,q≤min n m→(b.flat&&fl)=true→(b.flat=true→∀ y,y<b.n→Qan (b.row y)=true)→∀ y,y<b.n→Qan (Qns (Nat.ble i y&&Nat.blt y (i + q)) (rows (y - i)) (b.row y))=true:=fun q hq hf hfb y hy=>by
       rw [Bool.and_eq_true] at hf
       rw [Qeg]
       cases hb:(Nat.ble i y&&Nat.blt y (i + q)) with
       | true =>
         rw [Bool.and_eq_true] at hb
         have h1:=Nat.le_of_ble_eq_true hb.1
         have h2:=hb.2
         simp [Nat.blt] at h2
         exact hflx hf.2 _ (by omega)
       | false=>exact hfb hf.1 y hy
     rcases e4 with ⟨hno,c0,hc0,rfl⟩ | ⟨rfl,hc0,a,rfl⟩
     · obtain rfl:c=c0:=Eq.symm <| hc0.resolve_right fun hx=>by rw [hlv.loose hx.1] at hrw; cases hrw
       obtain ⟨cc,e0,fz,c1,c2,c3,c4,c5,c6,c7⟩:=Qap hsp (hlv.rep hno)
       have hlast:∀ q,q<news.length→p.o + i*s' + 0 + q<cc.size:=fun q hq=>by
         rw [hnr.1] at hq
         have hmp:0<min n m:=by
           rcases Nat.eq_zero_or_pos (min n m) with e0 | e0
           · rw [e0] at hq; simp at hq
           · exact e0
         obtain ⟨g1,g2⟩:=c7 (i + min n m - 1) (by omega)
         rw [hbs] at g1 g2
         have hj:s' - 1<(b.row (i + min n m - 1)).length:=by omega
         obtain ⟨r',g3,_⟩:=g2 (s' - 1) _ (List.getElem?_eq_getElem hj)
         have g4:=(Array.getElem?_eq_some_iff.1 g3).1
         have e:i*s' + min n m*s'=(i + min n m - 1)*s' + s':=by
           rw [← Nat.add_mul,show i + min n m=(i + min n m - 1) + 1 by omega,Nat.add_mul]; simp
         omega
       obtain ⟨w',c',k1,k2,k3,k4,k5,k6,k7,k8⟩:=Qd2 (P:=P) (r:=p.r) (e:=e0) news 0 (p.o + i*s') w cc c1 (c2 hrw) hlast hone
       have hcs:=Qjp hlast k3
       refine ⟨.int .i64 ((min n m:Nat):Int),w',_,_,δ,?_,⟨rfl,rfl⟩,by simp only [Qah],Qec hr hk hrw hdead d1 hno (fun _=>⟨hlv.s,hlv.n,hlv.no,fun _=>Qbt hsp ⟨c',e0,fz,k2,fun hh=>by rw [hcs]; exact c2 hh,fun hf=>hfl (min n m) (Nat.le_refl _) hf c3,c4,by rw [hcs]; exact c5,fun hh=>by rw [hcs]; exact c6 hh,fun y hy=>?_⟩,hlv.loose⟩) k6 k7 k8 (by omega) (fun r hne _=>k4 r hne)⟩
       · simp only [Builtin.copy_,h0,g0,g1,Sem.run_bind,run_underlying ht,Result.andThen_ok,Qa4 hsz,hlen,Sem.run_pure,hmin,hnc0,k1,goInt]
       · simp only
         rw [Qeg]
         obtain ⟨l1,l2⟩:=c7 y hy
         rw [hbs] at l1 l2 ⊢
         cases hb:(Nat.ble i y&&Nat.blt y (i + min n m)) with
         | true =>
           rw [Bool.and_eq_true] at hb
           have h1:=Nat.le_of_ble_eq_true hb.1
           have h2:=hb.2
           simp [Nat.blt] at h2
           rw [cond_true]
           obtain ⟨f1,f2⟩:=hnr.2 (y - i) (by omega)
           refine ⟨f1,fun j v hv=>?_⟩
           obtain ⟨r',f3,f4⟩:=f2 j v hv
           refine ⟨r',?_,f4⟩
           have hj:j<s':=by rw [← f1]; exact (List.getElem?_eq_some_iff.1 hv).1
           have hlt:(y - i)*s' + j<min n m*s':=by
             have:(y - i + 1)*s'≤min n m*s':=Nat.mul_le_mul_right _ (by omega)
             rw [Nat.add_mul] at this
             omega
           have e:y*s'=i*s' + (y - i)*s':=by rw [← Nat.add_mul]; congr 1; omega
           rw [k3,if_pos (by rw [hnr.1]; omega)]
           simp only [Nat.zero_add,List.getElem?_toArray] at f3
           rw [← f3]
           congr 1
           omega
         | false =>
           rw [cond_false]
           refine ⟨l1,fun j v hv=>?_⟩
           obtain ⟨r',f3,f4⟩:=l2 j v hv
           refine ⟨r',?_,f4⟩
           have hj:j<s':=by rw [← l1]; exact (List.getElem?_eq_some_iff.1 hv).1
           rw [k3,if_neg]
           · exact f3
           · rintro ⟨a1,a2⟩
             rw [hnr.1] at a2
             rw [Bool.and_eq_false_iff] at hb
             have:¬ i≤y∨¬ y<i + min n m:=by
               rcases hb with hb | hb
               · left; intro hle; rw [Nat.ble_eq_true_of_le hle] at hb; cases hb
               · right; intro hlt; rw [show Nat.blt y (i + min n m)=true from Nat.ble_eq_true_of_le hlt] at hb; cases hb
             rcases this with h1 | h1
             · have:(y + 1)*s'≤i*s':=Nat.mul_le_mul_right _ (by omega)
               rw [Nat.add_mul] at this
               omega
             · have:(i + min n m)*s'≤y*s':=Nat.mul_le_mul_right _ (by omega)
               rw [Nat.add_mul] at this
               omega
     · have hm0:min 0 m=0:=Nat.zero_min m
       rw [hm0] at hnr hnc0
       have:news=[]:=List.eq_nil_of_length_eq_zero (by rw [hnr.1]; simp)
       subst this
       refine ⟨.int .i64 0,w,_,_,δ,?_,⟨rfl,rfl⟩,by simp only [Qah,hm0]; rfl,?_⟩
       · have hmn:Nat.min m 0=0:=Nat.min_zero m
         cases a <;> simp [Builtin.copy_,h0,g0,g1,run_underlying ht,Qa4 hsz,hlen,hmn,hnc0,goInt,storeCells]
       · have hrow:(fun y=>Qns (Nat.ble i y&&Nat.blt y (i + min 0 m)) (rows (y - i)) (b.row y))=b.row:=by
           funext y
           rw [Qeg]
           have:(Nat.ble i y&&Nat.blt y (i + min 0 m))=false:=by
             cases hb:(Nat.ble i y&&Nat.blt y (i + min 0 m)) with
             | false=>rfl
             | true =>
               rw [Bool.and_eq_true] at hb
               have h1:=Nat.le_of_ble_eq_true hb.1
               have h2:=hb.2
               simp [Nat.blt] at h2
               omega
           rw [this,cond_false]
         cases hno:p.no with
         | true =>
           exact Qrh hr hk d1 hno ⟨hlv.s,hlv.n,hlv.no,fun hh=>(by rw [hno] at hh; cases hh),hlv.loose⟩
         | false =>
           refine Qec hr hk hrw hdead d1 hno (fun _=>⟨hlv.s,hlv.n,hlv.no,fun _=>?_,hlv.loose⟩) rfl rfl rfl (Nat.le_refl _) (fun _ _ _=>rfl)
           obtain ⟨cc,e0,fz,c1,c2,c3,c4,c5,c6,c7⟩:=Qap hsp (hlv.rep hno)
           exact Qbt hsp ⟨cc,e0,fz,c1,c2,fun hf=>hfl (min 0 m) (Nat.le_refl _) hf c3,c4,c5,c6,fun y hy=>by rw [hrow]; exact c7 y hy⟩
theorem Qzg {z:Array Value} (hz:0<z.size) (n:Nat):Rows δ z.size n (fun _=>z.toList.map .v) (Builtin.zeroCells z n).toList:=by
 refine ⟨by rw [Array.length_toList,Qft],fun y hy=>⟨by simp,fun j x hx=>?_⟩⟩
 rw [List.getElem?_map] at hx
 cases hj:z.toList[j]? with
 | none=>rw [hj] at hx; cases hx
 | some v =>
   rw [hj] at hx
   simp only [Option.map_some,Option.some.injEq] at hx
   subst hx
   have hj':j<z.size:=by have:=(List.getElem?_eq_some_iff.1 hj).1; simpa using this
   have hv:z[j]'hj'=v:=by have:=(List.getElem?_eq_some_iff.1 hj).2; simpa using this
   have hlt:y*z.size + j<n*z.size:=by
     have:(y + 1)*z.size≤n*z.size:=Nat.mul_le_mul_right _ hy
     rw [Nat.add_mul] at this
     omega
   have hmod:(y*z.size + j) % z.size=j:=by rw [Nat.mul_comm,Nat.mul_add_mod,Nat.mod_eq_of_lt hj']
   refine ⟨v,?_,by simp only [Qah]⟩
   simp only [Nat.zero_add,Array.toArray_toList,Builtin.zeroCells,Array.getElem?_map,Array.getElem?_range,hlt,if_true,Option.map_some,hmod]
   rw [getElem!_pos z j hj',hv]
theorem Q7y {ts:Array TypeId} {as:Array Value} {ty t:TypeId} {s:SV} {rs:Value} {e:Eff} (he:Q3j P t s h=some e) (h0:ts[0]?=some t) (g0:as[0]?=some rs)
   (hs:Qah δ s rs) (hr:HRep δ h w):ValOk δ h w e ((Builtin.clear_ ts ty as).run P w):=by
 unfold Q3j at he
 split at he <;> try (cases he; done)
 rename_i el ht
 split at he <;> try (cases he; done)
 rename_i sz z hsz hz
 cases hb:(Nat.beq sz 0||!Nat.beq z.length sz||!z.all Qep) with
 | true=>rw [hb] at he; cases he
 | false =>
   rw [hb,cond_false] at he
   simp only [Bool.or_eq_false_iff,Bool.not_eq_false'] at hb
   have hszp:0<sz:=by
     rcases Nat.eq_zero_or_pos sz with e0 | e0
     · subst e0; simp at hb
     · exact e0
   obtain ⟨zv,z1,z2⟩:=Qht (P:=P) hz w
   have hzs:zv.cells.size=sz:=by have:=Nat.eq_of_beq_eq_true hb.1.2; rw [z2] at this; simpa using this
   split at he
   · rename_i k s' i n c
     split at he <;> try (cases he; done)
     rename_i b hk
     cases hb2:(b.rw&&!b.off&&Nat.beq s' sz) with
     | false=>rw [hb2] at he; cases he
     | true =>
       rw [hb2,cond_true] at he
       cases he
       simp only [Bool.and_eq_true,Bool.not_eq_true'] at hb2
       obtain ⟨⟨hrw,hoff⟩,hss⟩:=hb2
       obtain ⟨hdead,hsp⟩:=Blk.off_false hoff
       have:=Nat.eq_of_beq_eq_true hss
       subst this
       obtain ⟨p,d1,d2⟩:=hr.blk k b hk
       have hlv:=d2 hdead
       simp only [Qah] at hs
       obtain ⟨p',e1,e2,e3,e4⟩:=hs
       rw [d1] at e1; cases e1
       have hbs:b.size=s':=hlv.s.symm.trans e2
       have hpn:=hlv.n
       have hsame:n=0→Upd δ h w δ [(k,{b with row:=fun y=>Qns (Nat.ble i y&&Nat.blt y (i + n)) z (b.row y)})] w:=fun hn=>by
         subst hn
         have hrow:(fun y=>Qns (Nat.ble i y&&Nat.blt y (i + 0)) z (b.row y))=b.row:=by
           funext y
           rw [Qeg]
           have:(Nat.ble i y&&Nat.blt y (i + 0))=false:=by
             cases hb:(Nat.ble i y&&Nat.blt y (i + 0)) with
             | false=>rfl
             | true =>
               rw [Bool.and_eq_true] at hb
               have h1:=Nat.le_of_ble_eq_true hb.1
               have h2:=hb.2
               simp [Nat.blt] at h2
               omega
           rw [this,cond_false]
         rw [hrow]
         cases hno:p.no with
         | true=>exact Qrh hr hk d1 hno ⟨hlv.s,hlv.n,hlv.no,fun hh=>(by rw [hno] at hh; cases hh),hlv.loose⟩
         | false=>exact Qec hr hk hrw hdead d1 hno (fun _=>⟨hlv.s,hlv.n,hlv.no,fun _=>hlv.rep hno,hlv.loose⟩) rfl rfl rfl (Nat.le_refl _) (fun _ _ _=>rfl)
       rcases e4 with ⟨hno,c0,hc0,rfl⟩ | ⟨hn0,hc0,a,rfl⟩
       · by_cases hn0:n=0
         · have hu:=hsame hn0
           subst hn0
           refine ⟨.tuple #[],w,_,_,δ,?_,⟨rfl,rfl⟩,by simp only [Qah]; exact ⟨[],rfl,by simp only [Qaw]⟩,hu⟩
           simp [Builtin.clear_,h0,g0,run_underlying ht]
         · obtain ⟨cc,e0,fz,c1,c2,c3,c4,c5,c6,c7⟩:=Qap hsp (hlv.rep hno)
           have hnr:=Qzg (δ:=δ) (z:=zv.cells) (by omega) n
           rw [hzs] at hnr
           generalize hnews:(Builtin.zeroCells zv.cells n).toList=news at hnr
           have hone:∀ v∈news,Qcr v:=Qpt hnr hszp fun y hy=>by
             show Qho _
             unfold Qho
             have:(zv.cells.toList.map SV.v).all Qep=true:=z2 ▸ hb.2
             rw [this]
             trivial
           have hlast:∀ q,q<news.length→p.o + i*s' + 0 + q<cc.size:=fun q hq=>by
             rw [hnr.1] at hq
             obtain ⟨g1,g2⟩:=c7 (i + n - 1) (by omega)
             rw [hbs] at g1 g2
             have hj:s' - 1<(b.row (i + n - 1)).length:=by omega
             obtain ⟨r',g3,_⟩:=g2 (s' - 1) _ (List.getElem?_eq_getElem hj)
             have g4:=(Array.getElem?_eq_some_iff.1 g3).1
             have e:i*s' + n*s'=(i + n - 1)*s' + s':=by
               rw [← Nat.add_mul,show i + n=(i + n - 1) + 1 by omega,Nat.add_mul]; simp
             omega
           obtain ⟨w',c',k1,k2,k3,k4,k5,k6,k7,k8⟩:=Qd2 (P:=P) (r:=p.r) (e:=e0) news 0 (p.o + i*s') w cc c1 (c2 hrw) hlast hone
           have hcs:=Qjp hlast k3
           refine ⟨.tuple #[],w',_,_,δ,?_,⟨rfl,rfl⟩,by simp only [Qah]; exact ⟨[],rfl,by simp only [Qaw]⟩,Qec hr hk hrw hdead d1 hno (fun _=>⟨hlv.s,hlv.n,hlv.no,fun _=>Qbt hsp ⟨c',e0,fz,k2,fun hh=>by rw [hcs]; exact c2 hh,fun hf y hy=>?_,c4,by rw [hcs]; exact c5,fun hh=>by rw [hcs]; exact c6 hh,fun y hy=>?_⟩,hlv.loose⟩) k6 k7 k8 (by omega) (fun r hne _=>k4 r hne)⟩
           · have hn1:∃ m,n=m + 1:=⟨n - 1,by omega⟩
             obtain ⟨m,rfl⟩:=hn1
             simp [Builtin.clear_,h0,g0,run_underlying ht,z1,hnews,k1]
           · simp only
             rw [Qeg]
             cases hb:(Nat.ble i y&&Nat.blt y (i + n)) with
             | true=>rw [cond_true,z2]; exact Qfn _
             | false=>rw [cond_false]; exact c3 hf y hy
           · simp only
             rw [Qeg]
             obtain ⟨l1,l2⟩:=c7 y hy
             rw [hbs] at l1 l2 ⊢
             cases hb:(Nat.ble i y&&Nat.blt y (i + n)) with
             | true =>
               rw [Bool.and_eq_true] at hb
               have h1:=Nat.le_of_ble_eq_true hb.1
               have h2:=hb.2
               simp [Nat.blt] at h2
               rw [cond_true,z2]
               obtain ⟨f1,f2⟩:=hnr.2 (y - i) (by omega)
               refine ⟨f1,fun j v hv=>?_⟩
               obtain ⟨r',f3,f4⟩:=f2 j v hv
               refine ⟨r',?_,f4⟩
               have hj:j<s':=by rw [← f1]; exact (List.getElem?_eq_some_iff.1 hv).1
               have hlt:(y - i)*s' + j<n*s':=by
                 have:(y - i + 1)*s'≤n*s':=Nat.mul_le_mul_right _ (by omega)
                 rw [Nat.add_mul] at this
                 omega
               have e:y*s'=i*s' + (y - i)*s':=by rw [← Nat.add_mul]; congr 1; omega
               rw [k3,if_pos (by rw [hnr.1]; omega)]
               simp only [Nat.zero_add,List.getElem?_toArray] at f3
               rw [← f3]
               congr 1
               omega
             | false =>
               rw [cond_false]
               refine ⟨l1,fun j v hv=>?_⟩
               obtain ⟨r',f3,f4⟩:=l2 j v hv
               refine ⟨r',?_,f4⟩
               have hj:j<s':=by rw [← l1]; exact (List.getElem?_eq_some_iff.1 hv).1
               rw [k3,if_neg]
               · exact f3
               · rintro ⟨a1,a2⟩
                 rw [hnr.1] at a2
                 rw [Bool.and_eq_false_iff] at hb
                 have:¬ i≤y∨¬ y<i + n:=by
                   rcases hb with hb | hb
                   · left; intro hle; rw [Nat.ble_eq_true_of_le hle] at hb; cases hb
                   · right; intro hlt; rw [show Nat.blt y (i + n)=true from Nat.ble_eq_true_of_le hlt] at hb; cases hb
                 rcases this with h1 | h1
                 · have:(y + 1)*s'≤i*s':=Nat.mul_le_mul_right _ (by omega)
                   rw [Nat.add_mul] at this
                   omega
                 · have:(i + n)*s'≤y*s':=Nat.mul_le_mul_right _ (by omega)
                   rw [Nat.add_mul] at this
                   omega
       · have hu:=hsame hn0
         subst hn0
         refine ⟨.tuple #[],w,_,_,δ,?_,⟨rfl,rfl⟩,by simp only [Qah]; exact ⟨[],rfl,by simp only [Qaw]⟩,hu⟩
         cases a <;> simp [Builtin.clear_,h0,g0,run_underlying ht]
   · rename_i n c
     cases hb2:(Nat.beq n 0&&Nat.beq c 0) with
     | false=>rw [hb2] at he; cases he
     | true =>
       rw [hb2,cond_true] at he
       cases he
       simp only [Qah] at hs
       subst hs
       exact ValOk.same hr rfl (y:=.tuple #[]) (by simp [Builtin.clear_,h0,g0,run_underlying ht]) (by simp only [Qah]; exact ⟨[],rfl,by simp only [Qaw]⟩)
   · cases he
theorem Qwy {ρS:Operand→SV} {ρ:Operand→Value} (hρ:∀ x,Qah δ (ρS x) (ρ x)) {o:Option Operand} {b:Option Int} (hb:Qnv ρS o=some b) :
   (o=none∧b=none)∨∃ x k n,o=some x∧b=some n∧ρ x=.int k n:=by
 unfold Qnv at hb
 split at hb
 · cases hb; exact .inl ⟨rfl,rfl⟩
 · rename_i x
   split at hb <;> try (cases hb; done)
   rename_i k n hx
   cases hb
   have:=hρ x
   rw [hx] at this
   simp only [Qah] at this
   exact .inr ⟨x,k,n,rfl,rfl,this⟩
theorem Qf0 {isSlice:Bool} {len cap:Nat} {lo hi:Option Operand} {l r:Option Int} {ρ:Operand→Value} (hl:(lo=none∧l=none)∨∃ x k n,lo=some x∧l=some n∧ρ x=.int k n)
   (hh:(hi=none∧r=none)∨∃ x k n,hi=some x∧r=some n∧ρ x=.int k n) (h1:0≤l.getD 0) (h2:l.getD 0≤r.getD len) (h3:r.getD len≤len) (h4:len≤cap) :
   (Instr.sliceBounds isSlice len cap (lo.map ρ) (hi.map ρ) none).run P w=.ok ((l.getD 0).toNat,(r.getD len).toNat,cap) w:=by
 have key:∀ (k:IntKind) (n:Int) (y:Nat) (cd:BoundsCode),0≤n→n≤y→(Instr.sliceBound (.int k n) y cd).run P w=.ok n.toNat w:=fun k n y cd g1 g2=>by
   simp [Instr.sliceBound,asIntOf,g1,g2]
 rcases hh with ⟨rfl,rfl⟩ | ⟨x,k,n,rfl,rfl,hx⟩ <;> rcases hl with ⟨rfl,rfl⟩ | ⟨x',k',n',rfl,rfl,hx'⟩
 · simp [Instr.sliceBounds]
 · simp only [Option.getD_some,Option.getD_none] at h1 h2 h3
   simp [Instr.sliceBounds,hx',key _ _ _ _ h1 h2]
 · simp only [Option.getD_some,Option.getD_none] at h1 h2 h3
   have h5:n≤(cap:Int):=by omega
   simp [Instr.sliceBounds,hx,key _ _ _ _ h2 h5]
 · simp only [Option.getD_some,Option.getD_none] at h1 h2 h3
   have h5:n≤(cap:Int):=by omega
   have h6:n'≤((n.toNat:Nat):Int):=by omega
   have h7:0≤n:=by omega
   simp [Instr.sliceBounds,hx,hx',key _ _ _ _ h7 h5,key _ _ _ _ h1 h6]
theorem Q6h {t:TypeId} {x:SV} {rx:Value} {lo hi:Option Operand} {l r:Option Int} {ρ:Operand→Value} {e:Eff} (he:Q0i P t x l r=some e) (hx:Qah δ x rx)
   (hl:(lo=none∧l=none)∨∃ x k n,lo=some x∧l=some n∧ρ x=.int k n) (hh:(hi=none∧r=none)∨∃ x k n,hi=some x∧r=some n∧ρ x=.int k n) (hp:e.asks) :
   ∃ p v y,e=.det p v []∧Qah δ v y∧(Instr.sliceAt t rx (lo.map ρ) (hi.map ρ) none).run P w=.ok y w:=by
 unfold Q0i at he
 simp only at he
 split at he
 · -- a string
   rename_i s hu
   cases he
   obtain ⟨h1,h2,h3⟩:=hp _ rfl
   simp only [Qah] at hx
   subst hx
   refine ⟨_,_,.string (s.extract (l.getD 0).toNat (r.getD s.size).toNat),rfl,by simp only [Qah],?_⟩
   have:=Qf0 (P:=P) (w:=w) (isSlice:=false) (cap:=s.size) hl hh h1 h2 h3 (Nat.le_refl _)
   simp [Instr.sliceAt,Instr.slice,run_underlying hu,this]
 · -- a slice
   rename_i el k s i n c hu
   split at he <;> try (cases he; done)
   rename_i m hm
   cases hb:Nat.beq m s with
   | false=>rw [hb] at he; cases he
   | true =>
     rw [hb,cond_true] at he
     cases he
     have:=Nat.eq_of_beq_eq_true hb
     subst this
     obtain ⟨h1,h2,h3,h4⟩:=hp _ rfl
     simp only [Qah] at hx
     obtain ⟨p,d1,d2,d3,d4⟩:=hx
     rcases d4 with ⟨hno,c',hc',rfl⟩ | ⟨rfl,hc0,a,rfl⟩
     · have h4':n≤c':=by rcases hc' with rfl | hx; exact h4; exact hx.2
       have hb:=Qf0 (P:=P) (w:=w) (isSlice:=true) (cap:=c') hl hh h1 h2 h3 h4'
       by_cases hc:c'=(l.getD 0).toNat
       · refine ⟨_,_,.slice (some ⟨p.r,p.o + i*m,none⟩) 0 0,rfl,?_,?_⟩
         · simp only [Qah]
           have e1:(r.getD n).toNat - (l.getD 0).toNat=0:=by omega
           rw [e1]
           refine ⟨p,d1,d2,by omega,.inr ⟨rfl,?_,_,rfl⟩⟩
           rcases hc' with rfl | hx
           · exact .inl (by omega)
           · exact .inr hx.1
         · have e1:(r.getD n).toNat - (l.getD 0).toNat=0:=by omega
           have e2:c' - (l.getD 0).toNat=0:=by omega
           simp only [Instr.sliceAt,Instr.slice,Sem.run_bind,run_underlying hu,Result.andThen_ok,hb,Qa4 hm,Sem.run_pure,if_pos hc,e1,e2]
       · refine ⟨_,_,.slice (some ⟨p.r,p.o + i*m + (l.getD 0).toNat*m,none⟩) ((r.getD n).toNat - (l.getD 0).toNat) (c' - (l.getD 0).toNat),rfl,?_,?_⟩
         · simp only [Qah]
           refine ⟨p,d1,d2,by omega,.inl ⟨hno,_,?_,by rw [Nat.add_mul,Nat.add_assoc]⟩⟩
           rcases hc' with rfl | hx
           · exact .inl rfl
           · exact .inr ⟨hx.1,by omega⟩
         · simp only [Instr.sliceAt,Instr.slice,Sem.run_bind,run_underlying hu,Result.andThen_ok,hb,Qa4 hm,Sem.run_pure,if_neg hc,Option.map_some,Addr.add_lit]
     · have hb:=Qf0 (P:=P) (w:=w) (isSlice:=true) (cap:=0) hl hh h1 h2 h3 (Nat.le_refl _)
       have e1:(l.getD 0).toNat=0:=by omega
       have e2:(r.getD (0:Nat)).toNat=0:=by omega
       have e2':(r.getD 0).toNat=0:=e2
       refine ⟨_,_,.slice a 0 0,rfl,?_,?_⟩
       · simp only [Qah]
         refine ⟨p,d1,d2,by omega,.inr ⟨by omega,hc0.imp (fun e=>by omega) id,_,rfl⟩⟩
       · simp only [Instr.sliceAt,Instr.slice,Sem.run_bind,run_underlying hu,Result.andThen_ok,hb,Qa4 hm,Sem.run_pure,e1,e2,if_true,Nat.sub_zero]
 · -- nil
   rename_i el n c hu
   split at he <;> try (cases he; done)
   rename_i m hsz
   cases hb:(Nat.beq n 0&&Nat.beq c 0) with
   | false=>rw [hb] at he; cases he
   | true =>
     rw [hb,cond_true] at he
     cases he
     rw [Bool.and_eq_true] at hb
     have:=Nat.eq_of_beq_eq_true hb.1
     subst this
     have:=Nat.eq_of_beq_eq_true hb.2
     subst this
     obtain ⟨h1,h2,h3⟩:=hp _ rfl
     simp only [Qah] at hx
     subst hx
     refine ⟨_,_,.slice none 0 0,rfl,by simp only [Qah],?_⟩
     have hm:(sizeOf el).run P w=.ok 0 w∨True:=.inr trivial
     have hb:=Qf0 (P:=P) (w:=w) (isSlice:=true) (len:=0) (cap:=0) hl hh h1 h2 h3 (Nat.le_refl _)
     have e1:(l.getD 0).toNat=0:=by omega
     have e2:(r.getD (0:Nat)).toNat=0:=by omega
     simp only [Instr.sliceAt,Instr.slice,Sem.run_bind,run_underlying hu,Result.andThen_ok,hb,Qa4 hsz,Sem.run_pure,e1,e2,if_true,Nat.sub_zero]
 · -- an array
   rename_i n el k m len hu
   split at he <;> try (cases he; done)
   rename_i m' hm
   cases hb:(Nat.beq m m'&&Nat.beq n len) with
   | false=>rw [hb] at he; cases he
   | true =>
     rw [hb,cond_true] at he
     cases he
     rw [Bool.and_eq_true] at hb
     have:=Nat.eq_of_beq_eq_true hb.1
     subst this
     have:=Nat.eq_of_beq_eq_true hb.2
     subst this
     obtain ⟨h1,h2,h3⟩:=hp _ rfl
     simp only [Qah] at hx
     obtain ⟨p,d1,d2,d3,hno,rfl⟩:=hx
     have hb:=Qf0 (P:=P) (w:=w) (isSlice:=false) (cap:=n) hl hh h1 h2 h3 (Nat.le_refl _)
     by_cases hc:n=(l.getD 0).toNat
     · refine ⟨_,_,.slice (some ⟨p.r,p.o,none⟩) 0 0,rfl,?_,?_⟩
       · simp only [Qah]
         have e1:(r.getD n).toNat - (l.getD 0).toNat=0:=by omega
         have e2:n - (l.getD 0).toNat=0:=by omega
         rw [e1,e2]
         exact ⟨p,d1,d2,by omega,.inr ⟨rfl,.inl rfl,_,rfl⟩⟩
       · have e1:(r.getD n).toNat - (l.getD 0).toNat=0:=by omega
         have e2:n - (l.getD 0).toNat=0:=by omega
         simp only [Instr.sliceAt,Instr.slice,Sem.run_bind,run_underlying hu,Result.andThen_ok,Instr.sureAddr,Sem.run_pure,hb,Qa4 hm,if_pos hc,e1,e2]
     · refine ⟨_,_,.slice (some ⟨p.r,p.o + (l.getD 0).toNat*m,none⟩) ((r.getD n).toNat - (l.getD 0).toNat) (n - (l.getD 0).toNat),rfl,?_,?_⟩
       · simp only [Qah]
         exact ⟨p,d1,d2,by omega,.inl ⟨hno,_,.inl rfl,rfl⟩⟩
       · simp only [Instr.sliceAt,Instr.slice,Sem.run_bind,run_underlying hu,Result.andThen_ok,Instr.sureAddr,Sem.run_pure,hb,Qa4 hm,if_neg hc,Addr.add_lit]
 · cases he
end
end Go.SE
end
