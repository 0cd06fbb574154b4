/-
 What the proof uses, part 6.
-/
import Derived.MapKept
import Derived.ChangeMaps5
import Derived.Test.YthkihlpeaidlnaaGreatZr5
set_option maxRecDepth 100000
set_option linter.unusedSimpArgs false
set_option linter.unusedVariables false

section
namespace Go.SE
open Go.ChangeMaps (setBlock heap_setBlock_same heap_setBlock_other)
section
variable {P:Program} {δ:Dict} {h:Qbo} {w:World}
theorem Qob {k:Nat} {b:Blk} {m:MapC} (hm:Qk5 h k=some (b,m)):h k=some b∧b.dead=false∧b.sp=some m:=by
 unfold Qk5 at hm
 split at hm
 · rename_i b' hk
   split at hm
   · rename_i m' hs
     cases hd:b'.dead with
     | true=>rw [hd] at hm; cases hm
     | false=>rw [hd,cond_false] at hm; cases hm; exact ⟨hk,hd,hs⟩
   · cases hm
 · cases hm
theorem Qf6 {t e:TypeId} {n:Nat} (hm:Q69 P t=some (e,n)):∃ k i cs,P.underlying t=some (.map k e)∧P.underlying k=some (.int .i64)∧P.info? e=some i∧i.zero=some (.agg cs)∧Ql0 cs.toList=true∧cs.toList.length=n:=by
 unfold Q69 at hm
 split at hm <;> try (cases hm; done)
 rename_i k e' hu
 split at hm <;> try (cases hm; done)
 rename_i m i h1 h2 h3 h4
 split at hm <;> try (cases hm; done)
 rename_i cs hcs
 cases hb:(Ql0 cs.toList&&Nat.beq cs.toList.length m) with
 | false=>rw [hb] at hm; cases hm
 | true =>
   rw [hb,cond_true] at hm
   cases hm
   rw [Bool.and_eq_true] at hb
   exact ⟨k,i,cs,hu,h1,h4,hcs,hb.1,Nat.eq_of_beq_eq_true hb.2⟩
theorem Qpa:∀ {l:List Value},Ql0 l=true→l=(List.range l.length).map fun _=>.int .i64 0
 | [],_=>rfl
 | x :: l,h=>by
   have hx:x=.int .i64 0∧Ql0 l=true:=by
     unfold Ql0 at h
     split at h
     · rename_i hh; cases hh
     · rename_i hh
       cases hh
       simp only [Bool.and_eq_true,decide_eq_true_eq] at h
       obtain ⟨rfl,h2⟩:=h
       exact ⟨rfl,h2⟩
     · cases h
   rw [hx.1,List.length_cons,List.range_succ_eq_map,List.map_cons,List.map_map]
   congr 1
   exact Qpa hx.2
theorem Qhx {k:Nat} {b:Blk} {m:MapC} {r:Value} (hr:HRep δ h w) (hm:Qk5 h k=some (b,m)) (hx:Qah δ (.mp k) r) :
   ∃ p es clock,δ k=some p∧p.no=false∧Live δ b w p∧r=.map (some p.r)∧w.heap[p.r]?=some (.map es clock)∧MapRep b.size m es clock:=by
 obtain ⟨h1,h2,h3⟩:=Qob hm
 obtain ⟨p,d1,d2⟩:=hr.blk k b h1
 simp only [Qah] at hx
 obtain ⟨p',e1,e2,rfl⟩:=hx
 rw [d1] at e1; cases e1
 have hlv:=d2 h2
 have hb:=hlv.rep e2
 unfold Qcm at hb
 rw [h3] at hb
 obtain ⟨es,clock,g1,g2⟩:=hb
 exact ⟨p,es,clock,d1,e2,hlv,rfl,g1,g2⟩
theorem Qwm (n:Int):∀ (l:List MapEntry) (i:Nat),(∀ x∈l,∃ k:Int,x.key=.int .i64 k) →
   (∃ j x,l[j]?=some x∧x.key=.int .i64 n∧Instr.findNow (.int .i64) (.int .i64 n) l i=some (some (i + j,x.val))∧∀ j' y,j'<j→l[j']?=some y→y.key≠.int .i64 n)∨((∀ x∈l,x.key≠.int .i64 n)∧Instr.findNow (.int .i64) (.int .i64 n) l i=some none)
 | [],i,_=>.inr ⟨fun x hx=>(by cases hx),rfl⟩
 | x :: l,i,hk=>by
   obtain ⟨k,hx⟩:=hk x (by simp)
   by_cases e:n=k
   · subst e
     exact .inl ⟨0,x,rfl,hx,by simp [Instr.findNow,hx,Instr.sameNow],fun j' y hj=>by omega⟩
   · have hf:(n==k)=false:=by simpa using e
     rcases Qwm n l (i + 1) (fun y hy=>hk y (by simp [hy])) with ⟨j,y,h1,h2,h3,h4⟩ | ⟨h1,h2⟩
     · refine .inl ⟨j + 1,y,by simpa using h1,h2,?_,fun j' z hj' hz=>?_⟩
       · simp [Instr.findNow,hx,Instr.sameNow,hf,h3]; omega
       · cases j' with
         | zero=>simp at hz; subst hz; rw [hx]; intro hh; injection hh with _ hh; exact e hh.symm
         | succ j'=>exact h4 j' z (by omega) (by simpa using hz)
     · refine .inr ⟨fun y hy=>?_,?_⟩
       · rcases List.mem_cons.1 hy with rfl | hy
         · rw [hx]; intro hh; injection hh with _ hh; exact e hh.symm
         · exact h1 y hy
       · simp [Instr.findNow,hx,Instr.sameNow,hf,h2]
theorem Qlp {sz:Nat} {m:MapC} {es:Array MapEntry} {clock:Nat} (hm:MapRep sz m es clock) {kt:TypeId} (hk:P.underlying kt=some (.int .i64)) (n:Int) (w:World) :
   (∃ j x,es.toList[j]?=some x∧x.key=.int .i64 n∧m.has n=true∧x.val=.agg ((List.range sz).map fun i=>.int .i64 (m.val n i)).toArray∧(Instr.findKey kt (.int .i64 n) es.toList).run P w=.ok (some (j,x.val)) w) ∨
   (m.has n=false∧(∀ x∈es.toList,x.key≠.int .i64 n)∧(Instr.findKey kt (.int .i64 n) es.toList).run P w=.ok none w):=by
 rcases Qwm n es.toList 0 hm.key with ⟨j,x,h1,h2,h3,_⟩ | ⟨h1,h2⟩
 · have hmem:x∈es.toList:=List.mem_of_getElem? h1
   refine .inl ⟨j,x,h1,h2,(hm.has n).2 ⟨x,hmem,h2⟩,hm.val x hmem n h2,?_⟩
   simp [Instr.findKey,run_underlying hk,h3]
 · refine .inr ⟨?_,h1,?_⟩
   · cases hh:m.has n with
     | false=>rfl
     | true=>obtain ⟨x,hx,hx2⟩:=(hm.has n).1 hh; exact absurd hx2 (h1 x hx)
   · simp [Instr.findKey,run_underlying hk,h2]
theorem Qeq {kt:TypeId} (hk:P.underlying kt=some (.int .i64)) (em:Bool) (n:Int) (w:World):(Instr.checkKey em 10000 kt (.int .i64 n)).run P w=.ok () w:=by
 have key:∀ D,(Instr.checkKey em (D + 1) kt (.int .i64 n)).run P w=.ok () w:=fun D=>by simp [Instr.checkKey,run_underlying hk]
 exact key 9999
theorem Qso (m:MapC) (n:Int) (sz:Nat):Qaw δ (m.cells n sz) ((List.range sz).map fun i=>.int .i64 (m.val n i)):=by
 have:=Qkh (δ:=δ) ((List.range sz).map fun i=>Value.int .i64 (m.val n i))
 rw [List.map_map] at this
 exact this
theorem Zea {t:TypeId} {x ix:SV} {rx rix:Value} {ok:Bool} {e:Eff} (he:Zeb P t x ix ok h=some e) (hx:Qah δ x rx) (hix:Qah δ ix rix) (hr:HRep δ h w) :
   ValOk δ h w e ((Instr.lookup t rx rix ok).run P w):=by
 unfold Zeb at he
 split at he <;> try (cases he; done)
 rename_i el sz k n hmt
 obtain ⟨kt,i,cs,h1,h2,h3,h4,h5,h6⟩:=Qf6 hmt
 split at he <;> try (cases he; done)
 rename_i b m hm
 cases hb:Nat.beq b.size sz with
 | false=>rw [hb] at he; cases he
 | true =>
 rw [hb,cond_true] at he
 have hbs:=Nat.eq_of_beq_eq_true hb
 obtain ⟨p,es,clock,d1,d2,d3,rfl,d5,d6⟩:=Qhx hr hm hx
 rw [hbs] at d6
 simp only [Qah] at hix
 subst hix
 have hz1:(zeroValue el).run P w=.ok (.agg cs) w:=by simp [zeroValue,typeInfo,h3,h4]
 have hget:(getObj p.r).run P w=.ok (.map es clock) w:=MapKept.run_getObj_map d5
 have hrun:∃ v,v=Value.agg ((List.range sz).map fun i=>.int .i64 (m.val n i)).toArray∧(Instr.lookup t (.map (some p.r)) (.int .i64 n) ok).run P w=.ok (if ok then .tuple #[v,.bool (m.has n)] else v) w:=by
   rcases Qlp d6 h2 n w with ⟨j,x,f1,f2,f3,f4,f5⟩ | ⟨f1,f2,f3⟩
   · refine ⟨_,rfl,?_⟩
     rw [f4] at f5
     simp [Instr.lookup,run_underlying h1,hget,Qeq h2,f5,f3]
   · refine ⟨_,rfl,?_⟩
     have e1:cs=((List.range sz).map fun i=>Value.int .i64 (m.val n i)).toArray:=by
       apply Array.ext'
       rw [Qpa h5,h6]
       exact List.map_congr_left fun i hi=>by rw [d6.off n f1 i (List.mem_range.1 hi)]
     rw [e1] at hz1
     simp [Instr.lookup,run_underlying h1,hget,Qeq h2,f3,hz1,f1]
 obtain ⟨v,rfl,hrun⟩:=hrun
 cases ok <;> simp only [Option.some.injEq] at he <;> subst he
 · exact ValOk.same hr rfl hrun (by simp only [Qah]; exact ⟨_,rfl,Qso m n sz⟩)
 · exact ValOk.same hr rfl hrun (by simp only [Qah]; exact ⟨[_,_],rfl,by simp only [Qaw,Qah,and_true]; exact ⟨_,rfl,Qso m n sz⟩⟩)
theorem Q2f {t ty:TypeId} {x:SV} {rx:Value} {e:Eff} (he:Quh P t x h=some e) (hx:Qah δ x rx) (hr:HRep δ h w) {ts:Array TypeId} {as:Array Value} (ht:ts[0]?=some t) (ha:as[0]?=some rx) :
   ValOk δ h w e ((Builtin.len_ ts ty as).run P w):=by
 unfold Quh at he
 split at he <;> try (cases he; done)
 rename_i q k hmt
 obtain ⟨kt,_,_,h1,_⟩:=Qf6 (e:=q.1) (n:=q.2) hmt
 split at he <;> try (cases he; done)
 rename_i b m hm
 cases he
 obtain ⟨p,es,clock,d1,d2,d3,rfl,d5,d6⟩:=Qhx hr hm hx
 have hget:(getObj p.r).run P w=.ok (.map es clock) w:=MapKept.run_getObj_map d5
 refine ValOk.same hr rfl (y:=.int .i64 (m.cnt:Nat)) ?_ (absV_v.2 rfl)
 simp [Builtin.len_,ht,ha,run_underlying h1,hget,goInt,d6.cnt]
theorem Qp5 {k:Nat} {b:Blk} {m m':MapC} {p:Loc} {es es':Array MapEntry} {clock clock':Nat} (hr:HRep δ h w) (hm:Qk5 h k=some (b,m)) (hrw:b.rw=true) (hd:δ k=some p) (hno:p.no=false) (hlv:Live δ b w p)
   (hb:w.heap[p.r]?=some (.map es clock)) (hrep:MapRep b.size m' es' clock'):Upd δ h w δ [(k,{b with sp:=some m'})] (setBlock w p.r (.map es' clock')):=by
 obtain ⟨h1,h2,h3⟩:=Qob hm
 refine Qec hr h1 hrw h2 hd hno (fun _=>⟨hlv.s,hlv.n,hlv.no,fun _=>?_,hlv.loose⟩) rfl rfl rfl (by simp [setBlock]) (fun r hne _=>heap_setBlock_other hb _ hne)
 exact ⟨es',clock',heap_setBlock_same hb _,hrep⟩
theorem MapRep.put {sz:Nat} {m:MapC} {es:Array MapEntry} {clock:Nat} (hm:MapRep sz m es clock) {n:Int} (hn:(Lit.int .i64 n).wf=true) (cs:List Int) (hsz:cs.length=sz) :
   (∀ j x,es.toList[j]?=some x→x.key=.int .i64 n→MapRep sz (m.put n cs) (es.modify j fun e=>{e with key:=.int .i64 n,val:=.agg (cs.map (Value.int .i64)).toArray}) clock) ∧
   (m.has n=false→MapRep sz (m.put n cs) (es.push {key:=.int .i64 n,val:=.agg (cs.map (Value.int .i64)).toArray,born:=clock}) (clock + 1)):=by
 have hcs:(cs.map (Value.int .i64))=(List.range sz).map fun i=>.int .i64 (cs.getD i 0):=by
   apply List.ext_getElem
   · simp [hsz]
   · intro i h1 h2
     simp at h1
     simp [List.getElem?_eq_getElem h1]
 constructor
 · intro j x hj hx
   have hmem:x∈es.toList:=List.mem_of_getElem? hj
   have hhas:m.has n=true:=(hm.has n).2 ⟨x,hmem,hx⟩
   have hone:∀ j' y,es.toList[j']?=some y→y.key=.int .i64 n→j'=j:=fun j' y hj' hy=>by
     rcases Nat.lt_trichotomy j' j with hlt | he | hlt
     · have h5:=List.pairwise_iff_getElem.1 hm.one j' j (List.getElem?_eq_some_iff.1 hj').1 (List.getElem?_eq_some_iff.1 hj).1 hlt
       rw [(List.getElem?_eq_some_iff.1 hj').2,(List.getElem?_eq_some_iff.1 hj).2] at h5
       exact absurd (hy.trans hx.symm) h5
     · exact he
     · have h5:=List.pairwise_iff_getElem.1 hm.one j j' (List.getElem?_eq_some_iff.1 hj).1 (List.getElem?_eq_some_iff.1 hj').1 hlt
       rw [(List.getElem?_eq_some_iff.1 hj').2,(List.getElem?_eq_some_iff.1 hj).2] at h5
       exact absurd (hx.trans hy.symm) h5
   generalize hes':(es.modify j fun e=>{e with key:=.int .i64 n,val:=.agg (cs.map (Value.int .i64)).toArray})=es'
   have hl:∀ j',es'.toList[j']?=if j'=j then some {x with key:=.int .i64 n,val:=.agg (cs.map (Value.int .i64)).toArray} else es.toList[j']?:=fun j'=>by
     rw [← hes',Array.getElem?_toList,Array.getElem?_modify,← Array.getElem?_toList]
     by_cases e:j'=j
     · subst e; simp [hj]
     · rw [if_neg (fun hh=>e hh.symm),if_neg e]
   have hkeys:∀ j' y,es'.toList[j']?=some y→∃ y0,es.toList[j']?=some y0∧y.key=y0.key∧y.born=y0.born∧(j'≠j→y=y0):=fun j' y hy=>by
     rw [hl] at hy
     by_cases e:j'=j
     · rw [if_pos e] at hy; cases hy; exact ⟨x,by rw [e]; exact hj,hx.symm,rfl,fun hh=>absurd e hh⟩
     · rw [if_neg e] at hy; exact ⟨y,hy,rfl,rfl,fun _=>rfl⟩
   have hmem':∀ y∈es'.toList,∃ j' y0,es'.toList[j']?=some y∧es.toList[j']?=some y0∧y0∈es.toList∧y.key=y0.key∧y.born=y0.born∧(j'≠j→y=y0):=fun y hy=>by
     obtain ⟨j',hj'⟩:=List.mem_iff_getElem?.1 hy
     obtain ⟨y0,a1,a2,a3,a4⟩:=hkeys j' y hj'
     exact ⟨j',y0,hj',a1,List.mem_of_getElem? a1,a2,a3,a4⟩
   have hsz:es'.size=es.size:=by rw [← hes']; simp
   refine ⟨?_,fun y hy=>?_,fun y hy k hk=>?_,?_,fun k=>?_,fun y hy k hk=>?_,fun k hk i hi=>?_,fun y hy=>?_,?_⟩
   · rw [hsz]; simp [MapC.put,hhas,bop,hm.cnt]
   · obtain ⟨j',y0,_,_,a,a2,_⟩:=hmem' y hy
     rw [a2]; exact hm.key y0 a
   · obtain ⟨j',y0,_,_,a,a2,_⟩:=hmem' y hy
     exact hm.wf y0 a k (a2 ▸ hk)
   · rw [List.pairwise_iff_getElem]
     intro i1 i2 l1 l2 hlt
     obtain ⟨y0,a1,a2,_⟩:=hkeys i1 _ (List.getElem?_eq_getElem l1)
     obtain ⟨z0,b1,b2,_⟩:=hkeys i2 _ (List.getElem?_eq_getElem l2)
     rw [a2,b2]
     have:=List.pairwise_iff_getElem.1 hm.one i1 i2 (List.getElem?_eq_some_iff.1 a1).1 (List.getElem?_eq_some_iff.1 b1).1 hlt
     rw [(List.getElem?_eq_some_iff.1 a1).2,(List.getElem?_eq_some_iff.1 b1).2] at this
     exact this
   · have h1:(m.put n cs).has k=m.has k:=by
       simp only [MapC.put]
       by_cases e:k=n
       · subst e; simp [hhas]
       · simp [e]
     rw [h1,hm.has k]
     constructor
     · rintro ⟨y,hy,hk⟩
       obtain ⟨j',hj'⟩:=List.mem_iff_getElem?.1 hy
       by_cases e:j'=j
       · subst e
         rw [hj] at hj'; cases hj'
         exact ⟨_,List.mem_of_getElem? (by rw [hl,if_pos rfl]),by rw [← hk,hx]⟩
       · exact ⟨y,List.mem_of_getElem? (i:=j') (by rw [hl,if_neg e,hj']),hk⟩
     · rintro ⟨y,hy,hk⟩
       obtain ⟨j',y0,_,_,a,a2,_⟩:=hmem' y hy
       exact ⟨y0,a,by rw [← a2,hk]⟩
   · obtain ⟨j',y0,a0,a1,a,a2,_,a4⟩:=hmem' y hy
     by_cases e:j'=j
     · rw [hl,if_pos e] at a0
       cases a0
       simp only [Value.int.injEq,true_and] at hk
       subst hk
       simp only [MapC.put,beq_self_eq_true,bop,hcs]
     · rw [a4 e] at hk ⊢
       rw [hm.val y0 a k hk]
       have hne:k≠n:=fun hh=>e (hone j' y0 a1 (by rw [hk,hh]))
       have:(k==n)=false:=by simpa using hne
       simp only [MapC.put,this,bop]
   · simp only [MapC.put,Bool.or_eq_false_iff] at hk ⊢
     rw [hk.1]
     exact hm.off k hk.2 i hi
   · obtain ⟨j',y0,_,_,a,_,a3,_⟩:=hmem' y hy
     rw [a3]; exact hm.born y0 a
   · rw [List.pairwise_iff_getElem]
     intro i1 i2 l1 l2 hlt
     obtain ⟨y0,a1,_,a2,_⟩:=hkeys i1 _ (List.getElem?_eq_getElem l1)
     obtain ⟨z0,b1,_,b2,_⟩:=hkeys i2 _ (List.getElem?_eq_getElem l2)
     rw [a2,b2]
     have:=List.pairwise_iff_getElem.1 hm.apart i1 i2 (List.getElem?_eq_some_iff.1 a1).1 (List.getElem?_eq_some_iff.1 b1).1 hlt
     rw [(List.getElem?_eq_some_iff.1 a1).2,(List.getElem?_eq_some_iff.1 b1).2] at this
     exact this
 · intro hhas
   have hnot:∀ x∈es.toList,x.key≠.int .i64 n:=fun x hx hh=>by
     have:=(hm.has n).2 ⟨x,hx,hh⟩
     rw [hhas] at this; cases this
   have hl:(es.push {key:=.int .i64 n,val:=.agg (cs.map (Value.int .i64)).toArray,born:=clock}).toList=es.toList++[{key:=.int .i64 n,val:=.agg (cs.map (Value.int .i64)).toArray,born:=clock}]:=by simp
   refine ⟨?_,fun y hy=>?_,fun y hy k hk=>?_,?_,fun k=>?_,fun y hy k hk=>?_,fun k hk i hi=>?_,fun y hy=>?_,?_⟩
   · simp [MapC.put,hhas,bop,hm.cnt]
   · rw [hl,List.mem_append,List.mem_singleton] at hy
     rcases hy with hy | rfl
     · exact hm.key y hy
     · exact ⟨n,rfl⟩
   · rw [hl,List.mem_append,List.mem_singleton] at hy
     rcases hy with hy | rfl
     · exact hm.wf y hy k hk
     · simp only [Value.int.injEq,true_and] at hk; subst hk; exact hn
   · rw [hl,List.pairwise_append]
     exact ⟨hm.one,by simp,fun x hx y hy=>by simp at hy; subst hy; exact hnot x hx⟩
   · simp only [MapC.put,Bool.or_eq_true,beq_iff_eq,hl,List.mem_append,List.mem_singleton]
     rw [hm.has k]
     constructor
     · rintro (rfl | ⟨x,hx,hk⟩)
       · exact ⟨_,.inr rfl,rfl⟩
       · exact ⟨x,.inl hx,hk⟩
     · rintro ⟨x,hx | rfl,hk⟩
       · exact .inr ⟨x,hx,hk⟩
       · simp only [Value.int.injEq,true_and] at hk; exact .inl hk.symm
   · rw [hl,List.mem_append,List.mem_singleton] at hy
     rcases hy with hy | rfl
     · have hne:k≠n:=fun hh=>hnot y hy (by rw [hk,hh])
       have:(k==n)=false:=by simpa using hne
       rw [hm.val y hy k hk]
       simp only [MapC.put,this,bop]
     · simp only [Value.int.injEq,true_and] at hk
       subst hk
       simp only [MapC.put,beq_self_eq_true,bop,hcs]
   · simp only [MapC.put,Bool.or_eq_false_iff] at hk ⊢
     rw [hk.1]
     exact hm.off k hk.2 i hi
   · rw [hl,List.mem_append,List.mem_singleton] at hy
     rcases hy with hy | rfl
     · have:=hm.born y hy; omega
     · simp
   · rw [hl,List.pairwise_append]
     exact ⟨hm.apart,by simp,fun x hx y hy=>by
       simp at hy; subst hy
       have:=hm.born x hx
       simp only [ne_eq]; omega⟩
theorem Q2s:∀ {xs:List SV} {cs:List Int} {rs:List Value},Qsd xs=some cs→Qaw δ xs rs→rs=cs.map (Value.int .i64)
 | [],_,[],h,_=>by simp [Qsd] at h; subst h; rfl
 | x :: xs,cs,r :: rs,h,ha=>by
   simp only [Qaw] at ha
   unfold Qsd at h
   split at h
   · rename_i hh; cases hh
   · rename_i a rest hh
     cases hh
     split at h <;> try (cases h; done)
     rename_i l hl
     cases h
     have:=ha.1
     simp only [Qah] at this
     rw [this,Q2s hl ha.2]
     rfl
   · cases h
 | [],_,_ :: _,_,ha=>by simp only [Qaw] at ha
 | _ :: _,_,[],_,ha=>by simp only [Qaw] at ha
theorem Q2d {t:TypeId} {x ix v:SV} {rx rix rv:Value} {e:Eff} (he:Quf P t x ix v h=some e) (hx:Qah δ x rx) (hix:Qah δ ix rix) (hv:Qah δ v rv) (hr:HRep δ h w) (hp:e.asks) :
   ∃ w' u,(Instr.mapUpdate t rx rix rv).run P w=.ok () w'∧Qce e Qde u∧Upd δ h w δ u w':=by
 unfold Quf at he
 split at he <;> try (cases he; done)
 rename_i el sz k n hmt
 obtain ⟨kt,_,_,h1,h2,_⟩:=Qf6 hmt
 split at he <;> try (cases he; done)
 rename_i b m vs hm
 split at he <;> try (cases he; done)
 rename_i cs hcs
 cases hb:(b.rw&&Nat.beq cs.length sz&&Nat.beq b.size sz) with
 | false=>rw [hb] at he; cases he
 | true =>
   rw [hb,cond_true] at he
   cases he
   simp only [Bool.and_eq_true] at hb
   obtain ⟨⟨hb1,hb2⟩,hb3⟩:=hb
   have hw:(Lit.int .i64 n).wf=true:=by
     have:=hp _ rfl
     simp [Lit.wf,IntKind.min,IntKind.max,IntKind.bits,IntKind.signed]
     omega
   have hlen:cs.length=b.size:=(Nat.eq_of_beq_eq_true hb2).trans (Nat.eq_of_beq_eq_true hb3).symm
   obtain ⟨p,es,clock,d1,d2,d3,rfl,d5,d6⟩:=Qhx hr hm hx
   simp only [Qah] at hix hv
   subst hix
   obtain ⟨rs,rfl,hrs⟩:=hv
   have hrs:=Q2s hcs hrs
   subst hrs
   have hget:(getObj p.r).run P w=.ok (.map es clock) w:=MapKept.run_getObj_map d5
   have Qew:∀ o,(setObj p.r o).run P w=.ok () (setBlock w p.r o):=fun o=>MapKept.run_setObj_map o d5
   rcases Qlp d6 h2 n w with ⟨j,x,f1,f2,f3,f4,f5⟩ | ⟨f1,f2,f3⟩
   · refine ⟨_,_,?_,⟨rfl,rfl⟩,Qp5 hr hm hb1 d1 d2 d3 d5 ((d6.put hw cs hlen).1 j x f1 f2)⟩
     have f1':es[j]?=some x:=by rw [← Array.getElem?_toList]; exact f1
     simp [Instr.mapUpdate,run_underlying h1,hget,Qeq h2,f5,f1',f2,Instr.keyThatStays,Instr.sameBits,Qew]
   · refine ⟨_,_,?_,⟨rfl,rfl⟩,Qp5 hr hm hb1 d1 d2 d3 d5 ((d6.put hw cs hlen).2 f1)⟩
     simp [Instr.mapUpdate,run_underlying h1,hget,Qeq h2,f3,Qew]
theorem MapRep.cut {sz:Nat} {m:MapC} {es:Array MapEntry} {clock:Nat} (hm:MapRep sz m es clock) (n:Int) :
   (∀ j x,es.toList[j]?=some x→x.key=.int .i64 n→MapRep sz (m.cut n) (es.eraseIdxIfInBounds j) clock)∧(m.has n=false→MapRep sz (m.cut n) es clock):=by
 constructor
 · intro j x hj hx
   have hmem:x∈es.toList:=List.mem_of_getElem? hj
   have hhas:m.has n=true:=(hm.has n).2 ⟨x,hmem,hx⟩
   have hlt:j<es.size:=by have:=(List.getElem?_eq_some_iff.1 hj).1; simpa using this
   have hl:(es.eraseIdxIfInBounds j).toList=es.toList.eraseIdx j:=by simp
   have hsub:=List.eraseIdx_sublist es.toList j
   have hin:∀ y,y∈es.toList.eraseIdx j→y∈es.toList:=fun y hy=>hsub.subset hy
   have hone:∀ j' y,es.toList[j']?=some y→y.key=.int .i64 n→j'=j:=fun j' y hj' hy=>by
     rcases Nat.lt_trichotomy j' j with hlt | he | hlt
     · have h5:=List.pairwise_iff_getElem.1 hm.one j' j (List.getElem?_eq_some_iff.1 hj').1 (List.getElem?_eq_some_iff.1 hj).1 hlt
       rw [(List.getElem?_eq_some_iff.1 hj').2,(List.getElem?_eq_some_iff.1 hj).2] at h5
       exact absurd (hy.trans hx.symm) h5
     · exact he
     · have h5:=List.pairwise_iff_getElem.1 hm.one j j' (List.getElem?_eq_some_iff.1 hj).1 (List.getElem?_eq_some_iff.1 hj').1 hlt
       rw [(List.getElem?_eq_some_iff.1 hj').2,(List.getElem?_eq_some_iff.1 hj).2] at h5
       exact absurd (hx.trans hy.symm) h5
   refine ⟨?_,fun y hy=>?_,fun y hy k hk=>?_,?_,fun k=>?_,fun y hy k hk=>?_,fun k hk i hi=>?_,fun y hy=>?_,?_⟩
   · have h1:(es.eraseIdxIfInBounds j).size=es.toList.length - 1:=by
       rw [← Array.length_toList,hl,List.length_eraseIdx,if_pos (by simpa using hlt)]
     rw [h1]; simp [MapC.cut,hhas,bop,← hm.cnt]
   · rw [hl] at hy; exact hm.key y (hin y hy)
   · rw [hl] at hy; exact hm.wf y (hin y hy) k hk
   · rw [hl]; exact hm.one.sublist hsub
   · simp only [MapC.cut,Bool.and_eq_true,Bool.not_eq_true',beq_eq_false_iff_ne,ne_eq,hl]
     rw [hm.has k]
     constructor
     · rintro ⟨⟨y,hy,hk⟩,hne⟩
       obtain ⟨j',hj'⟩:=List.mem_iff_getElem?.1 hy
       refine ⟨y,List.mem_eraseIdx_iff_getElem?.2 ⟨j',fun e=>?_,hj'⟩,hk⟩
       subst e
       rw [hj] at hj'; cases hj'
       rw [hx] at hk
       simp only [Value.int.injEq,true_and] at hk
       exact hne hk.symm
     · rintro ⟨y,hy,hk⟩
       obtain ⟨j',hne,hj'⟩:=List.mem_eraseIdx_iff_getElem?.1 hy
       exact ⟨⟨y,List.mem_of_getElem? hj',hk⟩,fun e=>hne (hone j' y hj' (by rw [hk,e]))⟩
   · rw [hl] at hy
     rw [hm.val y (hin y hy) k hk]
     have hne:k≠n:=fun e=>by
       obtain ⟨j',hne,hj'⟩:=List.mem_eraseIdx_iff_getElem?.1 hy
       exact hne (hone j' y hj' (by rw [hk,e]))
     have:(k==n)=false:=by simpa using hne
     simp only [MapC.cut,this,bop]
   · simp only [MapC.cut,Bool.and_eq_false_iff,Bool.not_eq_false'] at hk ⊢
     by_cases e:k=n
     · subst e; simp [bop]
     · have:(k==n)=false:=by simpa using e
       rw [this]
       rcases hk with hk | hk
       · exact hm.off k hk i hi
       · rw [this] at hk; cases hk
   · rw [hl] at hy; exact hm.born y (hin y hy)
   · rw [hl]; exact hm.apart.sublist hsub
 · intro hhas
   have hnot:∀ x∈es.toList,x.key≠.int .i64 n:=fun x hx hh=>by
     have:=(hm.has n).2 ⟨x,hx,hh⟩
     rw [hhas] at this; cases this
   refine ⟨?_,hm.key,hm.wf,hm.one,fun k=>?_,fun y hy k hk=>?_,fun k hk i hi=>?_,hm.born,hm.apart⟩
   rotate_left 2
   · rw [hm.val y hy k hk]
     have hne:k≠n:=fun e=>hnot y hy (by rw [hk,e])
     have:(k==n)=false:=by simpa using hne
     simp only [MapC.cut,this,bop]
   · simp only [MapC.cut,Bool.and_eq_false_iff,Bool.not_eq_false'] at hk ⊢
     by_cases e:k=n
     · subst e; simp [bop]
     · have:(k==n)=false:=by simpa using e
       rw [this]
       rcases hk with hk | hk
       · exact hm.off k hk i hi
       · rw [this] at hk; cases hk
   · simp [MapC.cut,hhas,bop,hm.cnt]
   · simp only [MapC.cut,Bool.and_eq_true,Bool.not_eq_true',beq_eq_false_iff_ne,ne_eq]
     rw [← hm.has k]
     constructor
     · exact fun h=>h.1
     · exact fun h=>⟨h,fun e=>by rw [e,hhas] at h; cases h⟩
theorem Q2g {t ty:TypeId} {x ix:SV} {rx rix:Value} {e:Eff} (he:Qui P t x ix h=some e) (hx:Qah δ x rx) (hix:Qah δ ix rix) (hr:HRep δ h w)
   {ts:Array TypeId} {as:Array Value} (ht:ts[0]?=some t) (ha0:as[0]?=some rx) (ha1:as[1]?=some rix):ValOk δ h w e ((Builtin.delete_ ts ty as).run P w):=by
 unfold Qui at he
 split at he <;> try (cases he; done)
 rename_i q k n hmt
 obtain ⟨kt,_,_,h1,h2,_⟩:=Qf6 (e:=q.1) (n:=q.2) hmt
 split at he <;> try (cases he; done)
 rename_i b m hm
 cases hb:b.rw with
 | false=>rw [hb] at he; cases he
 | true =>
   rw [hb,cond_true] at he
   cases he
   obtain ⟨p,es,clock,d1,d2,d3,rfl,d5,d6⟩:=Qhx hr hm hx
   simp only [Qah] at hix
   subst hix
   have hget:(getObj p.r).run P w=.ok (.map es clock) w:=MapKept.run_getObj_map d5
   have Qew:∀ o,(setObj p.r o).run P w=.ok () (setBlock w p.r o):=fun o=>MapKept.run_setObj_map o d5
   rcases Qlp d6 h2 n w with ⟨j,x,f1,f2,f3,f4,f5⟩ | ⟨f1,f2,f3⟩
   · refine ⟨.tuple #[],_,_,_,δ,?_,⟨rfl,rfl⟩,by simp only [Qah]; exact ⟨[],rfl,by simp only [Qaw]⟩,by have hu:=Qp5 hr hm hb d1 d2 d3 d5 ((d6.cut n).1 j x f1 f2); rw [hb] at hu; exact hu⟩
     simp [Builtin.delete_,ht,ha0,ha1,run_underlying h1,hget,Qeq h2,f5,Qew]
   · refine ⟨.tuple #[],_,_,_,δ,?_,⟨rfl,rfl⟩,by simp only [Qah]; exact ⟨[],rfl,by simp only [Qaw]⟩,by have hu:=Qp5 hr hm hb d1 d2 d3 d5 ((d6.cut n).2 f1); rw [hb] at hu; exact hu⟩
     simp [Builtin.delete_,ht,ha0,ha1,run_underlying h1,hget,Qeq h2,f3,Qew]
theorem Q2e {t:TypeId} {r:Option SV} {rr:Option Value} {base:Nat} {e:Eff} (he:Qp6 P t r base=some e) (hrr:match r,rr with | none,none=>True | some x,some y=>Qah δ x y | _,_=>False) (hr:HRep δ h w)
   (hn:h base=none) (hd:δ base=none):ValOk δ h w e ((Instr.makeMap t rr).run P w):=by
 unfold Qp6 at he
 cases hmt:Q69 P t with
 | none=>rw [hmt] at he; cases he
 | some q =>
   obtain ⟨kt,_,_,h1,h2,_⟩:=Qf6 (e:=q.1) (n:=q.2) hmt
   have hrep:MapRep q.2 ⟨0,fun _=>false,fun _ _=>0⟩ #[] 0:=⟨rfl,by simp,by simp,by simp,by simp,by simp,by simp,by simp,by simp⟩
   have fin:(Instr.makeMap t rr).run P w=.ok (.map (some w.heap.size)) (w.alloc (.map #[] 0))→e=Qug base q.2→ValOk δ h w e ((Instr.makeMap t rr).run P w):=fun hrun he=>by
     subst he
     obtain ⟨δ',u1,u2⟩:=Q15 (n:=base) (b:={elem:=0,size:=q.2,rw:=true,lock:=false,lit:=false,flat:=true,n:=1,row:=fun _=>[],sp:=some ⟨0,fun _=>false,fun _ _=>0⟩}) (w':=w.alloc (.map #[] 0))
       (fun δ' _=>⟨#[],0,heap_alloc_new w _,hrep⟩) (fun r hr'=>heap_alloc_old w _ hr') (by simp) rfl rfl rfl hr hn hd
     exact ⟨_,_,_,_,δ',hrun,⟨rfl,rfl⟩,by simp only [Qah]; exact ⟨_,u2,rfl,rfl⟩,u1⟩
   rw [hmt] at he
   cases r with
   | none =>
     cases he
     cases rr with
     | some y=>exact hrr.elim
     | none=>exact fin (by simp [Instr.makeMap]) rfl
   | some x =>
     simp only at he
     split at he <;> try (cases he; done)
     rename_i n hn
     cases he
     have hx:x=.v (.int .i64 n):=by
       unfold intOf at hn
       split at hn
       · cases hn; rfl
       · cases hn
     subst hx
     cases rr with
     | none=>exact hrr.elim
     | some y =>
       simp only [Qah] at hrr
       subst hrr
       exact fin (by simp [Instr.makeMap,run_underlying h1,asInt,asIntOf]) rfl
end
end Go.SE
end
