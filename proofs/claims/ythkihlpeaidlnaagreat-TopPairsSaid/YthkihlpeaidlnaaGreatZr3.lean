/-
 What the proof uses, part 3.
-/
import Derived.WalkKit
import Derived.Test.YthkihlpeaidlnaaGreatZr2
set_option maxRecDepth 100000
set_option linter.unusedSimpArgs false
set_option linter.unusedVariables false

section
namespace Go.SE
def Qce:Eff→SV→List (Nat×Blk)→Prop
 | .det _ x u,x',u'=>x'=x∧u'=u
 | .nd _ _ _ v u,x',u'=>∃ c,x'=v c∧u'=u c
 | .alt b e1 e2,x',u'=>sel b (Qce e1 x' u') (Qce e2 x' u')
def Eff.asks:Eff→Prop
 | .det p _ _=>∀ q,p=some q→q
 | .nd p _ _ _ _=>p
 | .alt b e1 e2=>sel b e1.asks e2.asks
def Qky (P:Program) (δ:Dict) (h:Qbo) (w:World) (e:Eff):Result Next→Prop
 | .ok (.value r) w'=>∃ x u δ',Qce e x u∧Qah δ' x r∧Upd δ h w δ' u w'
 | .ok .skip w'=>∃ x u δ',Qce e x u∧Qah δ' x undef∧Upd δ h w δ' u w'
 | .ok (.enter f args) w'=>Calls P f args w' fun ed w''=>∃ r x u δ',ed=.returned r∧Qce e x u∧Qah δ' x r∧Upd δ h w δ' u w''
 | _=>False
def Qq3 (P:Program) (δ:Dict) (h:Qbo) (w:World) (e:Eff):Result Next→Prop
 | .ok (.enter f args) w'=>Calls P f args w' fun ed w''=>∃ r x u δ',ed=.panicked [{v:=r,recovered:=false}]∧Qce e x u∧Qah δ' x r∧Upd δ h w δ' u w''
 | .halt (.panic r) w'=>∃ x u δ',Qce e x u∧Qah δ' x r∧Upd δ h w δ' u w'
 | _=>False
def Zno (P:Program) (δ:Dict) (h:Qbo) (w:World) (e:Eff) (b:Bool) (r:Result Next):Prop :=
 match b with
 | true=>Qq3 P δ h w e r
 | false=>Qky P δ h w e r
def Ctr.effE (g:Ctr) (args:List SV) (h:Qbo) (base:Nat) (e:Eff):Eff :=
 match g.stops&&g.stop args h with
 | true=>g.stopE args h base e
 | false=>e
def Ctr.ok (P:Program) (f:FuncId) (g:Ctr):Prop :=
 ∀ args h base e,g.run args h base=some e→∀ δ w vals,Qaw δ args vals→HRep δ h w→(g.effE args h base e).asks →
   (∀ x u,Qce (g.effE args h base e) x u→∀ k,Qac k u=true→h k=none→δ k=none)→Zno P δ h w (g.effE args h base e) (g.stops&&g.stop args h) ((callFunc f vals.toArray).run P w)
section
variable {P:Program} {δ:Dict} {h:Qbo} {w:World}
theorem Q57 {e:Eff} {x:SV} {r:Value} {p:Option Prop} (hr:HRep δ h w) (he:e=.det p x []) (hx:Qah δ x r):Qky P δ h w e (.ok (.value r) w):=by
 subst he
 exact ⟨x,[],δ,⟨rfl,rfl⟩,hx,Upd.same hr⟩
theorem Qfz {t:TypeId} {g:Bool} (hg:Qjk P t=some g) (w:World):(isAgg t).run P w=.ok g w:=by
 unfold Qjk at hg
 cases hu:P.underlying t with
 | none=>rw [hu] at hg; cases hg
 | some d =>
   rw [hu] at hg
   cases d <;> simp at hg <;> subst hg <;> simp [isAgg,run_underlying hu]
theorem Qa4 {t:TypeId} {m:Nat} (hm:Qco P t=some m) (w:World):(sizeOf t).run P w=.ok m w:=by
 unfold Qco at hm
 cases hu:P.info? t with
 | none=>rw [hu] at hm; cases hm
 | some i=>rw [hu] at hm; cases hm; simp [sizeOf,typeInfo,hu]
theorem Qht {t:TypeId} {z:List SV} (hz:Qk0 P t=some z) (w:World):∃ v,(zeroValue t).run P w=.ok v w∧z=v.cells.toList.map .v:=by
 unfold Qk0 at hz
 cases hu:P.info? t with
 | none=>rw [hu] at hz; cases hz
 | some i =>
   rw [hu] at hz
   simp only at hz
   cases hv:i.zero with
   | none=>rw [hv] at hz; cases hz
   | some v=>rw [hv] at hz; cases hz; exact ⟨v,by simp [zeroValue,typeInfo,hu,hv],rfl⟩
theorem Qos (xs:List Value) (off m:Nat):xs.toArray.extract off (off + m)=((xs.drop off).take m).toArray:=by
 apply Array.ext'
 simp [List.take_drop]
theorem Qt8 {t:TypeId} {cs:List SV} {xs:List Value} {off:Nat} {x:SV} (hp:Qxl P t cs off=some x) (hx:Qaw δ cs xs) :
   ∃ r,(part t xs.toArray off).run P w=.ok r w∧Qah δ x r:=by
 unfold Qxl at hp
 cases hg:Qjk P t with
 | none=>rw [hg] at hp; cases hp
 | some g =>
   cases hm:Qco P t with
   | none=>rw [hg,hm] at hp; cases hp
   | some m =>
     rw [hg,hm] at hp
     simp only at hp
     cases hl:Nat.beq ((cs.drop off).take m).length m with
     | false=>rw [hl] at hp; cases hp
     | true =>
       rw [hl,cond_true] at hp
       have hlen:((cs.drop off).take m).length=m:=Nat.eq_of_beq_eq_true hl
       have hab:Qaw δ ((cs.drop off).take m) ((xs.drop off).take m):=Qdh m (Qdi off hx)
       cases g with
       | true =>
         simp only [Qnt,Option.some.injEq] at hp
         subst hp
         refine ⟨.agg ((xs.drop off).take m).toArray,?_,?_⟩
         · simp only [part,Sem.run_bind,Qfz hg,Result.andThen_ok,if_true,Qa4 hm,Qos]
           rfl
         · simp only [Qah]; exact ⟨_,rfl,hab⟩
       | false =>
         simp only [Qnt] at hp
         match hc:(cs.drop off).take m,hp with
         | [c],hp =>
           cases hp
           rw [hc] at hab hlen
           have hget:(cs.drop off)[0]?=some x:=by
             have:((cs.drop off).take m)[0]?=some x:=by rw [hc]; rfl
             rw [List.getElem?_take] at this
             split at this
             · exact this
             · cases this
           have hcs:cs[off]?=some x:=by simpa using hget
           obtain ⟨r,h1,h2⟩:=Qb5 hx hcs
           refine ⟨r,?_,h2⟩
           simp [part,Qfz hg,h1]
theorem Qn1 {α:Type} (cs xs:List α) (off:Nat) (hle:off + xs.length≤cs.length) (j:Nat) :
   (cs.take off++xs++cs.drop (off + xs.length))[j]?=if j<off then cs[j]? else if j<off + xs.length then xs[j - off]? else cs[j]?:=by
 by_cases h1:j<off
 · rw [if_pos h1,List.append_assoc,List.getElem?_append_left (by simp; omega),List.getElem?_take,if_pos h1]
 · rw [if_neg h1]
   by_cases h2:j<off + xs.length
   · rw [if_pos h2,List.getElem?_append_left (by simp; omega),List.getElem?_append_right (by simp; omega)]
     congr 1
     simp
     omega
   · rw [if_neg h2,List.getElem?_append_right (by simp; omega),List.getElem?_drop]
     congr 1
     simp
     omega
theorem Qsg (cs:Array Value) (off:Nat):∀ (l:List Value) (i:Nat),off + i + l.length≤cs.size →
   ∀ cs':Array Value,cs'.size=cs.size→(∀ j,cs'[j]?=if j<off then cs[j]? else if j<off + i then cs'[j]? else cs[j]?) →
     ((l.zipIdx i).foldl (fun c p=>c.setIfInBounds (off + p.2) p.1) cs').size=cs.size ∧
     ∀ j,((l.zipIdx i).foldl (fun c p=>c.setIfInBounds (off + p.2) p.1) cs')[j]?=if j<off then cs[j]? else if j<off + i then cs'[j]? else if j<off + i + l.length then l[j - (off + i)]? else cs[j]?:=by
 intro l
 induction l with
 | nil =>
   intro i hle cs' hs hc
   refine ⟨by simpa using hs,fun j=>?_⟩
   simp only [List.zipIdx_nil,List.foldl_nil,List.length_nil,Nat.add_zero]
   rw [hc j]
   split
   · rfl
   · split
     · rfl
     · rfl
 | cons x l ih =>
   intro i hle cs' hs hc
   simp only [List.zipIdx_cons,List.foldl_cons]
   simp only [List.length_cons] at hle
   have hs1:(cs'.setIfInBounds (off + i) x).size=cs.size:=by simpa using hs
   have:=ih (i + 1) (by omega) (cs'.setIfInBounds (off + i) x) hs1 (fun j=>by
     simp only [Array.getElem?_setIfInBounds]
     by_cases hj:off + i=j
     · subst hj
       have e1:¬ off + i<off:=by omega
       have e2:off + i<off + (i + 1):=by omega
       simp [e1,e2]
     · simp only [hj,if_false]
       rw [hc j]
       by_cases h1:j<off
       · simp [h1]
       · by_cases h2:j<off + i
         · have h3:j<off + (i + 1):=by omega
           simp [h1,h2,h3]
         · have h3:¬ j<off + (i + 1):=by omega
           simp [h1,h2,h3])
   refine ⟨this.1,fun j=>?_⟩
   rw [this.2 j]
   simp only [Array.getElem?_setIfInBounds]
   by_cases h1:j<off
   · simp [h1]
   · by_cases h2:j<off + i
     · have h3:j<off + (i + 1):=by omega
       have h4:¬ off + i=j:=by omega
       simp [h1,h2,h3,h4]
     · by_cases h3:off + i=j
       · subst h3
         have h4:off + i<off + (i + 1):=by omega
         have h5:off + i<cs'.size:=by omega
         have h6:off + i<off + i + (l.length + 1):=by omega
         simp [h2,h4,h5]
       · have h4:¬ j<off + (i + 1):=by omega
         have e:j - (off + i)=(j - (off + (i + 1))) + 1:=by omega
         simp only [h1,h2,h4,if_false,List.length_cons]
         rw [e,List.getElem?_cons_succ]
         have e2:off + (i + 1) + l.length=off + i + (l.length + 1):=by omega
         rw [e2]
theorem Qqm {place:Nat→Option (Nat×Nat)}:∀ (parts:List (Nat×SV)) (vals:List (Nat×Value)) (cells:List SV) (cs:Array Value) (out:List SV),
   Qk7 place cells parts=some out→Qaw δ cells cs.toList→(parts.map (·.1)=vals.map (·.1))→Qaw δ (parts.map (·.2)) (vals.map (·.2)) →
   ∃ o:Array Value,Instr.fill place cs vals=some o∧Qaw δ out o.toList
 | [],[],cells,cs,out,hf,hc,_,_=>by
   simp only [Qk7,Option.some.injEq] at hf
   subst hf
   exact ⟨cs,rfl,hc⟩
 | (i,x) :: parts,(i',r) :: vals,cells,cs,out,hf,hc,hi,hx=>by
   simp only [List.map_cons,List.cons.injEq] at hi
   obtain ⟨rfl,hi⟩:=hi
   simp only [List.map_cons,Qaw] at hx
   simp only [Qk7] at hf
   cases hp:place i with
   | none=>rw [hp] at hf; cases hf
   | some os =>
     obtain ⟨off,size⟩:=os
     rw [hp] at hf
     simp only at hf
     cases hl:Qh8 x with
     | none=>rw [hl] at hf; cases hf
     | some l =>
       rw [hl] at hf
       simp only at hf
       have hlr:=Qir hl hx.1
       have hlen:=Qa6 hlr
       have hclen:=Qa6 hc
       cases hb:(Nat.beq l.length size&&Nat.ble (off + l.length) cells.length) with
       | false=>rw [hb] at hf; cases hf
       | true =>
         rw [hb,cond_true] at hf
         rw [Bool.and_eq_true] at hb
         have e1:l.length=size:=Nat.eq_of_beq_eq_true hb.1
         have e2:off + l.length≤cells.length:=Nat.le_of_ble_eq_true hb.2
         have e3:r.cells.size=size:=by rw [← e1,hlen]; simp
         have e4:off + r.cells.size≤cs.size:=by rw [e3,← e1]; rw [hclen] at e2; simpa using e2
         -- the cells behind the Qfa
         have hfold:=Qsg cs off r.cells.toList 0 (by simpa using e4) cs rfl (fun j=>by split <;> simp)
         refine (Qqm parts vals (Qfa cells off l) (r.cells.zipIdx.foldl (fun c p=>c.setIfInBounds (off + p.2) p.1) cs) out hf ?_ hi hx.2).imp fun o ho=>⟨?_,ho.2⟩
         · have ez:r.cells.zipIdx.foldl (fun c p=>c.setIfInBounds (off + p.2) p.1) cs=(r.cells.toList.zipIdx 0).foldl (fun c p=>c.setIfInBounds (off + p.2) p.1) cs:=by
             rw [← Array.foldl_toList]
             simp
           rw [ez]
           refine Qei ?_ fun j y hy=>?_
           · simp only [Array.length_toList,hfold.1]
             simp only [Qfa,List.length_append,List.length_take,List.length_drop]
             rw [hclen] at e2 ⊢
             simp only [Array.length_toList] at e2 ⊢
             omega
           · simp only [Array.getElem?_toList]
             rw [hfold.2 j]
             unfold Qfa at hy
             rw [Qn1 cells l off e2 j] at hy
             simp only [Nat.add_zero,Array.length_toList,e3,← e1]
             by_cases h1:j<off
             · rw [if_pos h1] at hy ⊢
               have:=Qb5 hc hy
               simpa using this
             · rw [if_neg h1] at hy ⊢
               rw [if_neg h1]
               by_cases h2:j<off + l.length
               · rw [if_pos h2] at hy ⊢
                 exact Qb5 hlr hy
               · rw [if_neg h2] at hy ⊢
                 have:=Qb5 hc hy
                 simpa using this
         · rw [← ho.1]
           simp only [Instr.fill,hp]
           rw [if_neg]
           simp [e3]
           omega
 | [],_ :: _,_,_,_,_,_,hi,_=>by simp at hi
 | _ :: _,[],_,_,_,_,_,hi,_=>by simp at hi
end
end Go.SE
end
section
namespace Go.SE
section
variable {P:Program} {δ:Dict} {h:Qbo} {w:World}
theorem Qki {ρS:Operand→SV} {ρ:Operand→Value} (hρ:∀ x,Qah δ (ρS x) (ρ x)):∀ l:List (Nat×Operand),
   Qaw δ ((l.map fun p=>(p.1,ρS p.2)).map (·.2)) ((l.map fun p=>(p.1,ρ p.2)).map (·.2))
 | []=>by simp [Qaw]
 | p :: l=>by simp only [List.map_cons,Qaw]; exact ⟨hρ _,Qki hρ l⟩
theorem Qh4 {ρS:Operand→SV} {ρ:Operand→Value} (hρ:∀ x,Qah δ (ρS x) (ρ x)):∀ l:List Operand,Qaw δ (l.map ρS) (l.map ρ)
 | []=>by simp [Qaw]
 | p :: l=>by simp only [List.map_cons,Qaw]; exact ⟨hρ _,Qh4 hρ l⟩
theorem Qmu {P:Program} {w:World}:∀ (fs:List Field) (l:List (Nat×Nat)),Qmk P fs=some l →
   (fs.mapM fun f=>Prod.mk f.offset <$> sizeOf f.type).run P w=.ok l w
 | [],l,hl=>by simp only [Qmk,Option.some.injEq] at hl; subst hl; simp
 | f :: rest,l,hl=>by
   simp only [Qmk] at hl
   cases hm:Qco P f.type with
   | none=>rw [hm] at hl; cases hl
   | some m =>
     cases hp:Qmk P rest with
     | none=>rw [hm,hp] at hl; cases hl
     | some l' =>
       rw [hm,hp] at hl
       cases hl
       simp [List.mapM_cons,Qa4 hm,Qmu rest l' hp]
theorem Q72 {t:TypeId} {ps:List (Nat×SV)} {vs:List (Nat×Value)} {x:SV} (hb:Q3r P t ps=some x) (hi:ps.map (·.1)=vs.map (·.1)) (hx:Qaw δ (ps.map (·.2)) (vs.map (·.2))) :
   ∃ r,(Instr.build t vs.toArray).run P w=.ok r w∧Qah δ x r:=by
 unfold Q3r at hb
 cases hz:Qk0 P t with
 | none=>rw [hz] at hb; cases hb
 | some z =>
   obtain ⟨zv,hz1,hz2⟩:=Qht hz w
   have hzc:Qaw δ z zv.cells.toList:=by rw [hz2]; exact Qkh _
   rw [hz] at hb
   cases hu:P.underlying t with
   | none=>rw [hu] at hb; cases hb
   | some d =>
     rw [hu] at hb
     cases d <;> try (cases hb; done)
     case struct fields =>
       simp only at hb
       cases hp:Qmk P fields.toList with
       | none=>rw [hp] at hb; cases hb
       | some l =>
         rw [hp] at hb
         simp only at hb
         cases hf:Qk7 (fun i=>l[i]?) z ps with
         | none=>rw [hf] at hb; cases hb
         | some cs =>
           rw [hf] at hb
           cases hb
           obtain ⟨o,ho1,ho2⟩:=Qqm ps vs z zv.cells cs hf hzc hi hx
           refine ⟨.agg o,?_,by simp only [Qah]; exact ⟨o.toList,by simp,ho2⟩⟩
           simp [Instr.build,hz1,run_underlying hu,Array.mapM_eq_mapM_toList,Qmu (P:=P) (w:=w) fields.toList l hp,ho1]
     case array n e =>
       simp only at hb
       cases hm:Qco P e with
       | none=>rw [hm] at hb; cases hb
       | some m =>
         rw [hm] at hb
         simp only at hb
         cases hf:Qk7 (fun i=>some (i*m,m)) z ps with
         | none=>rw [hf] at hb; cases hb
         | some cs =>
           rw [hf] at hb
           cases hb
           obtain ⟨o,ho1,ho2⟩:=Qqm ps vs z zv.cells cs hf hzc hi hx
           refine ⟨.agg o,?_,by simp only [Qah]; exact ⟨o.toList,by simp,ho2⟩⟩
           simp [Instr.build,hz1,run_underlying hu,Qa4 hm,ho1]
theorem Qdt {c:Array Value}:∀ (row:List SV) (base:Nat),(∀ (j:Nat) x,row[j]?=some x→∃ r,c[base + j]?=some r∧Qah δ x r) →
   ∃ xs:List Value,Qaw δ row xs∧∀ (j:Nat) r,xs[j]?=some r→c[base + j]?=some r
 | [],_,_=>⟨[],by simp [Qaw],fun j r hj=>by simp at hj⟩
 | x :: row,base,hrow=>by
   obtain ⟨r,h1,h2⟩:=hrow 0 x rfl
   obtain ⟨xs,h3,h4⟩:=Qdt row (base + 1) (fun j y hy=>by
     obtain ⟨r',h5,h6⟩:=hrow (j + 1) y (by simpa using hy)
     exact ⟨r',by rw [show base + 1 + j=base + (j + 1) by omega]; exact h5,h6⟩)
   refine ⟨r :: xs,by simp only [Qaw]; exact ⟨h2,h3⟩,fun j r' hj=>?_⟩
   match j,hj with
   | 0,hj=>simp at hj; subst hj; exact h1
   | j + 1,hj =>
     simp at hj
     rw [show base + (j + 1)=base + 1 + j by omega]
     exact h4 j r' hj
theorem Qch {w:World} {r:Nat} {c:Array Value} {e:TypeId} {fz:Nat×Nat} (hg:w.heap[r]?=some (.cells c e fz)) (j:Nat):w.cell? ⟨r,j,none⟩=c[j]?:=by
 simp [World.cell?,hg]
theorem Qxp {t:TypeId} {g:Bool} {m r off:Nat} {l:List SV} {xs:List Value} {v:SV} {c:Array Value} {e:TypeId} {fz:Nat×Nat} (hg:Qjk P t=some g) (hm:Qco P t=some m)
   (hl:l.length=m) (hb:w.heap[r]?=some (.cells c e fz)) (hx:Qaw δ l xs) (hc:∀ (j:Nat) y,xs[j]?=some y→c[off + j]?=some y) (hv:Qnt g l=some v) :
   ∃ y,(loadVar t ⟨r,off,none⟩).run P w=.ok y w∧Qah δ v y:=by
 have hlen:=Qa6 hx
 have hcell:∀ (j:Nat) y,xs[j]?=some y→w.cell? ((⟨r,off,none⟩:Addr).add j)=some y:=fun j y hy=>by
   rw [Addr.add_lit,Qch hb]; exact hc j y hy
 cases g with
 | true =>
   simp only [Qnt,Option.some.injEq] at hv
   subst hv
   refine ⟨.agg xs.toArray,?_,by simp only [Qah]; exact ⟨xs,rfl,hx⟩⟩
   have e1:m=xs.length:=by omega
   simp only [loadVar,Sem.run_bind,Qfz hg,Result.andThen_ok,if_true,Qa4 hm]
   rw [e1,run_loadCells_list w _ xs hcell]
   rfl
 | false =>
   match l,hv with
   | [x],hv =>
     simp only [Qnt,Option.some.injEq] at hv
     subst hv
     match xs,hx with
     | [y],hx =>
       simp only [Qaw,and_true] at hx
       refine ⟨y,?_,hx⟩
       have h0:=hcell 0 y rfl
       rw [Addr.add_zero'] at h0
       simp [loadVar,Qfz hg,h0]
     | [],hx=>simp only [Qaw] at hx
     | _ :: _ :: _,hx=>simp [Qaw] at hx
theorem Qwb {b:Blk} {r o i j m:Nat} {t:TypeId} {g:Bool} {v:SV} (hg:Qjk P t=some g) (hm:Qco P t=some m) (hsp:b.sp=none) (hb:Qcm δ b w r o) (hi:i<b.n)
   (hl:(((b.row i).drop j).take m).length=m) (hv:Qnt g (((b.row i).drop j).take m)=some v) :
   ∃ y,(loadVar t ⟨r,o + i*b.size + j,none⟩).run P w=.ok y w∧Qah δ v y:=by
 obtain ⟨c,e,fz,h1,_,_,_,_,_,h3⟩:=Qap hsp hb
 obtain ⟨h4,h5⟩:=h3 i hi
 obtain ⟨xs,h6,h7⟩:=Qdt (δ:=δ) (c:=c) (b.row i) (o + i*b.size) (fun j x hx=>h5 j x hx)
 refine Qxp hg hm hl h1 (Qdh m (Qdi j h6)) (fun j' y hy=>?_) hv
 rw [List.getElem?_take] at hy
 split at hy
 · rw [List.getElem?_drop] at hy
   have:=h7 (j + j') y hy
   rw [show o + i*b.size + j + j'=o + i*b.size + (j + j') by omega]
   exact this
 · cases hy
theorem Q2j {t:TypeId} {x v:SV} {rx:Value} (hl:Q2k P h t x=some v) (hx:Qah δ x rx) (hr:HRep δ h w) :
   ∃ y,(Instr.loadAt t rx).run P w=.ok y w∧Qah δ v y:=by
 unfold Q2k at hl
 cases hg:Qjk P t with
 | none=>rw [hg] at hl; cases hl
 | some g =>
   cases hm:Qco P t with
   | none=>rw [hg,hm] at hl; cases hl
   | some m =>
     rw [hg,hm] at hl
     cases x <;> try (cases hl; done)
     case vp k j =>
       simp only at hl
       cases hk:h k with
       | none=>rw [hk] at hl; cases hl
       | some b =>
         rw [hk] at hl
         simp only at hl
         obtain ⟨p,h1,hlv⟩:=hr.blk k b hk
         cases hl2:(!b.off&&Nat.beq (((b.row 0).drop j).take m).length m) with
         | false=>rw [hl2] at hl; cases hl
         | true =>
           rw [hl2,cond_true] at hl
           simp only [Bool.and_eq_true,Bool.not_eq_true'] at hl2
           have hsp:=(Blk.off_false hl2.1).2
           have hlv:=hlv (Blk.off_false hl2.1).1
           simp only [Qah] at hx
           obtain ⟨p',h3,hpos,rfl⟩:=hx
           rw [h1] at h3; cases h3
           have hn:=hlv.n
           obtain ⟨y,h5,h6⟩:=Qwb hg hm hsp (hlv.rep (hlv.notNo hpos)) (i:=0) (by omega) (Nat.eq_of_beq_eq_true hl2.2) hl
           refine ⟨y,?_,h6⟩
           have e0:p.o + 0*b.size + j=p.o + j:=by omega
           rw [e0] at h5
           simpa [Instr.loadAt,Instr.sureAddr] using h5
     case ptr k i j =>
       simp only at hl
       cases hk:h k with
       | none=>rw [hk] at hl; cases hl
       | some b =>
         rw [hk] at hl
         simp only at hl
         obtain ⟨p,h1,hlv⟩:=hr.blk k b hk
         cases hl2:(!b.off&&Nat.beq (((b.row i).drop j).take m).length m) with
         | false=>rw [hl2] at hl; cases hl
         | true =>
           rw [hl2,cond_true] at hl
           simp only [Bool.and_eq_true,Bool.not_eq_true'] at hl2
           have hsp:=(Blk.off_false hl2.1).2
           have hlv:=hlv (Blk.off_false hl2.1).1
           simp only [Qah] at hx
           obtain ⟨p',h3,hi,rfl⟩:=hx
           rw [h1] at h3; cases h3
           have hn:=hlv.n
           obtain ⟨y,h5,h6⟩:=Qwb hg hm hsp (hlv.rep (hlv.notNo (by omega))) (i:=i) (by omega) (Nat.eq_of_beq_eq_true hl2.2) hl
           exact ⟨y,by rw [hlv.s]; simpa [Instr.loadAt,Instr.sureAddr] using h5,h6⟩
theorem Qps {a:Addr} {v:Value} {old:Value} (ho:Qcr v) (hc:w.cell? a=some old) (hf:w.frozen? a=false):(store a v).run P w=.ok () (w.setCell a v):=by
 unfold store
 cases v <;> simp_all [Qcr,Sem.run]
theorem Qro {w:World} {r:Nat} {c:Array Value} {e:TypeId} {fz:Nat×Nat} (hb:w.heap[r]?=some (.cells c e fz)) (j:Nat) (v:Value) :
   (w.setCell ⟨r,j,none⟩ v).heap[r]?=some (.cells (c.setIfInBounds j v) e fz)∧(∀ k,k≠r→(w.setCell ⟨r,j,none⟩ v).heap[k]?=w.heap[k]?)∧(w.setCell ⟨r,j,none⟩ v).heap.size=w.heap.size:=by
 refine ⟨?_,fun k hk=>?_,by simp [World.setCell]⟩
 · simp [World.setCell,Array.getElem?_modify,hb]
 · simp only [World.setCell,Array.getElem?_modify]
   rw [if_neg (fun e=>hk e.symm)]
theorem Qd2 {r:Nat} {e:TypeId} {fz:Nat×Nat}:∀ (vs:List Value) (i base:Nat) (w:World) (c:Array Value),w.heap[r]?=some (.cells c e fz)→Zcg c.size fz→(∀ t,t<vs.length→base + i + t<c.size)→(∀ v∈vs,Qcr v) →
   ∃ w' c',(storeCells ⟨r,base,none⟩ vs i).run P w=.ok () w'∧w'.heap[r]?=some (.cells c' e fz)∧(∀ x:Nat,c'[x]?=if base + i≤x∧x<base + i + vs.length then vs[x - (base + i)]? else c[x]?) ∧
     (∀ k,k≠r→w'.heap[k]?=w.heap[k]?)∧w'.heap.size=w.heap.size∧w'.os=w.os∧w'.tape=w.tape∧w'.output=w.output
 | [],i,base,w,c,hb,_,_,_=>⟨w,c,by simp [storeCells],hb,fun x=>by rw [if_neg (by simp)],fun _ _=>rfl,rfl,rfl,rfl,rfl⟩
 | v :: vs,i,base,w,c,hb,hth,hle,ho=>by
   have hi:base + i<c.size:=hle 0 (by simp)
   have hcell:w.cell? ⟨r,base + i,none⟩=some c[base + i]:=by rw [Qch hb]; simp [hi]
   have hfr:w.frozen? ⟨r,base + i,none⟩=false:=by
     obtain ⟨lo,hh⟩:=fz
     simp only [World.frozen?,hb,Bool.and_eq_false_iff,decide_eq_false_iff_not]
     rcases hth with h | h
     · simp only at h; right; omega
     · simp only at h; left; omega
   obtain ⟨s1,s2,s3⟩:=Qro hb (base + i) v
   obtain ⟨w',c',h1,h2,h3,h4,h5,h6,h7,h8⟩:=Qd2 vs (i + 1) base _ _ s1 (by simpa using hth) (fun t ht=>by simpa [Nat.add_assoc,Nat.add_comm 1 t] using hle (t + 1) (by simpa using ht)) (fun x hx=>ho x (List.mem_cons_of_mem _ hx))
   refine ⟨w',c',?_,h2,fun x=>?_,fun k hk=>(h4 k hk).trans (s2 k hk),h5.trans s3,h6,h7,h8⟩
   · simp only [storeCells,Sem.run_bind,Addr.add_lit]
     rw [Qps (ho v List.mem_cons_self) hcell hfr]
     exact h1
   · rw [h3 x]
     by_cases hx:base + i=x
     · subst hx
       rw [if_neg (by omega),if_pos (by simp only [List.length_cons]; omega)]
       simp [hi]
     · by_cases hx2:base + (i + 1)≤x∧x<base + (i + 1) + vs.length
       · rw [if_pos hx2,if_pos (by simp only [List.length_cons]; omega)]
         have e:x - (base + i)=(x - (base + (i + 1))) + 1:=by omega
         rw [e,List.getElem?_cons_succ]
       · rw [if_neg hx2,if_neg (by simp only [List.length_cons]; omega)]
         simp [hx]
theorem Qeu:∀ {xs ys:List SV},Qan (xs++ys)=(Qan xs&&Qan ys)
 | [],ys=>by simp [Qan]
 | x :: xs,ys=>by simp [Qan,Qeu (xs:=xs),Bool.and_assoc]
theorem Qia (n:Nat):∀ {xs:List SV},Qan xs=true→Qan (xs.take n)=true:=by
 induction n with
 | zero=>intro xs _; simp [Qan]
 | succ n ih =>
   intro xs h
   match xs,h with
   | [],_=>simp [Qan]
   | x :: xs,h=>simp only [Qan,Bool.and_eq_true,List.take_succ_cons] at *; exact ⟨h.1,ih h.2⟩
theorem Qib (n:Nat):∀ {xs:List SV},Qan xs=true→Qan (xs.drop n)=true:=by
 induction n with
 | zero=>intro xs h; simpa using h
 | succ n ih =>
   intro xs h
   match xs,h with
   | [],_=>simp [Qan]
   | x :: xs,h=>simp only [Qan,Bool.and_eq_true] at h; simpa using ih h.2
theorem Qk4 {cs xs:List SV} {off:Nat} (h1:Qan cs=true) (h2:Qan xs=true):Qan (Qfa cs off xs)=true:=by
 unfold Qfa
 rw [Qeu,Qeu,Qia _ h1,h2,Qib _ h1]
 rfl
theorem Qec {k:Nat} {b b':Blk} {p:Loc} {w':World} (hr:HRep δ h w) (hk:h k=some b) (hrw:b.rw=true) (hdead:b.dead=false) (hd:δ k=some p) (hno:p.no=false)
   (hb:b'.dead=false→Live δ b' w' p) (hos:w'.os=w.os) (htape:w'.tape=w.tape) (hout:w'.output=w.output) (hsize:w.heap.size≤w'.heap.size) (hold:∀ r,r≠p.r→r<w.heap.size→w'.heap[r]?=w.heap[r]?):Upd δ h w δ [(k,b')] w':=by
 have hlk:Qc9 δ h k p.r:=⟨b,p,hk,hdead,hd,hno,rfl⟩
 have hl:∀ k' r,Qc9 δ (Qb3 h [(k,b')]) k' r→Qc9 δ h k' r:=fun k' r ⟨b1,p1,h1,h2,h3,h4,h5⟩=>by
   simp only [Qb3,Qew] at h1
   cases he:Nat.beq k' k with
   | true =>
     have ek:k'=k:=Nat.eq_of_beq_eq_true he
     subst ek
     rw [hd] at h3; cases h3
     exact ⟨b,p,hk,hdead,hd,hno,h5⟩
   | false=>rw [he,cond_false] at h1; exact ⟨b1,p1,h1,h2,h3,h4,h5⟩
 have hfz:∀ q,δ.fz q→∀ k' c,Qb3 h [(k,b')] k'=some c→c.rw=true→¬ Qc9 δ (Qb3 h [(k,b')]) k' q.r:=fun q hq k' c hk' hc hll=>by
   have h0:=hl k' q.r hll
   simp only [Qb3,Qew] at hk'
   cases he:Nat.beq k' k with
   | true =>
     have ek:k'=k:=Nat.eq_of_beq_eq_true he
     subst ek
     exact (hr.fz q hq).2 k' b hk hrw h0
   | false =>
     rw [he,cond_false] at hk'
     exact (hr.fz q hq).2 k' c hk' hc h0
 refine ⟨δ.le_refl,⟨fun k' c hk'=>?_,fun k1 k2 r c hl1 hl2 hk' hrwc=>?_,fun q hq=>⟨Fz.at_same (hr.fz q hq).1 (hold q.r (fun e=>(hr.fz q hq).2 k b hk hrw (e ▸ hlk)) (Fz.at_lt (hr.fz q hq).1)),hfz q hq⟩⟩,fun k' h0 h0'=>absurd h0 h0',fun k' p' h0 h0'=>(by rw [h0] at h0'; cases h0'),⟨hos,htape,hout,hsize,fun r hr' ho'=>?_⟩,fun q hq=>.inl hq⟩
 · simp only [Qb3,Qew] at hk'
   cases he:Nat.beq k' k with
   | true =>
     have ek:k'=k:=Nat.eq_of_beq_eq_true he
     subst ek
     rw [he,cond_true] at hk'
     cases hk'
     exact ⟨p,hd,hb⟩
   | false =>
     rw [he,cond_false] at hk'
     obtain ⟨p',d1,d2⟩:=hr.blk k' c hk'
     refine ⟨p',d1,fun hdd=>(d2 hdd).mono δ.le_refl fun hn=>hold p'.r (fun e=>?_) (Qcw ((d2 hdd).rep hn))⟩
     have:=hr.inj k k' p.r b hlk ⟨c,p',hk',hdd,d1,hn,e⟩ hk hrw
     subst this
     simp at he
 · obtain ⟨b1,p1,q1,q2,q3,q4,q5⟩:=hl1
   have hl1:Qc9 δ (Qb3 h [(k,b')]) k1 r:=⟨b1,p1,q1,q2,q3,q4,q5⟩
   simp only [Qb3,Qew] at hk'
   cases he:Nat.beq k1 k with
   | true =>
     have ek:k1=k:=Nat.eq_of_beq_eq_true he
     subst ek
     exact hr.inj k1 k2 r b (hl _ _ hl1) (hl _ _ hl2) hk hrw
   | false=>rw [he,cond_false] at hk'; exact hr.inj k1 k2 r c (hl _ _ hl1) (hl _ _ hl2) hk' hrwc
 · exact hold r (fun e=>ho' ⟨k,b,hk,hrw,e ▸ hlk⟩) hr'
theorem Qrl {b:Blk} {k r o i j m:Nat} {t:TypeId} {v:SV} {rv:Value} {cs:List SV} {row':Nat→List SV} (hr:HRep δ h w) (hk:h k=some b) {p:Loc} (hd:δ k=some p) (hlv:Live δ b w p) (hno:p.no=false) (hdead:b.dead=false) (hpr:p.r=r) (hpo:p.o=o)
   (hm:Qco P t=some m) (hcs:Qh8 v=some cs) (hv:Qah δ v rv) (hsp:b.sp=none) (hrw:b.rw=true) (hi:i<b.n) (hlen:cs.length=m) (hjm:j + m≤(b.row i).length) (hall:cs.all Qep=true)
   (hrow:∀ x,x<b.n→row' x=if x=i then Qfa (b.row i) j cs else b.row x) :
   ∃ w',(storeVar t ⟨r,o + i*b.size + j,none⟩ rv).run P w=.ok () w'∧Upd δ h w δ [(k,{b with flat:=b.flat&&Qan cs,row:=row'})] w':=by
 subst hpr
 subst hpo
 obtain ⟨c,e,fz,h1,h2,hfl,hel,hex,hwh,h3⟩:=Qap hsp (hlv.rep hno)
 have hcells:=Qir hcs hv
 have hclen:=Qa6 hcells
 have hone:=Qv2 hall hcells
 obtain ⟨h4,h5⟩:=h3 i hi
 -- the cells are there
 have hthere:∀ t,t<rv.cells.toList.length→p.o + i*b.size + j + 0 + t<c.size:=fun t ht=>by
   have ht':j + t<(b.row i).length:=by omega
   obtain ⟨y,h6,_⟩:=h5 (j + t) _ (List.getElem?_eq_getElem ht')
   have:=(Array.getElem?_eq_some_iff.1 h6).1
   omega
 obtain ⟨w',c',g1,g2,g3,g4,g5,g6,g7,g8⟩:=Qd2 (P:=P) (r:=p.r) (e:=e) rv.cells.toList 0 (p.o + i*b.size + j) w c h1 (h2 hrw) hthere hone
 have hsize:rv.cells.size=m:=by rw [← hlen,hclen]; simp
 have hcsize:c'.size=c.size:=by
   have key:∀ x,(c'[x]?=none↔c[x]?=none):=fun x=>by
     rw [g3 x]
     split
     · rename_i hx
       have hlt:x<c.size:=by
         have:=hthere (x - (p.o + i*b.size + j + 0)) (by omega)
         omega
       have hlt2:x - (p.o + i*b.size + j + 0)<rv.cells.toList.length:=by omega
       constructor
       · intro h; rw [List.getElem?_eq_getElem hlt2] at h; cases h
       · intro h; rw [Array.getElem?_eq_none_iff] at h; omega
     · rfl
   have k1:=key c.size
   have k2:=key c'.size
   simp only [Array.getElem?_eq_none_iff,Nat.le_refl,iff_true,true_iff] at k1 k2
   omega
 refine ⟨w',?_,Qec hr hk hrw hdead hd hno (fun _=>⟨hlv.s,hlv.n,hlv.no,fun _=>Qbt hsp ⟨c',e,fz,g2,fun hh=>by rw [hcsize]; exact h2 hh,fun hff x hx=>?_,hel,by rw [hcsize]; exact hex,fun hh=>by rw [hcsize]; exact hwh hh,fun x hx=>?_⟩,hlv.loose⟩) g6 g7 g8 (by omega) (fun r' hne _=>g4 r' hne)⟩
 · simp only [storeVar,Sem.run_bind,Qa4 hm,Result.andThen_ok]
   rw [if_neg (by simp [hsize])]
   exact g1
 · simp only [Bool.and_eq_true] at hff
   simp only
   rw [hrow x hx]
   by_cases hxi:x=i
   · rw [if_pos hxi]
     exact Qk4 (by have:=hfl hff.1 i hi; exact this) hff.2
   · rw [if_neg hxi]
     exact hfl hff.1 x hx
 · obtain ⟨l1,l2⟩:=h3 x hx
   simp only
   rw [hrow x hx]
   by_cases hxi:x=i
   · subst hxi
     rw [if_pos rfl]
     refine ⟨by simp [Qfa]; omega,fun j' y hy=>?_⟩
     unfold Qfa at hy
     rw [Qn1 _ _ _ (by omega)] at hy
     rw [g3]
     by_cases q1:j'<j
     · rw [if_pos q1] at hy
       rw [if_neg (by omega)]
       exact l2 j' y hy
     · rw [if_neg q1] at hy
       by_cases q2:j'<j + cs.length
       · rw [if_pos q2] at hy
         rw [if_pos (by omega)]
         rw [show p.o + x*b.size + j' - (p.o + x*b.size + j + 0)=j' - j by omega]
         exact Qb5 hcells hy
       · rw [if_neg q2] at hy
         rw [if_neg (by omega)]
         exact l2 j' y hy
   · rw [if_neg hxi]
     refine ⟨l1,fun j' y hy=>?_⟩
     have hj':j'<b.size:=by rw [← l1]; exact (List.getElem?_eq_some_iff.1 hy).1
     rw [g3]
     have hne:¬ (p.o + i*b.size + j + 0≤p.o + x*b.size + j'∧p.o + x*b.size + j'<p.o + i*b.size + j + 0 + rv.cells.toList.length):=by
       rintro ⟨a1,a2⟩
       have hl4:j + rv.cells.toList.length≤b.size:=by omega
       rcases Nat.lt_or_gt_of_ne hxi with hlt | hgt
       · have:(x + 1)*b.size≤i*b.size:=Nat.mul_le_mul_right _ hlt
         rw [Nat.add_mul] at this
         omega
       · have:(i + 1)*b.size≤x*b.size:=Nat.mul_le_mul_right _ hgt
         rw [Nat.add_mul] at this
         omega
     rw [if_neg hne]
     exact l2 j' y hy
theorem Q6f {t:TypeId} {x v:SV} {u:List (Nat×Blk)} {rx rv:Value} (hs:Q0b P h t x v=some u) (hx:Qah δ x rx) (hv:Qah δ v rv) (hr:HRep δ h w) :
   ∃ w',(Instr.storeAt t rx rv).run P w=.ok () w'∧Upd δ h w δ u w':=by
 unfold Q0b at hs
 cases hm:Qco P t with
 | none=>rw [hm] at hs; cases hs
 | some m =>
   rw [hm] at hs
   cases x <;> try (cases hs; done)
   case vp k j =>
     simp only at hs
     cases hk:h k with
     | none=>rw [hk] at hs; cases hs
     | some b =>
       rw [hk] at hs
       simp only at hs
       cases hcs:Qh8 v with
       | none=>rw [hcs] at hs; cases hs
       | some cs =>
         rw [hcs] at hs
         simp only at hs
         cases hb:(b.rw&&!b.off&&Nat.beq b.n 1&&Nat.beq cs.length m&&Nat.ble (j + m) (b.row 0).length&&cs.all Qep) with
         | false=>rw [hb] at hs; cases hs
         | true =>
           rw [hb,cond_true] at hs
           cases hs
           simp only [Bool.and_eq_true,Bool.not_eq_true'] at hb
           obtain ⟨⟨⟨⟨⟨b1,b0⟩,b2⟩,b3⟩,b4⟩,b5⟩:=hb
           obtain ⟨p,d1,hlv⟩:=hr.blk k b hk
           have hsp:=(Blk.off_false b0).2
           have b0:=(Blk.off_false b0).1
           have hlv:=hlv b0
           simp only [Qah] at hx
           obtain ⟨p',h3,hpos,rfl⟩:=hx
           rw [d1] at h3; cases h3
           have hn1:b.n=1:=Nat.eq_of_beq_eq_true b2
           obtain ⟨w',e1,e2⟩:=Qrl (P:=P) (i:=0) (j:=j) (row':=fun _=>Qfa (b.row 0) j cs) hr hk d1 hlv (hlv.notNo hpos) b0 rfl rfl hm hcs hv hsp b1 (by omega) (Nat.eq_of_beq_eq_true b3) (Nat.le_of_ble_eq_true b4) b5 (fun x hx=>by rw [if_pos (by omega)])
           refine ⟨w',?_,e2⟩
           have e0:p.o + 0*b.size + j=p.o + j:=by omega
           rw [e0] at e1
           simpa [Instr.storeAt,Instr.sureAddr] using e1
   case ptr k i j =>
     simp only at hs
     cases hk:h k with
     | none=>rw [hk] at hs; cases hs
     | some b =>
       rw [hk] at hs
       simp only at hs
       cases hcs:Qh8 v with
       | none=>rw [hcs] at hs; cases hs
       | some cs =>
         rw [hcs] at hs
         simp only at hs
         cases hb:(b.rw&&!b.off&&Nat.beq cs.length m&&Nat.ble (j + m) (b.row i).length&&cs.all Qep) with
         | false=>rw [hb] at hs; cases hs
         | true =>
           rw [hb,cond_true] at hs
           cases hs
           simp only [Bool.and_eq_true,Bool.not_eq_true'] at hb
           obtain ⟨⟨⟨⟨b1,b0⟩,b3⟩,b4⟩,b5⟩:=hb
           obtain ⟨p,d1,hlv⟩:=hr.blk k b hk
           have hsp:=(Blk.off_false b0).2
           have b0:=(Blk.off_false b0).1
           have hlv:=hlv b0
           have hn:=hlv.n
           simp only [Qah] at hx
           obtain ⟨p',h3,hi,rfl⟩:=hx
           rw [d1] at h3; cases h3
           obtain ⟨w',e1,e2⟩:=Qrl (P:=P) (i:=i) (j:=j) (row':=fun x=>Qns (Nat.beq x i) (Qfa (b.row i) j cs) (b.row x)) hr hk d1 hlv (hlv.notNo (by omega)) b0 rfl rfl hm hcs hv hsp b1 (by omega) (Nat.eq_of_beq_eq_true b3) (Nat.le_of_ble_eq_true b4) b5 (fun x _=>by
             by_cases hx:x=i
             · subst hx; simp [Qeg]
             · have:Nat.beq x i=false:=Qbc hx
               simp [this,hx,Qeg])
           exact ⟨w',by rw [hlv.s]; simpa [Instr.storeAt,Instr.sureAddr] using e1,e2⟩
theorem Q15 {n:Nat} {b:Blk} {w':World} (hrep:∀ δ',δ.le δ'→Qcm δ' b w' w.heap.size 0) (hold:∀ r,r<w.heap.size→w'.heap[r]?=w.heap[r]?) (hsz:w.heap.size≤w'.heap.size) (hos:w'.os=w.os) (htp:w'.tape=w.tape) (hou:w'.output=w.output) (hr:HRep δ h w) (hn:h n=none) (hd:δ n=none) :
   ∃ δ',Upd δ h w δ' [(n,b)] w'∧δ' n=some ⟨w.heap.size,b.size,0,b.n,false,false⟩:=by
 refine ⟨⟨fun k=>if k=n then some ⟨w.heap.size,b.size,0,b.n,false,false⟩ else δ k,δ.fz⟩,?_,by simp⟩
 have hle:δ.le (⟨fun k=>if k=n then some ⟨w.heap.size,b.size,0,b.n,false,false⟩ else δ k,δ.fz⟩:Dict):=⟨fun k p hk=>by
   have:k≠n:=fun e=>by subst e; rw [hd] at hk; cases hk
   simp [this,hk],fun _ hq=>hq⟩
 have cls:∀ k r,Qc9 (⟨fun k=>if k=n then some ⟨w.heap.size,b.size,0,b.n,false,false⟩ else δ k,δ.fz⟩:Dict) (Qb3 h [(n,b)]) k r→(k=n∧r=w.heap.size)∨(k≠n∧Qc9 δ h k r∧r<w.heap.size):=fun k r ⟨b',p,h1,h2,h3,h4,h5⟩=>by
   simp only at h3
   by_cases hk:k=n
   · subst hk
     rw [if_pos rfl] at h3
     cases h3
     exact .inl ⟨rfl,h5.symm⟩
   · rw [if_neg hk] at h3
     have he:Nat.beq k n=false:=Qbc hk
     simp only [Qb3,Qew,he,cond_false] at h1
     have hl:Qc9 δ h k r:=⟨b',p,h1,h2,h3,h4,h5⟩
     exact .inr ⟨hk,hl,Qdq hr hl⟩
 refine ⟨hle,⟨fun k b' hk=>?_,fun k1 k2 r b1 q1 q2 q3 q4=>?_,fun q hq=>⟨Fz.at_same (hr.fz q hq).1 (hold q.r (Fz.at_lt (hr.fz q hq).1)),fun k b' hk hb hl=>?_⟩⟩,fun k h0 h1=>?_,fun k p h0 h1 _=>?_,⟨hos,htp,hou,hsz,fun r hr' _=>hold r hr'⟩,fun q hq=>.inl hq⟩
 · simp only [Qb3,Qew] at hk
   cases he:Nat.beq k n with
   | true =>
     have ek:k=n:=Nat.eq_of_beq_eq_true he
     subst ek
     rw [he,cond_true] at hk
     cases hk
     refine ⟨⟨w.heap.size,b.size,0,b.n,false,false⟩,by simp,fun _=>⟨rfl,rfl,fun h=>(by cases h),fun _=>hrep _ hle,fun h=>(by cases h)⟩⟩
   | false =>
     rw [he,cond_false] at hk
     obtain ⟨p,d1,d2⟩:=hr.blk k b' hk
     exact ⟨p,hle _ _ d1,fun hdd=>(d2 hdd).mono hle fun hn=>hold p.r (Qcw ((d2 hdd).rep hn))⟩
 · rcases cls k1 r q1 with ⟨e1,e2⟩ | ⟨e1,e2,e3⟩ <;> rcases cls k2 r q2 with ⟨f1,f2⟩ | ⟨f1,f2,f3⟩
   · rw [e1,f1]
   · omega
   · omega
   · have he:Nat.beq k1 n=false:=Qbc e1
     simp only [Qb3,Qew,he,cond_false] at q3
     exact hr.inj k1 k2 r b1 e2 f2 q3 q4
 · rcases cls k q.r hl with ⟨e1,e2⟩ | ⟨e1,e2,e3⟩
   · have:=Fz.at_lt (hr.fz q hq).1; omega
   · have he:Nat.beq k n=false:=Qbc e1
     simp only [Qb3,Qew,he,cond_false] at hk
     exact (hr.fz q hq).2 k b' hk hb e2
 · by_cases hk:k=n
   · subst hk; simp [Qac]
   · simp [hk,h0] at h1
 · by_cases hk:k=n
   · subst hk; simp at h1; subst h1; exact .inl (Nat.le_refl _)
   · simp [hk,h0] at h1
theorem Q14 {n:Nat} {b:Blk} {c:Array Value} {el:TypeId} {fz:Nat×Nat} {w':World} (hnew:w'.heap[w.heap.size]?=some (.cells c el fz)) (hth:Zcg c.size fz) (hold:∀ r,r<w.heap.size→w'.heap[r]?=w.heap[r]?) (hsz:w.heap.size≤w'.heap.size) (hos:w'.os=w.os) (htp:w'.tape=w.tape) (hou:w'.output=w.output) (hr:HRep δ h w) (hn:h n=none) (hd:δ n=none) (hel:b.elem≠0→el=b.elem) (hext:b.ext*b.size≤c.size) (hwh:b.whole=true→c.size=b.size∧fz.2=0) (hflat:b.flat=true→∀ i,i<b.n→Qan (b.row i)=true) (hrow:∀ i,i<b.n→Qf2 δ c b.size 0 i (b.row i)) (hsp:b.sp=none:=by rfl) :
   ∃ δ',Upd δ h w δ' [(n,b)] w'∧δ' n=some ⟨w.heap.size,b.size,0,b.n,false,false⟩ :=
 Q15 (fun δ' hle=>Qbt hsp ⟨c,_,fz,hnew,fun _=>hth,hflat,hel,by simpa using hext,fun hh=>⟨rfl,(hwh hh).1,fun _=>(hwh hh).2⟩,fun i hi=>⟨(hrow i hi).1,fun j x hx=>by
   obtain ⟨y,g1,g2⟩:=(hrow i hi).2 j x hx
   exact ⟨y,g1,Qb4 hle _ _ g2⟩⟩⟩) hold hsz hos htp hou hr hn hd
theorem Qr2 {n:Nat} {b:Blk} {c:Array Value} {el:TypeId} (hr:HRep δ h w) (hn:h n=none) (hd:δ n=none) (hel:b.elem≠0→el=b.elem) (hext:b.ext*b.size≤c.size) (hwh:b.whole=true→c.size=b.size) (hflat:b.flat=true→∀ i,i<b.n→Qan (b.row i)=true) (hrow:∀ i,i<b.n→Qf2 δ c b.size 0 i (b.row i)) (hsp:b.sp=none:=by rfl) :
   ∃ δ',Upd δ h w δ' [(n,b)] (w.alloc (.cells c el))∧δ' n=some ⟨w.heap.size,b.size,0,b.n,false,false⟩ :=
 Q14 (heap_alloc_new w _) (.inl rfl) (fun r hr'=>heap_alloc_old w _ hr') (by simp) rfl rfl rfl hr hn hd hel hext (fun hh=>⟨hwh hh,rfl⟩) hflat hrow hsp
end
end Go.SE
end
