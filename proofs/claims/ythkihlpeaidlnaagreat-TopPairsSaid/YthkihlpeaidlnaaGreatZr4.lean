/-
 What the proof uses, part 4.
-/
import Derived.WalkSpells
import Derived.ChangeKeysEq
import Derived.Test.YthkihlpeaidlnaaGreatZr3
set_option maxRecDepth 100000
set_option linter.unusedSimpArgs false
set_option linter.unusedVariables false

section
namespace Go.SE
section
variable {P:Program} {δ:Dict} {h:Qbo} {w:World}
def Qum (P:Program) (t:TypeId) (xs:List Value) (x:Value):Prop:=(Qjk P t=some true∧x=.agg xs.toArray)∨(Qjk P t=some false∧xs=[x])
theorem Qhw {t:TypeId} {m:Nat} (hm:Qco P t=some m) {g:Bool} (hg:Qjk P t=some g) {xs:List Value} {off:Nat} (hl:g=false→((xs.drop off).take m).length=1) :
   ∃ x,(part t xs.toArray off).run P w=.ok x w∧Qum P t ((xs.drop off).take m) x:=by
 cases g with
 | true =>
   refine ⟨.agg ((xs.drop off).take m).toArray,?_,.inl ⟨hg,rfl⟩⟩
   simp only [part,Sem.run_bind,Qfz hg,Result.andThen_ok,if_true,Qa4 hm,Qos]
   rfl
 | false =>
   match hc:(xs.drop off).take m,hl rfl with
   | [c],_ =>
     refine ⟨c,?_,.inr ⟨hg,rfl⟩⟩
     have:(xs.drop off)[0]?=some c:=by
       have:((xs.drop off).take m)[0]?=some c:=by rw [hc]; rfl
       rw [List.getElem?_take] at this
       split at this
       · exact this
       · cases this
     have:xs[off]?=some c:=by simpa using this
     simp [part,Qfz hg,this]
theorem Q30 {t:TypeId} {d:TypeDesc} (hu:P.underlying t=some d):∃ g,Qjk P t=some g:=by
 unfold Qjk
 rw [hu]
 cases d <;> exact ⟨_,rfl⟩
theorem Qm2 {d:Nat} {t:TypeId} {xs ys:List SV} {b:Bool} (h:eqS P d t xs ys=some b):Qjk P t=some false→xs.length=1∧ys.length=1:=by
 intro hg
 cases d with
 | zero=>simp [eqS] at h
 | succ d =>
   unfold eqS at h
   unfold Qjk at hg
   cases hu:P.underlying t with
   | none=>rw [hu] at h; cases h
   | some k =>
     rw [hu] at h hg
     cases k <;> simp only at h hg <;> try (cases h; done)
     all_goals first
       | (cases hg; done)
       | (split at h <;> first | (cases h; done) | exact ⟨rfl,rfl⟩)
theorem Qm3 (d D:Nat) (ih:∀ t xs ys rx ry b,eqS P d t xs ys=some b→Qaw δ xs rx→Qaw δ ys ry→∀ X Y,Qum P t rx X→Qum P t ry Y→(Op.equalIn D t X Y).run P w=.ok b w)
   {xs ys : List SV} {rx ry : List Value} (hx : Qaw δ xs rx) (hy : Qaw δ ys ry) : ∀ (fs : List Field) (b : Bool), fs.any (fun f => f.name == "_") = false → eqFields (eqS P d) P xs ys fs = some b →
   (Op.eqFields D rx.toArray ry.toArray fs).run P w=.ok b w
 | [],b,_,hb=>by
   simp only [eqFields,Option.some.injEq] at hb
   subst hb
   simp [Op.eqFields]
 | f :: rest,b,hn,hb=>by
   simp only [List.any_cons,Bool.or_eq_false_iff] at hn
   simp only [eqFields] at hb
   have hname : f.name ≠ "_" := by simpa using hn.1
   cases hm:Qco P f.type with
   | none=>rw [hm] at hb; cases hb
   | some m =>
     rw [hm] at hb
     simp only at hb
     cases he:eqS P d f.type ((xs.drop f.offset).take m) ((ys.drop f.offset).take m) with
     | none=>rw [he] at hb; cases hb
     | some c =>
       rw [he] at hb
       simp only at hb
       obtain ⟨g,hg⟩:∃ g,Qjk P f.type=some g:=by
         cases hu:P.underlying f.type with
         | none =>
           cases d with
           | zero=>simp [eqS] at he
           | succ d=>unfold eqS at he; rw [hu] at he; cases he
         | some k=>exact Q30 hu
       have hxl:=Qa6 (Qdh m (Qdi f.offset hx))
       have hyl:=Qa6 (Qdh m (Qdi f.offset hy))
       obtain ⟨X,hX1,hX2⟩:=Qhw (P:=P) (w:=w) hm hg (xs:=rx) (off:=f.offset) (fun e=>by rw [← hxl]; subst e; exact (Qm2 he hg).1)
       obtain ⟨Y,hY1,hY2⟩:=Qhw (P:=P) (w:=w) hm hg (xs:=ry) (off:=f.offset) (fun e=>by rw [← hyl]; subst e; exact (Qm2 he hg).2)
       have hrun:=ih f.type _ _ _ _ c he (Qdh m (Qdi f.offset hx)) (Qdh m (Qdi f.offset hy)) X Y hX2 hY2
       simp only [Op.eqFields,hname,ne_eq,not_false_eq_true,if_true,Sem.run_bind,hX1,hY1,hrun,Result.andThen_ok]
       match rest,hb with
       | [],hb =>
         simp only [Option.some.injEq] at hb
         subst hb
         cases c <;> simp [Op.eqFields]
       | f' :: rest',hb =>
         simp only at hb
         cases hr:eqFields (eqS P d) P xs ys (f' :: rest') with
         | none=>rw [hr] at hb; cases hb
         | some c' =>
           rw [hr] at hb
           simp only [Option.some.injEq] at hb
           have:=Qm3 d D ih hx hy (f' :: rest') c' hn.2 hr
           subst hb
           cases c
           · simp
           · simpa using this
theorem Qot (d D:Nat) {e:TypeId} {m:Nat} (hm:Qco P e=some m) (ih:∀ t xs ys rx ry b,eqS P d t xs ys=some b→Qaw δ xs rx→Qaw δ ys ry→∀ X Y,Qum P t rx X→Qum P t ry Y→(Op.equalIn D t X Y).run P w=.ok b w)
   {xs ys:List SV} {rx ry:List Value} (hx:Qaw δ xs rx) (hy:Qaw δ ys ry):∀ (n i:Nat) (b:Bool),Qkb (eqS P d e) m xs ys n i=some b →
   (Op.eqItems D e m rx.toArray ry.toArray (List.range' i n)).run P w=.ok b w
 | 0,i,b,hb=>by
   simp only [Qkb,Option.some.injEq] at hb
   subst hb
   simp [Op.eqItems]
 | n + 1,i,b,hb=>by
   simp only [Qkb] at hb
   cases he:eqS P d e ((xs.drop (i*m)).take m) ((ys.drop (i*m)).take m) with
   | none=>rw [he] at hb; cases hb
   | some c =>
     rw [he] at hb
     simp only at hb
     obtain ⟨g,hg⟩:∃ g,Qjk P e=some g:=by
       cases hu:P.underlying e with
       | none =>
         cases d with
         | zero=>simp [eqS] at he
         | succ d=>unfold eqS at he; rw [hu] at he; cases he
       | some k=>exact Q30 hu
     have hxl:=Qa6 (Qdh m (Qdi (i*m) hx))
     have hyl:=Qa6 (Qdh m (Qdi (i*m) hy))
     obtain ⟨X,hX1,hX2⟩:=Qhw (P:=P) (w:=w) hm hg (xs:=rx) (off:=i*m) (fun e=>by rw [← hxl]; subst e; exact (Qm2 he hg).1)
     obtain ⟨Y,hY1,hY2⟩:=Qhw (P:=P) (w:=w) hm hg (xs:=ry) (off:=i*m) (fun e=>by rw [← hyl]; subst e; exact (Qm2 he hg).2)
     have hrun:=ih e _ _ _ _ c he (Qdh m (Qdi (i*m) hx)) (Qdh m (Qdi (i*m) hy)) X Y hX2 hY2
     simp only [List.range'_succ,Op.eqItems,Sem.run_bind,hX1,hY1,hrun,Result.andThen_ok]
     match n,hb with
     | 0,hb =>
       simp only [Option.some.injEq] at hb
       subst hb
       cases c <;> simp [Op.eqItems]
     | n' + 1,hb =>
       simp only at hb
       cases hr:Qkb (eqS P d e) m xs ys (n' + 1) (i + 1) with
       | none=>rw [hr] at hb; cases hb
       | some c' =>
         rw [hr] at hb
         simp only [Option.some.injEq] at hb
         have:=Qot d D hm ih hx hy (n' + 1) (i + 1) c' hr
         subst hb
         cases c
         · simp
         · simpa using this
theorem Q94:∀ (d D:Nat),d≤D→∀ t xs ys rx ry b,eqS P d t xs ys=some b→Qaw δ xs rx→Qaw δ ys ry→∀ X Y,Qum P t rx X→Qum P t ry Y→(Op.equalIn D t X Y).run P w=.ok b w
 | 0,_,_,_,_,_,_,_,_,he,_,_,_,_,_,_=>by simp [eqS] at he
 | d + 1,D,hD,t,xs,ys,rx,ry,b,he,hx,hy,X,Y,hX,hY=>by
   obtain ⟨D,rfl⟩:∃ D',D=D' + 1:=⟨D - 1,by omega⟩
   have ih:=Q94 d D (by omega)
   have hlen:=Qm2 he
   unfold eqS at he
   cases hu:P.underlying t with
   | none=>rw [hu] at he; cases he
   | some k =>
     rw [hu] at he
     -- one cell on each side
     have one:∀ {x y:SV},xs=[x]→ys=[y]→Qjk P t=some false→Qah δ x X∧Qah δ y Y:=fun {x y} e1 e2 hf=>by
       subst e1; subst e2
       rcases hX with ⟨h1,_⟩ | ⟨_,rfl⟩
       · rw [hf] at h1; cases h1
       rcases hY with ⟨h1,_⟩ | ⟨_,rfl⟩
       · rw [hf] at h1; cases h1
       simp only [Qaw,and_true] at hx hy
       exact ⟨hx,hy⟩
     cases k <;> simp only at he <;> try (cases he; done)
     case bool =>
       split at he <;> try (cases he; done)
       obtain ⟨h1,h2⟩:=one rfl rfl (by simp [Qjk,hu])
       simp only [Qah] at h1 h2
       subst h1; subst h2
       cases he
       exact run_equalIn_bool w D t _ _ hu
     case int q =>
       split at he <;> try (cases he; done)
       obtain ⟨h1,h2⟩:=one rfl rfl (by simp [Qjk,hu])
       simp only [Qah] at h1 h2
       subst h1; subst h2
       split at he <;> try (cases he; done)
       rename_i hk
       subst hk
       cases he
       exact run_equalIn_int w D t _ _ _ _ hu
     case string =>
       split at he <;> try (cases he; done)
       obtain ⟨h1,h2⟩:=one rfl rfl (by simp [Qjk,hu])
       simp only [Qah] at h1 h2
       subst h1; subst h2
       cases he
       rw [beq_toListBytes]
       exact run_equalIn_string w D t _ _ hu
     case struct fields =>
       have hagg:Qjk P t=some true:=by simp [Qjk,hu]
       rcases hX with ⟨_,rfl⟩ | ⟨h1,_⟩
       case inr=>rw [hagg] at h1; cases h1
       rcases hY with ⟨_,rfl⟩ | ⟨h1,_⟩
       case inr=>rw [hagg] at h1; cases h1
       cases hc : (P.stoodInHeld t || fields.toList.any (fun f => f.name == "_")) with
       | true=>rw [hc] at he; cases he
       | false =>
         rw [hc,cond_false] at he
         rw [Bool.or_eq_false_iff] at hc
         have hfs:P.fieldsOf t=fields:=by simp [Program.fieldsOf,hu]
         rw [run_equalIn_struct w D t _ _ (by rw [hfs]; exact hu) hc.1,hfs]
         exact Qm3 d D ih hx hy fields.toList b hc.2 he
     case array n e =>
       have hagg:Qjk P t=some true:=by simp [Qjk,hu]
       rcases hX with ⟨_,rfl⟩ | ⟨h1,_⟩
       case inr=>rw [hagg] at h1; cases h1
       rcases hY with ⟨_,rfl⟩ | ⟨h1,_⟩
       case inr=>rw [hagg] at h1; cases h1
       cases hm:Qco P e with
       | none=>rw [hm] at he; cases he
       | some m =>
         rw [hm] at he
         simp only at he
         have hi:∃ i,P.info? e=some i∧P.cellsOf e=m:=by
           unfold Qco at hm
           cases hi:P.info? e with
           | none=>rw [hi] at hm; cases hm
           | some i=>rw [hi] at hm; cases hm; exact ⟨i,rfl,by simp [Program.cellsOf,hi]⟩
         obtain ⟨i,hi,hce⟩:=hi
         rw [run_equalIn_array w D _ _ hu hi,hce,List.range_eq_range']
         exact Qot d D hm ih hx hy n 0 b he
theorem absV_v {δ:Dict} {x r:Value}:Qah δ (.v x) r↔r=x:=by simp only [Qah]
theorem Qvw {c b:Bool} {p:Prop} (hb:b=true→p) (hp:∀ q,pre c b p=some q→q):p:=by
 cases c with
 | false=>exact hp p rfl
 | true =>
   cases b with
   | true=>exact hb rfl
   | false=>exact (hp False rfl).elim
theorem Qvu {t:TypeId} {m:Nat} {x y:SV} {rx ry:Value} {b:Bool} (hu:Qfv P t=some m) (he:Q7n x y=some b) (hx:Qah δ x rx) (hy:Qah δ y ry) (D:Nat) :
   (Op.equalIn (D + 1) t rx ry).run P w=.ok b w∧(∀ cs,rx≠.agg cs)∧rx≠.nilIface∧((∃ a,rx=.pointer a)∧∃ a,ry=.pointer a):=by
 unfold Qfv at hu
 split at hu <;> try (cases hu; done)
 rename_i e ht
 unfold Q7n at he
 split at he
 · cases he
   simp only [Qah] at hx hy
   obtain ⟨p,_,_,rfl⟩:=hx
   subst hy
   exact ⟨by simp [Op.equalIn,run_underlying ht],by simp,by simp,⟨_,rfl⟩,_,rfl⟩
 · cases he
   simp only [Qah] at hx hy
   subst hx
   subst hy
   exact ⟨by simp [Op.equalIn,run_underlying ht],by simp,by simp,⟨_,rfl⟩,_,rfl⟩
 · rename_i k j k' j'
   cases hb:(Nat.beq k k'&&Nat.beq j j') with
   | false=>rw [hb] at he; cases he
   | true =>
     rw [hb] at he
     cases he
     rw [Bool.and_eq_true] at hb
     have e1:=Nat.eq_of_beq_eq_true hb.1
     have e2:=Nat.eq_of_beq_eq_true hb.2
     subst e1
     subst e2
     simp only [Qah] at hx hy
     obtain ⟨p,h1,_,rfl⟩:=hx
     obtain ⟨p',h1',_,rfl⟩:=hy
     rw [h1] at h1'; cases h1'
     refine ⟨?_,by simp,by simp,⟨_,rfl⟩,_,rfl⟩
     by_cases hm:m=0
     · subst hm
       simp [Op.equalIn,run_underlying ht,Qa4 hu]
     · simp [Op.equalIn,run_underlying ht,Qa4 hu,sameAddr]
 · cases he
theorem Zj3 {op:BinOp} {t:TypeId} {c:Bool} {x y:SV} {ox oy:Operand} {rx ry:Value} {e:Eff} (hb:Zni P op t c x y=some e) (hx:Qah δ x rx) (hy:Qah δ y ry) (hp:e.asks) (hc:c=Qqe oy) :
   ∃ v r p,e=.det p v []∧Qah δ v r∧(do eqGuard op t ox oy rx ry; binOp op t rx ry:Sem Value).run P w=.ok r w:=by
 unfold Zni at hb
 split at hb
 · -- integers
   rename_i k a k' b
   simp only [Qah] at hx hy
   subst hx; subst hy
   cases op <;> simp only at hb
   case shl =>
     cases hb
     have h0:0≤b:=Qvw (by simp) hp
     refine ⟨_,_,_,rfl,absV_v.2 rfl,?_⟩
     simp [eqGuard_shl,binOp_shl,Op.shift,Int.not_lt.2 h0]
   case shr =>
     cases hb
     have h0:0≤b:=Qvw (by simp) hp
     refine ⟨_,_,_,rfl,absV_v.2 rfl,?_⟩
     simp [eqGuard_shr,binOp_shr,Op.shift,Int.not_lt.2 h0,Int.fdiv_eq_ediv_of_nonneg _ (Int.le_of_lt (Int.pow_pos (by decide:(0:Int)<2)))]
   case quo =>
     split at hb <;> try (cases hb; done)
     rename_i hk
     subst hk
     cases hb
     have h0:b≠0:=Qvw (by simp) hp
     refine ⟨_,_,_,rfl,absV_v.2 rfl,?_⟩
     simp [eqGuard_quo,binOp_quo,Op.intDiv,h0]
   case rem =>
     split at hb <;> try (cases hb; done)
     rename_i hk
     subst hk
     cases hb
     have h0:b≠0:=Qvw (by simp) hp
     refine ⟨_,_,_,rfl,absV_v.2 rfl,?_⟩
     simp [eqGuard_rem,binOp_rem,Op.intDiv,h0]
   all_goals
     split at hb <;> try (cases hb; done)
     rename_i hk
     subst hk
     cases hb
     refine ⟨_,_,_,rfl,absV_v.2 rfl,?_⟩
     simp [eqGuard_at_int,binOp_add,binOp_sub,binOp_mul,binOp_and,binOp_or,binOp_xor,binOp_andNot,binOp_eql,binOp_neq,binOp_lss,binOp_leq,binOp_gtr,binOp_geq,Op.intArith,intBits_and,intBits_or,intBits_xor,intBits_andNot]
 · -- strings
   rename_i a b
   simp only [Qah] at hx hy
   subst hx; subst hy
   cases op <;> simp only at hb <;> try (cases hb; done)
   case add =>
     cases hb
     have h0:=hp _ rfl
     refine ⟨_,_,_,rfl,absV_v.2 rfl,?_⟩
     simp only [eqGuard_at_string,binOp,Op.stringOp]
     rw [if_neg (by omega)]
     simp
   all_goals
     cases hb
     refine ⟨_,_,_,rfl,absV_v.2 rfl,?_⟩
     simp [eqGuard_at_string,binOp,Op.stringOp,beq_toListBytes]
 · -- bools
   rename_i a b
   simp only [Qah] at hx hy
   subst hx; subst hy
   split at hb <;> try (cases hb; done)
   all_goals
     rename_i hu
     cases hb
     refine ⟨_,_,_,rfl,absV_v.2 rfl,?_⟩
     simp [eqGuard_at_bool,binOp,Op.equal,Op.maxDepth,run_equalIn_bool w 9999 t a b hu]
 · -- addresses
   rename_i k j
   split at hb <;> try (cases hb; done)
   all_goals
     rename_i m b hm hb'
     cases hb
     obtain ⟨g1,_,_,⟨a1,rfl⟩,a2,rfl⟩:=Qvu (w:=w) hm hb' hx hy 9999
     refine ⟨_,_,_,rfl,absV_v.2 rfl,?_⟩
     simp [eqGuard,binOp,Op.equal,Op.maxDepth,g1]
 · -- a nil pointer
   split at hb <;> try (cases hb; done)
   all_goals
     rename_i m b hm hb'
     cases hb
     obtain ⟨g1,_,_,⟨a1,rfl⟩,a2,rfl⟩:=Qvu (w:=w) hm hb' hx hy 9999
     refine ⟨_,_,_,rfl,absV_v.2 rfl,?_⟩
     simp [eqGuard,binOp,Op.equal,Op.maxDepth,g1]
 · -- structs,arrays
   rename_i xs ys
   simp only [Qah] at hx hy
   obtain ⟨rxs,rfl,hx⟩:=hx
   obtain ⟨rys,rfl,hy⟩:=hy
   cases hg:P.eqGuardType P.depth t with
   | true=>rw [hg] at hb; cases hb
   | false =>
     rw [hg,cond_false] at hb
     have hag:∀ b,eqS P 10 t xs ys=some b→Qjk P t=some true→(Op.equalIn 10000 t (.agg rxs.toArray) (.agg rys.toArray)).run P w=.ok b w:=fun b he ha =>
       Q94 10 10000 (by omega) t xs ys rxs rys b he hx hy _ _ (.inl ⟨ha,rfl⟩) (.inl ⟨ha,rfl⟩)
     split at hb <;> try (cases hb; done)
     all_goals
       rename_i b ha he
       cases hb
       refine ⟨_,_,_,rfl,absV_v.2 rfl,?_⟩
       simp only [Sem.run_bind,run_eqGuard_agg w _ t ox oy _ _ hg,Result.andThen_ok,run_eql_struct,run_neq_struct,hag b he ha]
 · -- a map against nil
   rename_i k
   simp only [Qah] at hx hy
   obtain ⟨q,_,_,rfl⟩:=hx
   subst hy
   have hmt:Qoi P t=true→∃ kk ee,P.underlying t=some (.map kk ee):=fun hh=>by
     unfold Qoi at hh
     split at hh
     · exact ⟨_,_,by assumption⟩
     · cases hh
   split at hb <;> try (cases hb; done)
   all_goals
     rename_i hm
     cases hb
     obtain ⟨kk,ee,hu⟩:=hmt hm
     refine ⟨_,_,_,rfl,absV_v.2 rfl,?_⟩
     have e1:=run_eql_map_nil w t kk ee (some q.r) hu
     have e2:=run_neq_map_nil w t kk ee (some q.r) hu
     simp only [Sem.run_bind]
     simp [eqGuard,e1,e2]
 · -- an interface against nil
   rename_i u v
   simp only [Qah] at hx hy
   subst hx; subst hy
   split at hb <;> try (cases hb; done)
   all_goals
     rename_i ms hu
     cases hb
     have g1:∀ D,(Op.equalIn (D + 1) t (.iface u v) .nilIface).run P w=.ok false w:=fun D=>by simp [Op.equalIn,run_underlying hu]
     refine ⟨_,_,_,rfl,absV_v.2 rfl,?_⟩
     simp [eqGuard,binOp,Op.equal,Op.maxDepth,g1 9999]
 · -- one that holds a name
   rename_i u v0
   simp only [Qah] at hx hy
   obtain ⟨v,rfl,_⟩:=hx
   subst hy
   split at hb <;> try (cases hb; done)
   all_goals
     rename_i ms hu
     cases hb
     have g1:∀ D,(Op.equalIn (D + 1) t (.iface u v) .nilIface).run P w=.ok false w:=fun D=>by simp [Op.equalIn,run_underlying hu]
     refine ⟨_,_,_,rfl,absV_v.2 rfl,?_⟩
     simp [eqGuard,binOp,Op.equal,Op.maxDepth,g1 9999]
 · -- nil against nil
   simp only [Qah] at hx hy
   subst hx; subst hy
   split at hb <;> try (cases hb; done)
   rename_i ms hu
   cases hb
   have g1:∀ D,(Op.equalIn (D + 1) t .nilIface .nilIface).run P w=.ok true w:=fun D=>by simp [Op.equalIn,run_underlying hu]
   refine ⟨_,_,_,rfl,absV_v.2 rfl,?_⟩
   cases oy with
   | const v=>simp [eqGuard,binOp,Op.equal,Op.maxDepth,g1 9999]
   | _=>cases hc
 · cases hb
end
end Go.SE
end
