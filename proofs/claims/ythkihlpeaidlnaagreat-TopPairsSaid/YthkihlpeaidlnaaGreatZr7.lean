/-
 What the proof uses, part 7.
-/
import Derived.Laws.BytesArg
import Derived.Lib.Builder
import Derived.Test.YthkihlpeaidlnaaGreatZr6
set_option maxRecDepth 100000
set_option linter.unusedSimpArgs false
set_option linter.unusedVariables false

section
namespace Go.SE
section
variable {P:Program} {δ:Dict} {h:Qbo} {w:World}
theorem Qm0 {r:Nat} {c:Array Value} {e:TypeId} {fz:Nat×Nat} (hb:w.heap[r]?=some (.cells c e fz)) (o n:Nat) :
   ∃ fz',(w.freeze ⟨r,o,none⟩ n).heap[r]?=some (.cells c e fz')∧(fz=(0,0)→c.size≤o→Zcg c.size fz')∧(∀ k,k≠r→(w.freeze ⟨r,o,none⟩ n).heap[k]?=w.heap[k]?)∧(w.freeze ⟨r,o,none⟩ n).heap.size=w.heap.size ∧
     (w.freeze ⟨r,o,none⟩ n).os=w.os∧(w.freeze ⟨r,o,none⟩ n).tape=w.tape∧(w.freeze ⟨r,o,none⟩ n).output=w.output:=by
 unfold World.freeze
 by_cases hn:n=0
 · simp only [hn,if_true]
   exact ⟨fz,hb,fun h _=>by subst h; exact .inl rfl,fun _ _=>by first | trivial | rfl,by first | trivial | rfl,by first | trivial | rfl,by first | trivial | rfl,by first | trivial | rfl⟩
 · simp only [hn,if_false]
   obtain ⟨lo,hi⟩:=fz
   refine ⟨(if lo==hi then (o,o + n) else (min lo o,max hi (o + n))),by simp [Array.getElem?_modify,hb],fun h h2=>?_,fun k hk=>?_,by simp,by first | trivial | rfl,by first | trivial | rfl,by first | trivial | rfl⟩
   · cases h; right; simpa using h2
   · simp only [Array.getElem?_modify]
     rw [if_neg (fun e=>hk e.symm)]
def Qdu (n:Nat) (row:Nat→List SV):List Int:=(List.range' 0 n).map fun y=>Qwx (row y)
theorem Qvg (n:Nat) (row:Nat→List SV):Q6e n row=strOfNums (Qdu n row):=by
 unfold Q6e strOfNums Qdu
 simp only [List.map_map]
 rfl
theorem Qnb {n:Nat} {row:Nat→List SV} {l:List Value} (h:Rows δ 1 n row l) (hb:∀ y,y<n→Qwj (row y)):l=(Qdu n row).map (Value.int .u8):=by
 have key:∀ y,y<n→l[y]?=some (.int .u8 (Qwx (row y))):=fun y hy=>by
   obtain ⟨g1,g2⟩:=h.2 y hy
   have h3:=hb y hy
   unfold Qwj at h3
   split at h3
   · rename_i k hk
     obtain ⟨r,g3,g4⟩:=g2 0 (.v (.int .u8 k)) (by rw [hk]; rfl)
     simp only [Qah] at g4
     subst g4
     simpa [Qwx,hk] using g3
   · exact h3.elim
 have hlen:l.length=n:=by have:=h.1; omega
 apply List.ext_getElem?
 intro y
 simp only [Qdu,List.getElem?_map]
 by_cases hy:y<n
 · rw [key y hy,List.getElem?_range' (by omega)]
   simp
 · rw [List.getElem?_eq_none (by omega),List.getElem?_eq_none (by simp; omega)]
   rfl
theorem Ze6 {src dst:TypeId} {x:SV} {rx:Value} {base:Nat} {e:Eff} (he:Q7x P src dst x h base=some e) (hx:Qah δ x rx) (hr:HRep δ h w) (hp:e.asks)
   (hn:(∃ y u,Qce e y u∧Qac base u=true)→h base=none∧δ base=none):ValOk δ h w e ((convert src dst rx).run P w):=by
 unfold Q7x at he
 split at he
 · -- integers
   rename_i s k k' n hs hd
   simp only [Qah] at hx
   subst hx
   cases he
   exact ValOk.same (y:=.int k (k.wrap n)) hr rfl (by simp [convert,run_underlying hs,run_underlying hd,Conv.intToInt]) (absV_v.2 rfl)
 · rename_i s hs hd
   simp only [Qah] at hx
   subst hx
   cases he
   exact ValOk.same (y:=.string s) hr rfl (by simp [convert,run_underlying hs,run_underlying hd]) (absV_v.2 rfl)
 · -- a string's bytes
   rename_i e s hs hd
   split at he <;> try (cases he; done)
   rename_i hel
   cases he
   simp only [Qah] at hx
   subst hx
   obtain ⟨hn1,hn2⟩:=hn ⟨_,_,⟨0,rfl,rfl⟩,by simp [Qac]⟩
   have hge:=Qqg w s.size 0 e
   obtain ⟨q,hq⟩:∃ q,grownCap w s.size 0 e=s.size + q:=⟨_,(Nat.add_sub_cancel' hge).symm⟩
   let c:Array Value:=s.data.map (fun b=>Value.int .u8 b.toNat)++Array.replicate (grownCap w s.size 0 e - s.size) (.int .u8 0)
   have hcs:c.size=s.size + q:=by
     have:s.data.size=s.size:=rfl
     simp [c,hq,this]
   have hnew:(w.drew.alloc (.cells c e):World).heap[w.heap.size]?=some (.cells c e (0,0)):=heap_alloc_new w.drew _
   obtain ⟨fz,f1,f2,f3,f4,f5,f6,f7⟩:=Qm0 hnew c.size 1
   obtain ⟨δ',u1,u2⟩:=Q14 (b:={elem:=e,size:=1,rw:=true,lock:=false,lit:=false,flat:=true,n:=s.size,row:=fun y=>[.v (.int .u8 (s.data.toList.getD y 0).toNat)],ext:=s.size + q}) (w:=w) (el:=e) (c:=c)
     f1 (f2 rfl (Nat.le_refl _)) (fun r hr'=>by rw [f3 r (by omega)]; exact heap_alloc_old w.drew _ hr') (by rw [f4]; simp [World.alloc]) f5 f6 f7 hr hn1 hn2 (fun _=>rfl) (by rw [hcs]; simp) (fun hh=>(by cases hh)) (fun _ y _=>by simp [Qan,Qbr]) (fun y hy=>by
       refine ⟨rfl,fun j v hv=>?_⟩
       match j,hv with
       | 0,hv =>
         simp only [List.getElem?_cons_zero,Option.some.injEq] at hv
         subst hv
         have hlt:y<s.data.size:=hy
         refine ⟨.int .u8 (s.data.toList.getD y 0).toNat,?_,by simp only [Qah]⟩
         simp only [c,Nat.zero_add,Nat.mul_one,Nat.add_zero]
         rw [Array.getElem?_append_left (by simpa using hlt)]
         simp only [List.getD,Array.getElem?_map,Array.getElem?_toList,Array.getElem?_eq_getElem hlt,Option.map_some,Option.getD_some]
       | j + 1,hv=>simp at hv)
   refine ⟨.slice (some ⟨w.heap.size,0,none⟩) s.size (s.size + q),_,_,_,δ',?_,⟨q,rfl,rfl⟩,?_,u1⟩
   · have hcc:(Question.appendCap s.size 0 e).cut (w.tape w.drawn (.appendCap s.size 0 e))=s.size + q:=hq
     have hrun:(convert src dst (.string s)).run P w=(Conv.stringToBytes e s).run P w:=by simp [convert,run_underlying hs,run_underlying hd,run_underlying hel]
     rw [hrun]
     have hc':s.data.map (fun b=>Value.int .u8 b.toNat)++Array.replicate (s.size + q - s.size) (Value.int .u8 0)=c:=by simp only [c,hq]
     have hsh:∀ v:World,v.heap[w.heap.size]?=some (.cells c e (0,0))→(markStringish ⟨w.heap.size,0,none⟩).run P v=.ok () (v.freeze ⟨w.heap.size,c.size,none⟩ 1):=fun v hv=>by
       have:v.shape? w.heap.size=some (e,c.size):=by simp [World.shape?,hv]
       simp [markStringish,freeze,this,Sem.run]
     have hch:(choose (.appendCap s.size 0 e)).run P w=.ok (s.size + q) w.drew:=by simp [choose,Sem.run,Question.forced,hcc]
     have hnr:(newRow e c).run P w.drew=.ok ⟨w.heap.size,0,none⟩ (w.drew.alloc (.cells c e)):=by simp [newRow]
     simp only [Conv.stringToBytes,Sem.run_bind,hch,Result.andThen_ok,hc',hnr,hsh _ hnew,Sem.run_pure]
   · simp only [Qah]
     exact ⟨_,u2,rfl,by simp,.inl ⟨rfl,by simp⟩⟩
 · -- bytes to a string
   rename_i e k s i n cap hs hd
   split at he <;> try (cases he; done)
   rename_i b hel hk
   cases hb:(!b.off&&Nat.beq s 1) with
   | false=>rw [hb] at he; cases he
   | true =>
     rw [hb,cond_true] at he
     cases he
     simp only [Bool.and_eq_true,Bool.not_eq_true'] at hb
     have:=Nat.eq_of_beq_eq_true hb.2
     subst this
     obtain ⟨_,_,hco⟩:=Qrn (P:=P) (sz:=1) (x:=.sl k 1 i n cap) (h:=h) (m:=n) (rows:=fun y=>b.row (i + y)) (fl:=b.flat) (by simp [Qig,hk,hb.1]) hx hr (by omega)
     obtain ⟨l,l1,l2⟩:=hco n (Nat.le_refl _)
     have l3:=Qnb l1 (hp _ rfl)
     have l4:=l2 w rfl
     refine ValOk.same (y:=.string (strOfNums (Qdu n fun y=>b.row (i + y)))) hr rfl ?_ (absV_v.2 (by rw [Qvg]))
     simp only [Qah] at hx
     obtain ⟨p,d1,d2,d3,d4⟩:=hx
     rcases d4 with ⟨_,cap',_,rfl⟩ | ⟨rfl,_,a,rfl⟩
     · rw [run_convert_bytes_string w src dst e _ _ _ hs hel hd]
       have h5:(loadCells ⟨p.r,p.o + i*1,none⟩ n).run P w=.ok ((Qdu n fun y=>b.row (i + y)).map (Value.int .u8)).toArray w:=by
         rw [← l3]
         simpa [Builtin.firstCells] using l4
       rw [run_bytesToString w _ n cap' _ h5,foldl_push_bytes]
       simp [strOfNums,ByteArray.empty,ByteArray.emptyWithCapacity]
       rfl
     · rw [run_convert_bytes_string w src dst e _ _ _ hs hel hd]
       cases a with
       | none=>simp [Conv.bytesToString,Qdu,strOfNums]; rfl
       | some a =>
         rw [run_bytesToString w _ 0 0 [] (by simp [loadCells,loadCellsFrom])]
         simp [Qdu,strOfNums]; rfl
 · -- nil to a string
   rename_i e n c hs hd
   split at he <;> try (cases he; done)
   rename_i hel
   cases he
   simp only [Qah] at hx
   subst hx
   exact ValOk.same hr rfl (run_convert_bytes_nil (P:=P) w src e hs hel _ _ dst hd) (absV_v.2 rfl)
 · -- to unsafe.Pointer
   rename_i t k j hs hd
   split at he <;> try (cases he; done)
   rename_i b m hk hm
   cases hb:(!b.off&&!Nat.beq m 0&&Nat.blt j (b.row 0).length) with
   | false=>rw [hb] at he; cases he
   | true =>
     rw [hb,cond_true] at he
     cases he
     simp only [Bool.and_eq_true,Bool.not_eq_true'] at hb
     obtain ⟨⟨b1,b2⟩,b3⟩:=hb
     obtain ⟨b1,hsp⟩:=Blk.off_false b1
     obtain ⟨p,d1,d2⟩:=hr.blk k b hk
     have hlv:=d2 b1
     have hx0:=hx
     simp only [Qah] at hx
     obtain ⟨p',e1,e2,rfl⟩:=hx
     rw [d1] at e1; cases e1
     have hno:=hlv.notNo e2
     have hpn:=hlv.n
     obtain ⟨c,e0,fz,c1,c2,c3,c4,c5,c6,c7⟩:=Qap hsp (hlv.rep hno)
     obtain ⟨g1,g2⟩:=c7 0 (by omega)
     have hj:j<(b.row 0).length:=by
       have h9:j + 1≤(b.row 0).length:=Nat.le_of_ble_eq_true b3
       omega
     obtain ⟨r',g3,_⟩:=g2 j _ (List.getElem?_eq_getElem hj)
     have g4:=(Array.getElem?_eq_some_iff.1 g3).1
     obtain ⟨ti,t1,t2⟩:∃ i,P.info? t=some i∧i.size=m:=by
       unfold Qco at hm
       cases hi:P.info? t with
       | none=>rw [hi] at hm; cases hm
       | some i=>rw [hi] at hm; cases hm; exact ⟨i,rfl,rfl⟩
     refine ValOk.same hr rfl (Lib.run_to_unsafe (P:=P) w ⟨p.r,p.o + j,none⟩ hs hd t1 (by rw [t2]; intro h0; subst h0; simp at b2) (e:=e0) (cells:=c.size) (by simp [World.shape?,c1]) (by simp only; omega)) hx0
 · -- from unsafe.Pointer
   rename_i u k j hs hd
   split at he <;> try (cases he; done)
   rename_i b m hk hm
   cases hb:(!b.off&&!Nat.beq m 0&&Nat.beq j 0&&!Nat.beq u 0&&Nat.beq b.elem u&&Nat.beq b.size m&&Nat.blt 0 P.depth&&b.whole) with
   | false=>rw [hb] at he; cases he
   | true =>
     rw [hb,cond_true] at he
     cases he
     simp only [Bool.and_eq_true,Bool.not_eq_true'] at hb
     obtain ⟨⟨⟨⟨⟨⟨⟨b1,b2⟩,b3⟩,b4⟩,b5⟩,b6⟩,b7⟩,b8⟩:=hb
     obtain ⟨b1,hsp⟩:=Blk.off_false b1
     have:=Nat.eq_of_beq_eq_true b3
     subst this
     have hbu:=Nat.eq_of_beq_eq_true b5
     have hbm:=Nat.eq_of_beq_eq_true b6
     obtain ⟨p,d1,d2⟩:=hr.blk k b hk
     have hlv:=d2 b1
     have hx0:=hx
     simp only [Qah] at hx
     obtain ⟨p',e1,e2,rfl⟩:=hx
     rw [d1] at e1; cases e1
     have hno:=hlv.notNo e2
     obtain ⟨c,e0,fz,c1,c2,c3,c4,c5,c6,c7⟩:=Qap hsp (hlv.rep hno)
     obtain ⟨w1,w2,_⟩:=c6 b8
     have he0:e0=u:=by
       rw [← hbu]
       refine c4 fun h0=>?_
       rw [hbu] at h0
       subst h0
       simp at b4
     subst he0
     obtain ⟨ti,t1,t2⟩:∃ i,P.info? e0=some i∧i.size=m:=by
       unfold Qco at hm
       cases hi:P.info? e0 with
       | none=>rw [hi] at hm; cases hm
       | some i=>rw [hi] at hm; cases hm; exact ⟨i,rfl,rfl⟩
     have hm0:m≠0:=fun h0=>by subst h0; simp at b2
     have hcells:P.cellsOf e0=m:=by simp [Program.cellsOf,t1,t2]
     have hlies:liesAt P P.depth e0 (c.size / P.cellsOf e0) (p.o + 0) e0 1=true:=by
       have hd:P.depth=(2*(P.types.size + Made.depth) + 1) + 1:=rfl
       rw [w2,hbm,hcells,Nat.div_self (by omega),w1]
       rw [hd]
       simp only [liesAt,Bool.or_eq_true]
       left
       rw [hd]
       simp [rowAt,hcells,hm0,sameLayout]
     exact ValOk.same hr rfl (Lib.run_from_unsafe (P:=P) w ⟨p.r,p.o + 0,none⟩ hs hd t1 (e:=e0) (cells:=c.size) (by simp [World.shape?,c1]) hlies) hx0
 · cases he
theorem Zjh {t:TypeId} {x:SV} {n:Int} {r:Value} {args:Array Value} {ts:Array TypeId} {ty:TypeId} (hl:Zm6 P t x=some n) (hx:Qah δ x r) (ha:args[0]?=some r) (ht:ts[0]?=some t) :
   (Builtin.len_ ts ty args).run P w=.ok (.int .i64 n) w:=by
 unfold Zm6 at hl
 split at hl
 · rename_i s hu
   simp only [Qah] at hx
   subst hx
   cases hl
   simp [Builtin.len_,ha,ht,run_underlying hu,goInt]
 · rename_i e k sz i m c hu
   simp only [Qah] at hx
   cases hl
   obtain ⟨p,_,_,_,⟨_,_,_,rfl⟩ | ⟨rfl,_,a,rfl⟩⟩:=hx <;> simp [Builtin.len_,ha,ht,run_underlying hu,goInt]
 · rename_i e sz m row hu
   simp only [Qah] at hx
   cases hl
   obtain ⟨rfl,_,rfl⟩ | ⟨_,_,_,_,_,_,_,rfl⟩:=hx <;> simp [Builtin.len_,ha,ht,run_underlying hu,goInt]
 · rename_i e m c hu
   simp only [Qah] at hx
   subst hx
   cases hl
   simp [Builtin.len_,ha,ht,run_underlying hu,goInt]
 · rename_i m e hu
   cases hl
   simp [Builtin.len_,ha,ht,run_underlying hu,goInt]
 · rename_i a hu
   split at hl <;> try (cases hl; done)
   rename_i m e ha'
   cases hl
   simp [Builtin.len_,ha,ht,run_underlying hu,run_underlying ha',goInt]
 · cases hl
theorem Qvr {f:Value→Value→Sem Value} {g:Int→Int→Int} {k:IntKind} (hf:∀ a b,(f (.int k a) (.int k b)).run P w=.ok (.int k (g a b)) w):∀ (l:List SV) (rs:List Value) (a n:Int),Qj9 g k a l=some n→Qaw δ l rs→(rs.foldlM f (.int k a)).run P w=.ok (.int k n) w:=by
 intro l
 induction l with
 | nil =>
   intro rs a n h hl
   cases rs with
   | nil =>
     simp only [Qj9,Option.some.injEq] at h
     subst h
     simp
   | cons _ _=>simp only [Qaw] at hl
 | cons x l ih =>
   intro rs a n h hl
   cases rs with
   | nil=>simp only [Qaw] at hl
   | cons r rs =>
     simp only [Qaw] at hl
     unfold Qj9 at h
     split at h
     · rename_i heq; cases heq
     · rename_i k' b rest heq
       cases heq
       split at h <;> try (cases h; done)
       rename_i hk
       subst hk
       simp only [Qah] at hl
       obtain ⟨rfl,h2⟩:=hl
       simp only [List.foldlM_cons,Sem.run_bind,hf,Result.andThen_ok]
       exact ih rs _ n h h2
     · cases h
theorem Qh9:∀ (l:List Int) (a:Addr) (acc:ByteArray),(∀ (j:Nat) x,l[j]?=some x→w.cell? (a.add j)=some (.int .u8 x)) →
   (loadBytes a acc l.length).run P w=.ok ⟨acc.data++(l.map fun n=>UInt8.ofNat n.toNat).toArray⟩ w
 | [],a,acc,_=>by simp [loadBytes]
 | x :: l,a,acc,h=>by
   have h0:w.cell? a=some (.int .u8 x):=by
     have:=h 0 x rfl
     simpa [Addr.add] using this
   have ih:=Qh9 l (a.add 1) (acc.push (UInt8.ofNat x.toNat)) (fun j y hy=>by
     have:=h (j + 1) y (by simpa using hy)
     have e:(a.add 1).add j=a.add (j + 1):=by
       unfold Addr.add
       by_cases hj:j=0
       · subst hj; simp
       · simp [hj]; omega
     rw [e]; exact this)
   have hx:(x.toNat).toUInt8=UInt8.ofNat x.toNat:=rfl
   simp only [List.length_cons,loadBytes,Sem.run_bind,run_load,h0,Result.andThen,hx]
   rw [ih]
   congr 1
   apply ByteArray.ext
   simp [ByteArray.push]
theorem Qqb {e:TypeId} (hc:P.cellsOf e=1) (count o n:Nat) (hn:o + n≤count):liesAt P P.depth e count o e n=true:=by
 have hd:P.depth=(2*(P.types.size + Made.depth) + 1) + 1:=rfl
 rw [hd]
 simp only [liesAt,Bool.or_eq_true]
 left
 rw [hd]
 simp [rowAt,hc,hn,sameLayout,Nat.mod_one]
theorem Qjx {pt ty e:TypeId} {ts:Array TypeId} (h0:ts[0]?=some pt) (hp:P.underlying pt=some (.pointer e)) (hc:P.cellsOf e=1) (g o cells:Nat) (hsh:w.shape? g=some (e,cells)) (l:List Int) (hl0:l≠[]) (hn:o + l.length≤cells) (h63:l.length≤9223372036854775807)
   (hcell:∀ (j:Nat) x,l[j]?=some x→w.cell? ((⟨g,o,none⟩:Addr).add j)=some (.int .u8 x)) :
   (Builtin.unsafeString_ ts ty #[.pointer (some ⟨g,o,none⟩),.int .i64 l.length]).run P w=.ok (.string (strOfNums l)) (w.freeze ⟨g,o,none⟩ l.length):=by
 have hl:l.length≠0:=by simpa using hl0
 have hlb:=Qh9 (P:=P) (w:=w) l ⟨g,o,none⟩ .empty hcell
 have hlies:=Qqb (P:=P) hc (cells / P.cellsOf e) o l.length (by rw [hc]; simpa using hn)
 have h63':¬ (9223372036854775807:Int)<(l.length:Int):=by omega
 have hmax:IntKind.i64.max=9223372036854775807:=rfl
 have hneg:¬ (l.length:Int)<0:=by omega
 have e1:(⟨ByteArray.empty.data++(l.map fun n=>UInt8.ofNat n.toNat).toArray⟩:ByteArray)=strOfNums l:=by
   simp [strOfNums,ByteArray.empty,ByteArray.emptyWithCapacity]
   rfl
 rw [e1] at hlb
 delta Builtin.unsafeString_ Builtin.unsafeString_.match_3
 dsimp [Array.getLit]
 simp [asInt,asIntOf,hmax,h63',hneg,hl,h0,variablesAt,hsh,elemOf,run_underlying hp,hlies,hlb]
theorem Zed {k:Nat} {b:Blk} {p:Loc} {w':World} (hr:HRep δ h w) (hk:h k=some b) (hrw:b.rw=true) (hdead:b.dead=false) (hd:δ k=some p) (hno:p.no=false)
   (hos:w'.os=w.os) (htape:w'.tape=w.tape) (hout:w'.output=w.output) (hsize:w.heap.size≤w'.heap.size) (hold:∀ r,r≠p.r→r<w.heap.size→w'.heap[r]?=w.heap[r]?):Upd δ h w δ [(k,Qdb b)] w' :=
 Qec hr hk hrw hdead hd hno (fun hh=>by simp [Qdb] at hh) hos htape hout hsize hold
theorem Qxv {b:Builtin} {cts:Array TypeId} {ty:TypeId} {consts:Array Bool} {vs:List SV} {args:Array Value} {base:Nat} {e:Eff} (he:Qh2 P b cts.toList vs h base=some e) (ha:Qaw δ vs args.toList) (hr:HRep δ h w) (hp:e.asks)
   (hn:∀ x u,Qce e x u→∀ k,Qac k u=true→h k=none→δ k=none):∃ m:Sem Value,builtin b cts ty consts args=(do pure (.value (← m)))∧ValOk δ h w e (m.run P w):=by
 unfold Qh2 at he
 split at he
 · -- len
   rename_i t ts x rest hts
   match hargs:args.toList,ha with
   | r :: rs,ha =>
     simp only [Qaw] at ha
     have h0:args[0]?=some r:=by rw [← Array.getElem?_toList,hargs]; rfl
     have t0:cts[0]?=some t:=by rw [← Array.getElem?_toList,hts]; rfl
     split at he
     · exact ⟨_,rfl,Q2f he ha.1 hr t0 h0⟩
     split at he <;> try (cases he; done)
     rename_i n hl
     cases he
     exact ⟨_,rfl,ValOk.same hr rfl (Zjh (P:=P) (w:=w) hl ha.1 h0 t0) (absV_v.2 rfl)⟩
   | [],ha=>simp only [Qaw] at ha
 · -- delete
   rename_i t ts x k hts
   match hargs:args.toList,ha with
   | [rs,rx],ha =>
     simp only [Qaw,and_true] at ha
     have h0:args[0]?=some rs:=by rw [← Array.getElem?_toList,hargs]; rfl
     have h1:args[1]?=some rx:=by rw [← Array.getElem?_toList,hargs]; rfl
     have t0:cts[0]?=some t:=by rw [← Array.getElem?_toList,hts]; rfl
     exact ⟨_,rfl,Q2g he ha.1 ha.2 hr t0 h0 h1⟩
   | [],ha=>simp only [Qaw] at ha
   | [_],ha=>simp [Qaw] at ha
   | _ :: _ :: _ :: _,ha=>simp [Qaw] at ha
 · -- max
   rename_i k a rest
   split at he <;> try (cases he; done)
   rename_i n hf
   cases he
   match hargs:args.toList,ha with
   | r :: rs,ha =>
     simp only [Qaw,Qah] at ha
     obtain ⟨rfl,h2⟩:=ha
     refine ⟨_,rfl,ValOk.same hr rfl ?_ (absV_v.2 rfl)⟩
     unfold Builtin.max_
     rw [hargs]
     refine Qvr (fun a b=>?_) rest rs a n hf h2
     simp only [Builtin.max2,Sem.run_pure]
     congr 2
     by_cases hab:b > a
     · rw [if_pos hab]; omega
     · rw [if_neg hab]; omega
   | [],ha=>simp only [Qaw] at ha
 · -- min
   rename_i k a rest
   split at he <;> try (cases he; done)
   rename_i n hf
   cases he
   match hargs:args.toList,ha with
   | r :: rs,ha =>
     simp only [Qaw,Qah] at ha
     obtain ⟨rfl,h2⟩:=ha
     refine ⟨_,rfl,ValOk.same hr rfl ?_ (absV_v.2 rfl)⟩
     unfold Builtin.min_
     rw [hargs]
     refine Qvr (fun a b=>?_) rest rs a n hf h2
     simp only [Builtin.min2,Sem.run_pure]
     congr 2
     by_cases hab:b<a
     · rw [if_pos hab]; omega
     · rw [if_neg hab]; omega
   | [],ha=>simp only [Qaw] at ha
 · -- append
   rename_i t tx ts s x hts
   match hargs:args.toList,ha with
   | [rs,rx],ha =>
     simp only [Qaw,and_true] at ha
     have h0:args[0]?=some rs:=by rw [← Array.getElem?_toList,hargs]; rfl
     have h1:args[1]?=some rx:=by rw [← Array.getElem?_toList,hargs]; rfl
     have t0:cts[0]?=some t:=by rw [← Array.getElem?_toList,hts]; rfl
     have t1:cts[1]?=some tx:=by rw [← Array.getElem?_toList,hts]; rfl
     exact ⟨_,rfl,Q3u he t0 t1 h0 h1 ha.1 ha.2 hr hp hn⟩
   | [],ha=>simp only [Qaw] at ha
   | [_],ha=>simp [Qaw] at ha
   | _ :: _ :: _ :: _,ha=>simp [Qaw] at ha
 · -- copy
   rename_i t ts s x hts
   match hargs:args.toList,ha with
   | [rs,rx],ha =>
     simp only [Qaw,and_true] at ha
     have h0:args[0]?=some rs:=by rw [← Array.getElem?_toList,hargs]; rfl
     have h1:args[1]?=some rx:=by rw [← Array.getElem?_toList,hargs]; rfl
     have t0:cts[0]?=some t:=by rw [← Array.getElem?_toList,hts]; rfl
     exact ⟨_,rfl,Ze4 he t0 h0 h1 ha.1 ha.2 hr hp⟩
   | [],ha=>simp only [Qaw] at ha
   | [_],ha=>simp [Qaw] at ha
   | _ :: _ :: _ :: _,ha=>simp [Qaw] at ha
 · -- clear
   rename_i t ts s hts
   match hargs:args.toList,ha with
   | [rs],ha =>
     simp only [Qaw,and_true] at ha
     have h0:args[0]?=some rs:=by rw [← Array.getElem?_toList,hargs]; rfl
     have t0:cts[0]?=some t:=by rw [← Array.getElem?_toList,hts]; rfl
     exact ⟨_,rfl,Q7y he t0 h0 ha hr⟩
   | [],ha=>simp only [Qaw] at ha
   | _ :: _ :: _,ha=>simp [Qaw] at ha
 · -- unsafe.SliceData
   rename_i k i n c
   cases he
   obtain ⟨p1,p2⟩:=hp _ rfl
   match hargs:args.toList,ha with
   | [r],ha =>
     simp only [Qaw,Qah,and_true] at ha
     obtain ⟨p,d1,d2,d3,d4⟩:=ha
     rcases d4 with ⟨hno,c',hc',rfl⟩ | ⟨h0,_⟩
     · have p2:n≤c':=by rcases hc' with rfl | hx; exact p2; exact hx.2
       have:args=#[.slice (some ⟨p.r,p.o + i*1,none⟩) n c']:=by rw [← Array.toArray_toList (xs:=args),hargs]
       subst this
       refine ⟨_,rfl,ValOk.same hr rfl (Lib.run_unsafeSliceData_row (P:=P) w cts ty _ n c' (by omega)) ?_⟩
       simp only [Qah]
       exact ⟨p,d1,by omega,by rw [d2]; simp⟩
     · omega
   | [],ha=>simp only [Qaw] at ha
   | _ :: _ :: _,ha=>simp [Qaw] at ha
 · -- unsafe.String
   rename_i t ts k m hts
   split at he <;> try (cases he; done)
   rename_i el b hu hk
   split at he <;> try (cases he; done)
   rename_i hel
   cases hb:(b.rw&&!b.off&&Nat.beq b.size 1&&Nat.beq b.elem el&&!Nat.beq el 0&&P.cellsOf el==1&&Nat.blt 0 P.depth) with
   | false=>rw [hb] at he; cases he
   | true =>
     rw [hb,cond_true] at he
     cases he
     simp only [Bool.and_eq_true,Bool.not_eq_true',beq_iff_eq] at hb
     obtain ⟨⟨⟨⟨⟨⟨b1,b2⟩,b3⟩,b4⟩,b5⟩,b6⟩,b7⟩:=hb
     have hoff:=b2
     obtain ⟨b2,hsp⟩:=Blk.off_false b2
     obtain ⟨p1,p2,p4,p3⟩:=hp _ rfl
     match hargs:args.toList,ha with
     | [r,rm],ha =>
       simp only [Qaw,Qah,and_true] at ha
       obtain ⟨⟨p,d1,d2,rfl⟩,rfl⟩:=ha
       have hargs':args=#[.pointer (some ⟨p.r,p.o + 0*p.s + 0,none⟩),.int .i64 m]:=by rw [← Array.toArray_toList (xs:=args),hargs]
       subst hargs'
       obtain ⟨p',e1,e2⟩:=hr.blk k b hk
       rw [d1] at e1; cases e1
       have hlv:=e2 b2
       have hno:=hlv.notNo d2
       have hbs:=Nat.eq_of_beq_eq_true b3
       have hbe:=Nat.eq_of_beq_eq_true b4
       have hel0:b.elem≠0:=fun h0=>by rw [hbe] at h0; subst h0; simp at b5
       obtain ⟨c,e0,fz,c1,c2,c3,c4,c5,c6,c7⟩:=Qap hsp (hlv.rep hno)
       have he0:e0=el:=(c4 hel0).trans hbe
       subst he0
       obtain ⟨q,rfl⟩:∃ q:Nat,m=q:=⟨m.toNat,by omega⟩
       have hq:q≤b.n:=by omega
       -- the rows' bytes
       obtain ⟨_,_,hco⟩:=Qrn (P:=P) (δ:=δ) (w:=w) (sz:=1) (x:=.sl k 1 0 b.n b.n) (rx:=.slice (some ⟨p.r,p.o + 0*1,none⟩) b.n b.n) (h:=h) (m:=b.n) (rows:=fun y=>b.row (0 + y)) (fl:=b.flat) (by simp [Qig,hk,hoff]) (by
         simp only [Qah]
         exact ⟨p,d1,hlv.s.trans hbs,by have:=hlv.n; omega,.inl ⟨hno,_,.inl rfl,rfl⟩⟩) hr (by omega)
       obtain ⟨l,l1,l2⟩:=hco q hq
       have l3:=Qnb l1 (fun y hy=>by rw [Nat.zero_add]; exact p3 y (by omega))
       have l4:=l2 w rfl
       simp only [Builtin.firstCells,Nat.zero_mul,Nat.add_zero,Nat.mul_one] at l4
       have hsame:Qdu q (fun y=>b.row (0 + y))=Qdu q b.row:=by simp [Qdu]
       rw [hsame] at l3
       have hlen:(Qdu q b.row).length=q:=by simp [Qdu]
       have hle:p.o + q≤c.size:=by
         have hq1:q - 1<b.n:=by omega
         obtain ⟨g1,g2⟩:=c7 (q - 1) hq1
         rw [hbs] at g1 g2
         have hj:0<(b.row (q - 1)).length:=by omega
         obtain ⟨r',g3,_⟩:=g2 0 _ (List.getElem?_eq_getElem hj)
         have:=(Array.getElem?_eq_some_iff.1 g3).1
         omega
       obtain ⟨l',m1,m2,m3⟩:=Qdw (P:=P) c1 p.o q hle
       rw [m3] at l4
       have hll:l'=l:=by simpa using l4
       obtain ⟨fz',f1,f2,f3,f4,f5,f6,f7⟩:=Qm0 c1 p.o q
       refine ⟨_,rfl,.string (strOfNums (Qdu q b.row)),w.freeze ⟨p.r,p.o,none⟩ q,_,_,δ,?_,⟨rfl,rfl⟩,absV_v.2 (by rw [Qvg]; simp),Zed hr hk b1 b2 d1 hno f5 f6 f7 (by omega) (fun r hne _=>f3 r hne)⟩
       have hrun:=Qjx (P:=P) (w:=w) (ts:=cts) (ty:=ty) (pt:=t) (by rw [← Array.getElem?_toList,hts]; rfl) hu b6 p.r p.o c.size (by simp [World.shape?,c1]) (Qdu q b.row) (fun h0=>by rw [h0] at hlen; simp at hlen; omega) (by omega) (by
         rw [hlen]
         omega) (fun j x hx=>by
         have hj:j<q:=by rw [← hlen]; exact (List.getElem?_eq_some_iff.1 hx).1
         rw [Addr.add_lit,Qch c1,← m2 j hj,hll,l3,List.getElem?_map,hx]
         rfl)
       rw [hlen] at hrun
       have e0:p.o + 0*p.s + 0=p.o:=by omega
       rw [e0]
       exact hrun
     | [],ha=>simp only [Qaw] at ha
     | [_],ha=>simp [Qaw] at ha
     | _ :: _ :: _ :: _,ha=>simp [Qaw] at ha
 · cases he
end
end Go.SE
end
section
namespace Go.SE
section
variable {P:Program} {δ:Dict} {h:Qbo} {w:World}
theorem Q31 {x x':SV} {j:Nat} {r:Value} (ha:Q8e j x=some x') (hx:Qah δ x r):∃ b o,r=.pointer (some ⟨b,o,none⟩)∧Qah δ x' (.pointer (some ⟨b,o + j,none⟩)):=by
 cases x <;> simp only [Q8e] at ha <;> try (cases ha; done)
 case vp k i =>
   cases ha
   simp only [Qah] at *
   obtain ⟨p,h1,h2,rfl⟩:=hx
   exact ⟨p.r,p.o + i,rfl,p,h1,h2,by simp [Nat.add_assoc]⟩
 case ptr k i i' =>
   cases ha
   simp only [Qah] at *
   obtain ⟨p,h1,h2,rfl⟩:=hx
   exact ⟨p.r,p.o + i*p.s + i',rfl,p,h1,h2,by simp [Nat.add_assoc]⟩
theorem Addr.add_spot (b o n:Nat):(⟨b,o,none⟩:Addr).add n=⟨b,o + n,none⟩:=Addr.add_lit b o n
theorem Zly {op:UnOp} {x v:SV} {r:Value} (hu:unS op x=some v) (hx:Qah δ x r):∃ y,(Op.unary op r).run P w=.ok y w∧Qah δ v y:=by
 unfold unS at hu
 split at hu <;> try (cases hu; done)
 all_goals
   simp only [Qah] at hx
   subst hx
   cases hu
   refine ⟨_,?_,absV_v.2 rfl⟩
   simp [Op.unary,Op.intArith,intBits_xor]
theorem Qee (e:TypeId) (c:Array Value) (w:World):(newRow e c).run P w=.ok ⟨w.heap.size,0,none⟩ (w.alloc (.cells c e)):=by
 simp [newRow]
theorem Qzv {n:Nat} {t:TypeId} {cs:List SV} {c:List Value} (hr:HRep δ h w) (hn:h n=none) (hd:δ n=none) (hc:Qaw δ cs c) :
   ∃ δ',Upd δ h w δ' [(n,Qct t cs)] (w.alloc (.cells c.toArray t))∧Qah δ' (.vp n 0) (.pointer (some ⟨w.heap.size,0,none⟩)):=by
 have hlen:=Qa6 hc
 obtain ⟨δ',h1,h2⟩:=Qr2 (b:=Qct t cs) (c:=c.toArray) (el:=t) hr hn hd (fun _=>rfl) (by simp [Qct,hlen]) (fun _=>by simp [Qct,hlen]) (fun hf i _=>hf) (fun i hi=>⟨rfl,fun j x hx=>by
   have:i=0:=by simp only [Qct] at hi; omega
   subst this
   obtain ⟨r,g1,g2⟩:=Qb5 hc hx
   exact ⟨r,by simpa using g1,g2⟩⟩)
 exact ⟨δ',h1,by simp only [Qah]; exact ⟨_,h2,Nat.zero_lt_one,by simp⟩⟩
theorem Qvb {z:List SV} {zv:Array Value} {m k:Nat} (hz:z=zv.toList.map .v) (hm:z.length=m) (hpos:0<m) :
   Qaw δ (Qnx z m k) ((Array.range k).map (fun x=>zv[x % zv.size]!)).toList:=by
 have hsz:zv.size=m:=by rw [← hm,hz]; simp
 refine Qei (by simp [Qnx]) fun i x hx=>?_
 simp only [Qnx,List.getElem?_map] at hx
 have hi:i<k:=by
   rcases Nat.lt_or_ge i k with h' | h'
   · exact h'
   · simp [List.getElem?_eq_none (show (List.range k).length≤i by simpa using h')] at hx
 simp only [List.getElem?_range hi,Option.map_some,Option.some.injEq] at hx
 have hlt:i % m<m:=Nat.mod_lt _ hpos
 have hlt':i % m<zv.size:=by omega
 refine ⟨zv[i % zv.size]!,by simp [hi],?_⟩
 rw [← hx,hz,hsz]
 simp only [List.getD,List.getElem?_map,Array.getElem?_toList,Array.getElem?_eq_getElem hlt',Option.map_some,Option.getD_some,Qah]
 simp [hlt']
theorem Zet {n m:Nat} {flat:List SV} {c:Array Value} (hc:Qaw δ flat c.toList) (hl:flat.length=n*m):∀ i,i<n→Qf2 δ c m 0 i ((flat.drop (i*m)).take m):=by
 intro i hi
 have hle:(i + 1)*m≤n*m:=Nat.mul_le_mul_right _ hi
 rw [Nat.add_mul] at hle
 refine ⟨by simp; omega,fun j x hx=>?_⟩
 rw [List.getElem?_take] at hx
 split at hx
 · rw [List.getElem?_drop] at hx
   obtain ⟨r,h1,h2⟩:=Qb5 hc hx
   exact ⟨r,by simpa using h1,h2⟩
 · cases hx
theorem Q79 {δ:Dict} {h:Qbo} {w:World} {t:TypeId} {op:BinOp} {x y:SV} {ox oy:Operand} {rx ry:Value} {b:Bool} (he:Qsp P t op x y h=some b) (hx:Qah δ x rx) (hy:Qah δ y ry) (hr:HRep δ h w) :
   (do eqGuard op t ox oy rx ry; binOp op t rx ry:Sem Value).run P w=.ok (.bool b) w∧True:=by
 refine ⟨?_,trivial⟩
 unfold Qsp at he
 cases hm:Qfv P t with
 | none=>rw [hm] at he; cases he
 | some m =>
   rw [hm] at he
   simp only at he
   cases h0:Nat.beq m 0 with
   | true=>rw [h0] at he; cases he
   | false =>
     rw [h0,cond_false] at he
     have hu:=hm
     unfold Qfv at hu
     split at hu <;> try (cases hu; done)
     rename_i e ht
     have hm0:m≠0:=fun e=>by rw [e] at h0; cases h0
     have g1:∀ (a a':Addr),a.block≠a'.block→(∃ c e x,w.heap[a.block]?=some (.cells c e (x,0)))→(∃ c e x,w.heap[a'.block]?=some (.cells c e (x,0)))→∀ D,(Op.equalIn (D + 1) t (.pointer (some a)) (.pointer (some a'))).run P w=.ok false w:=fun a a' hne ⟨c,e1,x1,hc⟩ ⟨c',e2,x2,hc'⟩ D=>by
       have f1:∀ o s,w.frozen? ⟨a.block,o,s⟩=false:=fun o s=>by simp [World.frozen?,hc]
       have f2:∀ o s,w.frozen? ⟨a'.block,o,s⟩=false:=fun o s=>by simp [World.frozen?,hc']
       have s1:w.shape? a.block=some (e1,c.size):=by simp [World.shape?,hc]
       have s2:w.shape? a'.block=some (e2,c'.size):=by simp [World.shape?,hc']
       simp [Op.equalIn,run_underlying ht,Qa4 hu,sameAddr,hm0,hne,noView,viewAt,mayBeOne,stringish,f1,f2,s1,s2]
     have key:∀ (k j k' j':Nat),Qah δ (.vp k j) rx→Qah δ (.vp k' j') ry→Qo1 h k k'=true→∃ a a',rx=.pointer (some a)∧ry=.pointer (some a')∧a.block≠a'.block∧(∃ c e x,w.heap[a.block]?=some (.cells c e (x,0)))∧∃ c e x,w.heap[a'.block]?=some (.cells c e (x,0)):=fun k j k' j' h1 h2 ha=>by
       unfold Qo1 at ha
       cases hk:h k with
       | none=>rw [hk] at ha; cases ha
       | some bk =>
         cases hk':h k' with
         | none=>rw [hk,hk'] at ha; cases ha
         | some bk' =>
           rw [hk,hk'] at ha
           simp only [Bool.and_eq_true,Bool.not_eq_true'] at ha
           obtain ⟨⟨a1,⟨a2,a5⟩,a3⟩,⟨a6,a7⟩,a4⟩:=ha
           simp only [Qah] at h1 h2
           obtain ⟨p,d1,p1,rfl⟩:=h1
           obtain ⟨p',d2,p2,rfl⟩:=h2
           obtain ⟨q,e1,l1⟩:=hr.blk k bk hk
           rw [d1] at e1; cases e1
           obtain ⟨q,e2,l2⟩:=hr.blk k' bk' hk'
           rw [d2] at e2; cases e2
           obtain ⟨a3,s3⟩:=Blk.off_false a3
           obtain ⟨a4,s4⟩:=Blk.off_false a4
           have still:∀ {b:Blk} {r o:Nat},b.sp=none→Qcm δ b w r o→b.whole=true→b.rw=true→∃ c e x,w.heap[r]?=some (.cells c e (x,0)):=fun hsp hbr h1 h2=>by
             obtain ⟨c,e,fz,c1,_,_,_,_,c6,_⟩:=Qap hsp hbr
             obtain ⟨x,y⟩:=fz
             obtain rfl:y=0:=(c6 h1).2.2 h2
             exact ⟨c,e,x,c1⟩
           refine ⟨_,_,rfl,rfl,fun hb=>?_,still s3 ((l1 a3).rep ((l1 a3).notNo p1)) a5 a2,still s4 ((l2 a4).rep ((l2 a4).notNo p2)) a7 a6⟩
           have:=hr.inj k k' p.r bk ⟨bk,p,hk,a3,d1,(l1 a3).notNo p1,rfl⟩ ⟨bk',p',hk',a4,d2,(l2 a4).notNo p2,hb.symm⟩ hk a2
           rw [this,Nat.beq_refl] at a1
           cases a1
     split at he
     · rename_i k j k' j'
       cases ha:Qo1 h k k' with
       | false=>rw [ha] at he; cases he
       | true =>
         rw [ha] at he; cases he
         obtain ⟨a,a',rfl,rfl,hne,hc,hc'⟩:=key k j k' j' hx hy ha
         simp [eqGuard,binOp,Op.equal,Op.maxDepth,g1 a a' hne hc hc' 9999]
     · rename_i k j k' j'
       cases ha:Qo1 h k k' with
       | false=>rw [ha] at he; cases he
       | true =>
         rw [ha] at he; cases he
         obtain ⟨a,a',rfl,rfl,hne,hc,hc'⟩:=key k j k' j' hx hy ha
         simp [eqGuard,binOp,Op.equal,Op.maxDepth,g1 a a' hne hc hc' 9999]
     · cases he
theorem Qik {δ:Dict} (v:Value):Qah δ (Qil v) v:=by
 unfold Qil
 split
 · simp only [Qah]; exact ⟨_,by simp,Qkh _⟩
 · simp only [Qah]
theorem Q7f {δ:Dict} {x y:SV} {t:TypeId} {r:Value} (h:Zel x=some (t,y)) (hr:Qah δ x r):∃ v,r=.iface t v∧Qah δ y v:=by
 unfold Zel at h
 split at h
 · cases h
   simp only [Qah] at hr
   exact hr
 · cases h
   simp only [Qah] at hr
   exact ⟨_,hr,Qik _⟩
 · cases h
theorem Qoy {m:Nat}:∀ {n:Nat} {l:List SV} {i:Nat},i<n→(Qji m n l)[i]?=some ((l.drop (i*m)).take m)
 | n + 1,l,0,_=>by simp [Qji]
 | n + 1,l,i + 1,h=>by
   simp only [Qji,List.getElem?_cons_succ]
   rw [Qoy (by omega),List.drop_drop,Nat.add_mul,Nat.one_mul,Nat.add_comm m]
theorem Qrx {i:Nat}:∀ {L:List (List SV)} {j:Nat} {r:List SV},j≤i→L[i - j]?=some r→Qpx i L j=r
 | [],j,r,_,h=>by simp at h
 | [x],j,r,hj,h=>by
   have h1:=(List.getElem?_eq_some_iff.1 h).1
   simp only [List.length_singleton] at h1
   rw [show i - j=0 by omega] at h
   simpa [Qpx] using h
 | x :: y :: L,j,r,hj,h=>by
   simp only [Qpx,Qeg]
   by_cases he:i=j
   · subst he
     rw [Nat.sub_self] at h
     simp at h
     simp [h]
   · rw [Qbc he,cond_false]
     refine Qrx (by omega) ?_
     rw [show i - j=(i - (j + 1)) + 1 by omega,List.getElem?_cons_succ] at h
     exact h
theorem Qqk {m n:Nat} {flat:List SV} {i:Nat} (hi:i<n):Qpx i (Qji m n flat) 0=(flat.drop (i*m)).take m :=
 Qrx (Nat.zero_le i) (by rw [Nat.sub_zero]; exact Qoy hi)
theorem Qsj {place:Nat→Option (Nat×Nat)}:∀ (parts:List (Nat×SV)) (cells out:List SV),Qk7 place cells parts=some out→out.length=cells.length
 | [],cells,out,hf=>by simp only [Qk7,Option.some.injEq] at hf; rw [hf]
 | (i,x) :: parts,cells,out,hf=>by
   simp only [Qk7] at hf
   split at hf <;> try (cases hf; done)
   split at hf <;> try (cases hf; done)
   rename_i off size _ _ l _
   cases hb:(Nat.beq l.length size&&Nat.ble (off + l.length) cells.length) with
   | false=>rw [hb] at hf; cases hf
   | true =>
     rw [hb,cond_true] at hf
     rw [Bool.and_eq_true] at hb
     have:=Nat.le_of_ble_eq_true hb.2
     rw [Qsj parts _ _ hf]
     simp [Qfa]
     omega
theorem Qbp {o:Oper} {ρ:Operand→Value} {e:Eff} {x:SV} {r:Value} {p:Option Prop} (hr:HRep δ h w) (he:e=.det p x []) (hrun:(execOp ρ o).run P w=.ok (.value r) w) (hx:Qah δ x r) :
   Qky P δ h w e ((execOp ρ o).run P w):=by
 rw [hrun]; exact Q57 hr he hx
theorem Qr0 {o:Oper} {ρ:Operand→Value} {e:Eff} {x:SV} {r:Value} {p:Option Prop} {u:List (Nat×Blk)} {w':World} {δ':Dict} (he:e=.det p x u) (hrun:(execOp ρ o).run P w=.ok (.value r) w')
   (hu:Upd δ h w δ' u w') (hx:Qah δ' x r):Qky P δ h w e ((execOp ρ o).run P w):=by
 rw [hrun]; subst he; exact ⟨x,u,δ',⟨rfl,rfl⟩,hx,hu⟩
theorem Qou:∀ {a b:List SV},Qkc a b=true→a=b
 | [],[],_=>rfl
 | x :: xs,y :: ys,h=>by
   simp only [Qkc,Bool.and_eq_true] at h
   rw [Qou h.2]
   have:x=y:=by
     have h1:=h.1
     unfold Q95 at h1
     split at h1
     · simp only [Bool.and_eq_true,decide_eq_true_eq] at h1
       rw [h1.1,h1.2]
     · simp only [beq_iff_eq] at h1; rw [h1]
     · cases h1
   rw [this]
 | [],_ :: _,h=>by simp [Qkc] at h
 | _ :: _,[],h=>by simp [Qkc] at h
theorem Qm1 {ze:List SV}:∀ (n i j:Nat),i<n→j<ze.length→(List.replicate n ze).flatten[i*ze.length + j]?=ze[j]?
 | n + 1,0,j,_,hj=>by simp only [List.replicate_succ,List.flatten_cons,Nat.zero_mul,Nat.zero_add]; rw [List.getElem?_append_left hj]
 | n + 1,i + 1,j,hi,hj=>by
   simp only [List.replicate_succ,List.flatten_cons]
   rw [List.getElem?_append_right (by rw [Nat.add_mul]; omega),show (i + 1)*ze.length + j - ze.length=i*ze.length + j by rw [Nat.add_mul]; omega]
   exact Qm1 n i j (by omega) hj
theorem Q6l {t e:TypeId} {n:Nat} {ze:List SV} (hz:Zdk P t=some (e,n,ze)) (w:World):∃ v,(zeroValue t).run P w=.ok v w∧v.cells.size=n*ze.length∧∀ i,i<n→Qf2 δ v.cells ze.length 0 i ze:=by
 unfold Zdk at hz
 split at hz <;> try (cases hz; done)
 rename_i n' e' hu
 split at hz <;> try (cases hz; done)
 rename_i z ze' h1 h2
 cases hb:Q2t z ze' n' with
 | false=>rw [hb] at hz; cases hz
 | true =>
   rw [hb,cond_true] at hz
   cases hz
   unfold Q2t at hb
   rw [Bool.and_eq_true] at hb
   have hzz:=Qou hb.2
   obtain ⟨v,v1,v2⟩:=Qht (P:=P) h1 w
   refine ⟨v,v1,?_,fun i hi=>⟨rfl,fun j x hx=>?_⟩⟩
   · have:z.length=n*ze.length:=by rw [hzz]; simp
     rw [← this,v2]; simp
   · have hj:j<ze.length:=(List.getElem?_eq_some_iff.1 hx).1
     have hg:=Qm1 (ze:=ze) n i j hi hj
     rw [← hzz,hx,v2,List.getElem?_map] at hg
     cases hc:v.cells.toList[i*ze.length + j]? with
     | none=>rw [hc] at hg; cases hg
     | some r =>
       rw [hc] at hg
       simp only [Option.map_some,Option.some.injEq] at hg
       subst hg
       exact ⟨r,by rw [Nat.zero_add,← Array.getElem?_toList]; exact hc,by simp only [Qah]⟩
theorem Qv3 {o:Oper} {ρ:Operand→Value} {e:Eff} {m:Sem Value} (h1:ValOk δ h w e (m.run P w)) (h2:execOp ρ o=(do pure (.value (← m)))):Qky P δ h w e ((execOp ρ o).run P w):=by
 obtain ⟨y,w',x,u,δ',g1,g2,g3,g4⟩:=h1
 rw [h2,Sem.run_bind,g1]
 exact ⟨x,u,δ',g2,g3,g4⟩
theorem Q2c (l:List (Nat×Operand)) (ρS:Operand→SV) (ρ:Operand→Value):(l.map fun p=>(p.1,ρS p.2)).map (·.1)=(l.map fun p=>(p.1,ρ p.2)).map (·.1):=by simp
theorem Zek {δ:Dict} {x:SV} {v r:Value} (h:ifcS x=some v) (hx:Qah δ x r):r=v:=by
 have all:∀ (cs:List SV) (l xs:List Value),ifcS.allV cs=some l→Qaw δ cs xs→xs=l:=by
   intro cs
   induction cs with
   | nil =>
     intro l xs h hx
     simp only [ifcS.allV,Option.some.injEq] at h
     subst h
     cases xs with
     | nil=>rfl
     | cons a b=>simp only [Qaw] at hx
   | cons c cs ih =>
     intro l xs h hx
     cases xs with
     | nil=>simp only [Qaw] at hx
     | cons a xs =>
       simp only [Qaw] at hx
       cases c with
       | v y =>
         simp only [ifcS.allV] at h
         cases hl:ifcS.allV cs with
         | none=>rw [hl] at h; cases h
         | some l' =>
           rw [hl] at h
           cases h
           have h1:=hx.1
           simp only [Qah] at h1
           rw [h1,ih l' xs hl hx.2]
       | _=>simp only [ifcS.allV] at h; cases h
 unfold ifcS at h
 split at h
 · cases h
 · cases h
 · cases h
   simpa only [Qah] using hx
 · rename_i cs
   cases hl:ifcS.allV cs with
   | none=>rw [hl] at h; cases h
   | some l =>
     rw [hl] at h
     cases h
     simp only [Qah] at hx
     obtain ⟨xs,rfl,h2⟩:=hx
     rw [all cs l xs hl h2]
 · cases h
theorem Q2a {t:TypeId} {name:String} {f:FuncId} (h:Que P t name=some f) (v:Value) (n:Nat) (w:World):(method (n + Made.depth) t v name).run P w=.ok (f,v) w:=by
 unfold Que at h
 split at h <;> try (cases h; done)
 rename_i i fs hi hu
 split at h <;> try (cases h; done)
 rename_i m hm
 split at h <;> try (cases h; done)
 rename_i g hp hf
 cases h
 have e:n + Made.depth=(n + 99) + 1:=rfl
 rw [e]
 show ((do
   let some m := (← typeInfo t).methods.find? (·.name == name) | stuck "invoke: the dynamic type lacks the method"
   let (xt,x) ← follow m.path.toList t (.val v)
   match m.func with
   | none =>
     match ← x.get xt with
     | .iface t' v'=>method (n + 99) t' v' name
     | .nilIface=>runtimePanic .nilDeref
     | _ => stuck "method row: interface value expected"
   | some (f,pointerReceiver) =>
     pure (f, ← receiverAt xt x pointerReceiver (if m.path.isEmpty then some ((name.splitOn ".").getLastD name) else none)) : Sem (FuncId × Value))).run P w = _
 simp [typeInfo,hi,hm,hp,hf,follow,receiverAt,run_underlying hu,Place.get]
theorem Quz {t:TypeId} (h:Qlu P t=true):∃ u,P.underlying t=some u∧∀ ms,u≠.interface ms:=by
 unfold Qlu at h
 split at h
 · rename_i fs hu; exact ⟨_,hu,fun ms e=>by cases e⟩
 · rename_i fs hu; exact ⟨_,hu,fun ms e=>by cases e⟩
 · cases h
theorem Qhu {ρ:Operand→Value} {dst:Option Tmp} {x:Operand} {xt t ty:TypeId} {pos:String} {after:Array Edge} {guard:Option (Nat×Bool)} {w:World} {u0:TypeDesc} (hu:P.underlying t=some u0) (hn:∀ ms,u0≠.interface ms) {u:TypeId} {v:Value} (h1:ρ x=.iface u v) :
   (execOp ρ ⟨dst,.typeAssert x xt t true,ty,pos,after,guard⟩).run P w=if u=t then .ok (.value (.tuple #[v,.bool true])) w else (do let z ← zeroValue t; pure (Next.value (.tuple #[z,.bool false])):Sem Next).run P w:=by
 cases u0 <;> simp_all [execOp,Instr.typeAssert,run_underlying hu]
 all_goals (cases Sem.run P (zeroValue t) w <;> rfl)
theorem Qnp {ρ:Operand→Value} {dst:Option Tmp} {x:Operand} {xt t ty:TypeId} {pos:String} {after:Array Edge} {guard:Option (Nat×Bool)} {w:World} {u0:TypeDesc} (hu:P.underlying t=some u0) (hn:∀ ms,u0≠.interface ms) (h1:ρ x=.nilIface) :
   (execOp ρ ⟨dst,.typeAssert x xt t true,ty,pos,after,guard⟩).run P w=(do let z ← zeroValue t; pure (Next.value (.tuple #[z,.bool false])):Sem Next).run P w:=by
 cases u0 <;> simp_all [execOp,Instr.typeAssert,run_underlying hu]
 all_goals (cases Sem.run P (zeroValue t) w <;> rfl)
set_option maxHeartbeats 1000000 in
theorem Ziv {Γ:Qbz} (hΓ:∀ f g,Γ f=some g→g.ok P f) {o:Oper} {ρS:Operand→SV} {ρ:Operand→Value} (hρ:∀ x,Qah δ (ρS x) (ρ x)) (hρf:∀ f,ρS (.func f)=.fn f []) {base:Nat} {e:Eff} (hr:HRep δ h w)
   (he:opS P Γ o ρS h base=some e) (hp:e.asks) (hf:∀ x u,Qce e x u→∀ k,Qac k u=true→h k=none→δ k=none)
   (hw:Qa0 Γ o=false→∀ x u,Qce e x u→∀ k,Qac k u=true→h k=none) (hst:Qet Γ o ρS h=false):Qky P δ h w e ((execOp ρ o).run P w):=by
 obtain ⟨dst,op,ty,pos,after,guard⟩:=o
 unfold opS at he
 cases op <;> simp only [Q6o] at he <;> try (cases he; done)
 case move x=>cases he; exact Qbp hr rfl (by simp [execOp]) (hρ x)
 case assign x=>cases he; exact Qbp hr rfl (by simp [execOp]) (hρ x)
 case pick c a b =>
   split at he <;> try (cases he; done)
   rename_i t ht
   have h1:=hρ c
   rw [ht] at h1
   simp only [Qah] at h1
   have hrun:∀ r,(if t=true then ρ a else ρ b)=r→(execOp ρ ⟨dst,.pick c a b,ty,pos,after,guard⟩).run P w=.ok (.value r) w:=fun r hr'=>by
     simp [execOp,h1,asBool,hr']
   split at he
   · rename_i x y hx hy
     cases he
     have ha:=hρ a; have hb:=hρ b
     rw [hx] at ha; rw [hy] at hb
     simp only [Qah] at ha hb
     refine Qbp hr rfl (hrun _ rfl) ?_
     cases t <;> simp [bop,Qah,ha,hb]
   · cases he
     refine Qbp hr rfl (hrun _ rfl) ?_
     cases t <;> simp [bop,hρ]
 case alloc t =>
   split at he
   · rename_i e n ze hrt
     cases he
     have hn:=hw rfl _ _ ⟨rfl,rfl⟩ base (by simp [Qac])
     have hd:=hf _ _ ⟨rfl,rfl⟩ base (by simp [Qac]) hn
     obtain ⟨zv,z1,z2,z3⟩:=Q6l (P:=P) hrt w
     obtain ⟨δ',u1,u2⟩:=Qr2 (b:={elem:=0,size:=ze.length,rw:=true,lock:=false,lit:=true,flat:=Qan ze,n,row:=fun _=>ze}) (c:=zv.cells) (el:=t) hr hn hd (fun hh=>absurd rfl hh) (by simp only [z2]; exact Nat.le_refl _) (fun hh=>(by cases hh)) (fun hf i _=>hf) (fun i hi=>z3 i hi)
     exact Qr0 (r:=.pointer (some ⟨w.heap.size,0,none⟩)) (w':=w.alloc (.cells zv.cells t)) rfl (by simp [execOp,Instr.alloc,z1,newVar,Qee]) (by simpa using u1) (by simp only [Qah]; exact ⟨_,u2,rfl,rfl,rfl,by simp⟩)
   split at he <;> try (cases he; done)
   rename_i z hz
   cases he
   obtain ⟨zv,z1,z2⟩:=Qht (P:=P) hz w
   have hn:=hw rfl _ _ ⟨rfl,rfl⟩ base (by simp [Qac])
   have hd:=hf _ _ ⟨rfl,rfl⟩ base (by simp [Qac]) hn
   obtain ⟨δ',u1,u2⟩:=Qzv (t:=t) (cs:=z) (c:=zv.cells.toList) hr hn hd (by rw [z2]; exact Qkh _)
   exact Qr0 (w':=w.alloc (.cells zv.cells t)) rfl (by simp [execOp,Instr.alloc,z1,newVar,Qee]) (by simpa using u1) u2
 case box t x =>
   split at he <;> try (cases he; done)
   rename_i cs hcs
   cases he
   have hn:=hw rfl _ _ ⟨rfl,rfl⟩ base (by simp [Qac])
   have hd:=hf _ _ ⟨rfl,rfl⟩ base (by simp [Qac]) hn
   obtain ⟨δ',u1,u2⟩:=Qzv (t:=t) (cs:=cs) (c:=(ρ x).cells.toList) hr hn hd (Qir hcs (hρ x))
   exact Qr0 (w':=w.alloc (.cells (ρ x).cells t)) rfl (by simp [execOp,Instr.box,newVar,Qee]) (by simpa using u1) u2
 case build t parts =>
   split at he <;> try (cases he; done)
   rename_i r hb
   cases he
   obtain ⟨y,y1,y2⟩:=Q72 (P:=P) (w:=w) (vs:=parts.toList.map fun p=>(p.1,ρ p.2)) hb (Q2c _ _ _) (Qki hρ _)
   refine Qbp hr rfl ?_ y2
   have:parts.map (fun x=>(x.1,ρ x.2))=(parts.toList.map fun p=>(p.1,ρ p.2)).toArray:=by apply Array.ext'; simp
   simp only [execOp,Sem.run_bind]
   rw [this,y1]
   rfl
 case panic x=>cases hst
 case typeAssert x xt t ok =>
   cases hb:(ok&&Qlu P t) with
   | false=>rw [hb] at he; cases he
   | true =>
     rw [hb,cond_true] at he
     rw [Bool.and_eq_true] at hb
     have hok:ok=true:=hb.1
     subst hok
     obtain ⟨u0,hu0,hni⟩:=Quz hb.2
     have hz:∀ y:Value,Qzh P t=some e→(execOp ρ ⟨dst,.typeAssert x xt t true,ty,pos,after,guard⟩).run P w=(do let z ← zeroValue t; pure (Next.value (.tuple #[z,.bool false])):Sem Next).run P w→Qky P δ h w e ((execOp ρ ⟨dst,.typeAssert x xt t true,ty,pos,after,guard⟩).run P w):=fun y he hrun=>by
       unfold Qzh at he
       split at he <;> try (cases he; done)
       rename_i i hi
       split at he <;> try (cases he; done)
       rename_i zv hzv
       cases he
       refine Qbp (r:=.tuple #[zv,.bool false]) hr rfl ?_ ?_
       · rw [hrun]
         simp [zeroValue,typeInfo,hi,hzv]
       · simp only [Qah]
         refine ⟨[zv,.bool false],rfl,?_⟩
         simp only [Qaw,Qah,and_true]
         exact Qik zv
     have h1:=hρ x
     split at he <;> try (cases he; done)
     · rename_i u v hx
       rw [hx] at h1
       simp only [Qah] at h1
       cases hut:Nat.beq u t with
       | true =>
         rw [hut,cond_true] at he
         cases he
         have hut:u=t:=Nat.eq_of_beq_eq_true hut
         subst hut
         refine Qbp (r:=.tuple #[v,.bool true]) hr rfl ?_ ?_
         · rw [Qhu hu0 hni h1]; simp
         · simp only [Qah]
           refine ⟨[v,.bool true],rfl,?_⟩
           simp only [Qaw,Qah,and_true]
           exact Qik v
       | false =>
         rw [hut,cond_false] at he
         have hne:u≠t:=fun e=>by subst e; rw [Nat.beq_refl] at hut; cases hut
         exact hz .nilIface he (by rw [Qhu hu0 hni h1,if_neg hne])
     · rename_i u y hx
       rw [hx] at h1
       simp only [Qah] at h1
       obtain ⟨v,h1,hv⟩:=h1
       cases hut:Nat.beq u t with
       | true =>
         rw [hut,cond_true] at he
         cases he
         have hut:u=t:=Nat.eq_of_beq_eq_true hut
         subst hut
         refine Qbp (r:=.tuple #[v,.bool true]) hr rfl ?_ ?_
         · rw [Qhu hu0 hni h1]; simp
         · simp only [Qah]
           refine ⟨[v,.bool true],rfl,?_⟩
           simp only [Qaw,Qah,and_true]
           exact hv
       | false =>
         rw [hut,cond_false] at he
         have hne:u≠t:=fun e=>by subst e; rw [Nat.beq_refl] at hut; cases hut
         exact hz .nilIface he (by rw [Qhu hu0 hni h1,if_neg hne])
     · rename_i hx
       rw [hx] at h1
       simp only [Qah] at h1
       exact hz .nilIface he (by rw [Qnp hu0 hni h1])
 case makeInterface t x =>
   split at he <;> try (cases he; done)
   · rename_i fs hu
     split at he
     · rename_i v hv
       cases he
       have hx:=Zek hv (hρ x)
       refine Qbp (r:=.iface t v) hr rfl ?_ (absV_v.2 rfl)
       simp only [execOp,Instr.makeInterface,hx]
       simp [run_underlying hu]
     · cases he
       refine Qbp (r:=.iface t (ρ x)) hr rfl ?_ (by simp only [Qah]; exact ⟨_,rfl,hρ x⟩)
       simp only [execOp,Instr.makeInterface]
       simp [run_underlying hu]
   · rename_i u hu
     cases he
     refine Qbp (r:=.iface t (ρ x)) hr rfl ?_ (by simp only [Qah]; exact ⟨_,rfl,hρ x⟩)
     simp only [execOp,Instr.makeInterface]
     simp [run_underlying hu]
 case makeFunc fn first captured =>
   unfold Zi7 at he
   cases fn with
   | func f =>
     simp only at he
     split at he
     · rename_i hfirst
       cases he
       have e1:first=#[]:=by apply Array.ext'; simpa using hfirst
       subst e1
       refine Qbp (r:=.func (.func f) #[] (captured.map ρ)) hr rfl (by simp only [execOp,Sem.run_bind]; rw [show Array.map ρ #[]=#[] by simp]; rfl) ?_
       simp only [Qah]
       exact ⟨captured.toList.map ρ,by congr 1; apply Array.ext'; simp,Qh4 hρ _⟩
     · cases he
   | _=>cases he
 case buildSlice t n parts =>
   split at he <;> try (cases he; done)
   rename_i el hu
   split at he <;> try (cases he; done)
   rename_i m z hm hz
   cases hb:(Nat.beq m 0||Nat.ble 100000 (n*m)||!Nat.beq z.length m) with
   | true=>rw [hb] at he; cases he
   | false =>
     rw [hb,cond_false] at he
     simp only [Bool.or_eq_false_iff,Bool.not_eq_false'] at hb
     obtain ⟨⟨b1,b2⟩,b3⟩:=hb
     split at he <;> try (cases he; done)
     rename_i flat hfl
     cases he
     obtain ⟨zv,z1,z2⟩:=Qht (P:=P) hz w
     have hm0:m≠0:=fun e=>by subst e; simp at b1
     have hzl:z.length=m:=Nat.eq_of_beq_eq_true b3
     have hle:¬ n*m > 2 ^ 24:=by
       have:¬ 100000≤n*m:=fun h'=>by rw [Nat.ble_eq_true_of_le h'] at b2; cases b2
       omega
     have hn:=hw rfl _ _ ⟨rfl,rfl⟩ base (by simp [Qac])
     have hd:=hf _ _ ⟨rfl,rfl⟩ base (by simp [Qac]) hn
     have hz0:=Qvb (δ:=δ) (k:=n*m) z2 hzl (by omega)
     obtain ⟨o,o1,o2⟩:=Qqm _ (parts.toList.map fun p=>(p.1,ρ p.2)) _ _ flat hfl hz0 (Q2c _ _ _) (Qki hρ _)
     have hlen:flat.length=n*m:=by rw [Qsj _ _ _ hfl]; simp [Qnx]
     obtain ⟨δ',u1,u2⟩:=Qr2 (b:=Qql el m n flat) (c:=o) (el:=el) hr hn hd (fun _=>rfl) (by simp [Qql,← hlen]; have:=Qa6 o2; simp at this; omega) (fun hh=>(by cases hh)) (fun hf i hi=>by show Qan (Qpx i (Qji m n flat) 0)=true; rw [Qqk (show i<n from hi)]; exact Qia _ (Qib _ hf)) (fun i hi=>by show Qf2 _ _ _ _ _ (Qpx i (Qji m n flat) 0); rw [Qqk (show i<n from hi)]; exact Zet o2 hlen i hi)
     refine Qr0 (r:=.slice (some ⟨w.heap.size,0,none⟩) n n) rfl ?_ u1 (by simp only [Qah]; exact ⟨_,u2,rfl,by simp [Qql],.inl ⟨rfl,by simp⟩⟩)
     have hparts:(parts.map fun x=>(x.1,ρ x.2)).toList=parts.toList.map fun p=>(p.1,ρ p.2):=by simp
     simp only [execOp,Instr.buildSlice,Sem.run_bind,run_underlying hu,Result.andThen_ok,Qa4 hm]
     rw [if_neg hle]
     by_cases h0:n*m=0
     · rw [if_pos h0]
       have e0:(Array.range (n*m)).map (fun x=>zv.cells[x % zv.cells.size]!)=#[]:=by simp [h0]
       rw [e0] at o1
       have e1:(Array.range (n*m)).map (fun x=>(#[]:Array Value)[x % (#[]:Array Value).size]!)=#[]:=by simp [h0]
       simp only [Sem.run_bind,Sem.run_pure,Result.andThen_ok,e1,hparts,o1]
       simp [Qee]
     · rw [if_neg h0]
       simp only [Sem.run_bind,Sem.run_pure,Result.andThen_ok,z1,hparts,o1]
       simp [Qee]
 case makeSlice t l c =>
   split at he <;> try (cases he; done)
   rename_i el n m hu hl hcc
   split at he <;> try (cases he; done)
   rename_i sz z info hm hz hi
   cases hb:(Nat.beq sz 0||!Nat.beq z.length sz||Nat.beq info.bytes 0) with
   | true=>rw [hb] at he; cases he
   | false =>
     rw [hb,cond_false] at he
     simp only [Bool.or_eq_false_iff,Bool.not_eq_false'] at hb
     obtain ⟨⟨b1,b2⟩,b3⟩:=hb
     cases he
     obtain ⟨p1,p2,p3⟩:=hp _ rfl
     obtain ⟨zv,z1,z2⟩:=Qht (P:=P) hz w
     have hsz0:sz≠0:=fun e=>by subst e; simp at b1
     have hby:info.bytes≠0:=fun e=>by rw [e] at b3; simp at b3
     have hzl:z.length=sz:=Nat.eq_of_beq_eq_true b2
     have hn:=hw rfl _ _ ⟨rfl,rfl⟩ base (by simp [Qac])
     have hd:=hf _ _ ⟨rfl,rfl⟩ base (by simp [Qac]) hn
     have hl':=hρ l; have hc':=hρ c
     rw [hl] at hl'; rw [hcc] at hc'
     simp only [Qah] at hl' hc'
     have hmm:m≤2 ^ 47:=by
       have:(1:Int)*m≤info.bytes*m:=Int.mul_le_mul_of_nonneg_right (by omega) (by omega)
       omega
     have wn:IntKind.i64.wrap n=n:=by
       simp [IntKind.wrap,IntKind.bits,IntKind.signed]; omega
     have wm:IntKind.i64.wrap m=m:=by
       simp [IntKind.wrap,IntKind.bits,IntKind.signed]; omega
     obtain ⟨δ',u1,u2⟩:=Qr2 (b:={elem:=el,size:=sz,rw:=true,lock:=false,lit:=false,flat:=Qan z,n:=m.toNat,row:=fun _=>z}) (c:=(Array.range (m.toNat*sz)).map fun x=>zv.cells[x % zv.cells.size]!) (el:=el) hr hn hd (fun _=>rfl) (by simp) (fun hh=>(by cases hh)) (fun hf i _=>hf) (fun i hi=>by
       have hzz:=Qvb (δ:=δ) (k:=m.toNat*sz) z2 hzl (by omega)
       refine ⟨hzl,fun j x hx=>?_⟩
       have hj:j<sz:=by rw [← hzl]; exact (List.getElem?_eq_some_iff.1 hx).1
       have hle:(i + 1)*sz≤m.toNat*sz:=Nat.mul_le_mul_right _ hi
       rw [Nat.add_mul] at hle
       have hk:i*sz + j<m.toNat*sz:=by omega
       obtain ⟨r,r1,r2⟩:=Qb5 (x:=x) (i:=i*sz + j) hzz (by
         simp only [Qnx,List.getElem?_map,List.getElem?_range hk,Option.map_some]
         rw [show (i*sz + j) % sz=j by rw [Nat.mul_comm,Nat.mul_add_mod]; exact Nat.mod_eq_of_lt hj]
         simp [List.getD,hx])
       exact ⟨r,by rw [Nat.zero_add,← Array.getElem?_toList]; exact r1,r2⟩)
     refine Qr0 (r:=.slice (some ⟨w.heap.size,0,none⟩) n.toNat m.toNat) rfl ?_ u1 (by simp only [Qah]; exact ⟨_,u2,rfl,by simp; omega,.inl ⟨rfl,by simp⟩⟩)
     have t1:¬ (m<0):=by omega
     have t2:¬ ((info.bytes:Int)*m > 2 ^ 48):=by omega
     have t3:¬ (n<0):=by omega
     have t4:¬ (n > m):=by omega
     have t5:¬ (m.toNat*info.bytes > roomBytes):=by
       have:((m.toNat*info.bytes:Nat):Int)=info.bytes*m:=by rw [Int.natCast_mul,Int.toNat_of_nonneg (by omega),Int.mul_comm]
       unfold roomBytes
       omega
     simp only [execOp,Instr.makeSlice,hl',hc',Sem.run_bind,run_underlying hu,Result.andThen_ok,asInt,asIntOf,Sem.run_pure]
     simp only [typeInfo,hi,Sem.run_bind,run_program,Result.andThen_ok,Sem.run_pure,wn,wm,t1,t2,t3,t4,decide_false,Bool.or_self,Bool.false_eq_true,if_false,askRoom,t5]
     by_cases h0:m.toNat*sz=0
     · simp [h0,Qa4 hm,Qee,Array.range_zero']
     · simp [h0,Qa4 hm,z1,Qee]
 case load t a =>
   split at he <;> try (cases he; done)
   rename_i r hl
   cases he
   obtain ⟨y,y1,y2⟩:=Q2j (P:=P) (w:=w) hl (hρ a) hr
   exact Qbp hr rfl (by simp [execOp,y1]) y2
 case store t a x =>
   split at he <;> try (cases he; done)
   rename_i u hs
   cases he
   obtain ⟨w',y1,y2⟩:=Q6f (P:=P) hs (hρ a) (hρ x) hr
   have:(execOp ρ ⟨dst,.store t a x,ty,pos,after,guard⟩).run P w=.ok .skip w':=by simp [execOp,y1]
   rw [this]
   exact ⟨_,_,δ,⟨rfl,rfl⟩,absV_v.2 rfl,y2⟩
 case lookup t x ix ok=>exact Qv3 (Zea (P:=P) (w:=w) he (hρ x) (hρ ix) hr) rfl
 case mapUpdate t m k x =>
   obtain ⟨w',u,y1,y2,y3⟩:=Q2d (P:=P) he (hρ m) (hρ k) (hρ x) hr hp
   have:(execOp ρ ⟨dst,.mapUpdate t m k x,ty,pos,after,guard⟩).run P w=.ok .skip w':=by simp [execOp,y1]
   rw [this]
   exact ⟨_,_,δ,y2,absV_v.2 rfl,y3⟩
 case makeMap t r =>
   have hout:∃ y u,Qce e y u∧Qac base u=true:=by
     unfold Qp6 at he
     split at he <;> try (cases he; done)
     split at he
     · cases he; exact ⟨_,_,⟨rfl,rfl⟩,by simp [Qac]⟩
     · split at he <;> try (cases he; done)
       cases he; exact ⟨_,_,⟨rfl,rfl⟩,by simp [Qac]⟩
   obtain ⟨y,u,ho,hu⟩:=hout
   have hn:=hw rfl _ _ ho base hu
   have hd:=hf _ _ ho base hu hn
   refine Qv3 (Q2e (P:=P) (rr:=r.map ρ) he ?_ hr hn hd) rfl
   cases r with
   | none=>trivial
   | some x=>exact hρ x
 case nilCheck x =>
   have h1:=hρ x
   split at he <;> try (cases he; done)
   · rename_i k m l hx
     rw [hx] at h1
     cases he
     have h2:=h1
     simp only [Qah] at h2
     obtain ⟨p,_,_,_,_,e2⟩:=h2
     exact Qbp (r:=ρ x) hr rfl (by simp [execOp,e2]) h1
   · rename_i k j hx
     rw [hx] at h1
     cases he
     have h2:=h1
     simp only [Qah] at h2
     obtain ⟨p,_,_,e2⟩:=h2
     exact Qbp (r:=ρ x) hr rfl (by simp [execOp,e2]) h1
   · rename_i k i j hx
     rw [hx] at h1
     cases he
     have h2:=h1
     simp only [Qah] at h2
     obtain ⟨p,_,_,e2⟩:=h2
     exact Qbp (r:=ρ x) hr rfl (by simp [execOp,e2]) h1
   · rename_i f cs hx
     rw [hx] at h1
     cases he
     have h2:=h1
     simp only [Qah] at h2
     obtain ⟨xs,e2,_⟩:=h2
     exact Qbp (r:=ρ x) hr rfl (by simp [execOp,e2]) h1
 case binOp op t x y t' =>
   cases hap:Qsp P t op (ρS x) (ρS y) h with
   | some b =>
     rw [hap] at he
     cases he
     obtain ⟨h1,h2⟩:=Q79 (w:=w) (ox:=x) (oy:=y) hap (hρ x) (hρ y) hr
     refine Qbp (r:=.bool b) hr rfl ?_ (absV_v.2 rfl)
     have:(execOp ρ ⟨dst,.binOp op t x y t',ty,pos,after,guard⟩)=(do let z ← (do eqGuard op t x y (ρ x) (ρ y); binOp op t (ρ x) (ρ y):Sem Value); pure (.value z)):=rfl
     rw [this,Sem.run_bind,h1]
     rfl
   | none =>
   rw [hap] at he
   simp only at he
   obtain ⟨v,r,p,e1,e2,e3⟩:=Zj3 (P:=P) (w:=w) (ox:=x) (oy:=y) he (hρ x) (hρ y) hp rfl
   refine Qbp hr e1 ?_ e2
   have:(execOp ρ ⟨dst,.binOp op t x y t',ty,pos,after,guard⟩)=(do let z ← (do eqGuard op t x y (ρ x) (ρ y); binOp op t (ρ x) (ρ y):Sem Value); pure (.value z)):=rfl
   rw [this,Sem.run_bind,e3]
   rfl
 case unOp op t x =>
   split at he <;> try (cases he; done)
   rename_i r hu
   cases he
   obtain ⟨y,y1,y2⟩:=Zly (P:=P) (w:=w) hu (hρ x)
   exact Qbp hr rfl (by simp [execOp,y1]) y2
 case convert src dst' x =>
   exact Qv3 (Ze6 (P:=P) (w:=w) he (hρ x) hr hp fun ⟨y,u,ho,hu⟩=>by
     have hn:=hw rfl _ _ ho base hu
     exact ⟨hn,hf _ _ ho base hu hn⟩) rfl
 case slice t x lo hi mx =>
   cases mx with
   | some m=>simp only at he; cases he
   | none =>
     simp only at he
     split at he <;> try (cases he; done)
     rename_i l r hl hr'
     obtain ⟨p,v,y,e1,e2,e3⟩:=Q6h (P:=P) (w:=w) he (hρ x) (Qwy hρ hl) (Qwy hρ hr') hp
     exact Qbp hr e1 (by simp [execOp,e3]) e2
 case fieldAddr t x f =>
   split at he <;> try (cases he; done)
   rename_i fs hu
   split at he <;> try (cases he; done)
   rename_i fl hfl
   split at he <;> try (cases he; done)
   rename_i m r hm ha
   cases hb:Nat.beq m 0 with
   | true=>rw [hb] at he; cases he
   | false =>
     rw [hb,cond_false] at he
     cases he
     obtain ⟨b,o,e1,e2⟩:=Q31 ha (hρ x)
     have hm0:m≠0:=fun e=>by subst e; simp at hb
     refine Qbp hr rfl ?_ e2
     simp [execOp,Instr.fieldAt,run_underlying hu,hfl,e1,Instr.sureAddr,fieldPlace,Qa4 hm,hm0,Addr.add_spot]
 case field t x f =>
   split at he <;> try (cases he; done)
   rename_i fs cs hu hx
   split at he <;> try (cases he; done)
   rename_i fl hfl
   split at he <;> try (cases he; done)
   rename_i r hpt
   cases he
   have h1:=hρ x
   rw [hx] at h1
   simp only [Qah] at h1
   obtain ⟨xs,e1,e2⟩:=h1
   obtain ⟨y,y1,y2⟩:=Qt8 (P:=P) (w:=w) hpt e2
   exact Qbp hr rfl (by simp [execOp,Instr.field,run_underlying hu,hfl,e1,asAgg,y1]) y2
 case indexAddr t x ix =>
   split at he
   · rename_i el k s i len cap kd n hu hx hi
     split at he <;> try (cases he; done)
     rename_i m hm
     cases hb:Nat.beq m s with
     | false=>rw [hb] at he; cases he
     | true =>
       rw [hb,cond_true] at he
       cases he
       have hms:m=s:=Nat.eq_of_beq_eq_true hb
       subst hms
       have h1:=hρ x; have h2:=hρ ix
       rw [hx] at h1; rw [hi] at h2
       obtain ⟨p1,p2⟩:=hp _ rfl
       simp only [Qah] at h1 h2
       obtain ⟨p,d1,d2,d3,⟨hno,c',_,e1⟩ | ⟨l0,_⟩⟩:=h1
       case inr=>subst l0; omega
       refine Qbp (x:=.ptr k (i + n.toNat) 0) (r:=.pointer (some ⟨p.r,p.o + i*m + n.toNat*m,none⟩)) hr rfl ?_ ?_
       · simp [execOp,Instr.indexAt,h2,e1,asIntOf,run_underlying hu,Qa4 hm,p1,p2,Addr.add_spot]
       · simp only [Qah]
         exact ⟨p,d1,by omega,by rw [d2,Nat.add_mul]; simp [Nat.add_assoc]⟩
   · rename_i len el k m l kd n hu hx hi
     split at he <;> try (cases he; done)
     rename_i m' hm
     cases hb:(Nat.beq m m'&&Nat.beq l len) with
     | false=>rw [hb] at he; cases he
     | true =>
       rw [hb,cond_true] at he
       cases he
       rw [Bool.and_eq_true] at hb
       have:=Nat.eq_of_beq_eq_true hb.1
       subst this
       have:=Nat.eq_of_beq_eq_true hb.2
       subst this
       have h1:=hρ x; have h2:=hρ ix
       rw [hx] at h1; rw [hi] at h2
       obtain ⟨p1,p2⟩:=hp _ rfl
       simp only [Qah] at h1 h2
       obtain ⟨p,d1,d2,d3,hno,e1⟩:=h1
       refine Qbp (x:=.ptr k n.toNat 0) (r:=.pointer (some ⟨p.r,p.o + n.toNat*m,none⟩)) hr rfl ?_ ?_
       · simp [execOp,Instr.indexAt,h2,e1,asIntOf,run_underlying hu,Qa4 hm,p1,p2,Addr.add_spot,Instr.sureAddr]
       · simp only [Qah]
         exact ⟨p,d1,by omega,by rw [d2]; simp⟩
   · rename_i len el kd n hu hi hna
     split at he <;> try (cases he; done)
     rename_i m hcx hm
     cases hb:(decide (0≤n)&&decide (n<(len:Int))) with
     | false=>rw [hb] at he; cases he
     | true =>
       rw [hb,cond_true] at he
       simp only [Bool.and_eq_true,decide_eq_true_eq] at hb
       split at he <;> try (cases he; done)
       rename_i r ha
       cases he
       have h2:=hρ ix
       rw [hi] at h2
       simp only [Qah] at h2
       obtain ⟨b,o,e1,e2⟩:=Q31 ha (hρ x)
       refine Qbp hr rfl ?_ e2
       simp [execOp,Instr.indexAt,h2,e1,asIntOf,run_underlying hu,Qa4 hm,hb.1,hb.2,Addr.add_spot,Instr.sureAddr]
   · cases he
 case index t x ix =>
   split at he
   · rename_i len el cs kd n hu hx hi
     split at he <;> try (cases he; done)
     · rename_i m hcx hm
       cases hb:(decide (0≤n)&&decide (n<(len:Int))) with
       | false=>rw [hb] at he; cases he
       | true =>
         rw [hb,cond_true] at he
         simp only [Bool.and_eq_true,decide_eq_true_eq] at hb
         split at he <;> try (cases he; done)
         rename_i r hpt
         cases he
         have h1:=hρ x; have h2:=hρ ix
         rw [hx] at h1; rw [hi] at h2
         simp only [Qah] at h1 h2
         obtain ⟨xs,e1,e2⟩:=h1
         obtain ⟨y,y1,y2⟩:=Qt8 (P:=P) (w:=w) hpt e2
         exact Qbp hr rfl (by simp [execOp,Instr.index,h2,e1,asIntOf,run_underlying hu,Qa4 hm,hb.1,hb.2,y1]) y2
     · rename_i m hcx hm
       split at he <;> try (cases he; done)
       rename_i g hg
       cases hl:Nat.beq cs.length (len*m) with
       | false=>rw [hl] at he; cases he
       | true =>
         rw [hl,cond_true] at he
         have hlen:cs.length=len*m:=Nat.eq_of_beq_eq_true hl
         split at he <;> try (cases he; done)
         rename_i r hmk
         cases he
         have h1:=hρ x; have h2:=hρ ix
         rw [hx] at h1; rw [hi] at h2
         simp only [Qah] at h1 h2
         obtain ⟨p1,p2⟩:=hp _ rfl
         obtain ⟨xs,e1,e2⟩:=h1
         have hlt:n.toNat<len:=by omega
         rw [Qqk hlt] at hmk
         have hpt:Qxl P el cs (n.toNat*m)=some r:=by
           unfold Qxl
           rw [hg,hm]
           simp only
           have hle:(n.toNat + 1)*m≤len*m:=Nat.mul_le_mul_right _ hlt
           rw [Nat.add_mul,Nat.one_mul] at hle
           have hl2:((cs.drop (n.toNat*m)).take m).length=m:=by simp; omega
           rw [hl2,show Nat.beq m m=true from Nat.beq_refl m,cond_true,hmk]
         obtain ⟨y,y1,y2⟩:=Qt8 (P:=P) (w:=w) hpt e2
         exact Qbp hr rfl (by simp [execOp,Instr.index,h2,e1,asIntOf,run_underlying hu,Qa4 hm,p1,p2,y1]) y2
   · rename_i s kd n hu hx hi
     cases he
     have h1:=hρ x; have h2:=hρ ix
     rw [hx] at h1; rw [hi] at h2
     simp only [Qah] at h1 h2
     obtain ⟨p1,p2⟩:=hp _ rfl
     have hlt:n.toNat<s.size:=by omega
     refine Qbp hr rfl ?_ (absV_v.2 rfl)
     have hget:s[n.toNat]?=some s[n.toNat]:=by simp [hlt]
     have hv:(s.data.toList.getD n.toNat 0).toNat=s[n.toNat].toNat:=by
       have:n.toNat<s.data.size:=hlt
       simp only [List.getD,Array.getElem?_toList,Array.getElem?_eq_getElem this,Option.getD_some]
       rfl
     have hif:(if (0:Int)≤n then s[n.toNat]? else none)=some s[n.toNat]:=by rw [if_pos p1,hget]
     simp only [execOp,Instr.index,h1,h2,asIntOf,Sem.run_bind,Sem.run_pure,Result.andThen_ok,run_underlying hu]
     rw [hif]
     simp only [Sem.run_pure,Result.andThen_ok,hv]
   · cases he
 case extract x i =>
   split at he <;> try (cases he; done)
   rename_i vs hx
   split at he <;> try (cases he; done)
   rename_i r hr'
   cases he
   have h1:=hρ x
   rw [hx] at h1
   simp only [Qah] at h1
   obtain ⟨xs,e1,e2⟩:=h1
   obtain ⟨y,y1,y2⟩:=Qb5 e2 hr'
   exact Qbp hr rfl (by simp [execOp,Instr.extract,e1,y1]) y2
 case call c =>
   obtain ⟨callee,cargs,cts⟩:=c
   simp only at he
   cases callee <;> (try simp only at he) <;> try (cases he; done)
   case builtin b =>
     have ha:Qaw δ (cargs.toList.map ρS) (cargs.map ρ).toList:=by
       rw [Array.toList_map]
       exact Qh4 hρ _
     obtain ⟨m,m1,m2⟩:=Qxv (P:=P) (w:=w) (ty:=ty) (consts:=cargs.map fun | .const _=>true | _=>false) (args:=cargs.map ρ) he ha hr hp hf
     exact Qv3 m2 (by simp only [execOp,resolve,invoke,pure_bind]; exact m1)
   case value f =>
     split at he <;> try (cases he; done)
     rename_i fn caps hfn
     split at he <;> try (cases he; done)
     rename_i g hg
     have h1:=hρ f
     rw [hfn] at h1
     simp only [Qah] at h1
     obtain ⟨xs,e1,e2⟩:=h1
     cases hb:(g.stops&&!Qqd f) with
     | true=>rw [hb] at he; cases he
     | false =>
     rw [hb,cond_false] at he
     have hb2:(g.stops&&g.stop (cargs.toList.map ρS++caps) h)=false:=by
       cases hs:g.stops with
       | false=>rfl
       | true =>
         rw [hs] at hb
         cases f with
         | func f =>
           rw [hρf f] at hfn
           cases hfn
           simp only [Qet,hg,hs,cond_true] at hst
           rw [List.append_nil,hst]; rfl
         | _=>cases hb
     have hE:g.effE (cargs.toList.map ρS++caps) h base e=e:=by unfold Ctr.effE; rw [hb2]
     have:=hΓ fn g hg _ h base e he δ w ((cargs.toList.map ρ)++xs) (Qgt (Qh4 hρ _) e2) hr (by rw [hE]; exact hp) (by rw [hE]; exact hf)
     rw [hb2,hE] at this
     have hrun:(execOp ρ ⟨dst,.call ⟨.value f,cargs,cts⟩,ty,pos,after,guard⟩).run P w=(callFunc fn ((cargs.toList.map ρ)++xs).toArray).run P w:=by
       have ea:cargs.map ρ++xs.toArray=((cargs.toList.map ρ)++xs).toArray:=by apply Array.ext'; simp
       simp [execOp,resolve,e1,Deferred.ofValue,invoke,ea]
     rw [hrun]
     exact this
   case invoke rv name =>
     split at he <;> try (cases he; done)
     rename_i t y hx
     split at he <;> try (cases he; done)
     rename_i f hm
     split at he <;> try (cases he; done)
     rename_i g hg
     cases hs:g.stops with
     | true=>rw [hs] at he; cases he
     | false =>
       rw [hs,cond_false] at he
       obtain ⟨v,e1,e2⟩:=Q7f hx (hρ rv)
       have hb2:(g.stops&&g.stop (y :: cargs.toList.map ρS) h)=false:=by rw [hs]; rfl
       have hE:g.effE (y :: cargs.toList.map ρS) h base e=e:=by unfold Ctr.effE; rw [hb2]
       have:=hΓ f g hg _ h base e he δ w (v :: cargs.toList.map ρ) (by simp only [Qaw]; exact ⟨e2,Qh4 hρ _⟩) hr (by rw [hE]; exact hp) (by rw [hE]; exact hf)
       rw [hb2,hE] at this
       have hrun:(execOp ρ ⟨dst,.call ⟨.invoke rv name,cargs,cts⟩,ty,pos,after,guard⟩).run P w=(callFunc f (v :: cargs.toList.map ρ).toArray).run P w:=by
         have ea:(#[v]++(cargs.map ρ))=(v :: cargs.toList.map ρ).toArray:=by apply Array.ext'; simp
         have ex:(#[Value.iface t v]++cargs.map ρ).extract 1 (#[Value.iface t v]++cargs.map ρ).size=cargs.map ρ:=by
           apply Array.ext'
           simp
           exact List.take_of_length_le (by simp)
         have e0:(#[Value.iface t v]++cargs.map ρ)[0]?=some (Value.iface t v):=by rw [Array.getElem?_append_left (by simp)]; rfl
         have hrs:(resolve ρ ⟨.invoke rv name,cargs,cts⟩ ty).run P w=.ok {target:=.fn (.method name) #[],args:=#[Value.iface t v]++cargs.map ρ} w:=by
           simp [resolve,e1]
         have hcm:(callMethod (.iface t v) name (cargs.map ρ)).run P w=(callFunc f (v :: cargs.toList.map ρ).toArray).run P w:=by
           rw [← ea]
           simp [callMethod,Q2a hm v]
         simp only [execOp]
         rw [Sem.run_bind,hrs,Result.andThen_ok]
         simp only [invoke,e0,ex]
         exact hcm
       rw [hrun]
       exact this
theorem Q61 {Γ:Qbz} (hΓ:∀ f g,Γ f=some g→g.ok P f) {o:Oper} {ρS:Operand→SV} {ρ:Operand→Value} (hρ:∀ x,Qah δ (ρS x) (ρ x)) (hρf:∀ f,ρS (.func f)=.fn f []) {base:Nat} {e:Eff} (hr:HRep δ h w)
   (he:opS P Γ o ρS h base=some e) (hp:(Qb6 Γ o ρS h base e).asks) (hf:∀ x u,Qce (Qb6 Γ o ρS h base e) x u→∀ k,Qac k u=true→h k=none→δ k=none) (hst:Qet Γ o ρS h=true):Qq3 P δ h w (Qb6 Γ o ρS h base e) ((execOp ρ o).run P w):=by
 obtain ⟨dst,op,ty,pos,after,guard⟩:=o
 unfold opS at he
 cases op <;> simp only [Qet] at hst <;> try (cases hst; done)
 case panic x =>
   simp only at he
   split at he <;> try (cases he; done)
   rename_i t v hv
   cases he
   have hx:=hρ x
   rw [hv] at hx
   simp only [Qah] at hx
   have hrun:(execOp ρ ⟨dst,.panic x,ty,pos,after,guard⟩).run P w=.halt (.panic (.iface t v)) w:=by
     simp [execOp,Instr.panic,hx,goPanic]
   rw [hrun]
   exact ⟨_,[],δ,⟨rfl,rfl⟩,absV_v.2 rfl,Upd.same hr⟩
 case call c =>
   obtain ⟨callee,cargs,cts⟩:=c
   cases callee with
   | value f =>
     cases f with
     | func f =>
       simp only [hρf] at he
       simp only at hst
       cases hg:Γ f with
       | none=>rw [hg] at hst; cases hst
       | some g =>
         rw [hg] at he hst
         simp only at he hst
         cases hs:g.stops with
         | false=>rw [hs] at hst; cases hst
         | true =>
           rw [hs,cond_true] at hst
           have hE:∀ e',Qb6 Γ ⟨dst,.call ⟨.value (.func f),cargs,cts⟩,ty,pos,after,guard⟩ ρS h base e'=g.effE (cargs.toList.map ρS++[]) h base e':=fun e'=>by
             unfold Qb6 Ctr.effE
             simp only [hg,hs,List.append_nil,hst,Bool.and_true]
           rw [hE] at hp hf ⊢
           simp only [hs,Qqd,Bool.not_true,Bool.and_false,cond_false] at he
           have h1:=hρ (.func f)
           rw [hρf] at h1
           simp only [Qah] at h1
           obtain ⟨xs,e1,e2⟩:=h1
           have:=hΓ f g hg _ h base e he δ w ((cargs.toList.map ρ)++xs) (Qgt (Qh4 hρ _) e2) hr hp hf
           rw [hs] at this
           rw [show (true&&g.stop (cargs.toList.map ρS++[]) h)=true by rw [List.append_nil,hst]; rfl] at this
           have hrun:(execOp ρ ⟨dst,.call ⟨.value (.func f),cargs,cts⟩,ty,pos,after,guard⟩).run P w=(callFunc f ((cargs.toList.map ρ)++xs).toArray).run P w:=by
             have ea:cargs.map ρ++xs.toArray=((cargs.toList.map ρ)++xs).toArray:=by apply Array.ext'; simp
             simp [execOp,resolve,e1,Deferred.ofValue,invoke,ea]
           rw [hrun]
           exact this
     | _=>cases hst
   | _=>cases hst
end
end Go.SE
end
section
namespace Go.SE
theorem Eff.bind_asks:∀ {e:Eff} {F:SV→List (Nat×Blk)→Prop},e.bind F→e.asks
 | .det p x u,F,h=>by
   cases p with
   | none=>intro q hq; cases hq
   | some p=>intro q hq; cases hq; exact h.1
 | .nd p C c0 x u,F,h=>h.1
 | .alt true e1 e2,F,h=>Eff.bind_asks (e:=e1) h
 | .alt false e1 e2,F,h=>Eff.bind_asks (e:=e2) h
theorem Eff.bind_out:∀ {e:Eff} {F:SV→List (Nat×Blk)→Prop},e.bind F→∀ {x:SV} {u:List (Nat×Blk)},Qce e x u→F x u
 | .det p y v,F,h,x,u,ho=>by
   obtain ⟨rfl,rfl⟩:=ho
   cases p with
   | none=>exact h
   | some p=>exact h.2
 | .nd p C c0 y v,F,h,x,u,ho=>by
   obtain ⟨c,rfl,rfl⟩:=ho
   exact h.2 c
 | .alt true e1 e2,F,h,x,u,ho=>Eff.bind_out (e:=e1) h ho
 | .alt false e1 e2,F,h,x,u,ho=>Eff.bind_out (e:=e2) h ho
theorem Eff.bind_of:∀ {e:Eff} {F:SV→List (Nat×Blk)→Prop},e.asks→(∀ x u,Qce e x u→F x u)→e.bind F
 | .det p y v,F,ha,h=>by
   cases p with
   | none=>exact h _ _ ⟨rfl,rfl⟩
   | some p=>exact ⟨ha _ rfl,h _ _ ⟨rfl,rfl⟩⟩
 | .nd p C c0 y v,F,ha,h=>⟨ha,fun c=>h _ _ ⟨c,rfl,rfl⟩⟩
 | .alt true e1 e2,F,ha,h=>Eff.bind_of (e:=e1) ha h
 | .alt false e1 e2,F,ha,h=>Eff.bind_of (e:=e2) ha h
theorem Eff.some_out:∀ e:Eff,∃ x u,Qce e x u
 | .det p y v=>⟨_,_,rfl,rfl⟩
 | .nd p C c0 y v=>⟨_,_,c0,rfl,rfl⟩
 | .alt true e1 e2=>Eff.some_out e1
 | .alt false e1 e2=>Eff.some_out e2
theorem Eff.bind_mono {e:Eff} {F G:SV→List (Nat×Blk)→Prop} (hfg:∀ x u,F x u→G x u) (h:e.bind F):e.bind G :=
 Eff.bind_of (Eff.bind_asks h) fun x u ho=>hfg x u (Eff.bind_out h ho)
def apS (s:St) (o:Oper) (x:SV) (u:List (Nat×Blk)):St:={(s.put o.dst x) with heap:=Qb3 s.heap u}
theorem Qu1 (s:St) (o:Oper) (x:SV):apS s o x []=s.put o.dst x:=by
 unfold apS St.put
 cases o.dst <;> rfl
def Qgs (P:Program) (Γ:Qbz) (ops:List Oper) (bs:Vw) (i:Nat) (o:Oper) (s:St):Option Eff :=
 match o.guard with
 | none=>opS P Γ o s.eval (Qav bs s.nx i s.heap) (s.nx + 8*i)
 | some (g,want)=>match (ops[g]?).bind (·.dst) with
   | none=>none
   | some t=>match s.tmps.getD t .unk with
     | .v (.bool b)=>if b=want then opS P Γ o s.eval (Qav bs s.nx i s.heap) (s.nx + 8*i) else some (.det none Qde [])
     | .v (.tuple _)=>some (.det none Qde [])
     | _=>none
def Qg6 (P:Program) (Γ:Qbz) (ops:List Oper) (bs:Vw) (i:Nat) (o:Oper) (s:St) (K:St→Prop):Prop :=
 match Qgs P Γ ops bs i o s with
 | none=>False
 | some e=>e.bind fun x u=>Qcn (Qa0 Γ o) (Qav bs s.nx i s.heap) s.heap (s.nx + 8*i) u=true∧K (apS s o x u)
def Qgd (Γ:Qbz) (ops:List Oper) (bs:Vw) (i:Nat) (o:Oper) (s:St):Bool :=
 match o.guard with
 | none=>Qet Γ o s.eval (Qav bs s.nx i s.heap)
 | some (g,want)=>match (ops[g]?).bind (·.dst) with
   | none=>false
   | some t=>match s.tmps.getD t .unk with
     | .v (.bool b)=>if b=want then Qet Γ o s.eval (Qav bs s.nx i s.heap) else false
     | _=>false
def Qge (P:Program) (Γ:Qbz) (ops:List Oper) (bs:Vw) (dr:Bool) (KP:SV→Qbo→Prop) (i:Nat) (o:Oper) (s:St) (K:St→Prop):Prop :=
 match Qgs P Γ ops bs i o s with
 | none=>False
 | some e=>match Qgd Γ ops bs i o s with
   | true=>(Qb6 Γ o s.eval (Qav bs s.nx i s.heap) (s.nx + 8*i) e).bind fun x u=>Qcn (Qa0 Γ o) (Qav bs s.nx i s.heap) s.heap (s.nx + 8*i) u=true∧(dr=true→Qev P Γ bs i s ops 0=true)∧KP x (Qb3 s.heap u)
   | false=>e.bind fun x u=>Qcn (Qa0 Γ o) (Qav bs s.nx i s.heap) s.heap (s.nx + 8*i) u=true∧K (apS s o x u)
theorem Qpk {P:Program} {Γ:Qbz} {ops:List Oper} {bs:Vw} {dr:Bool} {KP:SV→Qbo→Prop} {i:Nat} {o:Oper} {s:St} {K:St→Prop} (hs:Qgd Γ ops bs i o s=false):Qge P Γ ops bs dr KP i o s K↔Qg6 P Γ ops bs i o s K:=by
 unfold Qge Qg6
 rw [hs]
theorem Ql7 {P:Program} {Γ:Qbz} {ops:List Oper} {bs:Vw} {dr:Bool} {KP:SV→Qbo→Prop} {i:Nat} {o:Oper} {s:St} {K:St→Prop} (h:Ql8 P Γ ops bs dr KP i o s K) :
   ∃ e,opS P Γ o s.eval (Qav bs s.nx i s.heap) (s.nx + 8*i)=some e∧match Qet Γ o s.eval (Qav bs s.nx i s.heap) with
     | true=>(Qb6 Γ o s.eval (Qav bs s.nx i s.heap) (s.nx + 8*i) e).bind fun x u=>Qcn (Qa0 Γ o) (Qav bs s.nx i s.heap) s.heap (s.nx + 8*i) u=true∧(dr=true→Qev P Γ bs i s ops 0=true)∧KP x (Qb3 s.heap u)
     | false=>e.bind fun x u=>Qcn (Qa0 Γ o) (Qav bs s.nx i s.heap) s.heap (s.nx + 8*i) u=true∧K (apS s o x u):=by
 unfold Ql8 at h
 cases he:opS P Γ o s.eval (Qav bs s.nx i s.heap) (s.nx + 8*i) with
 | none=>rw [he] at h; exact h.elim
 | some e =>
   rw [he] at h
   refine ⟨e,rfl,?_⟩
   cases hst:Qet Γ o s.eval (Qav bs s.nx i s.heap) with
   | false =>
     rw [hst] at h
     refine Eff.bind_mono (fun x u hx=>?_) h
     cases hu:Qcn (Qa0 Γ o) (Qav bs s.nx i s.heap) s.heap (s.nx + 8*i) u with
     | false=>rw [hu] at hx; exact hx.elim
     | true=>rw [hu] at hx; exact ⟨rfl,hx⟩
   | true =>
     rw [hst] at h
     refine Eff.bind_mono (fun x u hx=>?_) h
     cases hu:Qcn (Qa0 Γ o) (Qav bs s.nx i s.heap) s.heap (s.nx + 8*i) u with
     | false=>rw [hu] at hx; exact hx.elim
     | true =>
       rw [hu,cond_true] at hx
       refine ⟨rfl,?_⟩
       cases hl:(!dr||Qev P Γ bs i s ops 0) with
       | false=>rw [hl] at hx; exact hx.elim
       | true =>
         rw [hl,cond_true] at hx
         refine ⟨fun hd=>?_,hx⟩
         rw [hd] at hl
         simpa using hl
theorem Qvm {l:List SV} {t:Nat} {x:SV} (h:l.getD t .unk=x) (hx:x≠.unk):l.set t x=l:=by
 apply List.ext_getElem?
 intro i
 rw [List.getElem?_set]
 by_cases hi:t=i
 · subst hi
   rw [if_pos rfl]
   rcases Nat.lt_or_ge t l.length with hl | hl
   · rw [if_pos hl]
     rw [List.getD,List.getElem?_eq_getElem hl] at h
     simp at h
     rw [List.getElem?_eq_getElem hl,h]
   · rw [List.getD,List.getElem?_eq_none hl] at h
     simp at h
     exact absurd h.symm hx
 · rw [if_neg hi]
theorem Q0d {P:Program} {Γ:Qbz} {ops:List Oper} {bs:Vw} {dr:Bool} {KP:SV→Qbo→Prop} {i:Nat} {o:Oper} {s:St} {K:St→Prop} (h:Zcj P Γ ops bs dr KP i o s K):Qge P Γ ops bs dr KP i o s K:=by
 unfold Zcj at h
 unfold Qge Qgs Qgd
 cases hg:o.guard with
 | none =>
   rw [hg] at h
   obtain ⟨e,h1,h2⟩:=Ql7 h
   simp only [h1]
   exact h2
 | some gw =>
   obtain ⟨g,want⟩:=gw
   rw [hg] at h
   simp only at h ⊢
   cases hd:(ops[g]?).bind (·.dst) with
   | none=>rw [hd] at h; exact h.elim
   | some t =>
     rw [hd] at h
     simp only at h ⊢
     -- what is not wanted
     have skip:K (s.put o.dst Qde)→Eff.bind (.det none Qde []) fun x u=>Qcn (Qa0 Γ o) (Qav bs s.nx i s.heap) s.heap (s.nx + 8*i) u=true∧K (apS s o x u):=fun hk=>⟨rfl,by rw [Qu1]; exact hk⟩
     split at h
     · rename_i b hb
       rw [hb]
       simp only
       have hsame:∀ b',b=b'→({s with tmps:=s.tmps.set t (.v (.bool b'))}:St)=s:=fun b' e=>by
         subst e
         rw [Qvm hb (by simp)]
       cases b with
       | true =>
         simp only [sel,hsame true rfl] at h
         cases want with
         | true =>
           simp only at h ⊢
           obtain ⟨e,h1,h2⟩:=Ql7 h
           rw [if_pos trivial,if_pos trivial,h1]
           exact h2
         | false =>
           simp only at h ⊢
           rw [if_neg (by simp),if_neg (by simp)]
           exact skip h
       | false =>
         simp only [sel,hsame false rfl] at h
         cases want with
         | true =>
           simp only at h ⊢
           rw [if_neg (by simp),if_neg (by simp)]
           exact skip h
         | false =>
           simp only at h ⊢
           obtain ⟨e,h1,h2⟩:=Ql7 h
           rw [if_pos trivial,if_pos trivial,h1]
           exact h2
     · rename_i b hb
       rw [hb]
       exact skip h
     · exact h.elim
theorem Qxc {P:Program} {Γ:Qbz} {ops:List Oper} {bs:Vw} {dr:Bool} {KP:SV→Qbo→Prop} {i:Nat} {o:Oper} {s:St} {K K':St→Prop} (hk:∀ s,K s→K' s) (h:Qge P Γ ops bs dr KP i o s K):Qge P Γ ops bs dr KP i o s K':=by
 unfold Qge at *
 cases he:Qgs P Γ ops bs i o s with
 | none=>rw [he] at h; exact h
 | some e =>
   rw [he] at h
   simp only at h ⊢
   cases hs:Qgd Γ ops bs i o s with
   | true=>rw [hs] at h; exact h
   | false=>rw [hs] at h; exact Eff.bind_mono (fun x u hx=>⟨hx.1,hk _ hx.2⟩) h
theorem Ql9 {P:Program} {Γ:Qbz} {ops:List Oper} {bs:Vw} {i:Nat} {o:Oper} {s:St} {K:St→Prop} (h:Qg6 P Γ ops bs i o s K):Qg6 P Γ ops bs i o s fun s'=>K s'∧∃ x u,Qcn (Qa0 Γ o) (Qav bs s.nx i s.heap) s.heap (s.nx + 8*i) u=true∧s'=apS s o x u:=by
 unfold Qg6 at *
 cases he:Qgs P Γ ops bs i o s with
 | none=>rw [he] at h; exact h
 | some e=>rw [he] at h; exact Eff.bind_mono (fun x u hx=>⟨hx.1,hx.2,x,u,hx.1,rfl⟩) h
theorem Qn0 {P:Program} {Γ:Qbz} {ops:List Oper} {bs:Vw} {i:Nat} {o:Oper} {s:St} {K K':St→Prop} (hk:∀ s,K s→K' s) (h:Qg6 P Γ ops bs i o s K):Qg6 P Γ ops bs i o s K':=by
 unfold Qg6 at *
 cases he:Qgs P Γ ops bs i o s with
 | none=>rw [he] at h; exact h
 | some e=>rw [he] at h; exact Eff.bind_mono (fun x u hx=>⟨hx.1,hk _ hx.2⟩) h
theorem Qh1 {s:St} {d:Option Tmp} {v:SV} {x:Operand} (h:∀ t,d=some t→x≠.tmp t):(s.put d v).eval x=s.eval x:=by
 cases d with
 | none=>rfl
 | some t =>
   cases x with
   | tmp t' =>
     have hne:t≠t':=fun e=>h t rfl (e ▸ rfl)
     simp [St.eval,St.put,List.getD,hne]
   | _=>rfl
theorem Qi6 {P:Program} {Γ:Qbz} {o:Oper} {ρ ρ':Operand→SV} {h:Qbo} {base:Nat} (hh:∀ x∈o.op.operands,ρ x=ρ' x):opS P Γ o ρ h base=opS P Γ o ρ' h base:=by
 obtain ⟨dst,op,ty,pos,after,guard⟩:=o
 have pairs:∀ ps:Array (Nat×Operand),(∀ x∈(ps.toList.map (·.2)).toArray,ρ x=ρ' x)→(ps.toList.map fun p=>(p.1,ρ p.2))=(ps.toList.map fun p=>(p.1,ρ' p.2)):=fun ps hp =>
   List.map_congr_left fun p hm=>by
     have:=hp p.2 (by simp only [List.mem_toArray]; exact List.mem_map.2 ⟨p,hm,rfl⟩)
     rw [this]
 cases op <;> simp only [Op.operands] at hh <;> simp only [opS,Q6o]
 case build t ps=>rw [pairs ps hh]
 case buildSlice t n ps=>rw [pairs ps hh]
 case makeFunc fn first captured =>
   have ha:captured.toList.map ρ=captured.toList.map ρ':=List.map_congr_left fun x hx=>hh x (by simp only [Array.mem_append]; exact .inr (by simpa using hx))
   rw [ha]
 case call c =>
   obtain ⟨callee,cargs,cts⟩:=c
   have ha:cargs.toList.map ρ=cargs.toList.map ρ':=List.map_congr_left fun x hx=>hh x (by simp only [Call.operands,Array.mem_append]; exact .inr (by simpa using hx))
   cases callee with
   | value f =>
     have hf:ρ f=ρ' f:=hh f (by simp [Call.operands])
     simp only [hf,ha]
   | invoke r m =>
     have hf:ρ r=ρ' r:=hh r (by simp [Call.operands])
     simp only [hf,ha]
   | builtin b=>simp only [ha]
 case makeMap t r =>
   cases r with
   | none=>rfl
   | some x=>simp only [hh x (by simp)]
 case slice t x lo hi mx =>
   cases mx with
   | some m=>rfl
   | none =>
     have hx:ρ x=ρ' x:=hh x (by simp)
     have hl:Qnv ρ lo=Qnv ρ' lo:=by
       cases lo with
       | none=>rfl
       | some l=>simp only [Qnv]; rw [hh l (by simp)]
     have hr:Qnv ρ hi=Qnv ρ' hi:=by
       cases hi with
       | none=>rfl
       | some l=>simp only [Qnv]; rw [hh l (by simp)]
     simp only [hx,hl,hr]
 all_goals (first | rfl | (simp_all; done))
theorem Qqx {P:Program} {b:Builtin} {ts:List TypeId} {vs:List SV} {h h':Qbo} {base:Nat} (hb:(b=.len∧∀ t rest,ts=t :: rest→Qoi P t=false)∨b=.max∨b=.min∨b=.unsafeSliceData):Qh2 P b ts vs h base=Qh2 P b ts vs h' base:=by
 rcases hb with ⟨rfl,hm⟩ | rfl | rfl | rfl
 · cases ts with
   | nil=>cases vs <;> rfl
   | cons t rest =>
     have:=hm t rest rfl
     cases vs with
     | nil=>rfl
     | cons v vs=>simp only [Qh2,this]
 · cases vs with
   | nil=>rfl
   | cons x vs=>cases x <;> first | rfl | (rename_i v; cases v <;> rfl)
 · cases vs with
   | nil=>rfl
   | cons x vs=>cases x <;> first | rfl | (rename_i v; cases v <;> rfl)
 · rcases vs with _ | ⟨x,_ | ⟨y,vs⟩⟩
   · rfl
   · cases x <;> first | rfl | (rename_i k s i n c; cases s with | zero=>rfl | succ s=>cases s <;> rfl)
   · cases x <;> first | rfl | (rename_i k s i n c; cases s with | zero=>rfl | succ s=>cases s <;> rfl)
theorem Q62 {P:Program} {Γ:Qbz} {o:Oper} {ρ:Operand→SV} {h h':Qbo} {base:Nat} (ht:Qdc P o=false):opS P Γ o ρ h base=opS P Γ o ρ h' base:=by
 obtain ⟨dst,op,ty,pos,after,guard⟩:=o
 cases op <;> simp only [Qdc] at ht <;> simp only [opS,Q6o] <;> try (cases ht; done)
 case binOp op t x y t' =>
   have hn:Qfv P t=none:=by cases hp:Qfv P t with
     | none=>rfl
     | some m=>rw [hp] at ht; cases ht
   simp only [Qsp,hn]
 case convert src dst' x =>
   unfold Q7x
   cases hs:P.underlying src <;> cases hd:P.underlying dst' <;> (try rfl)
   rename_i a b
   rw [hd] at ht
   generalize ρ x=y
   cases b <;> first | (simp at ht; done) | rfl | (cases y <;> first | (cases a <;> rfl) | (rename_i v; cases v <;> cases a <;> rfl))
 case call c =>
   obtain ⟨callee,cargs,cts⟩:=c
   cases callee with
   | value f=>simp at ht
   | invoke r m=>simp at ht
   | builtin b=>exact Qqx (by
       cases b <;> simp at ht <;> simp
       intro t rest hts
       rw [hts] at ht
       exact ht)
 case slice t x lo hi mx=>cases mx <;> rfl
theorem Qh5 {P:Program} {Γ:Qbz} {o:Oper} (h:Qa0 Γ o=true):Qdc P o=true:=by
 obtain ⟨dst,op,ty,pos,after,guard⟩:=o
 cases op <;> simp only [Qa0] at h <;> simp only [Qdc] <;> try (cases h; done)
 case call c =>
   obtain ⟨callee,cargs,cts⟩:=c
   cases callee with
   | value f=>rfl
   | invoke r m=>rfl
   | builtin b=>cases b <;> simp_all
def hid (bs:Vw) (nx j k:Nat):Bool:=(Nat.ble nx k&&(Nat.blt k 4096&&!bs.bit j ((k - nx) / 8)))||bs.hides nx j k
theorem Qem (bs:Vw) (nx j:Nat) (h:Qbo) (k:Nat):Qav bs nx j h k=if hid bs nx j k=true then none else h k:=by
 unfold Qav hid
 cases ((Nat.ble nx k&&(Nat.blt k 4096&&!bs.bit j ((k - nx) / 8)))||bs.hides nx j k) <;> rfl
theorem Qgk {bs:Vw} {nx i j k:Nat} (hp:bs.has i=true) (hi:hid bs nx i k=false) (hne:i≠j) (h1:bs.bit j i=false) (h2:bs.bit i j=false):hid bs nx j k=true:=by
 unfold Vw.has at hp
 obtain ⟨p,hm,hpi⟩:=List.any_eq_true.1 hp
 have hpi:=Nat.eq_of_beq_eq_true hpi
 unfold hid at hi ⊢
 rw [Bool.or_eq_false_iff] at hi
 have hk:=hi.2
 unfold Vw.hides at hk
 have hk:=List.any_eq_false.1 hk p hm
 rw [hpi,Nat.beq_refl,cond_true] at hk
 have hk:inL k (p.2 nx)=true:=by simpa using hk
 rw [Bool.or_eq_true]
 right
 unfold Vw.hides
 refine List.any_eq_true.2 ⟨p,hm,?_⟩
 rw [hpi,Qbc hne,cond_false,h1,h2,hk]
 rfl
def Zkt (base k:Nat):Prop:=base≤k∧k<base + 8∧k<4096
theorem Qj8 {bs:Vw} {nx i j k:Nat} (hk:Zkt (nx + 8*i) k) (hb:bs.bit j i=false):hid bs nx j k=true:=by
 unfold hid
 have h1:nx≤k:=by have:=hk.1; omega
 have h2:(k - nx) / 8=i:=by have:=hk.1; have:=hk.2; omega
 have h3:Nat.blt k 4096=true:=Nat.ble_eq_true_of_le (by have:=hk.2.2; omega)
 rw [h2,hb,h3,Nat.ble_eq_true_of_le h1]
 simp
theorem Qdo {w:Bool} {h h0:Qbo} {base:Nat}:∀ {u:List (Nat×Blk)},Qcn w h h0 base u=true→∀ k,Qac k u=true→(∃ b0,h k=some b0∧w=true∧b0.rw=true∧b0.dead=false∧b0.lock=false)∨(h k=none∧Zkt base k∧h0 k=none)
 | [],_,k,hk=>by simp [Qac] at hk
 | (k',b) :: rest,hu,k,hk=>by
   simp only [Qcn,Bool.and_eq_true] at hu
   simp only [Qac,Bool.or_eq_true] at hk
   rcases hk with hk | hk
   · have e:k=k':=Nat.eq_of_beq_eq_true hk
     subst e
     cases hh:h k with
     | some b0 =>
       rw [hh] at hu
       simp only [Bool.and_eq_true,Bool.not_eq_true'] at hu
       exact .inl ⟨b0,rfl,hu.1.1.1.1,hu.1.1.1.2,hu.1.1.2,hu.1.2⟩
     | none =>
       rw [hh] at hu
       simp only [Bool.and_eq_true] at hu
       have g1:k<base + 8:=Nat.le_of_ble_eq_true hu.1.1.1.2
       have g2:k<4096:=Nat.le_of_ble_eq_true hu.1.1.2
       exact .inr ⟨rfl,⟨Nat.le_of_ble_eq_true hu.1.1.1.1,g1,g2⟩,by simpa using hu.1.2⟩
   · exact Qdo hu.2 k hk
theorem Ql4 {w:Bool} {h h' h0 h0':Qbo} {base:Nat}:∀ {u:List (Nat×Blk)},(∀ k,Qac k u=true→Zkt base k→h0' k=h0 k) →
   (∀ k,Qac k u=true→(h' k=h k)∨(w=false∧(h' k).isSome=(h k).isSome))→Qcn w h' h0' base u=Qcn w h h0 base u
 | [],_,_=>rfl
 | (k',b) :: rest,hh0,hh=>by
   simp only [Qcn]
   rw [Ql4 (u:=rest) (fun k hk=>hh0 k (by simp [Qac,hk])) (fun k hk=>hh k (by simp [Qac,hk]))]
   congr 1
   have h2:(match h k' with | some b0=>w&&b0.rw&&!b0.dead&&!b0.lock | none=>Nat.ble base k'&&Nat.blt k' (base + 8)&&Nat.blt k' 4096&&(h0' k').isNone) =
       (match h k' with | some b0=>w&&b0.rw&&!b0.dead&&!b0.lock | none=>Nat.ble base k'&&Nat.blt k' (base + 8)&&Nat.blt k' 4096&&(h0 k').isNone):=by
     cases h k' with
     | some b0=>rfl
     | none =>
       simp only
       cases hr:(Nat.ble base k'&&Nat.blt k' (base + 8)&&Nat.blt k' 4096) with
       | false=>simp
       | true =>
         simp only [Bool.and_eq_true] at hr
         rw [hh0 k' (by simp [Qac]) ⟨Nat.le_of_ble_eq_true hr.1.1,Nat.le_of_ble_eq_true hr.1.2,Nat.le_of_ble_eq_true hr.2⟩]
   refine Eq.trans ?_ h2
   rcases hh k' (by simp [Qac]) with h1 | ⟨rfl,h1⟩
   · rw [h1]; cases h k' <;> rfl
   · cases e1:h k' <;> cases e2:h' k' <;> simp_all
theorem Q2z {h:Qbo} {u v:List (Nat×Blk)} (hd:∀ k,Qac k u=true→Qac k v=true→False):Qb3 (Qb3 h u) v=Qb3 (Qb3 h v) u:=by
 funext k
 cases hu:Qac k u with
 | true =>
   have hv:Qac k v=false:=by
     cases hv:Qac k v with
     | false=>rfl
     | true=>exact (hd k hu hv).elim
   rw [Qat v _ hv,Qf8 u h (Qb3 h v) hu]
 | false =>
   rw [Qat u _ hu]
   cases hv:Qac k v with
   | true=>rw [Qf8 v (Qb3 h u) h hv]
   | false=>rw [Qat v _ hv,Qat v _ hv,Qat u _ hu]
structure Free (P:Program) (Γ:Qbz) (ops:Array Oper) (bs:Vw) (i j:Nat) (oi oj:Oper):Prop where
 ne:i≠j
 seesNot:∀ d,oi.dst=some d→d ∉ oj.looksAt ops
 dstNe:∀ d,oi.dst=some d→oj.dst≠some d
 seesNot':∀ d,oj.dst=some d→d ∉ oi.looksAt ops
 wt:Qa0 Γ oi=true∧Qdc P oj=true→bs.has i=true
 tw:Qdc P oi=true∧Qa0 Γ oj=true→bs.has j=true
 nij:bs.bit j i=false
 nji:bs.bit i j=false
theorem Free.symm {P:Program} {Γ:Qbz} {ops:Array Oper} {bs:Vw} {i j:Nat} {oi oj:Oper} (h:Free P Γ ops bs i j oi oj):Free P Γ ops bs j i oj oi :=
 ⟨h.ne.symm,h.seesNot',fun d hd he=>h.dstNe d he hd,h.seesNot,fun ⟨a,b⟩=>h.tw ⟨b,a⟩,fun ⟨a,b⟩=>h.wt ⟨b,a⟩,h.nji,h.nij⟩
section
variable {P:Program} {Γ:Qbz} {ops:Array Oper} {bs:Vw} {i j:Nat} {oi oj:Oper}
theorem Free.where (s:St) {u:List (Nat×Blk)} (hu:Qcn (Qa0 Γ oi) (Qav bs s.nx i s.heap) s.heap (s.nx + 8*i) u=true) (k:Nat) (hk:Qac k u=true) :
   (Qa0 Γ oi=true∧hid bs s.nx i k=false∧s.heap k≠none)∨(Zkt (s.nx + 8*i) k∧s.heap k=none):=by
 rcases Qdo hu k hk with ⟨b0,h1,h2,_,_⟩ | ⟨_,h2,h3⟩
 · rw [Qem] at h1
   split at h1
   · cases h1
   · rename_i hh
     exact .inl ⟨h2,by simpa using hh,by rw [h1]; simp⟩
 · exact .inr ⟨h2,h3⟩
theorem Free.act (hf:Free P Γ ops bs i j oi oj) (s:St) {x:SV} {u:List (Nat×Blk)} (hu:Qcn (Qa0 Γ oi) (Qav bs s.nx i s.heap) s.heap (s.nx + 8*i) u=true) :
   Qgs P Γ ops.toList bs j oj (apS s oi x u)=Qgs P Γ ops.toList bs j oj s:=by
 -- the operation itself
 have hop:opS P Γ oj (apS s oi x u).eval (Qav bs (apS s oi x u).nx j (apS s oi x u).heap) ((apS s oi x u).nx + 8*j)=opS P Γ oj s.eval (Qav bs s.nx j s.heap) (s.nx + 8*j):=by
   have hnx:(apS s oi x u).nx=s.nx:=by unfold apS St.put; cases oi.dst <;> rfl
   rw [hnx]
   have h1:opS P Γ oj (apS s oi x u).eval (Qav bs s.nx j (apS s oi x u).heap) (s.nx + 8*j)=opS P Γ oj s.eval (Qav bs s.nx j (apS s oi x u).heap) (s.nx + 8*j):=by
     refine Qi6 fun y hy=>?_
     show (s.put oi.dst x).eval y=s.eval y
     refine Qh1 fun t ht e=>?_
     refine hf.seesNot t ht ?_
     subst e
     exact List.mem_append_left _ (List.mem_filterMap.2 ⟨.tmp t,by simpa using hy,rfl⟩)
   rw [h1]
   cases ht:Qdc P oj with
   | false=>exact Q62 ht
   | true =>
     have:Qav bs s.nx j (apS s oi x u).heap=Qav bs s.nx j s.heap:=by
       funext k
       rw [Qem,Qem]
       by_cases hh:hid bs s.nx j k=true
       · simp [hh]
       · rw [if_neg hh,if_neg hh]
         show Qb3 s.heap u k=s.heap k
         refine Qat u _ ?_
         cases hi:Qac k u with
         | false=>rfl
         | true =>
           rcases Free.where s hu k hi with ⟨h2,h3,_⟩ | ⟨h2,_⟩
           · exact (hh (Qgk (hf.wt ⟨h2,ht⟩) h3 hf.ne hf.nij hf.nji)).elim
           · exact (hh (Qj8 h2 hf.nij)).elim
     rw [this]
 unfold Qgs
 cases hg:oj.guard with
 | none=>exact hop
 | some gw =>
   obtain ⟨g,want⟩:=gw
   simp only
   cases hd:(ops.toList[g]?).bind (·.dst) with
   | none=>rfl
   | some t =>
     simp only
     have ht:(apS s oi x u).tmps.getD t .unk=s.tmps.getD t .unk:=by
       have hne:∀ d,oi.dst=some d→d≠t:=fun d hd' e=>hf.seesNot d hd' (by
         subst e
         unfold Oper.looksAt
         rw [hg]
         refine List.mem_append_right _ ?_
         have:(ops[g]?).bind (·.dst)=some d:=by rw [← hd]; simp
         simp [this])
       show (s.put oi.dst x).tmps.getD t .unk=_
       cases hdd:oi.dst with
       | none=>rfl
       | some d=>simp [St.put,List.getD,hne d hdd]
     rw [ht]
     split
     · rw [hop]
     · rfl
     · rfl
theorem Free.upd (hf:Free P Γ ops bs i j oi oj) (s:St) {x:SV} {u v:List (Nat×Blk)} (hu:Qcn (Qa0 Γ oi) (Qav bs s.nx i s.heap) s.heap (s.nx + 8*i) u=true) :
   Qcn (Qa0 Γ oj) (Qav bs (apS s oi x u).nx j (apS s oi x u).heap) (apS s oi x u).heap ((apS s oi x u).nx + 8*j) v=Qcn (Qa0 Γ oj) (Qav bs s.nx j s.heap) s.heap (s.nx + 8*j) v:=by
 have hnx:(apS s oi x u).nx=s.nx:=by unfold apS St.put; cases oi.dst <;> rfl
 rw [hnx]
 refine Ql4 (fun k _ hk=>?_) (fun k _=>?_)
 · show Qb3 s.heap u k=s.heap k
   refine Qat u _ ?_
   cases hi:Qac k u with
   | false=>rfl
   | true =>
     rcases Free.where s hu k hi with ⟨_,h2,_⟩ | ⟨h2,_⟩
     · rw [Qj8 hk hf.nji] at h2; cases h2
     · exfalso
       obtain ⟨a1,a2⟩:=h2
       obtain ⟨a3,a4⟩:=hk
       have:=hf.ne
       omega
 · rw [Qem,Qem]
   by_cases hh:hid bs s.nx j k=true
   · rw [if_pos hh,if_pos hh]; exact .inl rfl
   · rw [if_neg hh,if_neg hh]
     show Qb3 s.heap u k=s.heap k∨_
     cases hi:Qac k u with
     | false=>exact .inl (Qat u _ hi)
     | true =>
       rcases Free.where s hu k hi with ⟨h2,h4,h3⟩ | ⟨h2,_⟩
       · right
         have hwj:Qa0 Γ oj=false:=by
           cases hw:Qa0 Γ oj with
           | false=>rfl
           | true=>exact (hh (Qgk (hf.wt ⟨h2,Qh5 hw⟩) h4 hf.ne hf.nij hf.nji)).elim
         refine ⟨hwj,?_⟩
         have:Qb3 s.heap u k≠none:=Qqf u s.heap hi
         show (Qb3 s.heap u k).isSome=(s.heap k).isSome
         cases e1:Qb3 s.heap u k <;> cases e2:s.heap k <;> simp_all
       · exact (hh (Qj8 h2 hf.nij)).elim
theorem Free.comm (hf:Free P Γ ops bs i j oi oj) (s:St) {x y:SV} {u v:List (Nat×Blk)} (hu:Qcn (Qa0 Γ oi) (Qav bs s.nx i s.heap) s.heap (s.nx + 8*i) u=true)
   (hv:Qcn (Qa0 Γ oj) (Qav bs s.nx j s.heap) s.heap (s.nx + 8*j) v=true):apS (apS s oi x u) oj y v=apS (apS s oj y v) oi x u:=by
 have hd:∀ k,Qac k u=true→Qac k v=true→False:=fun k h1 h2=>by
   rcases Free.where s hu k h1 with ⟨a1,a2,_⟩ | ⟨a1,_⟩ <;> rcases Free.where s hv k h2 with ⟨b1,b2,_⟩ | ⟨b1,_⟩
   · rw [Qgk (hf.wt ⟨a1,Qh5 b1⟩) a2 hf.ne hf.nij hf.nji] at b2; cases b2
   · rw [Qj8 b1 hf.nji] at a2; cases a2
   · rw [Qj8 a1 hf.nij] at b2; cases b2
   · obtain ⟨a3,a4⟩:=a1
     obtain ⟨b3,b4⟩:=b1
     have:=hf.ne
     omega
 have h1:Qb3 (Qb3 s.heap u) v=Qb3 (Qb3 s.heap v) u:=Q2z hd
 have h2:(s.tmps)=s.tmps:=rfl
 unfold apS St.put
 cases hi:oi.dst with
 | none=>cases hj:oj.dst <;> simp only [h1]
 | some d =>
   cases hj:oj.dst with
   | none=>simp only [h1]
   | some d' =>
     have hne:d≠d':=fun e=>hf.dstNe d hi (by rw [hj,e])
     simp only [h1]
     rw [List.set_comm _ _ hne]
theorem Q0c (hf:Free P Γ ops bs i j oi oj) {s:St} {K:St→Prop} (h:Qg6 P Γ ops.toList bs i oi s fun s1=>Qg6 P Γ ops.toList bs j oj s1 K) :
   Qg6 P Γ ops.toList bs j oj s fun s2=>Qg6 P Γ ops.toList bs i oi s2 K:=by
 unfold Qg6 at h
 cases hi:Qgs P Γ ops.toList bs i oi s with
 | none=>rw [hi] at h; exact h.elim
 | some ei =>
   rw [hi] at h
   simp only at h
   -- what oj does
   obtain ⟨x0,u0,ho0⟩:=ei.some_out
   have h0:=Eff.bind_out h ho0
   rw [hf.act s h0.1] at h0
   cases hj:Qgs P Γ ops.toList bs j oj s with
   | none=>rw [hj] at h0; exact h0.2.elim
   | some ej =>
     rw [hj] at h0
     unfold Qg6
     rw [hj]
     simp only
     refine Eff.bind_of (Eff.bind_asks h0.2) fun y v hov=>?_
     have hv:Qcn (Qa0 Γ oj) (Qav bs s.nx j s.heap) s.heap (s.nx + 8*j) v=true:=by
       have:=(Eff.bind_out h0.2 hov).1
       rwa [hf.upd s h0.1] at this
     refine ⟨hv,?_⟩
     rw [hf.symm.act s hv,hi]
     simp only
     refine Eff.bind_of (Eff.bind_asks h) fun x u hou=>?_
     have hxu:=Eff.bind_out h hou
     refine ⟨by rw [hf.symm.upd s hv]; exact hxu.1,?_⟩
     have hin:=hxu.2
     rw [hf.act s hxu.1,hj] at hin
     have:=(Eff.bind_out hin hov).2
     rwa [hf.comm s hxu.1 hv] at this
theorem Qtr {Γ:Qbz} {o:Oper} {ρ ρ':Operand→SV} {h:Qbo} (hh:∀ x∈o.op.operands,ρ x=ρ' x):Qet Γ o ρ h=Qet Γ o ρ' h:=by
 obtain ⟨dst,op,ty,pos,after,guard⟩:=o
 cases op <;> simp only [Qet]
 case call c =>
   obtain ⟨callee,cargs,cts⟩:=c
   simp only [Op.operands] at hh
   have ha:cargs.toList.map ρ=cargs.toList.map ρ':=List.map_congr_left fun x hx=>hh x (by simp only [Call.operands,Array.mem_append]; exact .inr (by simpa using hx))
   cases callee with
   | value f=>cases f <;> simp only [ha]
   | invoke r m=>rfl
   | builtin b=>rfl
theorem Qxa {P:Program} {Γ:Qbz} {o:Oper} {ρ:Operand→SV} {h h':Qbo} (ht:Qdc P o=false):Qet Γ o ρ h=Qet Γ o ρ h':=by
 obtain ⟨dst,op,ty,pos,after,guard⟩:=o
 cases op <;> simp only [Qet]
 case call c =>
   obtain ⟨callee,cargs,cts⟩:=c
   cases callee with
   | value f=>simp [Qdc] at ht
   | invoke r m=>rfl
   | builtin b=>rfl
theorem Free.view (hf:Free P Γ ops bs i j oi oj) (s:St) {x:SV} {u:List (Nat×Blk)} (hu:Qcn (Qa0 Γ oi) (Qav bs s.nx i s.heap) s.heap (s.nx + 8*i) u=true) (ht:Qdc P oj=true) :
   Qav bs s.nx j (apS s oi x u).heap=Qav bs s.nx j s.heap:=by
 funext k
 rw [Qem,Qem]
 by_cases hh:hid bs s.nx j k=true
 · simp [hh]
 · rw [if_neg hh,if_neg hh]
   show Qb3 s.heap u k=s.heap k
   refine Qat u _ ?_
   cases hi:Qac k u with
   | false=>rfl
   | true =>
     rcases Free.where s hu k hi with ⟨h2,h3,_⟩ | ⟨h2,_⟩
     · exact (hh (Qgk (hf.wt ⟨h2,ht⟩) h3 hf.ne hf.nij hf.nji)).elim
     · exact (hh (Qj8 h2 hf.nij)).elim
theorem Qpi {Γ:Qbz} {o:Oper} {ρ ρ':Operand→SV} {h:Qbo} {base:Nat} {e:Eff} (hh:∀ x∈o.op.operands,ρ x=ρ' x):Qb6 Γ o ρ h base e=Qb6 Γ o ρ' h base e:=by
 obtain ⟨dst,op,ty,pos,after,guard⟩:=o
 cases op <;> simp only [Qb6]
 case call c =>
   obtain ⟨callee,cargs,cts⟩:=c
   simp only [Op.operands] at hh
   have ha:cargs.toList.map ρ=cargs.toList.map ρ':=List.map_congr_left fun x hx=>hh x (by simp only [Call.operands,Array.mem_append]; exact .inr (by simpa using hx))
   cases callee with
   | value f=>cases f <;> simp only [ha]
   | invoke r m=>rfl
   | builtin b=>rfl
theorem Qrm {P:Program} {Γ:Qbz} {o:Oper} {ρ:Operand→SV} {h h':Qbo} {base:Nat} {e:Eff} (ht:Qdc P o=false):Qb6 Γ o ρ h base e=Qb6 Γ o ρ h' base e:=by
 obtain ⟨dst,op,ty,pos,after,guard⟩:=o
 cases op <;> simp only [Qb6]
 case call c =>
   obtain ⟨callee,cargs,cts⟩:=c
   cases callee with
   | value f=>simp [Qdc] at ht
   | invoke r m=>rfl
   | builtin b=>rfl
theorem Free.stopE (hf:Free P Γ ops bs i j oi oj) (s:St) {x:SV} {u:List (Nat×Blk)} (hu:Qcn (Qa0 Γ oi) (Qav bs s.nx i s.heap) s.heap (s.nx + 8*i) u=true) (e:Eff) :
   Qb6 Γ oj (apS s oi x u).eval (Qav bs (apS s oi x u).nx j (apS s oi x u).heap) ((apS s oi x u).nx + 8*j) e=Qb6 Γ oj s.eval (Qav bs s.nx j s.heap) (s.nx + 8*j) e:=by
 have hnx:(apS s oi x u).nx=s.nx:=by unfold apS St.put; cases oi.dst <;> rfl
 rw [hnx]
 have h1:Qb6 Γ oj (apS s oi x u).eval (Qav bs s.nx j (apS s oi x u).heap) (s.nx + 8*j) e=Qb6 Γ oj s.eval (Qav bs s.nx j (apS s oi x u).heap) (s.nx + 8*j) e:=by
   refine Qpi fun y hy=>?_
   show (s.put oi.dst x).eval y=s.eval y
   refine Qh1 fun t ht e=>?_
   refine hf.seesNot t ht ?_
   subst e
   exact List.mem_append_left _ (List.mem_filterMap.2 ⟨.tmp t,by simpa using hy,rfl⟩)
 rw [h1]
 cases ht:Qdc P oj with
 | false=>exact Qrm ht
 | true=>rw [hf.view s hu ht]
theorem Free.stop (hf:Free P Γ ops bs i j oi oj) (s:St) {x:SV} {u:List (Nat×Blk)} (hu:Qcn (Qa0 Γ oi) (Qav bs s.nx i s.heap) s.heap (s.nx + 8*i) u=true) :
   Qgd Γ ops.toList bs j oj (apS s oi x u)=Qgd Γ ops.toList bs j oj s:=by
 have hnx:(apS s oi x u).nx=s.nx:=by unfold apS St.put; cases oi.dst <;> rfl
 have hop:Qet Γ oj (apS s oi x u).eval (Qav bs (apS s oi x u).nx j (apS s oi x u).heap)=Qet Γ oj s.eval (Qav bs s.nx j s.heap):=by
   rw [hnx]
   have h1:Qet Γ oj (apS s oi x u).eval (Qav bs s.nx j (apS s oi x u).heap)=Qet Γ oj s.eval (Qav bs s.nx j (apS s oi x u).heap):=by
     refine Qtr fun y hy=>?_
     show (s.put oi.dst x).eval y=s.eval y
     refine Qh1 fun t ht e=>?_
     refine hf.seesNot t ht ?_
     subst e
     exact List.mem_append_left _ (List.mem_filterMap.2 ⟨.tmp t,by simpa using hy,rfl⟩)
   rw [h1]
   cases ht:Qdc P oj with
   | false=>exact Qxa ht
   | true=>rw [hf.view s hu ht]
 unfold Qgd
 cases hg:oj.guard with
 | none=>exact hop
 | some gw =>
   obtain ⟨g,want⟩:=gw
   simp only
   cases hd:(ops.toList[g]?).bind (·.dst) with
   | none=>rfl
   | some t =>
     simp only
     have ht:(apS s oi x u).tmps.getD t .unk=s.tmps.getD t .unk:=by
       have hne:∀ d,oi.dst=some d→d≠t:=fun d hd' e=>hf.seesNot d hd' (by
         subst e
         unfold Oper.looksAt
         rw [hg]
         refine List.mem_append_right _ ?_
         have:(ops[g]?).bind (·.dst)=some d:=by rw [← hd]; simp
         simp [this])
       show (s.put oi.dst x).tmps.getD t .unk=_
       cases hdd:oi.dst with
       | none=>rfl
       | some d=>simp [St.put,List.getD,hne d hdd]
     rw [ht,hop]
end
end Go.SE
end
section
namespace Go.SE
section
variable {P:Program} {Γ:Qbz} {ops:Array Oper} {bs:Vw} {pr:List (Nat×(Nat→List Nat))} {K:St→Prop}
def Qxb (P:Program) (Γ:Qbz) (ops:Array Oper) (bs:Vw) (KP:SV→Qbo→Prop) (i:Nat) (s:St) (K:St→Prop):Prop :=
 match ops[i]? with
 | none=>K s
 | some o=>Qge P Γ ops.toList bs true KP i o s K
def Qno (P:Program) (Γ:Qbz) (ops:Array Oper) (bs:Vw) (KP:SV→Qbo→Prop) (K:St→Prop):Nat→Array Bool→St→Prop
 | 0,listed,s=>Region.ready .any ops listed=[]∧K s
 | fuel + 1,listed,s=>(Region.ready .any ops listed=[]→K s)∧∀ i∈Region.ready .any ops listed,Qxb P Γ ops bs KP i s (Qno P Γ ops bs KP K fuel (listed.setIfInBounds i true))
theorem inL_mem {k:Nat}:∀ {l:List Nat},inL k l=true↔k∈l
 | []=>by simp [inL]
 | x :: xs=>by
   simp only [inL,Bool.or_eq_true,inL_mem (l:=xs),List.mem_cons]
   constructor
   · rintro (h | h)
     · exact .inl (Nat.eq_of_beq_eq_true h).symm
     · exact .inr h
   · rintro (h | h)
     · exact .inl (by rw [h]; exact Nat.beq_refl _)
     · exact .inr h
theorem Qov {o:Oper} {t:Nat} (ht:o.dst=some t):∀ {l:List Oper},o∈l→t∈Qhn l
 | [],h=>by cases h
 | x :: l,h=>by
   rcases List.mem_cons.1 h with rfl | h
   · simp [Qhn,ht]
   · have:=Qov ht h
     unfold Qhn
     split
     · exact List.mem_cons_of_mem _ this
     · exact this
theorem Q1j {o:Oper} {l:List Nat} {s:St} {d:Option Tmp} {x:SV} {h:Qbo} {base:Nat} (hq:Qmi l o=true) (hd:∀ t,d=some t→t∈l):o.guard=none∧opS P Γ o (s.put d x).eval h base=opS P Γ o s.eval h base:=by
 obtain ⟨dst,op,ty,pos,after,guard⟩:=o
 have out:∀ t,inL t l=false→∀ t',d=some t'→(.tmp t:Operand)≠.tmp t':=fun t ht t' ht' e=>by
   cases e
   rw [inL_mem.2 (hd _ ht')] at ht; cases ht
 cases guard with
 | some g=>cases hq
 | none =>
   refine ⟨rfl,?_⟩
   cases op with
   | fieldAddr t y f =>
     cases y with
     | tmp t =>
       refine Qi6 fun y hy=>?_
       simp [Op.operands] at hy
       subst hy
       simp only [Qmi,Bool.not_eq_true'] at hq
       exact Qh1 fun t' ht'=>out _ hq t' ht'
     | _=>cases hq
   | move y =>
     cases y with
     | tmp t =>
       refine Qi6 fun y hy=>?_
       simp [Op.operands] at hy
       subst hy
       simp only [Qmi,Bool.not_eq_true'] at hq
       exact Qh1 fun t' ht'=>out _ hq t' ht'
     | const v =>
       refine Qi6 fun y hy=>?_
       simp [Op.operands] at hy
       subst hy
       exact Qh1 fun t' _ e=>by cases e
     | _=>cases hq
   | _=>cases hq
theorem Q1k {o:Oper} {ρ:Operand→SV} {h:Qbo} {base:Nat} {e:Eff} (hq:Qn6 o=true) (he:opS P Γ o ρ h base=some e):o.guard=none∧∃ x,e=.det none x []:=by
 obtain ⟨dst,op,ty,pos,after,guard⟩:=o
 unfold Qn6 at hq
 simp only at hq
 split at hq
 · refine ⟨rfl,?_⟩
   simp only [opS] at he
   split at he <;> try (cases he; done)
   split at he <;> try (cases he; done)
   split at he <;> try (cases he; done)
   rename_i m r _ _
   cases hb:Nat.beq m 0 with
   | true=>rw [hb] at he; cases he
   | false=>rw [hb] at he; cases he; exact ⟨_,rfl⟩
 · refine ⟨rfl,?_⟩
   simp only [opS] at he
   cases he; exact ⟨_,rfl⟩
 · refine ⟨rfl,?_⟩
   simp only [opS] at he
   split at he <;> try (cases he; done)
   cases he; exact ⟨_,rfl⟩
 · refine ⟨rfl,?_⟩
   simp only [opS] at he
   split at he <;> try (cases he; done)
   all_goals (cases he; exact ⟨_,rfl⟩)
 · cases hq
theorem Qj5 {o:Oper} {i:Nat} {l:List Oper} {s:St} (h:Qc3 Γ o=false):Qgd Γ l bs i o s=false:=by
 have h0:∀ ρ h',Qet Γ o ρ h'=false:=fun ρ h'=>by
   obtain ⟨dst,op,ty,pos,after,guard⟩:=o
   cases op <;> simp only [Qet] <;> simp only [Qc3] at h <;> try (cases h; done)
   case call c =>
     obtain ⟨callee,cargs,cts⟩:=c
     cases callee with
     | value f =>
       cases f with
       | func f =>
         simp only at h ⊢
         cases hg:Γ f with
         | none=>rfl
         | some g=>rw [hg] at h; simp only at h ⊢; rw [h]; rfl
       | _=>rfl
     | _=>rfl
 unfold Qgd
 cases o.guard with
 | none=>exact h0 _ _
 | some gw =>
   obtain ⟨g,want⟩:=gw
   simp only
   split
   · rfl
   · split
     · split
       · exact h0 _ _
       · rfl
     · rfl
theorem Qmw {i:Nat} {s:St} {d:Option Tmp} {x:SV} (hd:∀ t,d=some t→t∈Qhn ops.toList) (hq:∀ (k:Nat) o,ops.toList[k]?=some o→i<k→bs.bit k i=false→Qmi (Qhn ops.toList) o=true):∀ (l:List Oper) (k:Nat),(∀ (j:Nat),l[j]?=ops.toList[k + j]?)→Qev P Γ bs i (s.put d x) l k=Qev P Γ bs i s l k
 | [],_,_=>rfl
 | o :: l,k,hl=>by
   have h0:ops.toList[k]?=some o:=(hl 0).symm
   have ih:=Qmw (s:=s) (x:=x) hd hq l (k + 1) fun j=>by have:=hl (j + 1); simpa [Nat.add_assoc,Nat.add_comm 1 j] using this
   simp only [Qev,ih]
   have hh:(s.put d x).heap=s.heap:=by unfold St.put; cases d <;> rfl
   have hn:(s.put d x).nx=s.nx:=by unfold St.put; cases d <;> rfl
   rw [hh,hn]
   cases hk:(Nat.ble k i||bs.bit k i) with
   | true=>simp
   | false =>
     rw [Bool.or_eq_false_iff] at hk
     have hik:i<k:=Nat.lt_of_not_le fun h=>by rw [Nat.ble_eq_true_of_le h] at hk; cases hk.1
     obtain ⟨q1,q2⟩:=Q1j (P:=P) (Γ:=Γ) (s:=s) (x:=x) (h:=Qav bs s.nx k s.heap) (base:=s.nx + 8*k) (hq k o h0 hik hk.2) hd
     rw [q2]
theorem Qwe {i:Nat} {s:St}:∀ (l:List Oper) (k:Nat),Qev P Γ bs i s l k=true→∀ (j:Nat) o,l[j]?=some o→i<k + j→bs.bit (k + j) i=false→o.guard=none∧∃ x,opS P Γ o s.eval (Qav bs s.nx (k + j) s.heap) (s.nx + 8*(k + j))=some (.det none x [])
 | [],_,_,j,o,ho,_,_=>by simp at ho
 | o' :: l,k,h,j,o,ho,hlt,hb=>by
   simp only [Qev,Bool.and_eq_true,Bool.or_eq_true] at h
   match j,ho with
   | 0,ho =>
     simp at ho
     subst ho
     rw [Nat.add_zero] at hlt hb ⊢
     rcases h.1 with (h1 | h1) | h1
     · have:=Nat.le_of_ble_eq_true h1; omega
     · rw [hb] at h1; cases h1
     · split at h1
       · rename_i x hg hx
         exact ⟨hg,x,hx⟩
       · cases h1
   | j + 1,ho =>
     simp at ho
     have:=Qwe l (k + 1) h.2 j o ho (by omega) (by rw [show k + 1 + j=k + (j + 1) by omega]; exact hb)
     rw [show k + 1 + j=k + (j + 1) by omega] at this
     exact this
theorem Qh6 {j:Nat} {oj:Oper}:∀ {l:List Oper} {k:Nat},Qg5 Γ ops bs j oj l k=true→∀ (q:Nat) o,l[q]?=some o→k + q<j→bs.bit j (k + q)=false→(Qc3 Γ oj=true→Qc3 Γ o=false∧Qn6 o=true)∧(Qc3 Γ o=true→Qmi (Qhn ops.toList) oj=true)
 | [],_,_,q,o,h,_,_=>by simp at h
 | o :: l,k,hp,q,o',ho,hlt,hn=>by
   simp only [Qg5,Bool.and_eq_true,Bool.or_eq_true] at hp
   match q,ho with
   | 0,ho =>
     simp at ho
     subst ho
     rcases hp.1 with (h1 | h1) | h1
     · have:=Nat.le_of_ble_eq_true h1; omega
     · rw [Nat.add_zero] at hn; rw [hn] at h1; cases h1
     · refine ⟨fun hm=>?_,fun hm=>?_⟩
       · have:=h1.1
         rw [hm,cond_true] at this
         simpa using this
       · have:=h1.2
         rw [hm,cond_true] at this
         exact this
   | q + 1,ho =>
     simp at ho
     have:=Qh6 hp.2 q o' ho (by omega) (by rw [show k + 1 + q=k + (q + 1) by omega]; exact hn)
     exact this
theorem Qi1:∀ {l:List Oper} {k:Nat},Qlg Γ ops bs l k=true→∀ (q:Nat) o,l[q]?=some o→Qg5 Γ ops bs (k + q) o ops.toList 0=true
 | [],_,_,q,o,h=>by simp at h
 | o :: l,k,hp,q,o',ho=>by
   simp only [Qlg,Bool.and_eq_true] at hp
   match q,ho with
   | 0,ho=>simp at ho; subst ho; exact hp.1
   | q + 1,ho =>
     simp at ho
     have:=Qi1 hp.2 q o' ho
     rw [show k + 1 + q=k + (q + 1) by omega] at this
     exact this
theorem Qes {acc:List Nat} {i:Nat}:∀ {es:List Edge},(Qfr acc es).testBit i=true→∃ e∈es,Region.binds .any e=true∧(e.on=i∨(acc.getD e.on 0).testBit i=true)
 | [],h=>by simp [Qfr] at h
 | e :: es,h=>by
   simp only [Qfr] at h
   cases hb:Region.binds .any e with
   | false =>
     rw [hb] at h
     obtain ⟨e',h1,h2,h3⟩:=Qes h
     exact ⟨e',List.mem_cons_of_mem _ h1,h2,h3⟩
   | true =>
     rw [hb] at h
     simp only [Nat.testBit_or,Bool.or_eq_true,Nat.testBit_two_pow,decide_eq_true_eq] at h
     rcases h with (h | h) | h
     · exact ⟨e,List.mem_cons_self,hb,.inl h⟩
     · exact ⟨e,List.mem_cons_self,hb,.inr h⟩
     · obtain ⟨e',h1,h2,h3⟩:=Qes h
       exact ⟨e',List.mem_cons_of_mem _ h1,h2,h3⟩
theorem Qkv:∀ (l:List Oper) (acc:List Nat),(∀ q,q<acc.length→(Qa7 l acc)[q]?=acc[q]?) ∧
   ∀ (q:Nat) o,l[q]?=some o→∃ acc',acc'.length=acc.length + q∧(∀ p,p<acc.length + q→acc'[p]?=(Qa7 l acc)[p]?)∧(Qa7 l acc)[acc.length + q]?=some (Qfr acc' o.after.toList)
 | [],acc=>⟨fun q _=>rfl,fun q o h=>by simp at h⟩
 | o :: l,acc=>by
   obtain ⟨h1,h2⟩:=Qkv l (acc++[Qfr acc o.after.toList])
   simp only [Qa7]
   refine ⟨fun q hq=>?_,fun q o' ho=>?_⟩
   · rw [h1 q (by simp; omega),List.getElem?_append_left hq]
   · match q,ho with
     | 0,ho =>
       simp at ho
       subst ho
       refine ⟨acc,rfl,fun p hp=>?_,?_⟩
       · rw [h1 p (by simp; omega),List.getElem?_append_left (by omega)]
       · rw [h1 _ (by simp)]
         simp
     | q + 1,ho =>
       simp at ho
       obtain ⟨acc',g1,g2,g3⟩:=h2 q o' ho
       simp only [List.length_append,List.length_singleton] at g1 g2 g3
       refine ⟨acc',by omega,fun p hp=>g2 p (by omega),?_⟩
       rw [show acc.length + (q + 1)=acc.length + 1 + q by omega]
       exact g3
theorem Quy {j i:Nat} {o:Oper} (ho:ops.toList[j]?=some o) (hback:∀ e∈o.after.toList,Region.binds .any e=true→e.on<j) (h:((Qa7 ops.toList []).getD j 0).testBit i=true) :
   ∃ e∈o.after.toList,Region.binds .any e=true∧(e.on=i∨((Qa7 ops.toList []).getD e.on 0).testBit i=true):=by
 obtain ⟨acc',h1,h2,h3⟩:=(Qkv ops.toList []).2 j o ho
 simp only [List.length_nil,Nat.zero_add] at h1 h2 h3
 rw [List.getD,h3,Option.getD_some] at h
 obtain ⟨e,h4,h5,h6⟩:=Qes h
 refine ⟨e,h4,h5,h6.imp id fun h6=>?_⟩
 rw [List.getD,h2 e.on (hback e h4 h5)] at h6
 exact h6
theorem Qby:∀ {l:List Oper} {k:Nat},Qw1 l k=true→∀ (q:Nat) o,l[q]?=some o→∀ e∈o.after.toList,Region.binds .any e=true→e.on<k + q
 | [],_,_,q,o,h=>by simp at h
 | o :: l,k,hb,q,o',ho=>by
   simp only [Qw1,Bool.and_eq_true] at hb
   match q,ho with
   | 0,ho =>
     simp at ho
     subst ho
     intro e he hbe
     have:=List.all_eq_true.1 hb.1 e he
     rw [hbe] at this
     simp [Nat.blt] at this
     omega
   | q + 1,ho =>
     simp at ho
     intro e he hbe
     have:=Qby hb.2 q o' ho e he hbe
     omega
theorem Qfw {j:Nat} {oj:Oper}:∀ {l:List Oper} {k:Nat},Qha P Γ ops bs j oj l k=true→∀ (q:Nat) o,l[q]?=some o→k + q<j→bs.bit j (k + q)=false→Qvy P Γ ops (bs.has (k + q)) (bs.has j) o oj=true
 | [],_,_,q,o,h,_,_=>by simp at h
 | o :: l,k,hp,q,o',ho,hlt,hn=>by
   simp only [Qha,Bool.and_eq_true,Bool.or_eq_true] at hp
   match q,ho with
   | 0,ho =>
     simp at ho
     subst ho
     rcases hp.1 with (h1 | h1) | h1
     · have:=Nat.le_of_ble_eq_true h1; omega
     · rw [Nat.add_zero] at hn; rw [hn] at h1; cases h1
     · exact h1
   | q + 1,ho =>
     simp at ho
     have:=Qfw hp.2 q o' ho (by omega) (by rw [show k + 1 + q=k + (q + 1) by omega]; exact hn)
     rw [show k + 1 + q=k + (q + 1) by omega] at this
     exact this
theorem Qgi:∀ {l:List Oper} {k:Nat},Qll P Γ ops bs l k=true→∀ (q:Nat) o,l[q]?=some o→Qha P Γ ops bs (k + q) o ops.toList 0=true
 | [],_,_,q,o,h=>by simp at h
 | o :: l,k,hp,q,o',ho=>by
   simp only [Qll,Bool.and_eq_true] at hp
   match q,ho with
   | 0,ho=>simp at ho; subst ho; exact hp.1
   | q + 1,ho =>
     simp at ho
     have:=Qgi hp.2 q o' ho
     rw [show k + 1 + q=k + (q + 1) by omega] at this
     exact this
def Qgw (ops:Array Oper) (listed:Array Bool):Prop :=
 ∀ j o,ops[j]?=some o→listed.getD j false=true→∀ e∈o.after,Region.binds .any e=true→listed.getD e.on false=true
theorem Qgp (hback:∀ (j:Nat) o,ops.toList[j]?=some o→∀ e∈o.after.toList,Region.binds .any e=true→e.on<j) {listed:Array Bool} (hc:Qgw ops listed) {i:Nat} :
   ∀ (p:Nat) o,ops[p]?=some o→(∀ e∈o.after,Region.binds .any e=true→listed.getD e.on false=true)→((Qa7 ops.toList []).getD p 0).testBit i=true→listed.getD i false=true:=by
 intro p
 induction p using Nat.strongRecOn with
 | _ p ih =>
   intro o ho hl hb
   have ho':ops.toList[p]?=some o:=by simpa using ho
   obtain ⟨e,h1,h2,h3⟩:=Quy ho' (hback p o ho') hb
   have h1':e∈o.after:=by simpa using h1
   rcases h3 with rfl | h3
   · exact hl e h1' h2
   · have hlt:=hback p o ho' e h1 h2
     have hin:e.on<ops.size:=by
       have:=(Array.getElem?_eq_some_iff.1 ho).1
       omega
     exact ih e.on hlt ops[e.on] (by simp [hin]) (fun e' he' hb'=>hc e.on _ (by simp [hin]) (hl e h1' h2) e' he' hb') h3
theorem Qkd {listed:Array Bool} (hc:Qgw ops listed) {i:Nat} (hi:i∈Region.ready .any ops listed):Qgw ops (listed.setIfInBounds i true):=by
 obtain ⟨_,oi,hoi,hall⟩:=mem_ready.1 hi
 intro j o ho hl e he hb
 by_cases hij:i=j
 · subst hij
   have:o=oi:=Option.some.inj (ho.symm.trans hoi)
   subst this
   exact getD_set_true (hall e he hb)
 · rw [getD_set_ne false hij] at hl
   exact getD_set_true (hc j o ho hl e he hb)
theorem Qg9 (hback:∀ (j:Nat) o,ops.toList[j]?=some o→∀ e∈o.after.toList,Region.binds .any e=true→e.on<j) {listed:Array Bool} (hc:Qgw ops listed) {i j:Nat}
   (hi:i∈Region.ready .any ops listed) (hj:j∈Region.ready .any ops listed):((Qa7 ops.toList []).getD j 0).testBit i=false:=by
 cases hb:((Qa7 ops.toList []).getD j 0).testBit i with
 | false=>rfl
 | true =>
   obtain ⟨_,oj,hoj,hall⟩:=mem_ready.1 hj
   have h1:=Qgp hback hc j oj hoj hall hb
   have h0:=(mem_ready.1 hi).1
   rcases Nat.lt_or_ge i listed.size with h' | h'
   · simp [h'] at h0 h1; rw [h0] at h1; cases h1
   · simp [Array.getElem?_eq_none h'] at h1
theorem Zer (hok:Qe1 P Γ ops ⟨Qa7 ops.toList [],pr⟩=true) {listed:Array Bool} (hc:Qgw ops listed) {i j:Nat} {oi oj:Oper} (hoi:ops[i]?=some oi) (hoj:ops[j]?=some oj)
   (hi:i∈Region.ready .any ops listed) (hj:j∈Region.ready .any ops listed) (hne:i≠j):Free P Γ ops ⟨Qa7 ops.toList [],pr⟩ i j oi oj:=by
 simp only [Qe1,Bool.and_eq_true] at hok
 replace hok:=hok.1
 have hback:∀ (j:Nat) o,ops.toList[j]?=some o→∀ e∈o.after.toList,Region.binds .any e=true→e.on<j:=fun j o ho e he hb=>by
   have:=Qby hok.1 j o ho e he hb
   omega
 have nij:=Qg9 hback hc hi hj
 have nji:=Qg9 hback hc hj hi
 have hoi':ops.toList[i]?=some oi:=by simpa using hoi
 have hoj':ops.toList[j]?=some oj:=by simpa using hoj
 have mk:∀ {i j:Nat} {oi oj:Oper},Qvy P Γ ops (Vw.has ⟨Qa7 ops.toList [],pr⟩ i) (Vw.has ⟨Qa7 ops.toList [],pr⟩ j) oi oj=true→i≠j→Vw.bit ⟨Qa7 ops.toList [],pr⟩ j i=false→Vw.bit ⟨Qa7 ops.toList [],pr⟩ i j=false→Free P Γ ops ⟨Qa7 ops.toList [],pr⟩ i j oi oj:=fun {i j oi oj} hp hne h1 h2=>by
   simp only [Qvy,Bool.and_eq_true,Bool.or_eq_true,Bool.not_eq_true',Bool.and_eq_false_iff] at hp
   obtain ⟨⟨a1,a2⟩,a3⟩:=hp
   obtain ⟨b1,b2,b3⟩:=Oper.apart_spec a1
   refine ⟨hne,b1,b2,b3,fun ⟨c1,c2⟩=>?_,fun ⟨c1,c2⟩=>?_,h1,h2⟩
   · rcases a2 with a2 | a2 | a2
     · exact a2
     · rw [c1] at a2; cases a2
     · rw [c2] at a2; cases a2
   · rcases a3 with a3 | a3 | a3
     · exact a3
     · rw [c1] at a3; cases a3
     · rw [c2] at a3; cases a3
 rcases Nat.lt_or_gt_of_ne hne with hlt | hgt
 · have h1:=Qgi hok.2 j oj hoj'
   rw [Nat.zero_add] at h1
   have h2:=Qfw h1 i oi hoi' (by omega) (by rw [Nat.zero_add]; exact nij)
   rw [Nat.zero_add] at h2
   exact mk h2 hne nij nji
 · have h1:=Qgi hok.2 i oi hoi'
   rw [Nat.zero_add] at h1
   have h2:=Qfw h1 j oj hoj' (by omega) (by rw [Nat.zero_add]; exact nji)
   rw [Nat.zero_add] at h2
   exact (mk h2 hne.symm nji nij).symm
theorem Qm7 {l:List Bool} {i:Nat} (h:l[i]?=some false):(l.set i true).count false + 1=l.count false:=by
 induction l generalizing i with
 | nil=>simp at h
 | cons a l ih =>
   cases i with
   | zero =>
     simp at h
     subst h
     simp
   | succ i =>
     simp at h
     have:=ih h
     simp only [List.set_cons_succ,List.count_cons]
     omega
theorem Qfd {listed:Array Bool} {i:Nat} (h:i∈Region.ready .any ops listed) (hsz:listed.size=ops.size):listed.toList[i]?=some false:=by
 obtain ⟨h1,o,h2,_⟩:=mem_ready.1 h
 have hlt:=(Array.getElem?_eq_some_iff.1 h2).1
 have hl:i<listed.size:=by omega
 simp [hl] at h1 ⊢
 exact h1
theorem Q3w {KP:SV→Qbo→Prop} (hok:Qe1 P Γ ops ⟨Qa7 ops.toList [],pr⟩=true) {i:Nat} {oi:Oper} (hoi:ops[i]?=some oi):∀ (fuel:Nat) (listed:Array Bool) (s:St),Qgw ops listed→listed.size=ops.size→i∈Region.ready .any ops listed→(∀ m,m<i→listed.getD m false=true)→listed.toList.count false≤fuel + 1 →
   Qge P Γ ops.toList ⟨Qa7 ops.toList [],pr⟩ true KP i oi s (Qno P Γ ops ⟨Qa7 ops.toList [],pr⟩ KP K fuel (listed.setIfInBounds i true))→Qno P Γ ops ⟨Qa7 ops.toList [],pr⟩ KP K (fuel + 1) listed s:=by
 have hok2:=hok
 simp only [Qe1,Bool.and_eq_true] at hok2
 have hst:=hok2.2
 have hback:∀ (j:Nat) o,ops.toList[j]?=some o→∀ e∈o.after.toList,Region.binds .any e=true→e.on<j:=fun j o ho e he hb=>by
   have:=Qby hok2.1.1 j o ho e he hb
   omega
 have hoi':ops.toList[i]?=some oi:=by simpa using hoi
 have pair:∀ (a b:Nat) oa ob,ops[a]?=some oa→ops[b]?=some ob→a<b→Vw.bit ⟨Qa7 ops.toList [],pr⟩ b a=false→(Qc3 Γ ob=true→Qc3 Γ oa=false∧Qn6 oa=true)∧(Qc3 Γ oa=true→Qmi (Qhn ops.toList) ob=true):=fun a b oa ob ha hb hlt hn=>by
   have h1:=Qi1 hst b ob (by simpa using hb)
   rw [Nat.zero_add] at h1
   exact Qh6 h1 a oa (by simpa using ha) (by omega) (by rw [Nat.zero_add]; exact hn)
 have Qid:∀ {o:Oper} {k:Nat},ops[k]?=some o→∀ t,o.dst=some t→t∈Qhn ops.toList:=fun {o k} ho t ht=>Qov ht (by simpa using Array.mem_of_getElem? ho)
 intro fuel
 induction fuel with
 | zero =>
   intro listed s hc hsz hr hlow hcnt H
   refine ⟨fun h=>(by rw [h] at hr; cases hr),fun j hj=>?_⟩
   by_cases hji:j=i
   · subst hji
     unfold Qxb
     rw [hoi]
     exact H
   · exfalso
     have h1:=Qm7 (Qfd hr hsz)
     have h2:(listed.toList.set i true)[j]?=some false:=by
       rw [List.getElem?_set_ne (Ne.symm hji)]
       exact Qfd hj hsz
     have h3:0<(listed.toList.set i true).count false:=List.count_pos_iff.2 (List.mem_of_getElem? h2)
     omega
 | succ fuel ih =>
   intro listed s hc hsz hr hlow hcnt H
   refine ⟨fun h=>(by rw [h] at hr; cases hr),fun j hj=>?_⟩
   by_cases hji:j=i
   · subst hji
     unfold Qxb
     rw [hoi]
     exact H
   · obtain ⟨hjf,oj,hoj,_⟩:=mem_ready.1 hj
     have hij:i<j:=by
       rcases Nat.lt_trichotomy i j with h | h | h
       · exact h
       · exact absurd h.symm hji
       · have h1:=hlow j h
         have h2:=Qfd hj hsz
         have hl:j<listed.size:=by
           have:=(Array.getElem?_eq_some_iff.1 hoj).1
           omega
         simp [hl] at h1 h2
         rw [h1] at h2; cases h2
     unfold Qxb
     rw [hoj]
     show Qge P Γ ops.toList ⟨Qa7 ops.toList [],pr⟩ true KP j oj s _
     have hf:=Zer hok hc hoi hoj hr hj (Ne.symm hji)
     obtain ⟨pr1,pr2⟩:=pair i j oi oj hoi hoj hij hf.nij
     have hcnt':(listed.setIfInBounds j true).toList.count false≤fuel + 1:=by
       have:=Qm7 (Qfd hj hsz)
       rw [Array.toList_setIfInBounds]
       omega
     have hsz':(listed.setIfInBounds j true).size=ops.size:=by simpa using hsz
     have hlow':∀ m,m<i→(listed.setIfInBounds j true).getD m false=true:=fun m hm=>getD_set_true (hlow m hm)
     have next:∀ s2,Qge P Γ ops.toList ⟨Qa7 ops.toList [],pr⟩ true KP i oi s2 (Qno P Γ ops ⟨Qa7 ops.toList [],pr⟩ KP K fuel ((listed.setIfInBounds i true).setIfInBounds j true))→Qno P Γ ops ⟨Qa7 ops.toList [],pr⟩ KP K (fuel + 1) (listed.setIfInBounds j true) s2:=fun s2 h2 =>
       ih (listed.setIfInBounds j true) s2 (Qkd hc hj) hsz' (ready_mono hr (Ne.symm hji)) hlow' hcnt' (by
         rw [Array.setIfInBounds_comm _ _ hji]
         exact h2)
     have after:∀ s1,Qno P Γ ops ⟨Qa7 ops.toList [],pr⟩ KP K (fuel + 1) (listed.setIfInBounds i true) s1→Qge P Γ ops.toList ⟨Qa7 ops.toList [],pr⟩ true KP j oj s1 (Qno P Γ ops ⟨Qa7 ops.toList [],pr⟩ KP K fuel ((listed.setIfInBounds i true).setIfInBounds j true)):=fun s1 h2=>by
       have:=h2.2 j (ready_mono hj hji)
       unfold Qxb at this
       rw [hoj] at this
       exact this
     cases hsi:Qgd Γ ops.toList ⟨Qa7 ops.toList [],pr⟩ i oi s with
     | true =>
       have hmi:Qc3 Γ oi=true:=by
         cases hm:Qc3 Γ oi with
         | true=>rfl
         | false=>rw [Qj5 hm] at hsi; cases hsi
       have hmj:Qc3 Γ oj=false:=by
         cases hm:Qc3 Γ oj with
         | false=>rfl
         | true=>rw [(pr1 hm).1] at hmi; cases hmi
       unfold Qge at H
       cases hai:Qgs P Γ ops.toList ⟨Qa7 ops.toList [],pr⟩ i oi s with
       | none=>rw [hai] at H; exact H.elim
       | some ei =>
         rw [hai,hsi] at H
         simp only at H
         obtain ⟨x0,u0,ho0⟩:=(Qb6 Γ oi s.eval (Qav ⟨Qa7 ops.toList [],pr⟩ s.nx i s.heap) (s.nx + 8*i) ei).some_out
         have hl:=(Eff.bind_out H ho0).2.1 trivial
         obtain ⟨g1,y,g2⟩:=Qwe ops.toList 0 hl j oj (by simpa using hoj) (by omega) (by rw [Nat.zero_add]; exact hf.nij)
         rw [Nat.zero_add] at g2
         have haj:Qgs P Γ ops.toList ⟨Qa7 ops.toList [],pr⟩ j oj s=some (.det none y []):=by
           unfold Qgs
           rw [g1]
           exact g2
         unfold Qge
         rw [haj,Qj5 hmj]
         refine ⟨rfl,next _ ?_⟩
         have hu0:Qcn (Qa0 Γ oj) (Qav ⟨Qa7 ops.toList [],pr⟩ s.nx j s.heap) s.heap (s.nx + 8*j) []=true:=rfl
         unfold Qge
         rw [hf.symm.act s (x:=y) hu0,hai,hf.symm.stop s (x:=y) hu0,hsi]
         simp only
         rw [hf.symm.stopE s (x:=y) hu0]
         refine Eff.bind_mono (fun x u hx=>⟨?_,fun _=>?_,hx.2.2⟩) H
         · rw [hf.symm.upd s (x:=y) hu0]; exact hx.1
         · rw [Qu1,Qmw (Qid hoj) (fun k o ho hik hb=>(pair i k oi o hoi (by simpa using ho) hik hb).2 hmi) ops.toList 0 (fun j=>by simp)]
           exact hl
     | false =>
       have HN:=(Qpk hsi).1 H
       cases hsj:Qgd Γ ops.toList ⟨Qa7 ops.toList [],pr⟩ j oj s with
       | false =>
         have h1:Qg6 P Γ ops.toList ⟨Qa7 ops.toList [],pr⟩ i oi s fun s1=>Qg6 P Γ ops.toList ⟨Qa7 ops.toList [],pr⟩ j oj s1 (Qno P Γ ops ⟨Qa7 ops.toList [],pr⟩ KP K fuel ((listed.setIfInBounds i true).setIfInBounds j true)) :=
           Qn0 (fun s1 ⟨h2,x,u,h3,h4⟩=>by
             subst h4
             exact (Qpk (by rw [hf.stop s h3]; exact hsj)).1 (after _ h2)) (Ql9 HN)
         refine (Qpk hsj).2 (Qn0 (fun s2 ⟨h2,x,u,h3,h4⟩=>?_) (Ql9 (Q0c hf h1)))
         subst h4
         exact next _ ((Qpk (by rw [hf.symm.stop s h3]; exact hsi)).2 h2)
       | true =>
         have hmj:Qc3 Γ oj=true:=by
           cases hm:Qc3 Γ oj with
           | true=>rfl
           | false=>rw [Qj5 hm] at hsj; cases hsj
         obtain ⟨hmi,hqi⟩:=pr1 hmj
         unfold Qg6 at HN
         cases hai:Qgs P Γ ops.toList ⟨Qa7 ops.toList [],pr⟩ i oi s with
         | none=>rw [hai] at HN; exact HN.elim
         | some ei =>
           rw [hai] at HN
           have hgi:oi.guard=none:=by
             unfold Qn6 at hqi
             split at hqi <;> first | assumption | cases hqi
           have hop:opS P Γ oi s.eval (Qav ⟨Qa7 ops.toList [],pr⟩ s.nx i s.heap) (s.nx + 8*i)=some ei:=by
             unfold Qgs at hai
             rw [hgi] at hai
             exact hai
           obtain ⟨_,x,rfl⟩:=Q1k hqi hop
           have hu0:Qcn (Qa0 Γ oi) (Qav ⟨Qa7 ops.toList [],pr⟩ s.nx i s.heap) s.heap (s.nx + 8*i) []=true:=rfl
           have h2:=after _ HN.2
           unfold Qge at h2 ⊢
           rw [hf.act s (x:=x) hu0,hf.stop s (x:=x) hu0,hsj] at h2
           rw [hsj]
           cases haj:Qgs P Γ ops.toList ⟨Qa7 ops.toList [],pr⟩ j oj s with
           | none=>rw [haj] at h2; exact h2.elim
           | some ej =>
             rw [haj] at h2
             simp only at h2 ⊢
             rw [hf.stopE s (x:=x) hu0] at h2
             refine Eff.bind_mono (fun y v hy=>⟨?_,fun _=>?_,hy.2.2⟩) h2
             · rw [← hf.upd s (x:=x) hu0]; exact hy.1
             · have:=hy.2.1 trivial
               rw [Qu1,Qmw (Qid hoi) (fun k o ho hik hb=>(pair j k oj o hoj (by simpa using ho) hik hb).2 hmj) ops.toList 0 (fun j=>by simp)] at this
               exact this
theorem Qw2 {KP:SV→Qbo→Prop} (hok:Qe1 P Γ ops ⟨Qa7 ops.toList [],pr⟩=true):∀ (l:List Oper) (k:Nat) (listed:Array Bool) (s:St),(∀ (j:Nat),l[j]?=ops[k + j]?)→listed.size=ops.size→(∀ j,j<ops.size→listed.getD j true=decide (j<k))→listed.toList.count false≤l.length →
   Qzs P Γ ops.toList ⟨Qa7 ops.toList [],pr⟩ true KP K l k s→Qno P Γ ops ⟨Qa7 ops.toList [],pr⟩ KP K l.length listed s
 | [],k,listed,s,hl,hsz,hlist,hcnt,h=>by
   refine ⟨?_,h⟩
   cases hr:Region.ready .any ops listed with
   | nil=>rfl
   | cons x xs =>
     exfalso
     have hx:x∈Region.ready .any ops listed:=by rw [hr]; simp
     obtain ⟨h1,o,h2,_⟩:=mem_ready.1 hx
     have hlt:=(Array.getElem?_eq_some_iff.1 h2).1
     have:=hlist x hlt
     rw [h1] at this
     have hkx:¬ x<k:=by simpa using this.symm
     have:=hl (x - k)
     rw [show k + (x - k)=x by omega,h2] at this
     simp at this
 | o :: l,k,listed,s,hl,hsz,hlist,hcnt,h=>by
   have h0:ops[k]?=some o:=by simpa using (hl 0).symm
   have hklt:=(Array.getElem?_eq_some_iff.1 h0).1
   have hok':=hok
   simp only [Qe1,Bool.and_eq_true] at hok'
   have hback:∀ (j:Nat) o,ops.toList[j]?=some o→∀ e∈o.after.toList,Region.binds .any e=true→e.on<j:=fun j o ho e he hb=>by
     have:=Qby hok'.1.1 j o ho e he hb
     omega
   have lower:∀ j,j<k→listed.getD j false=true:=fun j hj=>by
     have:=hlist j (by omega)
     have hjs:j<listed.size:=by omega
     simp [hjs] at this ⊢
     rw [this]; simpa using hj
   have hclosed:Qgw ops listed:=fun j oj hoj hlj e he hb=>by
     have hjlt:=(Array.getElem?_eq_some_iff.1 hoj).1
     have h1:=hlist j hjlt
     have hjs:j<listed.size:=by omega
     have hjk:j<k:=by
       simp [hjs] at h1 hlj
       rw [hlj] at h1
       simpa using h1.symm
     have:=hback j oj (by simpa using hoj) e (by simpa using he) hb
     exact lower e.on (by omega)
   have hready:k∈Region.ready .any ops listed:=mem_ready.2 ⟨by rw [hlist k hklt]; simp,o,h0,fun e he hb=>lower e.on (hback k o (by simpa using h0) e (by simpa using he) hb)⟩
   refine Q3w hok h0 l.length listed s hclosed hsz hready lower hcnt ?_
   refine Qxc (fun s1 h1=>Qw2 hok l (k + 1) _ s1 (fun j=>by have:=hl (j + 1); simpa [Nat.add_assoc,Nat.add_comm 1 j] using this) (by simpa using hsz) (fun j hj=>?_) ?_ h1) (Q0d h)
   · by_cases hjk:j=k
     · subst hjk
       have hjs:j<listed.size:=by omega
       simp [hjs]
     · rw [getD_set_ne true (Ne.symm hjk),hlist j hj]
       have:(j<k)↔(j<k + 1):=by omega
       simp [this]
   · have:=Qm7 (Qfd hready hsz)
     rw [Array.toList_setIfInBounds]
     simp only [List.length_cons] at hcnt
     omega
end
end Go.SE
end
