/-
 What the proof uses, part 2.
-/
import Derived.Laws.Cells
import Derived.Laws.Rows
import Derived.Below
import Derived.Test.YthkihlpeaidlnaaGreatZr1
set_option maxRecDepth 100000
set_option linter.unusedSimpArgs false
set_option linter.unusedVariables false

section
namespace Go.SE
structure Loc where
 r:Nat
 s:Nat
 o:Nat
 n:Nat
 no:Bool:=false
 /-- A slice of it may have more capacity than is said. -/
 loose:Bool:=false
def Qnu:Obj→Bool
 | .cells _ _ _=>true
 | .map _ _=>true
 | _=>false
structure Fz where
 r:Nat
 s:Nat
 o:Nat
 n:Nat
 row:Nat→List Value
structure Dict where
 nm:Nat→Option Loc
 fz:Fz→Prop
instance:CoeFun Dict (fun _=>Nat→Option Loc):=⟨Dict.nm⟩
def Fz.at (q:Fz) (w:World):Prop:=∃ c e z,w.heap[q.r]?=some (.cells c e z)∧q.o + q.n*q.s≤c.size∧∀ i,i<q.n→(q.row i).length=q.s∧∀ j x,(q.row i)[j]?=some x→c[q.o + i*q.s + j]?=some x
mutual
def Qah (δ:Dict):SV→Value→Prop
 | .unk,_=>True
 | .v x,r=>r=x
 | .vp k j,r=>∃ p,δ k=some p∧0<p.n∧r=.pointer (some ⟨p.r,p.o + j,none⟩)
 | .ptr k i j,r=>∃ p,δ k=some p∧i<p.n∧r=.pointer (some ⟨p.r,p.o + i*p.s + j,none⟩)
 | .sl k s i l c,r=>∃ p,δ k=some p∧p.s=s∧i + l≤p.n∧((p.no=false∧∃ c',(c'=c∨(p.loose=true∧l≤c'))∧r=.slice (some ⟨p.r,p.o + i*s,none⟩) l c')∨(l=0∧(c=0∨p.loose=true)∧∃ a,r=.slice a 0 0))
 | .ap k m len,r=>∃ p,δ k=some p∧p.s=m∧p.n=len∧p.no=false∧r=.pointer (some ⟨p.r,p.o,none⟩)
 | .fn f caps,r=>∃ xs:List Value,r=.func (.func f) #[] xs.toArray∧Qaw δ caps xs
 | .ifc t x,r=>∃ y:Value,r=.iface t y∧Qah δ x y
 | .mp k,r=>∃ p,δ k=some p∧p.no=false∧r=.map (some p.r)
 | .fz s n row,r=>(n=0∧∃ a,r=.slice a 0 0)∨∃ q c,δ.fz q∧q.s=s∧q.n=n∧(∀ i,i<n→q.row i=row i)∧n≤c∧r=.slice (some ⟨q.r,q.o,none⟩) n c
 | .agg cs,r=>∃ xs:List Value,r=.agg xs.toArray∧Qaw δ cs xs
 | .tup vs,r=>∃ xs:List Value,r=.tuple xs.toArray∧Qaw δ vs xs
def Qaw (δ:Dict):List SV→List Value→Prop
 | [],[]=>True
 | x :: xs,y :: ys=>Qah δ x y∧Qaw δ xs ys
 | [],_ :: _=>False
 | _ :: _,[]=>False
end
structure Dict.le (δ δ':Dict):Prop where
 nm:∀ k p,δ k=some p→δ' k=some p
 fz:∀ q,δ.fz q→δ'.fz q
instance {δ δ':Dict}:CoeFun (δ.le δ') (fun _=>∀ k p,δ k=some p→δ' k=some p):=⟨Dict.le.nm⟩
theorem Dict.le_refl (δ:Dict):δ.le δ:=⟨fun _ _ h=>h,fun _ h=>h⟩
theorem Dict.le_trans {a b c:Dict} (h:a.le b) (h':b.le c):a.le c:=⟨fun k p hk=>h' k p (h k p hk),fun q hq=>h'.fz q (h.fz q hq)⟩
mutual
theorem Qb4 {δ δ':Dict} (h:δ.le δ'):∀ (x:SV) (r:Value),Qah δ x r→Qah δ' x r
 | .unk,_,_=>by simp only [Qah]
 | .v x,r,hr=>by simp only [Qah] at *; exact hr
 | .vp k j,r,hr=>by
   simp only [Qah] at *
   obtain ⟨p,h1,h2⟩:=hr
   exact ⟨p,h _ _ h1,h2⟩
 | .ptr k i j,r,hr=>by
   simp only [Qah] at *
   obtain ⟨p,h1,h2⟩:=hr
   exact ⟨p,h _ _ h1,h2⟩
 | .sl k s i l c,r,hr=>by
   simp only [Qah] at *
   obtain ⟨p,h1,h2⟩:=hr
   exact ⟨p,h _ _ h1,h2⟩
 | .ap k m l,r,hr=>by
   simp only [Qah] at *
   obtain ⟨p,h1,h2⟩:=hr
   exact ⟨p,h _ _ h1,h2⟩
 | .fn f caps,r,hr=>by
   simp only [Qah] at *
   obtain ⟨xs,h1,h2⟩:=hr
   exact ⟨xs,h1,Qc6 h caps xs h2⟩
 | .ifc t x,r,hr=>by
   simp only [Qah] at *
   obtain ⟨y,h1,h2⟩:=hr
   exact ⟨y,h1,Qb4 h x y h2⟩
 | .mp k,r,hr=>by
   simp only [Qah] at *
   obtain ⟨p,h1,h2⟩:=hr
   exact ⟨p,h _ _ h1,h2⟩
 | .fz s n row,r,hr=>by
   simp only [Qah] at *
   rcases hr with h1 | ⟨q,c,h1,h2⟩
   · exact .inl h1
   · exact .inr ⟨q,c,h.fz q h1,h2⟩
 | .agg cs,r,hr=>by
   simp only [Qah] at *
   obtain ⟨xs,h1,h2⟩:=hr
   exact ⟨xs,h1,Qc6 h cs xs h2⟩
 | .tup vs,r,hr=>by
   simp only [Qah] at *
   obtain ⟨xs,h1,h2⟩:=hr
   exact ⟨xs,h1,Qc6 h vs xs h2⟩
theorem Qc6 {δ δ':Dict} (h:δ.le δ'):∀ (xs:List SV) (rs:List Value),Qaw δ xs rs→Qaw δ' xs rs
 | [],[],_=>by simp only [Qaw]
 | x :: xs,r :: rs,hr=>by
   simp only [Qaw] at *
   exact ⟨Qb4 h x r hr.1,Qc6 h xs rs hr.2⟩
 | [],_ :: _,hr=>by simp only [Qaw] at hr
 | _ :: _,[],hr=>by simp only [Qaw] at hr
end
theorem Qa6 {δ:Dict}:∀ {xs:List SV} {rs:List Value},Qaw δ xs rs→xs.length=rs.length
 | [],[],_=>rfl
 | _ :: _,_ :: _,h=>by simp only [Qaw] at h; simp [Qa6 h.2]
 | [],_ :: _,h=>by simp only [Qaw] at h
 | _ :: _,[],h=>by simp only [Qaw] at h
theorem Qb5 {δ:Dict}:∀ {xs:List SV} {rs:List Value},Qaw δ xs rs→∀ {i:Nat} {x:SV},xs[i]?=some x→∃ r,rs[i]?=some r∧Qah δ x r
 | [],[],_,i,x,h=>by simp at h
 | y :: ys,r :: rs,h,0,x,hx=>by simp only [Qaw] at h; simp at hx; subst hx; exact ⟨r,rfl,h.1⟩
 | y :: ys,r :: rs,h,i + 1,x,hx=>by simp only [Qaw] at h; simp at hx ⊢; exact Qb5 h.2 hx
 | [],_ :: _,h,_,_,_=>by simp only [Qaw] at h
 | _ :: _,[],h,_,_,_=>by simp only [Qaw] at h
theorem Qei {δ:Dict}:∀ {xs:List SV} {rs:List Value},xs.length=rs.length→(∀ (i:Nat) (x:SV),xs[i]?=some x→∃ r,rs[i]?=some r∧Qah δ x r)→Qaw δ xs rs
 | [],[],_,_=>by simp only [Qaw]
 | y :: ys,r :: rs,hl,h=>by
   simp only [Qaw]
   refine ⟨?_,Qei (by simpa using hl) fun i x hx=>?_⟩
   · obtain ⟨r',h1,h2⟩:=h 0 y rfl
     simp at h1; subst h1; exact h2
   · have:=h (i + 1) x (by simpa using hx)
     simpa using this
 | [],_ :: _,hl,_=>by simp at hl
 | _ :: _,[],hl,_=>by simp at hl
theorem Qgt {δ:Dict}:∀ {xs:List SV} {rs:List Value} {ys:List SV} {ts:List Value},Qaw δ xs rs→Qaw δ ys ts→Qaw δ (xs++ys) (rs++ts)
 | [],[],_,_,_,h'=>by simpa using h'
 | x :: xs,r :: rs,ys,ts,h,h'=>by
   simp only [Qaw,List.cons_append] at *
   exact ⟨h.1,Qgt h.2 h'⟩
 | [],_ :: _,_,_,h,_=>by simp only [Qaw] at h
 | _ :: _,[],_,_,h,_=>by simp only [Qaw] at h
theorem Qdh {δ:Dict} (n:Nat):∀ {xs:List SV} {rs:List Value},Qaw δ xs rs→Qaw δ (xs.take n) (rs.take n):=by
 induction n with
 | zero=>intro xs rs _; simp [Qaw]
 | succ n ih =>
   intro xs rs h
   match xs,rs,h with
   | [],[],_=>simp [Qaw]
   | x :: xs,r :: rs,h=>simp only [Qaw] at h; simp only [List.take_succ_cons,Qaw]; exact ⟨h.1,ih h.2⟩
   | [],_ :: _,h=>simp only [Qaw] at h
   | _ :: _,[],h=>simp only [Qaw] at h
theorem Qdi {δ:Dict} (n:Nat):∀ {xs:List SV} {rs:List Value},Qaw δ xs rs→Qaw δ (xs.drop n) (rs.drop n):=by
 induction n with
 | zero=>intro xs rs h; simpa using h
 | succ n ih =>
   intro xs rs h
   match xs,rs,h with
   | [],[],_=>simp [Qaw]
   | x :: xs,r :: rs,h=>simp only [Qaw] at h; simpa using ih h.2
   | [],_ :: _,h=>simp only [Qaw] at h
   | _ :: _,[],h=>simp only [Qaw] at h
theorem Qq2 {δ:Dict}:∀ {xs:List SV} {rs:List Value},Qaw δ xs rs→∀ (t:Nat) {x:SV} {r:Value},Qah δ x r→Qaw δ (xs.set t x) (rs.set t r)
 | [],[],_,_,_,_,_=>by simp [Qaw]
 | _ :: _,_ :: _,h,0,_,_,hx=>by simp only [Qaw,List.set_cons_zero] at *; exact ⟨hx,h.2⟩
 | _ :: _,_ :: _,h,t + 1,_,_,hx=>by simp only [Qaw,List.set_cons_succ] at *; exact ⟨h.1,Qq2 h.2 t hx⟩
 | [],_ :: _,h,_,_,_,_=>by simp only [Qaw] at h
 | _ :: _,[],h,_,_,_,_=>by simp only [Qaw] at h
theorem Qkh {δ:Dict}:∀ l:List Value,Qaw δ (l.map .v) l
 | []=>by simp [Qaw]
 | x :: l=>by simp only [List.map_cons,Qaw,Qah,true_and]; exact Qkh l
theorem Qie {δ:Dict} {x:SV} {r:Value} (h:Qah δ x r):∀ n,Qaw δ (List.replicate n x) (List.replicate n r)
 | 0=>by simp [Qaw]
 | n + 1=>by simp only [List.replicate_succ,Qaw]; exact ⟨h,Qie h n⟩
def Qcr (r:Value):Prop:=(∀ cs,r≠.agg cs)∧(∀ vs,r≠.tuple vs)
theorem Qef {δ:Dict} {x:SV} {r:Value} (h:Qep x=true) (hx:Qah δ x r):Qcr r:=by
 cases x <;> simp only [Qah,Qep] at*<;> try (cases h; done)
 case v y=>subst hx; cases r <;> simp_all [Qcr]
 case vp=>obtain ⟨p,_,_,rfl⟩:=hx; simp [Qcr]
 case ptr=>obtain ⟨p,_,_,rfl⟩:=hx; simp [Qcr]
 case sl=>obtain ⟨p,_,_,_,⟨_,_,_,rfl⟩ | ⟨_,_,a,rfl⟩⟩:=hx <;> simp [Qcr]
 case mp=>obtain ⟨p,_,_,rfl⟩:=hx; simp [Qcr]
 case fz=>obtain ⟨_,_,rfl⟩ | ⟨_,_,_,_,_,_,_,rfl⟩:=hx <;> simp [Qcr]
 case ap=>obtain ⟨p,_,_,_,_,rfl⟩:=hx; simp [Qcr]
 case fn=>obtain ⟨xs,rfl,_⟩:=hx; simp [Qcr]
 case ifc=>obtain ⟨y,rfl,_⟩:=hx; simp [Qcr]
theorem Qk8 {r:Value} (h:Qcr r):r.cells=#[r]:=by
 cases r <;> simp_all [Qcr,Value.cells]
theorem Qir {δ:Dict} {x:SV} {r:Value} {l:List SV} (h:Qh8 x=some l) (hx:Qah δ x r):Qaw δ l r.cells.toList:=by
 have key:Qep x=true→l=[x]→Qaw δ l r.cells.toList:=fun hc hl=>by
   rw [Qk8 (Qef hc hx),hl]
   simp only [Qaw,and_true]; exact hx
 have gen:(bif Qep x then some [x] else none)=some l→Qaw δ l r.cells.toList:=fun h=>by
   cases hc:Qep x with
   | false=>simp only [hc,cond_false] at h; cases h
   | true=>simp only [hc,cond_true,Option.some.injEq] at h; exact key hc h.symm
 cases x with
 | agg cs =>
   simp only [Qh8,Option.some.injEq] at h
   simp only [Qah] at hx
   obtain ⟨xs,rfl,h2⟩:=hx
   simpa [Value.cells,← h] using h2
 | unk=>exact gen h
 | v=>exact gen h
 | vp=>exact gen h
 | ptr=>exact gen h
 | sl=>exact gen h
 | ap=>exact gen h
 | fn=>exact gen h
 | tup=>exact gen h
 | ifc=>exact gen h
 | mp=>exact gen h
 | fz=>exact gen h
theorem Qv2 {δ:Dict}:∀ {xs:List SV} {rs:List Value},xs.all Qep=true→Qaw δ xs rs→∀ r∈rs,Qcr r
 | [],[],_,_,_,hr=>by cases hr
 | x :: xs,y :: ys,ha,h,r,hr=>by
   simp only [List.all_cons,Bool.and_eq_true,Qaw] at ha h
   rcases List.mem_cons.1 hr with rfl | hr
   · exact Qef ha.1 h.1
   · exact Qv2 ha.2 h.2 r hr
 | [],_ :: _,_,h,_,_=>by simp only [Qaw] at h
 | _ :: _,[],_,h,_,_=>by simp only [Qaw] at h
def Qf2 (δ:Dict) (c:Array Value) (size off i:Nat) (row:List SV):Prop :=
 row.length=size∧∀ j x,row[j]?=some x→∃ r,c[off + i*size + j]?=some r∧Qah δ x r
def Zcg (n:Nat) (fz:Nat×Nat):Prop:=fz.2=0∨n≤fz.1
structure MapRep (sz:Nat) (m:MapC) (es:Array MapEntry) (clock:Nat):Prop where
 cnt:es.size=m.cnt
 key:∀ x∈es.toList,∃ k:Int,x.key=.int .i64 k
 wf:∀ x∈es.toList,∀ k:Int,x.key=.int .i64 k→(Lit.int .i64 k).wf=true
 one:es.toList.Pairwise fun x y=>x.key≠y.key
 has:∀ k:Int,m.has k=true↔∃ x∈es.toList,x.key=.int .i64 k
 val:∀ x∈es.toList,∀ k:Int,x.key=.int .i64 k→x.val=.agg ((List.range sz).map fun i=>.int .i64 (m.val k i)).toArray
 off:∀ k:Int,m.has k=false→∀ i,i<sz→m.val k i=0
 born:∀ x∈es.toList,x.born<clock
 apart:es.toList.Pairwise fun x y=>x.born≠y.born
def Qcm (δ:Dict) (b:Blk) (w:World) (r o:Nat):Prop :=
 match b.sp with
 | some m=>∃ es clock,w.heap[r]?=some (.map es clock)∧MapRep b.size m es clock
 | none=>∃ c e fz,w.heap[r]?=some (.cells c e fz)∧(b.rw=true→Zcg c.size fz)∧(b.flat=true→∀ i,i<b.n→Qan (b.row i)=true)∧(b.elem≠0→e=b.elem)∧o + b.ext*b.size≤c.size∧(b.whole=true→o=0∧c.size=b.size∧(b.rw=true→fz.2=0)) ∧
   ∀ i,i<b.n→Qf2 δ c b.size o i (b.row i)
structure Live (δ:Dict) (b:Blk) (w:World) (p:Loc):Prop where
 s:p.s=b.size
 n:p.n=b.n
 no:p.no=true→b.n=0∧b.ext=0
 rep:p.no=false→Qcm δ b w p.r p.o
 loose:p.loose=true→b.rw=false
def Qc9 (δ:Dict) (h:Qbo) (k r:Nat):Prop:=∃ b p,h k=some b∧b.dead=false∧δ k=some p∧p.no=false∧p.r=r
structure HRep (δ:Dict) (h:Qbo) (w:World):Prop where
 blk:∀ k b,h k=some b→∃ p,δ k=some p∧(b.dead=false→Live δ b w p)
 inj:∀ k k' r b,Qc9 δ h k r→Qc9 δ h k' r→h k=some b→b.rw=true→k=k'
 fz:∀ q,δ.fz q→q.at w∧∀ k b,h k=some b→b.rw=true→¬ Qc9 δ h k q.r
def Qfl (δ:Dict) (h:Qbo) (r:Nat):Prop:=∃ k b,h k=some b∧b.rw=true∧Qc9 δ h k r
theorem Fz.at_lt {q:Fz} {w:World} (h:q.at w):q.r<w.heap.size:=by
 obtain ⟨c,e,fz,h1,_⟩:=h
 rcases Nat.lt_or_ge q.r w.heap.size with h | h
 · exact h
 · simp [Array.getElem?_eq_none h] at h1
theorem Fz.at_same {q:Fz} {w w':World} (h:q.at w) (hs:w'.heap[q.r]?=w.heap[q.r]?):q.at w':=by
 obtain ⟨c,e,z,h1,h2⟩:=h
 exact ⟨c,e,z,by rw [hs,h1],h2⟩
structure Own where
 f:Nat→Prop
 z:Fz→Prop
instance:CoeFun Own (fun _=>Nat→Prop):=⟨Own.f⟩
instance:Coe Own (Nat→Prop):=⟨Own.f⟩
structure WRel (own:Nat→Prop) (w w':World):Prop where
 os:w'.os=w.os
 tape:w'.tape=w.tape
 output:w'.output=w.output
 size:w.heap.size≤w'.heap.size
 block:∀ r,r<w.heap.size→¬ own r→w'.heap[r]?=w.heap[r]?
theorem WRel.refl (own:Nat→Prop) (w:World):WRel own w w:=⟨rfl,rfl,rfl,Nat.le_refl _,fun _ _ _=>rfl⟩
theorem WRel.trans {own:Nat→Prop} {a b c:World} (h:WRel own a b) (h':WRel own b c):WRel own a c :=
 ⟨h'.os.trans h.os,h'.tape.trans h.tape,h'.output.trans h.output,Nat.le_trans h.size h'.size,fun r hr ho=>(h'.block r (Nat.lt_of_lt_of_le hr h.size) ho).trans (h.block r hr ho)⟩
theorem WRel.mono {own own':Nat→Prop} {w w':World} (h:WRel own w w') (hs:∀ r,r<w.heap.size→own r→own' r):WRel own' w w' :=
 ⟨h.os,h.tape,h.output,h.size,fun r hr ho=>h.block r hr fun hx=>ho (hs r hr hx)⟩
theorem WRel.of_below {own:Nat→Prop} {w w':World} (h:Go.RowKit.Below w.heap.size w w'):WRel own w w' :=
 ⟨h.os,h.tape,h.output,h.size,fun r hr _=>h.block r hr⟩
theorem WRel.drew {own:Nat→Prop} {w0 w:World} (h:WRel own w0 w):WRel own w0 {w with drawn:=w.drawn + 1}:=⟨h.os,h.tape,h.output,h.size,h.block⟩
structure Upd (δ:Dict) (h:Qbo) (w:World) (δ':Dict) (u:List (Nat×Blk)) (w':World):Prop where
 le:δ.le δ'
 rep:HRep δ' (Qb3 h u) w'
 fresh:∀ k,δ k=none→δ' k≠none→Qac k u=true
 place:∀ k p,δ k=none→δ' k=some p→p.no=false→w.heap.size≤p.r∨Qfl δ h p.r
 wrel:WRel (Qfl δ h) w w'
 fzp:∀ q,δ'.fz q→δ.fz q∨w.heap.size≤q.r∨Qfl δ h q.r
theorem Qbc {a b:Nat} (h:a≠b):Nat.beq a b=false:=by
 cases e:Nat.beq a b with
 | false=>rfl
 | true=>exact absurd (Nat.eq_of_beq_eq_true e) h
theorem Qjd (h:Qbo):Qb3 h []=h:=rfl
theorem Upd.same {δ:Dict} {h:Qbo} {w:World} (hr:HRep δ h w):Upd δ h w δ [] w :=
 ⟨δ.le_refl,hr,fun k h0 h1=>absurd h0 h1,fun k p h0 h1=>(by rw [h0] at h1; cases h1),WRel.refl _ _,fun q hq=>.inl hq⟩
theorem Qat {k:Nat}:∀ (u:List (Nat×Blk)) (h:Qbo),Qac k u=false→Qb3 h u k=h k
 | [],_,_=>rfl
 | (k',b) :: rest,h,hn=>by
   simp only [Qac,Bool.or_eq_false_iff] at hn
   simp only [Qb3]
   rw [Qat rest _ hn.2]
   simp [Qew,hn.1]
theorem Qf8 {k:Nat}:∀ (u:List (Nat×Blk)) (h h':Qbo),Qac k u=true→Qb3 h u k=Qb3 h' u k
 | [],_,_,hn=>by simp [Qac] at hn
 | (k',b) :: rest,h,h',hn=>by
   simp only [Qb3]
   cases hr:Qac k rest with
   | true=>exact Qf8 rest _ _ hr
   | false =>
     rw [Qat rest _ hr,Qat rest _ hr]
     simp only [Qac,hr,Bool.or_false] at hn
     simp [Qew,hn]
theorem Qqf {k:Nat}:∀ (u:List (Nat×Blk)) (H:Qbo),Qac k u=true→Qb3 H u k≠none
 | [],_,h0=>by simp [Qac] at h0
 | (k',b') :: rest,H,h0=>by
   simp only [Qb3]
   cases hr:Qac k rest with
   | true=>exact Qqf rest _ hr
   | false =>
     rw [Qat rest _ hr]
     simp only [Qac,hr,Bool.or_false] at h0
     simp [Qew,h0]
theorem Quw {δ δ':Dict} {b:Blk} {w w':World} {r o:Nat} (h:δ.le δ') (hw:w'.heap[r]?=w.heap[r]?) (hb:Qcm δ b w r o):Qcm δ' b w' r o:=by
 unfold Qcm at *
 split at hb
 · next m hm=>obtain ⟨es,clock,h1,h2⟩:=hb; exact ⟨es,clock,by rw [hw,h1],h2⟩
 obtain ⟨c,e,fz,h1,h2,hfl,he,hx,hwh,h3⟩:=hb
 refine ⟨c,e,fz,by rw [hw,h1],h2,hfl,he,hx,hwh,fun i hi=>⟨(h3 i hi).1,fun j x hx=>?_⟩⟩
 obtain ⟨rr,h4,h5⟩:=(h3 i hi).2 j x hx
 exact ⟨rr,h4,Qb4 h _ _ h5⟩
theorem Qcw {δ:Dict} {b:Blk} {w:World} {r o:Nat} (hb:Qcm δ b w r o):r<w.heap.size:=by
 rcases Nat.lt_or_ge r w.heap.size with h | h
 · exact h
 · unfold Qcm at hb
   split at hb
   · obtain ⟨es,clock,h1,_⟩:=hb; simp [Array.getElem?_eq_none h] at h1
   · obtain ⟨c,e,fz,h1,_⟩:=hb; simp [Array.getElem?_eq_none h] at h1
theorem Blk.off_false {b:Blk} (h:b.off=false):b.dead=false∧b.sp=none:=by
 unfold Blk.off at h
 simp only [Bool.or_eq_false_iff] at h
 exact ⟨h.1,by cases e:b.sp with | none=>rfl | some m=>rw [e] at h; simp at h⟩
theorem Qap {δ:Dict} {b:Blk} {w:World} {r o:Nat} (hs:b.sp=none) (hb:Qcm δ b w r o) :
   ∃ c e fz,w.heap[r]?=some (.cells c e fz)∧(b.rw=true→Zcg c.size fz)∧(b.flat=true→∀ i,i<b.n→Qan (b.row i)=true)∧(b.elem≠0→e=b.elem)∧o + b.ext*b.size≤c.size∧(b.whole=true→o=0∧c.size=b.size∧(b.rw=true→fz.2=0)) ∧
   ∀ i,i<b.n→Qf2 δ c b.size o i (b.row i):=by
 unfold Qcm at hb
 rw [hs] at hb
 exact hb
theorem Qbt {δ:Dict} {b:Blk} {w:World} {r o:Nat} (hs:b.sp=none) (hb:∃ c e fz,w.heap[r]?=some (.cells c e fz)∧(b.rw=true→Zcg c.size fz)∧(b.flat=true→∀ i,i<b.n→Qan (b.row i)=true)∧(b.elem≠0→e=b.elem)∧o + b.ext*b.size≤c.size∧(b.whole=true→o=0∧c.size=b.size∧(b.rw=true→fz.2=0)) ∧
   ∀ i,i<b.n→Qf2 δ c b.size o i (b.row i)):Qcm δ b w r o:=by
 unfold Qcm
 rw [hs]
 exact hb
theorem Qnd {δ:Dict} {b:Blk} {w w':World} {r o:Nat} (h:∀ x,w.heap[r]?=some x→Qnu x=true→w'.heap[r]?=some x) (hb:Qcm δ b w r o):Qcm δ b w' r o:=by
 unfold Qcm at *
 split at hb
 · obtain ⟨es,clock,h1,h2⟩:=hb; exact ⟨es,clock,h _ h1 rfl,h2⟩
 · obtain ⟨c,e,fz,h1,h2⟩:=hb; exact ⟨c,e,fz,h _ h1 rfl,h2⟩
theorem Qux {δ:Dict} {b b':Blk} {w:World} {r o:Nat} (h1:b'.size=b.size) (h2:b'.rw=b.rw) (h3:b'.n=b.n) (h4:b'.row=b.row) (h5:b'.flat=b.flat) (h6:b'.ext=b.ext) (h7:b'.elem=b.elem) (h8:b'.whole=b.whole) (h9:b'.sp=b.sp)
   (hb:Qcm δ b' w r o):Qcm δ b w r o:=by
 unfold Qcm at *
 rw [← h9]
 cases hs:b'.sp with
 | some m=>rw [hs] at hb; simp only at hb ⊢; rw [← h1]; exact hb
 | none =>
   rw [hs] at hb
   simp only at hb ⊢
   rw [← h1,← h2,← h3,← h4,← h5,← h6,← h7,← h8]
   exact hb
theorem Fz.at_data {q:Fz} {w w':World} (h:∀ x,w.heap[q.r]?=some x→Qnu x=true→w'.heap[q.r]?=some x) (hq:q.at w):q.at w':=by
 obtain ⟨c,e,z,h1,h2⟩:=hq
 exact ⟨c,e,z,h _ h1 rfl,h2⟩
theorem Live.mono {δ δ':Dict} {b:Blk} {w w':World} {p:Loc} (hl:Live δ b w p) (h:δ.le δ') (hw:p.no=false→w'.heap[p.r]?=w.heap[p.r]?):Live δ' b w' p :=
 ⟨hl.s,hl.n,hl.no,fun hn=>Quw h (hw hn) (hl.rep hn),hl.loose⟩
theorem Live.notNo {δ:Dict} {b:Blk} {w:World} {p:Loc} (hl:Live δ b w p) (hn:0<p.n):p.no=false:=by
 cases h:p.no with
 | false=>rfl
 | true=>have:=(hl.no h).1; have:=hl.n; omega
theorem Qdq {δ:Dict} {h:Qbo} {w:World} (hr:HRep δ h w) {k r:Nat} (hl:Qc9 δ h k r):r<w.heap.size:=by
 obtain ⟨b,p,h1,h2,h3,h4,h5⟩:=hl
 obtain ⟨p',g1,g2⟩:=hr.blk k b h1
 rw [h3] at g1; cases g1
 rw [← h5]
 exact Qcw ((g2 h2).rep h4)
def Qzx (h H:Qbo) (u:List (Nat×Blk)):Prop:=∀ k,Qac k u=true→(∃ b,h k=some b∧b.rw=true∧b.dead=false)∨(h k=none∧H k=none)
theorem Upd.lift {δ δ':Dict} {h H:Qbo} {w w':World} {u:List (Nat×Blk)} (hu:Upd δ h w δ' u w') (hH:HRep δ H w) (hsub:∀ k b,h k=some b→H k=some b)
   (htight:∀ k,H k=none→δ k=none) (hf:Qzx h H u):HRep δ' (Qb3 H u) w'∧(∀ k,Qb3 H u k=none→δ' k=none)∧WRel (Qfl δ H) w w':=by
 have hlies:∀ k r,Qc9 δ h k r→Qc9 δ H k r:=fun k r ⟨b,p,h1,h2⟩=>⟨b,p,hsub k b h1,h2⟩
 have hrw:∀ r,Qfl δ h r→Qfl δ H r:=fun r ⟨k,b,h1,h2,h3⟩=>⟨k,b,hsub k b h1,h2,hlies k r h3⟩
 -- what may be written is seen
 have apart:∀ k r,h k=none→Qc9 δ H k r→¬ Qfl δ h r:=fun k r hn hl ⟨k',b',g1,g2,g3⟩=>by
   have:=hH.inj k' k r b' (hlies k' r g3) hl (hsub k' b' g1) g2
   subst this
   rw [g1] at hn; cases hn
 -- the heap behind,name by name
 have hseen:∀ k b,Qb3 H u k=some b→Qac k u=true∨h k≠none→Qb3 h u k=some b:=fun k b hk hor=>by
   cases hi:Qac k u with
   | true=>rw [Qf8 u h H hi]; exact hk
   | false =>
     rw [Qat u H hi] at hk
     rw [Qat u h hi]
     rcases hor with hor | hor
     · rw [hi] at hor; cases hor
     · cases hh:h k with
       | none=>exact absurd hh hor
       | some b'=>rw [← hk,hsub k b' hh]
 have cls:∀ k r,Qc9 δ' (Qb3 H u) k r→(Qc9 δ' (Qb3 h u) k r∧(Qac k u=true∨h k≠none))∨(h k=none∧Qac k u=false∧Qc9 δ H k r):=fun k r ⟨b,p,h1,h2,h3,h4,h5⟩=>by
   by_cases hor:Qac k u=true∨h k≠none
   · exact .inl ⟨⟨b,p,hseen k b h1 hor,h2,h3,h4,h5⟩,hor⟩
   · simp only [not_or,Bool.not_eq_true,ne_eq,Decidable.not_not] at hor
     rw [Qat u H hor.1] at h1
     obtain ⟨p',g1,_⟩:=hH.blk k b h1
     have:=hu.le _ _ g1
     rw [h3] at this; cases this
     exact .inr ⟨hor.2,hor.1,⟨b,p,h1,h2,g1,h4,h5⟩⟩
 -- one that is seen or new against one that is hidden
 have mix:∀ k k' r b,Qc9 δ' (Qb3 h u) k r→(Qac k u=true∨h k≠none)→h k'=none→Qc9 δ H k' r→(Qb3 H u k=some b∧b.rw=true∨H k'=some b∧b.rw=true)→False:=by
   intro k k' r b hl hor hn' hl' hb
   have hlt:=Qdq hH hl'
   obtain ⟨bk,p,h1,h2,h3,h4,h5⟩:=hl
   cases hdk:δ k with
   | none =>
     rcases hu.place k p hdk h3 h4 with h | h
     · omega
     · rw [h5] at h; exact apart k' r hn' hl' h
   | some q =>
     have h6:=hu.le _ _ hdk
     rw [h3] at h6; cases h6
     -- k was seen
     have hvis:∃ b0,h k=some b0∧b0.dead=false∧(b0.rw=true∨(Qac k u=false∧b0=bk)):=by
       cases hi:Qac k u with
       | true =>
         rcases hf k hi with ⟨b0,h2,h3,h4⟩ | ⟨_,h3⟩
         · exact ⟨b0,h2,h4,.inl h3⟩
         · rw [htight k h3] at hdk; cases hdk
       | false =>
         rw [hi] at hor
         simp only [Bool.false_eq_true,false_or] at hor
         cases hh:h k with
         | none=>exact absurd hh hor
         | some b0 =>
           rw [Qat u h hi,hh] at h1
           cases h1
           exact ⟨_,rfl,h2,.inr ⟨rfl,rfl⟩⟩
     obtain ⟨b0,g1,g2,g3⟩:=hvis
     have hne:k≠k':=fun e=>by subst e; rw [g1] at hn'; cases hn'
     have hlk:Qc9 δ H k r:=⟨b0,p,hsub _ _ g1,g2,hdk,h4,h5⟩
     rcases g3 with g3 | ⟨g4,rfl⟩
     · exact hne (hH.inj k k' r b0 hlk hl' (hsub _ _ g1) g3)
     · rcases hb with ⟨hb1,hb2⟩ | ⟨hb1,hb2⟩
       · rw [Qat u H g4,hsub k _ g1] at hb1
         cases hb1
         exact hne (hH.inj k k' r _ hlk hl' (hsub _ _ g1) hb2)
       · exact hne (hH.inj k' k r b hl' hlk hb1 hb2).symm
 refine ⟨⟨fun k b hk=>?_,fun k k' r b hl hl' hk hb=>?_,fun q hq=>⟨(hu.rep.fz q hq).1,fun k b hk hb hl=>?_⟩⟩,fun k hk=>?_,hu.wrel.mono fun r _=>hrw r⟩
 · by_cases hor:Qac k u=true∨h k≠none
   · exact hu.rep.blk k b (hseen k b hk hor)
   · simp only [not_or,Bool.not_eq_true,ne_eq,Decidable.not_not] at hor
     rw [Qat u H hor.1] at hk
     obtain ⟨p,h1,h2⟩:=hH.blk k b hk
     refine ⟨p,hu.le _ _ h1,fun hd=>(h2 hd).mono hu.le fun hn=>?_⟩
     exact hu.wrel.block p.r (Qcw ((h2 hd).rep hn)) (apart k p.r hor.2 ⟨b,p,hk,hd,h1,hn,rfl⟩)
 · -- two names of one block
   rcases cls k r hl with ⟨h1,g1⟩ | ⟨h1,g1,e1⟩ <;> rcases cls k' r hl' with ⟨h2,g2⟩ | ⟨h2,g2,e2⟩
   · exact hu.rep.inj k k' r b h1 h2 (hseen k b hk g1) hb
   · exact (mix k k' r b h1 g1 h2 e2 (.inl ⟨hk,hb⟩)).elim
   · rw [Qat u H g1] at hk
     exact (mix k' k r b h2 g2 h1 e1 (.inr ⟨hk,hb⟩)).elim
   · rw [Qat u H g1] at hk
     exact hH.inj k k' r b e1 e2 hk hb
 · rcases cls k q.r hl with ⟨h1,g1⟩ | ⟨h1,g1,e1⟩
   · exact (hu.rep.fz q hq).2 k b (hseen k b hk g1) hb h1
   · rw [Qat u H g1] at hk
     rcases hu.fzp q hq with h2 | h2 | h2
     · exact (hH.fz q h2).2 k b hk hb e1
     · have:=Qdq hH e1; omega
     · exact apart k q.r h1 e1 h2
 · cases hi:Qac k u with
   | true =>
     exact (Qqf u H hi hk).elim
   | false =>
     rw [Qat u H hi] at hk
     have h0:=htight k hk
     cases hd:δ' k with
     | none=>rfl
     | some p =>
       have:=hu.fresh k h0 (by rw [hd]; simp)
       rw [hi] at this; cases this
theorem Zi1 (c:Bool) (x y:SV):mrg c x y=bif c then x else y:=by
 unfold mrg
 split
 · split
   · rename_i h; subst h; cases c <;> rfl
   · rfl
 · cases c <;> rfl
 · cases c <;> rfl
 · split
   · rename_i h; subst h; cases c <;> rfl
   · rfl
 · rfl
theorem Qeg (c:Bool):∀ (xs ys:List SV),Qns c xs ys=bif c then xs else ys
 | [],[]=>by cases c <;> rfl
 | x :: xs,y :: ys=>by
   simp only [Qns,Zi1,Qeg c xs ys]
   cases c <;> rfl
 | [],_ :: _=>rfl
 | _ :: _,[]=>rfl
mutual
theorem Qda {δ δ':Dict} (hz:∀ q,δ.fz q→δ'.fz q):∀ (x:SV) (r:Value),Qbr x=true→Qah δ x r→Qah δ' x r
 | .unk,_,_,_=>by simp only [Qah]
 | .v x,r,_,hr=>by simp only [Qah] at *; exact hr
 | .fn f caps,r,hn,hr=>by
   simp only [Qah,Qbr] at *
   obtain ⟨xs,h1,h2⟩:=hr
   exact ⟨xs,h1,Qcv hz caps xs hn h2⟩
 | .ifc t x,r,hn,hr=>by
   simp only [Qah,Qbr] at *
   obtain ⟨y,h1,h2⟩:=hr
   exact ⟨y,h1,Qda hz x y hn h2⟩
 | .agg cs,r,hn,hr=>by
   simp only [Qah,Qbr] at *
   obtain ⟨xs,h1,h2⟩:=hr
   exact ⟨xs,h1,Qcv hz cs xs hn h2⟩
 | .tup vs,r,hn,hr=>by
   simp only [Qah,Qbr] at *
   obtain ⟨xs,h1,h2⟩:=hr
   exact ⟨xs,h1,Qcv hz vs xs hn h2⟩
 | .vp _ _,_,hn,_=>by simp [Qbr] at hn
 | .ptr _ _ _,_,hn,_=>by simp [Qbr] at hn
 | .sl _ _ _ _ _,_,hn,_=>by simp [Qbr] at hn
 | .ap _ _ _,_,hn,_=>by simp [Qbr] at hn
 | .mp _,_,hn,_=>by simp [Qbr] at hn
 | .fz s n row,r,_,hr=>by
   simp only [Qah] at *
   rcases hr with h1 | ⟨q,c,h1,h2⟩
   · exact .inl h1
   · exact .inr ⟨q,c,hz q h1,h2⟩
theorem Qcv {δ δ':Dict} (hz:∀ q,δ.fz q→δ'.fz q):∀ (xs:List SV) (rs:List Value),Qan xs=true→Qaw δ xs rs→Qaw δ' xs rs
 | [],[],_,_=>by simp only [Qaw]
 | x :: xs,r :: rs,hn,hr=>by
   simp only [Qaw,Qan,Bool.and_eq_true] at *
   exact ⟨Qda hz x r hn.1 hr.1,Qcv hz xs rs hn.2 hr.2⟩
 | [],_ :: _,_,hr=>by simp only [Qaw] at hr
 | _ :: _,[],_,hr=>by simp only [Qaw] at hr
end
theorem Qfn:∀ l:List Value,Qan (l.map SV.v)=true
 | []=>rfl
 | _ :: l=>by simp only [List.map_cons,Qan,Qbr,Bool.true_and]; exact Qfn l
theorem Qd5:∀ {l:List SV},Qan l=true→∀ v∈l,Qbr v=true
 | [],_,v,hv=>by cases hv
 | a :: t,hl,v,hv=>by
   simp only [Qan,Bool.and_eq_true] at hl
   rcases List.mem_cons.1 hv with rfl | hv
   · exact hl.1
   · exact Qd5 hl.2 v hv
end Go.SE
end
