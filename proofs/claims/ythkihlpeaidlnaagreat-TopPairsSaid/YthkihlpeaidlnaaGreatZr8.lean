/-
 What the proof uses, part 8.
-/
import Derived.RangeFuncWrites
import Derived.RangeFuncCalls
import Derived.RangeFuncLeaves
import Derived.OrdersIn
import Derived.Sort.LoopGhostIn
import Derived.Test.YthkihlpeaidlnaaGreatZr7
set_option maxRecDepth 100000
set_option linter.unusedSimpArgs false
set_option linter.unusedVariables false

section
namespace Go.SE
open Go.RowKit
def WF (ro:Option Nat):Fence:={fn:=fun _=>True,depth:=none,alive:=false,round:=ro}
theorem Qjj {P:Program} {f:FuncId} {args:Array Value} {w:World} {R:Ending→World→Prop} (ro:Option Nat) (n:Nat) (h:Calls P f args w R):CallsIn (WF ro) n P f args w R:=by
 cases ro with
 | none=>exact callsIn_wide.2 h
 | some l=>exact CallsIn.inRound l (F:=WF none) (callsIn_wide.2 h)
structure Off (B:Nat) (w w':World):Prop where
 os:w'.os=w.os
 tape:w'.tape=w.tape
 output:w'.output=w.output
 size:w.heap.size≤w'.heap.size
 same:∀ (r:Nat) (o:Obj),w.heap[r]?=some o→Qnu o=true∨r<B→w'.heap[r]?=some o
theorem Off.refl (B:Nat) (w:World):Off B w w:=⟨rfl,rfl,rfl,Nat.le_refl _,fun _ _ h _=>h⟩
theorem Off.trans {B:Nat} {a b c:World} (h:Off B a b) (k:Off B b c):Off B a c :=
 ⟨k.os.trans h.os,k.tape.trans h.tape,k.output.trans h.output,Nat.le_trans h.size k.size,fun r o hr ho=>k.same r o (h.same r o hr ho) ho⟩
theorem Off.alloc (B:Nat) (w:World) (o:Obj):Off B w (w.alloc o) :=
 ⟨rfl,rfl,rfl,by simp,fun r _ hr _=>(Below.heap_alloc w o r (Array.getElem?_eq_some_iff.1 hr).1).trans hr⟩
theorem Off.putObj {B:Nat} {w:World} {l:Nat} {o:Obj} (o':Obj) (h:w.heap[l]?=some o) (hc:Qnu o=false) (hB:B≤l):Off B w (w.putObj l o') :=
 ⟨rfl,rfl,rfl,by simp,fun r x hr hx=>by
   have hne:r≠l:=fun e=>by
     subst e
     rw [h] at hr; cases hr
     rcases hx with hx | hx
     · rw [hc] at hx; cases hx
     · omega
   exact (World.putObj_heap_other hne).trans hr⟩
theorem Off.below {B:Nat} {w w':World} (h:Below w.heap.size w w'):Off B w w' :=
 ⟨h.os,h.tape,h.output,h.size,fun r _ hr _=>(h.block r (Array.getElem?_eq_some_iff.1 hr).1).trans hr⟩
def Zkb (P:Program) (g:Nat) (lb:Array Value) (encs:Nat→Array Value) (N:Nat) (Kp:World→Prop) (w:World):Prop :=
 ∀ (l:Nat) (J:Nat→World→Prop) (Jx:World→Prop) (W:World),Below w.heap.size w W →
   (∀ k W1 W2,J k W1→Below W1.heap.size W1 W2→J k W2)→(∀ W1 W2,Jx W1→Below W1.heap.size W1 W2→Jx W2)→(∀ k W1,J k W1→Kp W1) →
   (∀ k W1 m,J k W1→k<N→YieldAt Fence.wide m P l (encs k) W1 fun e W'=>(e=.returned (.bool true)∧J (k + 1) W')∨(e=.returned (.bool false)∧Jx W')) →
   J 0 W→∀ n,CallsIn Fence.wide n P g (#[.func (.yield l) #[] #[]]++lb) W fun e W'=>(∃ v,e=.returned v)∧(J N W'∨Jx W')
def Zie (B:Nat) (I:World→Prop) (Ix:Code→World→Prop) (W:World):Exit→Act→World→Prop
 | .normal,_,W'=>KeepsFrom B W W'∧I W'
 | .ret,_,W'=>KeepsFrom B W W'∧Ix .ret W'
 | .exit id,_,W'=>KeepsFrom B W W'∧Ix (.exit id) W'
 | _,_,_=>False
theorem Zid {P:Program} {g:Operand} {ps:Array Tmp} {assign body:Code} {Q:Exit→Act→World→Prop} {a:Act} {w:World} {n:Nat} {gf:Nat} {lb:Array Value} (hg:a.eval g=.func (.func gf) #[] lb)
   (eg:∀ args w,(callFunc gf args).run P w=.ok (.enter gf args) w) {encs:Nat→Array Value} {N:Nat} {Kp:World→Prop} (hseq:Zkb P gf lb encs N Kp w) (hps:∀ i,i<N→(encs i).size=ps.size)
   (I:Nat→World→Prop) (Ix:Code→World→Prop) (hI:∀ k W W',I k W→Off w.heap.size W W'→I k W') (hIx:∀ c W W',Ix c W→Off w.heap.size W W'→Ix c W') (hK:∀ k W,I k W→Kp W) (h0:I 0 w)
   (hround:∀ (l k:Nat) (W:World),I k W→k<N→assign.wpIn (WF (some l)) 0 P (Exit.then (fun a1 W1=>KeepsFrom w.heap.size W W1∧∀ W2,Off w.heap.size W1 W2→body.wpIn (WF (some l)) 0 P (Zie w.heap.size (I (k + 1)) Ix W2) a1 W2) (fun _ _ _=>False))
     {tmps:=(ps.zip (encs k)).foldl (fun t (p,v)=>t.setIfInBounds p v) a.tmps,defers:=[]} W)
   (hdone:∀ (D:Nat) (W:World),w.heap.size≤D→I N W→W.heap[D]?=some (.deferred (some []))→Q .normal {a with defers:={target:=.collected D,args:=#[]} :: a.defers} W)
   (hret:∀ (D:Nat) (W:World),w.heap.size≤D→Ix .ret W→W.heap[D]?=some (.deferred (some []))→Q .ret {a with defers:={target:=.collected D,args:=#[]} :: a.defers} W)
   (hexit:∀ (D id:Nat) (W:World),w.heap.size≤D→Ix (.exit id) W→W.heap[D]?=some (.deferred (some []))→Q (.exit id) {a with defers:={target:=.collected D,args:=#[]} :: a.defers} W) :
   (Code.rangeFunc g ps assign body).wpIn (WF none) n P Q a w:=by
 refine wpIn_rangeFunc ?_
 intro fn hfn
 obtain ⟨rec,hrec⟩:∃ rec:LoopState→Option Code→Loop,rec=fun st pe=>{state:=st,pending:=pe,fn,tmps:=a.tmps,params:=ps,assign,body,defers:=w.heap.size}:=⟨_,rfl⟩
 obtain ⟨W1,hW1⟩:∃ W1,(w.alloc (.deferred (some []))).alloc (.loop (rec .ready none))=W1:=⟨_,rfl⟩
 have hL1:W1.heap[w.heap.size + 1]?=some (.loop (rec .ready none)):=by
   rw [← hW1]; have:=World.alloc_heap_new (w.alloc (.deferred (some []))) (.loop (rec .ready none)); rwa [World.size_alloc] at this
 have hD1:W1.heap[w.heap.size]?=some (.deferred (some [])):=by
   rw [← hW1]; exact (Below.heap_alloc _ _ _ (by simp)).trans (World.alloc_heap_new w _)
 have hI1:I 0 W1:=by rw [← hW1]; exact hI _ _ _ (hI _ _ _ h0 (Off.alloc _ _ _)) (Off.alloc _ _ _)
 have hb1:Below w.heap.size w W1:=by rw [← hW1]; exact ((Below.refl _ w).alloc (Nat.le_refl _) _).alloc (by simp) _
 refine ⟨w.heap.size + 1,[{target:=.collected w.heap.size,args:=#[]}],W1,{target:=.fn (.func gf) lb,args:=#[.func (.yield (w.heap.size + 1)) #[] #[]]},W1,gf,
   #[.func (.yield (w.heap.size + 1)) #[] #[]]++lb,W1,?_,?_,fun _ _=>trivial,?_,fun h=>absurd h (by decide),?_⟩
 · rw [← hW1,hrec]; exact run_enterLoop_outer _ _ _ _ _
 · simp only [resolve,hg]
   simp [go_sem]
 · simp [invoke,go_sem,eg]
 · have book:∀ {A B:World} {r:Nat} {o:Obj},Below A.heap.size A B→A.heap[r]?=some o→B.heap[r]?=some o:=fun h hr=>(h.block _ (Array.getElem?_eq_some_iff.1 hr).1).trans hr
   refine (hseq (w.heap.size + 1)
     (fun k W=>I k W∧W.heap[w.heap.size + 1]?=some (.loop (rec .ready none))∧W.heap[w.heap.size]?=some (.deferred (some [])))
     (fun W=>∃ c,(c=.ret∨∃ id,c=.exit id)∧Ix c W∧W.heap[w.heap.size + 1]?=some (.loop (rec .done (some c)))∧W.heap[w.heap.size]?=some (.deferred (some [])))
     W1 hb1 (fun k A B ⟨h1,h2,h3⟩ hb=>⟨hI _ _ _ h1 (Off.below hb),book hb h2,book hb h3⟩)
     (fun A B ⟨c,h0,h1,h2,h3⟩ hb=>⟨c,h0,hIx _ _ _ h1 (Off.below hb),book hb h2,book hb h3⟩)
     (fun k A h=>hK k A h.1) ?_ ⟨hI1,hL1,hD1⟩ (n - 1)).mono ?_
   · rintro k W m ⟨hi,hl,hd⟩ hk
     have hlt:w.heap.size + 1<W.heap.size:=(Array.getElem?_eq_some_iff.1 hl).1
     have hy:=run_yield (P:=P) (args:=encs k) hl (by rw [hrec]; exact hps k hk)
     rw [hrec] at hy
     refine ⟨fn,_,assign,body,hy,roundIn_of_wpIn (F:=Fence.wide) trivial ?_⟩
     -- a round wants no room: the fence has none
     have anyDepth:∀ {c:Code} {Q':Exit→Act→World→Prop} {a':Act} {W':World},c.wpIn (WF (some (w.heap.size + 1))) 0 P Q' a' W'→c.wpIn (Fence.wide.inRound (w.heap.size + 1)) m P Q' a' W':=fun h b k cs hro hb hr=>h b k cs hro hb (fun _ hd=>by cases hd)
     refine anyDepth (wpIn_mono (hround (w.heap.size + 1) k W hi hk) fun e a2 W2 he=>?_)
     cases e with
     | normal =>
       obtain ⟨hkf,hbody⟩:=he
       have hl2:W2.heap[w.heap.size + 1]?=some (.loop (rec .ready none)):=hkf.same _ _ (by omega) hl rfl
       have hd2:W2.heap[w.heap.size]?=some (.deferred (some [])):=hkf.same _ _ (Nat.le_refl _) hd rfl
       have hlt2:w.heap.size + 1<W2.heap.size:=(Array.getElem?_eq_some_iff.1 hl2).1
       refine ⟨_,run_beginRound hl2 (by rw [hrec]),?_⟩
       have hl3:(W2.putObj (w.heap.size + 1) (.loop {rec .ready none with state:=.busy})).heap[w.heap.size + 1]?=some (.loop {rec .ready none with state:=.busy}):=World.putObj_heap_same hlt2
       have hd3:(W2.putObj (w.heap.size + 1) (.loop {rec .ready none with state:=.busy})).heap[w.heap.size]?=some (.deferred (some [])):=(World.putObj_heap_other (by omega)).trans hd2
       refine anyDepth (wpIn_mono (hbody _ (Off.putObj _ hl2 rfl (by omega))) ?_)
       have fin:∀ (jump:Option Code) (W3:World),KeepsFrom w.heap.size (W2.putObj (w.heap.size + 1) (.loop {rec .ready none with state:=.busy})) W3 →
           (Instr.endRound (w.heap.size + 1) jump).run P W3=.ok (.bool jump.isNone) (W3.putObj (w.heap.size + 1) (.loop (rec (if jump.isNone then .ready else .done) jump))) ∧
           W3.heap[w.heap.size + 1]?=some (.loop {rec .ready none with state:=.busy}) ∧
           (W3.putObj (w.heap.size + 1) (.loop (rec (if jump.isNone then .ready else .done) jump))).heap[w.heap.size + 1]?=some (.loop (rec (if jump.isNone then .ready else .done) jump)) ∧
           (W3.putObj (w.heap.size + 1) (.loop (rec (if jump.isNone then .ready else .done) jump))).heap[w.heap.size]?=some (.deferred (some [])):=fun jump W3 hk3=>by
         have hl4:=hk3.same _ _ (by omega) hl3 rfl
         have:=run_endRound (P:=P) jump hl4
         rw [hrec] at this ⊢
         exact ⟨this,by rw [hrec] at hl4; exact hl4,World.putObj_heap_same (Array.getElem?_eq_some_iff.1 hl4).1,(World.putObj_heap_other (by omega)).trans (hk3.same _ _ (Nat.le_refl _) hd3 rfl)⟩
       rintro e a3 W3 hp
       cases e with
       | normal =>
         obtain ⟨hk3,hi3⟩:=hp
         obtain ⟨hr,hl4,hl5,hd5⟩:=fin none W3 hk3
         exact ⟨_,_,hr,.inl ⟨rfl,hI _ _ _ hi3 (Off.putObj _ hl4 rfl (by omega)),hl5,hd5⟩⟩
       | ret =>
         obtain ⟨hk3,hi3⟩:=hp
         obtain ⟨hr,hl4,hl5,hd5⟩:=fin (some .ret) W3 hk3
         exact ⟨_,_,hr,.inr ⟨rfl,.ret,.inl rfl,hIx _ _ _ hi3 (Off.putObj _ hl4 rfl (by omega)),hl5,hd5⟩⟩
       | exit id =>
         obtain ⟨hk3,hi3⟩:=hp
         obtain ⟨hr,hl4,hl5,hd5⟩:=fin (some (.exit id)) W3 hk3
         exact ⟨_,_,hr,.inr ⟨rfl,.exit id,.inr ⟨id,rfl⟩,hIx _ _ _ hi3 (Off.putObj _ hl4 rfl (by omega)),hl5,hd5⟩⟩
       | goto t=>exact hp.elim
       | panic ch=>exact hp.elim
       | outgrown=>exact hp.elim
     | ret=>exact he.elim
     | exit id=>exact he.elim
     | goto t=>exact he.elim
     | panic ch=>exact he.elim
     | outgrown=>exact he.elim
   · rintro e W2 ⟨⟨v,rfl⟩,(⟨hi,hl,hd⟩ | ⟨c,hc,hi,hl,hd⟩)⟩
     · exact ⟨none,_,by have:=run_endLoop (P:=P) hl (by rw [hrec]; simp); rw [hrec] at this; exact this,hdone _ _ (Nat.le_refl _) (hI _ _ _ hi (Off.putObj _ hl rfl (by omega))) ((World.putObj_heap_other (by omega)).trans hd)⟩
     · have off:=hIx _ _ _ hi (Off.putObj (.loop {rec .done (some c) with state:=.exhausted}) hl rfl (by omega))
       have hd':(W2.putObj (w.heap.size + 1) (.loop {rec .done (some c) with state:=.exhausted})).heap[w.heap.size]?=some (.deferred (some [])):=(World.putObj_heap_other (by omega)).trans hd
       refine ⟨some c,W2.putObj (w.heap.size + 1) (.loop {rec .done (some c) with state:=.exhausted}),by have:=run_endLoop (P:=P) hl (by rw [hrec]; simp); rw [hrec] at this ⊢; exact this,?_⟩
       rcases hc with rfl | ⟨id,rfl⟩
       · exact wpIn_ret (hret _ _ (Nat.le_refl _) off hd')
       · exact wpIn_exit (hexit _ _ _ (Nat.le_refl _) off hd')
end Go.SE
end
section
namespace Go.SE
def Zkc (δ:Dict) (h:Qbo) (ks:List Nat) (w:World):Prop:=∃ δ',δ.le δ'∧∀ k,k∈ks→∀ b p,h k=some b→δ k=some p→b.dead=false→Live δ' b w p
def Zns (P:Program) (g:FuncId) (run:List SV→Qbo→Option (Prop×Nat×Nat×(Nat→List SV)×List Nat)):Prop :=
 ∀ caps h p N m item ks,run caps h=some (p,N,m,item,ks)→p→∀ δ w lb,Qaw δ caps lb→HRep δ h w →
   (∀ args w,(callFunc g args).run P w=.ok (.enter g args) w)∧∃ encs:Nat→Array Value,(∀ i,i<N→Qaw δ (item i) (encs i).toList∧(encs i).size=m)∧Zkb P g lb.toArray encs N (Zkc δ h ks) w
structure It where
 P:Program
 f:FuncId
 run:List SV→Qbo→Option (Prop×Nat×Nat×(Nat→List SV)×List Nat)
 ok:Zns P f run
def Qmn:Code→Bool
 | .rangeFunc _ _ _ _=>false
 | .seq a b=>Qmn a&&Qmn b
 | .cond _ a b=>Qmn a&&Qmn b
 | .block _ c=>Qmn c
 | .loop c=>Qmn c
 | .scope c=>Qmn c
 | _=>true
def Qko (l:List SV):List Nat→List SV→List SV
 | t :: ts,x :: xs=>Qko (l.set t x) ts xs
 | _,_=>l
structure LoopSpec where
 X:Type
 inv:X→Prop
 mu:X→Nat
 slots:List (Nat×(X→SV))
 blks:List (Nat×(X→Blk))
 dead:List Nat
 pr:List (Nat×(Nat→List Nat)):=[]
 news:List (Nat×(X→Blk)×(St→SV)):=[]
 it:Option It:=none
 ix:X→Nat:=fun _=>0
 rel:Option (St→X→Prop):=none
def LoopSpec.at (s:St) (L:LoopSpec):LoopSpec :=
 match L.rel with
 | none=>L
 | some r=>{L with inv:=fun x=>L.inv x∧r s x}
def atL (s:St):Option LoopSpec→Option LoopSpec
 | none=>none
 | some L=>some (L.at s)
def prOf (Λ:Nat→Option LoopSpec) (rid:Nat):List (Nat×(Nat→List Nat)):=match Λ (1000000 + rid) with
 | some L=>L.pr
 | none=>[]
def Qli (l:List SV):List (Nat×SV)→List SV
 | []=>l
 | (t,x) :: rest=>Qli (l.set t x) rest
def Qb9 (l:List SV):List Nat→List SV
 | []=>l
 | t :: rest=>Qb9 (l.set t .unk) rest
def atX {X α:Type} (x:X):List (Nat×(X→α))→List (Nat×α)
 | []=>[]
 | (k,f) :: rest=>(k,f x) :: atX x rest
def Qc5:List Oper→List Nat
 | []=>[]
 | o :: rest=>match o.dst with
   | some t=>t :: Qc5 rest
   | none=>Qc5 rest
def Qid:Code→List Nat
 | .region _ ops _=>Qc5 ops.toList
 | .seq a b=>Qid a++Qid b
 | .cond _ a b=>Qid a++Qid b
 | .block _ c=>Qid c
 | .loop c=>Qid c
 | .scope c=>Qid c
 | _=>[]
inductive Cur where
 | at (k:Nat)
 | nil (size:Nat)
def Q17:SV→Option Nat
 | .sl k _ _ _ _=>some k
 | .vp k _=>some k
 | .ap k _ _=>some k
 | .ptr k _ _=>some k
 | .mp k=>some k
 | _=>none
def Qdz {X:Type} (x:X):List (Nat×(X→Blk)×(St→SV))→List (Nat×Blk)
 | []=>[]
 | (k,f,_) :: rest=>(k,f x) :: Qdz x rest
def Q7r {X:Type} (s:St) (x:X):List (Nat×(X→Blk)×(St→SV))→List (Nat×Cur)
 | []=>[]
 | (k,p,f) :: rest=>(k,match Q17 (f s) with | some k'=>.at k' | none=>.nil (p x).size) :: Q7r s x rest
def Qbm:List (Nat×Cur)→Nat→Option Cur
 | [],_=>none
 | (k',c) :: rest,k=>bif Nat.beq k k' then some c else Qbm rest k
def Qul {X:Type} (s:St):List (Nat×(X→Blk)×(St→SV))→List Nat
 | []=>[]
 | (_,_,f) :: rest=>match Q17 (f s) with
   | some k=>k :: Qul s rest
   | none=>Qul s rest
def LoopSpec.kills (L:LoopSpec) (s:St):List Nat:=Qul s L.news
def LoopSpec.head (L:LoopSpec) (s:St) (x:L.X):St :=
 { s with
   tmps:=Qli (Qb9 s.tmps (L.dead++L.slots.map (·.1))) (atX x L.slots)
   heap:=Qb3 (fun k=>match s.heap k with | some b=>some (bif (L.kills s).elem k then Qdb {b with lock:=true} else bif Qac k L.blks then b else {b with lock:=true}) | none=>none) (atX x L.blks++Qdz x L.news)}
def LoopSpec.covers (L:LoopSpec) (l:List Nat):Bool:=l.all fun t=>Qac t L.slots||L.dead.elem t
def Qt3 (b:Bool) (p:Prop):Prop:=match b with
 | true=>p
 | false=>False
mutual
def mtS (m:List (Nat×Cur)) (h:Qbo):SV→SV→Prop
 | .unk,_=>True
 | .v x,y=>y=.v x
 | .sl k s i l c,y=>match Qbm m k with
   | some (.at k')=>y=.sl k' s i l c
   | some (.nil sz)=>Qt3 (Nat.beq sz s) (y=.v (.slice none 0 0)∧i=0∧l=0∧c=0)
   | none=>Qt3 (h k).isSome (y=.sl k s i l c)
 | .vp k j,y=>match Qbm m k with
   | some (.at k')=>y=.vp k' j
   | some (.nil _)=>False
   | none=>Qt3 (h k).isSome (y=.vp k j)
 | .ptr k i j,y=>match Qbm m k with
   | some (.at k')=>y=.ptr k' i j
   | some (.nil _)=>False
   | none=>Qt3 (h k).isSome (y=.ptr k i j)
 | .ap k n l,y=>match Qbm m k with
   | some (.at k')=>y=.ap k' n l
   | some (.nil _)=>False
   | none=>Qt3 (h k).isSome (y=.ap k n l)
 | .mp k,y=>match Qbm m k with
   | some (.at k')=>y=.mp k'
   | some (.nil _)=>False
   | none=>Qt3 (h k).isSome (y=.mp k)
 | .fz s n row,y=>match y with
   | .fz s' n' row'=>s'=s∧n'=n∧∀ i,i<n→row' i=row i
   | _=>False
 | .fn f cs,y=>match y with
   | .fn f' ds=>f'=f∧mtL m h cs ds
   | _=>False
 | .ifc t x,y=>match y with
   | .ifc t' z=>t'=t∧mtS m h x z
   | _=>False
 | .agg cs,y=>match y with
   | .agg ds=>mtL m h cs ds
   | _=>False
 | .tup cs,y=>match y with
   | .tup ds=>mtL m h cs ds
   | _=>False
def mtL (m:List (Nat×Cur)) (h:Qbo):List SV→List SV→Prop
 | [],ys=>match ys with
   | []=>True
   | _=>False
 | x :: xs,ys=>match ys with
   | y :: ys'=>match xs with
     | []=>match ys' with
       | []=>mtS m h x y
       | _=>False
     | _=>mtS m h x y∧mtL m h xs ys'
   | []=>False
end
def Qpm (m:List (Nat×Cur)) (h:Qbo) (s:St):List (Nat×SV)→Prop
 | []=>True
 | [(t,x)]=>mtS m h x (s.tmps.getD t .unk)
 | (t,x) :: rest=>mtS m h x (s.tmps.getD t .unk)∧Qpm m h s rest
def Zd7 (sz:Nat) (a c:MapC):Prop:=a.cnt=c.cnt∧(∀ k,a.has k=c.has k)∧∀ k i,i<sz→a.val k i=c.val k i
def Qnw (m:List (Nat×Cur)) (h:Qbo) (b p:Blk):Prop :=
 Qt3 (Nat.beq b.size p.size&&b.rw==p.rw&&!b.lock&&!p.lock&&(b.flat||!p.flat)&&!b.dead&&!p.dead&&(Nat.beq p.elem 0||Nat.beq b.elem p.elem)&&(!p.whole||b.whole))
   (b.n=p.n∧p.ext≤b.ext∧match p.sp with
     | some c=>(match b.sp with
       | some a=>Zd7 p.size a c
       | none=>False)
     | none=>match b.sp with
       | some _=>False
       | none=>match p.flat with
         | true=>∀ i,i<p.n→b.row i=p.row i
         | false=>match p.lit with
           | true=>Qt3 (Nat.beq p.n 1) (mtL m h (p.row 0) (b.row 0))
           | false=>∀ i,i<p.n→mtL m h (p.row i) (b.row i))
def Qnc (m:List (Nat×Cur)) (h:Qbo) (s:St):List (Nat×Blk)→Prop
 | []=>True
 | (k,p) :: rest=>match Qbm m k with
   | some (.at k')=>match s.heap k' with
     | some b=>match rest with
       | []=>Qnw m h b p
       | _=>Qnw m h b p∧Qnc m h s rest
     | none=>False
   | some (.nil sz)=>(p.n=0∧p.ext=0∧Qt3 (!p.lock&&!p.dead&&Nat.beq sz p.size) True)∧Qnc m h s rest
   | none=>match s.heap k with
     | some b=>match rest with
       | []=>Qnw m h b p
       | _=>Qnw m h b p∧Qnc m h s rest
     | none=>False
def Qkt (h:Qbo) (kills:List Nat):List (Nat×Cur)→Bool
 | []=>true
 | (_,.at k) :: rest=>((h k).isNone||kills.elem k)&&rest.all (fun p=>match p.2 with | .at k'=>!Nat.beq k k' | .nil _=>true)&&Qkt h kills rest
 | (_,.nil _) :: rest=>Qkt h kills rest
def Qnm (L:LoopSpec) (h:Qbo) (ks:List Nat) (s:St) (x:L.X):Prop :=
 let m:=Q7r s x L.news
 Qt3 (Qkt h ks m) (L.inv x∧Qpm m h s (atX x L.slots)∧Qnc m h s (atX x L.blks++Qdz x L.news))
def Qc0 (L:LoopSpec) (h:Qbo) (ks:List Nat):Bool :=
 L.blks.all (fun p=>(h p.1).isSome&&!ks.elem p.1)&&L.news.all (fun p=>(h p.1).isNone)&&ks.all (fun k=>match h k with | some b=>!b.lock | none=>false)
def Qpc (L M:LoopSpec) (s:St):Bool :=
 M.blks.all (fun p=>match s.heap p.1 with | some b=>!b.lock | none=>true)&&L.blks.all (fun p=>Qac p.1 M.blks)&&(L.kills s).all fun k=>(M.kills s).elem k
def unlock (h0 h:Qbo):Qbo:=fun k=>match h k with
 | some b=>match h0 k with
   | some b0=>some {b with lock:=b0.lock}
   | none=>some b
 | none=>none
def Qb1 (h0 h:Qbo):Qbo:=fun k=>match h k with
 | some b=>some (match b.sp with
   | none=>b
   | some _=>bif b.dead then b else match h0 k with
     | some b0=>bif b0.dead then Qdb b else b
     | none=>Qdb b)
 | none=>none
def cnt:Code→Nat
 | .region _ ops _=>ops.size
 | .seq a b=>cnt a + cnt b
 | .cond _ a b=>cnt a + cnt b
 | .block _ c=>cnt c
 | .loop c=>cnt c
 | .scope c=>cnt c
 | .rangeFunc _ _ a c=>cnt a + cnt c
 | _=>0
def Qh0:Code→Nat
 | .region rid _ _=>rid
 | .seq a _=>Qh0 a
 | .cond _ a _=>Qh0 a
 | .block _ c=>Qh0 c
 | .loop c=>Qh0 c
 | .scope c=>Qh0 c
 | _=>0
def Q99 (c:Code):Nat:=2000000 + 1000*cnt c + Qh0 c
def LoopSpec.shut (L:LoopSpec) (s:St):St:={s with heap:=unlock (fun k=>match s.heap k with | some b=>some (bif Qac k L.blks then b else {b with lock:=true}) | none=>none) s.heap}
def LoopSpec.opn (L:LoopSpec) (s:St) (n:Nat) (x:L.X):St:={L.head s x with heap:=unlock s.heap (L.head s x).heap,nx:=s.nx + 8*n}
def Zag (n:Nat) (K:Exit→St→Prop) (e:Exit) (s:St):Prop:=K e {s with nx:=n}
def Ziu (K:Exit→St→Prop) (s:St) (ops:Array Oper) (x:SV) (h:Qbo):Prop:=match x with
 | .v v=>K (.panic [{v:=v,recovered:=false}]) {tmps:=Qb9 s.tmps (Qc5 ops.toList),heap:=h,nx:=s.nx + 8*ops.size}
 | _=>False
def Qci (P:Program) (Γ:Qbz) (Λ:Nat→Option LoopSpec):Code→Nat→St→(Exit→St→Prop)→Prop
 | .skip,_,s,K=>K .normal s
 | .region rid ops draw,_,s,K =>
   let bs:Vw:=⟨Qa7 ops.toList [],prOf Λ rid⟩
   bif !draw||Qe1 P Γ ops bs then Qzs P Γ ops.toList bs draw (Ziu K s ops) (fun s=>K .normal {s with nx:=s.nx + 8*ops.size}) ops.toList 0 s else False
 | .seq a b,id,s,K=>match atL s (Λ (Q99 a)) with
   | none=>Qci P Γ Λ a id s fun e s=>match e with
     | .normal=>Qci P Γ Λ b id s K
     | e=>K e s
   | some L=>bif L.news.isEmpty&&L.covers (Qid a)&&Qc0 L s.heap (L.kills s) then
       Qci P Γ Λ a id (L.shut s) (fun e s'=>match e with
         | .normal=>∃ x,Qnm L s.heap (L.kills s) s' x
         | e=>K e {s' with heap:=unlock s.heap s'.heap})∧∀ x,L.inv x→Qci P Γ Λ b id (L.opn s (cnt a) x) K
     else False
 | .cond c a b,id,s,K=>match s.eval c with
   | .v (.bool t)=>match c with
     | .tmp i=>sel t (Qci P Γ Λ a id {s with tmps:=s.tmps.set i (.v (.bool true))} (Zag (s.nx + 8*(cnt a + cnt b)) K)) (Qci P Γ Λ b id {s with tmps:=s.tmps.set i (.v (.bool false))} (Zag (s.nx + 8*(cnt a + cnt b)) K))
     | _=>sel t (Qci P Γ Λ a id s (Zag (s.nx + 8*(cnt a + cnt b)) K)) (Qci P Γ Λ b id s (Zag (s.nx + 8*(cnt a + cnt b)) K))
   | _=>False
 | .block id c,_,s,K=>Qci P Γ Λ c id s (Zag (s.nx + 8*cnt c) fun e s=>match e with
   | .exit i=>bif Nat.beq i id then K .normal s else K (.exit i) s
   | e=>K e s)
 | .exit i,_,s,K=>K (.exit i) s
 | .ret,_,s,K=>K .ret s
 | .loop c,id,s,K=>match atL s (Λ id) with
   | none=>False
   | some L=>match atL s (Λ (5000000 + id)) with
     | none=>bif L.covers (Qid c)&&Qc0 L s.heap (L.kills s) then (∃ x,Qnm L s.heap (L.kills s) s x)∧∀ x,L.inv x→Qci P Γ Λ c id (L.head s x) fun e s'=>match e with
         | .normal=>∃ x',Qnm L s.heap (L.kills s) s' x'∧L.mu x'<L.mu x
         | e=>K e {s' with heap:=unlock s.heap s'.heap}
       else False
     | some M=>bif (L.covers (Qid c)&&Qc0 L s.heap (L.kills s))&&(M.covers (Qid c)&&Qc0 M s.heap (M.kills s))&&Qpc L M s then
         (∃ x,Qnm L s.heap (L.kills s) s x)∧(∀ x,L.inv x→Qci P Γ Λ c id (L.head s x) fun e s'=>match e with
           | .normal=>(∃ x',Qnm L s.heap (L.kills s) s' x'∧L.mu x'<L.mu x)∨∃ x',Qnm M s.heap (M.kills s) s' x'∧M.mu x'<L.mu x
           | e=>K e {s' with heap:=unlock s.heap s'.heap})∧∀ x,M.inv x→Qci P Γ Λ c id (M.head s x) fun e s'=>match e with
           | .normal=>∃ x',Qnm M s.heap (M.kills s) s' x'∧M.mu x'<M.mu x
           | e=>K e {s' with heap:=unlock s.heap s'.heap}
       else False
 | .rangeFunc f ps asg c,id,s,K=>match atL s (Λ id) with
   | none=>False
   | some L=>match L.it,s.eval f with
     | some it,.fn g caps=>bif Nat.beq g it.f&&L.slots.isEmpty&&Qmn asg&&Qmn c&&Qc0 L s.heap (L.kills s) then match it.run caps s.heap with
       | some (p,N,m,item,ks)=>bif Nat.beq m ps.size&&ks.all (fun k=>!Qac k L.blks&&!(L.kills s).elem k) then
           (it.P=P∧p)∧(∃ x,L.ix x=0∧Qnm L s.heap (L.kills s) s x)∧(∀ x,L.inv x→L.ix x<N→Qci P Γ Λ asg id {L.head s x with tmps:=Qko (L.head s x).tmps ps.toList (item (L.ix x)),heap:=Qb1 s.heap (L.head s x).heap} fun e s1=>match e with
             | .normal=>Qci P Γ Λ c id {s1 with heap:=Qb1 s.heap s1.heap} fun e s'=>match e with
               | .normal=>∃ x',L.ix x'=L.ix x + 1∧Qnm L s.heap (L.kills s) {s' with tmps:=s.tmps} x'
               | .ret=>K .ret {s with heap:=unlock s.heap s'.heap}
               | .exit i=>K (.exit i) {s with heap:=unlock s.heap s'.heap}
               | _=>False
             | _=>False)∧∀ x,L.inv x→L.ix x=N→K .normal {s with heap:=unlock s.heap (L.head s x).heap}
         else False
       | none=>False
       else False
     | _,_=>False
 | .label _,_,s,K=>K .normal s
 | .scope c,id,s,K=>Qci P Γ Λ c id s fun e s'=>match e with
   | .goto _=>False
   | e=>K e s'
 | _,_,_,_=>False
def Qej (P:Program) (s:St):List ResultVar→Option (List SV)
 | []=>some []
 | .tmp t :: rest=>match Qej P s rest with
   | some l=>some (s.tmps.getD t Qde :: l)
   | none=>none
 | .cell a t :: rest=>match Qej P s rest,Q2k P s.heap t (s.tmps.getD a Qde) with
   | some l,some x=>some (x :: l)
   | _,_=>none
def Zfu (P:Program) (fn:Func) (s:St):Option SV :=
 match Qej P s fn.results.toList with
 | some [x]=>some x
 | some l=>some (.tup l)
 | none=>none
def Qcf (P:Program) (Γ:Qbz) (Λ:Nat→Option LoopSpec) (fn:Func) (args:List SV) (h:Qbo) (nx:Nat) (R:SV→Qbo→Prop):Prop :=
 match fn.body with
 | none=>False
 | some c=>Qci P Γ Λ c 0 {tmps:=args++List.replicate (fn.ntmps - args.length) Qde,heap:=h,nx} fun e s=>match e with
   | .normal=>match Zfu P fn s with | some x=>R x s.heap | none=>False
   | .ret=>match Zfu P fn s with | some x=>R x s.heap | none=>False
   | _=>False
end Go.SE
end
section
namespace Go.SE
section
variable {P:Program} {F:Fence} {n:Nat} {Q:Exit→Act→World→Prop} {a:Act} {w:World}
theorem Qed {b:Frame} {k:List Item} {cs:List Frame} {c:Code}:step P (lone (b.atR a (.code (.scope c) :: k)) cs w)=.next (lone (b.atR a (.code c :: .inScope c :: k)) cs w) :=
 step_lone_go (by simp [stepG,stepG.exec,Frame.atR])
theorem Qpj {b:Frame} {k:List Item} {cs:List Frame} {c:Code}:step P (lone (b.atR a (.inScope c :: k)) cs w)=.next (lone (b.atR a k) cs w) :=
 step_lone_go (by simp [stepG,stepG.exec,Frame.atR])
theorem Qw6 {c:Code} (h:c.wpIn F n P (fun e a w=>(∀ l,e≠.goto l)∧Q e a w) a w):(Code.scope c).wpIn F n P Q a w:=by
 intro b k cs hro hb hr
 have h0:(lone (b.atR a (.code (.scope c) :: k)) cs w).fenced P F:=fenced_calm hb hr rfl
 obtain ⟨e,a₁,w₁,⟨hg,hq⟩,harr⟩:=h b (.inScope c :: k) cs hro hb hr
 cases e with
 | normal=>exact ⟨.normal,a₁,w₁,hq,.head h0 Qed (StepsIn.trans harr (.one (fenced_calm hb hr rfl) Qpj))⟩
 | exit id' =>
   have hx:exitTo id' (.inScope c :: k)=exitTo id' k:=by simp [exitTo]
   exact ⟨.exit id',a₁,w₁,hq,fun k' hk=>.head h0 Qed (harr.1 k' (by rw [hx]; exact hk)),
     fun hr' hk=>let ⟨k₁,h1,h2⟩:=harr.2 hr' (by rw [hx]; exact hk); ⟨k₁,h1,.head h0 Qed h2⟩⟩
 | goto l=>exact absurd rfl (hg l)
 | ret=>exact ⟨_,a₁,w₁,hq,.of_steps (.one h0 Qed) harr⟩
 | panic ch=>exact ⟨_,a₁,w₁,hq,.of_steps (.one h0 Qed) harr⟩
 | outgrown=>exact ⟨_,a₁,w₁,hq,.of_steps (.one h0 Qed) harr⟩
end
def Qwi (d:Deferred):Bool:=match d.target with
 | .collected _=>true
 | _=>false
def Qfm (ds:List Deferred):List Deferred:=ds.filter fun d=>!Qwi d
def MarksOk (B:Nat) (ds:List Deferred) (w:World):Prop:=∃ (Ds:List Nat) (rest:List Deferred),ds=Ds.map (fun D=>{target:=.collected D,args:=#[]})++rest∧(∀ d,d∈rest→Qwi d=false)∧Ds.Nodup∧∀ D,D∈Ds→B≤D∧w.heap[D]?=some (.deferred (some []))
theorem MarksOk.nil (B:Nat) (w:World):MarksOk B [] w:=⟨[],[],rfl,fun _ h=>(by cases h),List.nodup_nil,fun _ h=>by cases h⟩
theorem Qkn:∀ (Ds:List Nat) (rest:List Deferred),(∀ d,d∈rest→Qwi d=false)→Qfm (Ds.map (fun D=>({target:=.collected D,args:=#[]}:Deferred))++rest)=rest
 | [],rest,h=>by
   show rest.filter _=rest
   exact List.filter_eq_self.2 fun d hd=>by rw [h d hd]; rfl
 | D :: Ds,rest,h=>Qkn Ds rest h
theorem MarksOk.split {B:Nat} {ds r:List Deferred} {w:World} (h:MarksOk B ds w) (hr:Qfm ds=r):∃ Ds:List Nat,ds=Ds.map (fun D=>{target:=.collected D,args:=#[]})++r∧Ds.Nodup∧∀ D,D∈Ds→B≤D∧w.heap[D]?=some (.deferred (some [])):=by
 obtain ⟨Ds,rest,h1,h0,h2,h3⟩:=h
 rw [h1,Qkn Ds rest h0] at hr
 exact ⟨Ds,hr ▸ h1,h2,h3⟩
structure Rep (own:Own) (w0:World) (δ:Dict) (s:St) (a:Act) (w:World):Prop where
 tm:Qaw δ s.tmps a.tmps.toList
 df:MarksOk w0.heap.size a.defers w
 hr:HRep δ s.heap w
 tight:∀ k,s.heap k=none→δ k=none
 mine:∀ r,Qfl δ s.heap r→own r
 wr:WRel own w0 w
 fzm:∀ q,δ.fz q→own.z q∨own q.r
def keep (l:List Nat) (a a':Act):Prop:=∀ t,t ∉ l→a'.tmps[t]?=a.tmps[t]?
theorem Qeo (l:List Nat) (a:Act):keep l a a:=fun _ _=>rfl
theorem Qdx {l:List Nat} {a b c:Act} (h:keep l a b) (h':keep l b c):keep l a c:=fun t ht=>(h' t ht).trans (h t ht)
theorem Qhf {l l':List Nat} {a b:Act} (h:keep l a b) (hs:∀ t,t∈l→t∈l'):keep l' a b:=fun t ht=>h t fun hx=>ht (hs t hx)
theorem Qwg (a:Act) (d:Option Tmp) (v:Value) (l:List Nat) (hd:∀ t,d=some t→t∈l):keep l a (a.put d v):=by
 intro t ht
 cases d with
 | none=>rfl
 | some d =>
   have hne:d≠t:=fun e=>ht (hd t (by rw [e]))
   simp [Act.put,Array.getElem?_setIfInBounds_ne hne]
def locks (s s':St):Prop:=∀ k b,s.heap k=some b→b.lock=true→s'.heap k=some b
theorem Qoc (s:St):locks s s:=fun _ _ h _=>h
theorem Qim {a b c:St} (h:locks a b) (h':locks b c):locks a c:=fun k x hx hl=>h' k x (h k x hx hl) hl
structure From (l:List Nat) (δ0:Dict) (s0:St) (a0:Act) (δ:Dict) (s:St) (a:Act):Prop where
 keep:keep l a0 a
 le:δ0.le δ
 locks:locks s0 s
 len:a.tmps.size=a0.tmps.size
 df:a.defers=a0.defers
theorem From.refl (l:List Nat) (δ:Dict) (s:St) (a:Act):From l δ s a δ s a:=⟨Qeo l a,δ.le_refl,Qoc s,rfl,rfl⟩
theorem From.trans {l:List Nat} {δ0 δ1 δ2:Dict} {s0 s1 s2:St} {a0 a1 a2:Act} (h:From l δ0 s0 a0 δ1 s1 a1) (h':From l δ1 s1 a1 δ2 s2 a2):From l δ0 s0 a0 δ2 s2 a2 :=
 ⟨Qdx h.keep h'.keep,Dict.le_trans h.le h'.le,Qim h.locks h'.locks,h'.len.trans h.len,h'.df.trans h.df⟩
theorem From.mono {l l':List Nat} {δ0 δ:Dict} {s0 s:St} {a0 a:Act} (h:From l δ0 s0 a0 δ s a) (hs:∀ t,t∈l→t∈l'):From l' δ0 s0 a0 δ s a:=⟨Qhf h.keep hs,h.le,h.locks,h.len,h.df⟩
def Q8z (own:Own) (w0:World) (l:List Nat) (δ0:Dict) (s0:St) (a0:Act) (K:St→Prop) (a:Act) (w:World):Prop :=
 ∃ δ s,K s∧Rep own w0 δ s a w∧From l δ0 s0 a0 δ s a
section
variable {P:Program} {Γ:Qbz} {own:Own} {w0:World} {δ:Dict} {s:St} {a:Act} {w:World} {ro:Option Nat} {n:Nat}
theorem Rep.eval (h:Rep own w0 δ s a w) (x:Operand):Qah δ (s.eval x) (a.eval x):=by
 cases x with
 | tmp t =>
   simp only [St.eval,Act.eval]
   cases hx:s.tmps[t]? with
   | some y =>
     obtain ⟨r,h1,h2⟩:=Qb5 h.tm hx
     have h1':a.tmps[t]?=some r:=by simpa using h1
     simp only [List.getD,hx,Option.getD_some]
     have:a.tmps.getD t undef=r:=by simp [Array.getD_eq_getD_getElem?,h1']
     rw [this]; exact h2
   | none =>
     have hlen:=Qa6 h.tm
     have h1:a.tmps[t]?=none:=by
       have:s.tmps.length≤t:=List.getElem?_eq_none_iff.1 hx
       simp at hlen ⊢
       omega
     simp only [List.getD,hx,Option.getD_none]
     have:a.tmps.getD t undef=undef:=by simp [Array.getD_eq_getD_getElem?,h1]
     rw [this]; simp [Qde,Qah]
 | const v =>
   simp only [St.eval,Act.eval]
   unfold Qil
   split
   · simp only [Qah]; exact ⟨_,by simp,Qkh _⟩
   · simp only [Qah]
 | global g=>simp only [St.eval,Act.eval,Qah]
 | func f=>simp only [St.eval,Act.eval,Qah]; exact ⟨[],rfl,by simp only [Qaw]⟩
theorem Zii {δ':Dict} (hm:Qaw δ s.tmps a.tmps.toList) (hle:δ.le δ') (d:Option Tmp) {x:SV} {v:Value} (hx:Qah δ' x v):Qaw δ' (s.put d x).tmps (a.put d v).tmps.toList:=by
 cases d with
 | none=>exact Qc6 hle _ _ hm
 | some t =>
   simp only [St.put,Act.put,Array.toList_setIfInBounds]
   exact Qq2 (Qc6 hle _ _ hm) t hx
theorem Qpo (a:Act) (d:Option Tmp) (v:Value):(a.put d v).tmps.size=a.tmps.size:=by cases d <;> simp [Act.put]
theorem Qhv (a:Act) (d:Option Tmp) (v:Value):(a.put d v).defers=a.defers:=by cases d <;> rfl
theorem Qlm {h h':Qbo} (hs:∀ k b,h' k=some b→h k=some b) {k r:Nat} (hl:Qc9 δ h' k r):Qc9 δ h k r:=by
 obtain ⟨b,p,h1,h2⟩:=hl
 exact ⟨b,p,hs k b h1,h2⟩
theorem HRep.sub {h h':Qbo} (hr:HRep δ h w) (hs:∀ k b,h' k=some b→h k=some b):HRep δ h' w :=
 ⟨fun k b hk=>hr.blk k b (hs k b hk),fun k k' r b h1 h2 hk hb=>hr.inj k k' r b (Qlm hs h1) (Qlm hs h2) (hs k b hk) hb,fun q hq=>⟨(hr.fz q hq).1,fun k b hk hb hl=>(hr.fz q hq).2 k b (hs k b hk) hb (Qlm hs hl)⟩⟩
theorem Qez (bs:Vw) (nx j:Nat) (h:Qbo):∀ k b,Qav bs nx j h k=some b→h k=some b:=fun k b hk=>by
 rw [Qem] at hk
 split at hk
 · cases hk
 · exact hk
theorem Qjw {h:Qbo} (hr:HRep δ h w) {r:Nat} (hx:Qfl δ h r):∃ o,w.heap[r]?=some o∧Qnu o=true:=by
 obtain ⟨k,b,h1,_,b',p,g1,g2,g3,g4,g5⟩:=hx
 have:some b'=some b:=g1.symm.trans h1
 cases this
 obtain ⟨q,d1,d2⟩:=hr.blk k b h1
 rw [g3] at d1; cases d1
 subst g5
 have hb:=(d2 g2).rep g4
 unfold Qcm at hb
 split at hb
 · obtain ⟨es,clock,c1,_⟩:=hb
   exact ⟨_,c1,rfl⟩
 · obtain ⟨c,e,fz,c1,_⟩:=hb
   exact ⟨_,c1,rfl⟩
theorem WRel.others {own:Nat→Prop} {w w':World} (h:WRel own w w') (hown:∀ r,r<w.heap.size→own r→∃ o,w.heap[r]?=some o∧Qnu o=true) {r:Nat} {o:Obj} (hr:w.heap[r]?=some o) (ho:Qnu o=false):w'.heap[r]?=some o:=by
 have hlt:=(Array.getElem?_eq_some_iff.1 hr).1
 refine (h.block r hlt fun hx=>?_).trans hr
 obtain ⟨o',hc,hd⟩:=hown r hlt hx
 rw [hr] at hc; cases hc; rw [ho] at hd; cases hd
theorem MarksOk.rel {B:Nat} {ds:List Deferred} {own:Nat→Prop} {w w':World} (h:MarksOk B ds w) (hr:WRel own w w') (hown:∀ r,r<w.heap.size→own r→∃ o,w.heap[r]?=some o∧Qnu o=true):MarksOk B ds w':=by
 obtain ⟨Ds,rest,h1,h0,h2,h3⟩:=h
 exact ⟨Ds,rest,h1,h0,h2,fun D hD=>⟨(h3 D hD).1,hr.others hown (h3 D hD).2 rfl⟩⟩
theorem Rep.after (hown:∀ r,w0.heap.size≤r→own r) (h:Rep own w0 δ s a w) {bs:Vw} {i:Nat} {o:Oper} {wr:Bool} {x:SV} {u:List (Nat×Blk)} {v:Value} {δ':Dict} {w':World}
   (hu:Qcn wr (Qav bs s.nx i s.heap) s.heap (s.nx + 8*i) u=true) (hx:Qah δ' x v) (hU:Upd δ (Qav bs s.nx i s.heap) w δ' u w'):Rep own w0 δ' (apS s o x u) (a.put o.dst v) w':=by
 have hf:Qzx (Qav bs s.nx i s.heap) s.heap u:=fun k hk=>by
   rcases Qdo hu k hk with ⟨b0,h1,_,h3,h4,_⟩ | ⟨h1,_,h3⟩
   · exact .inl ⟨b0,h1,h3,h4⟩
   · exact .inr ⟨h1,h3⟩
 obtain ⟨l1,l2,l3⟩:=hU.lift h.hr (Qez _ _ _ _) h.tight hf
 have hvl:∀ r,Qfl δ (Qav bs s.nx i s.heap) r→Qfl δ s.heap r:=fun r ⟨k,b,g1,g2,g3⟩=>⟨k,b,Qez _ _ _ _ _ _ g1,g2,Qlm (Qez _ _ _ _) g3⟩
 refine ⟨Zii h.tm hU.le o.dst hx,by rw [Qhv]; exact h.df.rel l3 fun r _ hx=>Qjw h.hr hx,l1,l2,fun r ⟨k,b,g1,g2,b',q,f1,f2,f3,f4,f5⟩=>?_,h.wr.trans (l3.mono fun r hr hrw=>h.mine r hrw),fun q hq=>by
   rcases hU.fzp q hq with g | g | g
   · exact h.fzm q g
   · exact .inr (hown q.r (Nat.le_trans h.wr.size g))
   · exact .inr (h.mine q.r (hvl q.r g))⟩
 have e1:b'=b:=by
   have:some b'=some b:=f1.symm.trans g1
   cases this; rfl
 subst e1
 -- what may be written behind it could be written before,or is new
 cases hd:δ k with
 | none =>
   rcases hU.place k q hd f3 f4 with h5 | h5
   · exact hown r (by rw [← f5]; exact Nat.le_trans h.wr.size h5)
   · rw [f5] at h5; exact h.mine r (hvl r h5)
 | some p =>
   have h1:=hU.le _ _ hd
   rw [f3] at h1; cases h1
   refine h.mine r ?_
   cases hi:Qac k u with
   | true =>
     rcases hf k hi with ⟨b0,g3,g4,g5⟩ | ⟨_,g4⟩
     · exact ⟨k,b0,Qez _ _ _ _ _ _ g3,g4,b0,q,Qez _ _ _ _ _ _ g3,g5,hd,f4,f5⟩
     · rw [h.tight k g4] at hd; cases hd
   | false =>
     have:Qb3 s.heap u k=some b':=g1
     rw [Qat u _ hi] at this
     exact ⟨k,b',this,g2,b',q,this,f2,hd,f4,f5⟩
theorem Qp8 {bs:Vw} {i:Nat} {o:Oper} {wr:Bool} {x:SV} {u:List (Nat×Blk)} (hu:Qcn wr (Qav bs s.nx i s.heap) s.heap (s.nx + 8*i) u=true):locks s (apS s o x u):=fun k b hk hl=>by
 show Qb3 s.heap u k=some b
 rw [Qat u _ ?_]
 · exact hk
 · cases hi:Qac k u with
   | false=>rfl
   | true =>
     rcases Qdo hu k hi with ⟨b0,h1,_,_,_,h4⟩ | ⟨_,_,h3⟩
     · have:=Qez _ _ _ _ _ _ h1
       rw [hk] at this; cases this
       rw [hl] at h4; cases h4
     · rw [hk] at h3; cases h3
theorem Qqc:∀ (ds:List Nat) (l:List SV) (t:Nat),(Qb9 l ds)[t]?=if t∈ds∧t<l.length then some .unk else l[t]?
 | [],l,t=>by simp [Qb9]
 | d :: ds,l,t=>by
   simp only [Qb9]
   rw [Qqc ds (l.set d .unk) t]
   simp only [List.length_set,List.mem_cons,List.getElem?_set]
   by_cases h1:t∈ds
   · by_cases hl:t<l.length
     · simp [h1,hl]
     · have:l[t]?=none:=List.getElem?_eq_none (Nat.le_of_not_lt hl)
       simp only [h1,hl,and_false,if_false,this,or_true]
       split
       · rename_i hd; subst hd; simp [hl]
       · rfl
   · by_cases hd:d=t
     · subst hd
       by_cases hl:d<l.length
       · simp [h1,hl]
       · simp [h1,hl]
     · have hd':¬ t=d:=fun e=>hd e.symm
       simp [h1,hd,hd']
theorem Q32 {δ:Dict} {xs:List SV} {rs0 rs:List Value} {l:List Nat} (h:Qaw δ xs rs0) (hl:rs.length=rs0.length) (hk:∀ t,t ∉ l→rs[t]?=rs0[t]?):Qaw δ (Qb9 xs l) rs:=by
 have hlen:=Qa6 h
 have hkl:(Qb9 xs l).length=xs.length:=by
   have:∀ (l:List Nat) (xs:List SV),(Qb9 xs l).length=xs.length:=by
     intro l
     induction l with
     | nil=>intro xs; rfl
     | cons t l ih=>intro xs; simp only [Qb9]; rw [ih]; simp
   exact this l xs
 refine Qei (by omega) fun i x hx=>?_
 rw [Qqc] at hx
 split at hx
 · rename_i hh
   cases hx
   have:i<rs.length:=by omega
   exact ⟨rs[i],List.getElem?_eq_getElem this,by simp only [Qah]⟩
 · rename_i hh
   obtain ⟨r,h1,h2⟩:=Qb5 h hx
   by_cases hi:i∈l
   · have:i<xs.length:=(List.getElem?_eq_some_iff.1 hx).1
     exact absurd ⟨hi,this⟩ hh
   · exact ⟨r,(hk i hi).trans h1,h2⟩
def Q8m (own:Own) (w0:World) (l:List Nat) (δ0:Dict) (s0:St) (a0:Act) (KP:SV→Qbo→Prop) (v:Value) (a:Act) (w:World):Prop :=
 ∃ δ x h,KP x h∧Qah δ x v∧Rep own w0 δ {tmps:=Qb9 s0.tmps l,heap:=h,nx:=s0.nx} a w∧From l δ0 s0 a0 δ {tmps:=Qb9 s0.tmps l,heap:=h,nx:=s0.nx} a
theorem Q33 (h:(WF ro).depth.isSome=true):False:=by cases h
theorem Qry {o:Oper} {ρ:Operand→SV} {h:Qbo} {base:Nat} {e:Eff} (he:opS P Γ o ρ h base=some e):∀ c,o.op≠.defer c:=by
 intro c hc
 unfold opS at he
 rw [hc] at he
 cases he
theorem Qvh (hΓ:∀ f g,Γ f=some g→g.ok P f) (hown:∀ r,w0.heap.size≤r→own r) {ops:Array Oper} {bs:Vw} {i:Nat} {o:Oper} {dr:Bool} {KP:SV→Qbo→Prop} {K:St→Prop} {Q:Exit→Act→World→Prop} {δ0:Dict} {s0:St} {a0:Act} {l:List Nat}
   (hQP:∀ v a w,Q8m own w0 l δ0 s0 a0 KP v a w→Q (.panic [{v:=v,recovered:=false}]) a w) (h00:Qaw δ0 s0.tmps a0.tmps.toList) (hi:ops[i]?=some o) (hdst:∀ t,o.dst=some t→t∈l) (hk:From l δ0 s0 a0 δ s a) (h:Qge P Γ ops.toList bs dr KP i o s K) (hr:Rep own w0 δ s a w):wpOpIn (WF ro) n P ops Q i (Q8z own w0 l δ0 s0 a0 K) a w:=by
 unfold wpOpIn
 rw [hi]
 simp only
 -- the operation carried out
 have run:∀ e,Qet Γ o s.eval (Qav bs s.nx i s.heap)=false→opS P Γ o s.eval (Qav bs s.nx i s.heap) (s.nx + 8*i)=some e→(e.bind fun x u=>Qcn (Qa0 Γ o) (Qav bs s.nx i s.heap) s.heap (s.nx + 8*i) u=true∧K (apS s o x u)) →
     o.wpIn (WF ro) n P a w (Q8z own w0 l δ0 s0 a0 K) Q:=fun e hst he hb=>by
   have hview:=hr.hr.sub (Qez bs s.nx i s.heap)
   have hout:∀ x u,Qce e x u→Qcn (Qa0 Γ o) (Qav bs s.nx i s.heap) s.heap (s.nx + 8*i) u=true∧K (apS s o x u):=fun x u ho=>Eff.bind_out hb ho
   have hnext:=Ziv (w:=w) hΓ (ρ:=a.eval) hr.eval (fun _=>rfl) hview he (Eff.bind_asks hb) (fun x u ho k hk hn=>by
       rcases Qdo (hout x u ho).1 k hk with ⟨b0,h1,_⟩ | ⟨_,_,h3⟩
       · rw [hn] at h1; cases h1
       · exact hr.tight k h3)
     (fun hw x u ho k hk=>by
       rcases Qdo (hout x u ho).1 k hk with ⟨b0,_,h2,_⟩ | ⟨h1,_,_⟩
       · rw [hw] at h2; cases h2
       · exact h1) hst
   have fin:∀ x u δ' v w',Qce e x u→Qah δ' x v→Upd δ (Qav bs s.nx i s.heap) w δ' u w'→Q8z own w0 l δ0 s0 a0 K (a.put o.dst v) w':=fun x u δ' v w' ho hx hU =>
     ⟨δ',apS s o x u,(hout x u ho).2,hr.after hown (hout x u ho).1 hx hU,hk.trans ⟨Qwg a o.dst v l hdst,hU.le,Qp8 (hout x u ho).1,Qpo _ _ _,Qhv _ _ _⟩⟩
   refine ⟨fun _ _=>trivial,?_⟩
   rw [show o.semAt (WF ro).round a.eval=execOp a.eval o from Oper.semAt_eq _ _ _ (Qry he)]
   generalize (execOp a.eval o).run P w=r at hnext
   cases r with
   | halt hh w'=>exact hnext.elim
   | ok n w' =>
     cases n <;> simp only [Qky] at hnext <;> simp only [Oper.uponIn]
     case value v=>obtain ⟨x,u,δ',h1,h2,h3⟩:=hnext; exact fin x u δ' v w' h1 h2 h3
     case skip=>obtain ⟨x,u,δ',h1,h2,h3⟩:=hnext; exact fin x u δ' undef w' h1 h2 h3
     case enter f args =>
       refine ⟨fun hh=>(Q33 hh).elim,Qjj ro _ (hnext.mono fun ed w'' ⟨r,x,u,δ',h0,h1,h2,h3⟩=>?_)⟩
       subst h0
       exact fin x u δ' r w'' h1 h2 h3
 have skip:(Eff.bind (.det none Qde []) fun x u=>Qcn (Qa0 Γ o) (Qav bs s.nx i s.heap) s.heap (s.nx + 8*i) u=true∧K (apS s o x u))→Q8z own w0 l δ0 s0 a0 K (a.put o.dst undef) w:=fun hb =>
   ⟨δ,apS s o Qde [],hb.2,hr.after hown hb.1 (absV_v.2 rfl) (Upd.same (hr.hr.sub (Qez bs s.nx i s.heap))),hk.trans ⟨Qwg a o.dst undef l hdst,δ.le_refl,Qp8 hb.1,Qpo _ _ _,Qhv _ _ _⟩⟩
 -- a panic
 have dies:∀ e,Qet Γ o s.eval (Qav bs s.nx i s.heap)=true→opS P Γ o s.eval (Qav bs s.nx i s.heap) (s.nx + 8*i)=some e→((Qb6 Γ o s.eval (Qav bs s.nx i s.heap) (s.nx + 8*i) e).bind fun x u=>Qcn (Qa0 Γ o) (Qav bs s.nx i s.heap) s.heap (s.nx + 8*i) u=true∧KP x (Qb3 s.heap u)) →
     o.wpIn (WF ro) n P a w (Q8z own w0 l δ0 s0 a0 K) Q:=fun e hst he hb=>by
   have hview:=hr.hr.sub (Qez bs s.nx i s.heap)
   have hout:∀ x u,Qce (Qb6 Γ o s.eval (Qav bs s.nx i s.heap) (s.nx + 8*i) e) x u→Qcn (Qa0 Γ o) (Qav bs s.nx i s.heap) s.heap (s.nx + 8*i) u=true∧KP x (Qb3 s.heap u):=fun x u ho=>Eff.bind_out hb ho
   have hnext:=Q61 (w:=w) hΓ (ρ:=a.eval) hr.eval (fun _=>rfl) hview he (Eff.bind_asks hb) (fun x u ho k hk hn=>by
       rcases Qdo (hout x u ho).1 k hk with ⟨b0,h1,_⟩ | ⟨_,_,h3⟩
       · rw [hn] at h1; cases h1
       · exact hr.tight k h3) hst
   have fin:∀ x u δ' v w',Qce (Qb6 Γ o s.eval (Qav bs s.nx i s.heap) (s.nx + 8*i) e) x u→Qah δ' x v→Upd δ (Qav bs s.nx i s.heap) w δ' u w'→Q (.panic [{v:=v,recovered:=false}]) a w':=fun x u δ' v w' ho hx hU=>by
     have ha:=hr.after hown (o:={o with dst:=none}) (hout x u ho).1 hx hU
     have hle:=Dict.le_trans hk.le hU.le
     refine hQP v a w' ⟨δ',x,Qb3 s.heap u,(hout x u ho).2,hx,⟨Q32 (Qc6 hle _ _ h00) (by simpa using hk.len) (fun t ht=>by simpa using hk.keep t ht),ha.df,ha.hr,ha.tight,ha.mine,ha.wr,ha.fzm⟩,⟨hk.keep,hle,Qim hk.locks (Qp8 (o:={o with dst:=none}) (x:=x) (hout x u ho).1),hk.len,hk.df⟩⟩
   refine ⟨fun _ _=>trivial,?_⟩
   rw [show o.semAt (WF ro).round a.eval=execOp a.eval o from Oper.semAt_eq _ _ _ (Qry he)]
   generalize (execOp a.eval o).run P w=r at hnext
   cases r with
   | halt hh w' =>
     cases hh with
     | panic v =>
       obtain ⟨x,u,δ',h1,h2,h3⟩:=hnext
       exact fin x u δ' v w' h1 h2 h3
     | _=>exact hnext.elim
   | ok n w' =>
     cases n <;> simp only [Qq3] at hnext <;> simp only [Oper.uponIn]
     case enter f args =>
       refine ⟨fun hh=>(Q33 hh).elim,Qjj ro _ (hnext.mono fun ed w'' ⟨r,x,u,δ',h0,h1,h2,h3⟩=>?_)⟩
       subst h0
       exact fin x u δ' r w'' h1 h2 h3
 -- what Qge says,once it is known whether it panics
 have split:∀ (b:Bool) (e:Eff),Qgd Γ ops.toList bs i o s=b→(match Qgd Γ ops.toList bs i o s with
     | true=>(Qb6 Γ o s.eval (Qav bs s.nx i s.heap) (s.nx + 8*i) e).bind fun x u=>Qcn (Qa0 Γ o) (Qav bs s.nx i s.heap) s.heap (s.nx + 8*i) u=true∧(dr=true→Qev P Γ bs i s ops.toList 0=true)∧KP x (Qb3 s.heap u)
     | false=>e.bind fun x u=>Qcn (Qa0 Γ o) (Qav bs s.nx i s.heap) s.heap (s.nx + 8*i) u=true∧K (apS s o x u))→(b=true→(Qb6 Γ o s.eval (Qav bs s.nx i s.heap) (s.nx + 8*i) e).bind fun x u=>Qcn (Qa0 Γ o) (Qav bs s.nx i s.heap) s.heap (s.nx + 8*i) u=true∧KP x (Qb3 s.heap u))∧(b=false→e.bind fun x u=>Qcn (Qa0 Γ o) (Qav bs s.nx i s.heap) s.heap (s.nx + 8*i) u=true∧K (apS s o x u)):=fun b e hb he=>by
   rw [hb] at he
   constructor
   · intro h; subst h; exact Eff.bind_mono (fun x u hx=>⟨hx.1,hx.2.2⟩) he
   · intro h; subst h; exact he
 have both:∀ e,opS P Γ o s.eval (Qav bs s.nx i s.heap) (s.nx + 8*i)=some e→Qgd Γ ops.toList bs i o s=Qet Γ o s.eval (Qav bs s.nx i s.heap)→(match Qgd Γ ops.toList bs i o s with
     | true=>(Qb6 Γ o s.eval (Qav bs s.nx i s.heap) (s.nx + 8*i) e).bind fun x u=>Qcn (Qa0 Γ o) (Qav bs s.nx i s.heap) s.heap (s.nx + 8*i) u=true∧(dr=true→Qev P Γ bs i s ops.toList 0=true)∧KP x (Qb3 s.heap u)
     | false=>e.bind fun x u=>Qcn (Qa0 Γ o) (Qav bs s.nx i s.heap) s.heap (s.nx + 8*i) u=true∧K (apS s o x u))→o.wpIn (WF ro) n P a w (Q8z own w0 l δ0 s0 a0 K) Q:=fun e he hs hb=>by
   cases hst:Qet Γ o s.eval (Qav bs s.nx i s.heap) with
   | true=>exact dies e hst he ((split true e (hs.trans hst) hb).1 rfl)
   | false=>exact run e hst he ((split false e (hs.trans hst) hb).2 rfl)
 unfold Qge at h
 cases hA:Qgs P Γ ops.toList bs i o s with
 | none=>rw [hA] at h; exact h.elim
 | some eA =>
 rw [hA] at h
 simp only at h
 unfold Qgs at hA
 cases hg:o.guard with
 | none =>
   rw [hg] at hA
   simp only at hA
   have hw:Region.wanted o (yielded ops a.tmps)=true:=by simp [Region.wanted,hg]
   rw [if_pos hw]
   exact both eA hA (by unfold Qgd; rw [hg]) h
 | some gw =>
   obtain ⟨g,want⟩:=gw
   rw [hg] at hA
   simp only at hA
   cases hd:(ops.toList[g]?).bind (·.dst) with
   | none=>rw [hd] at hA; cases hA
   | some t =>
     rw [hd] at hA
     simp only at hA
     have hd':(ops[g]?).bind (·.dst)=some t:=by rw [← hd]; simp
     -- what the guard's slot holds
     have slot:∀ y,s.tmps.getD t .unk=y→y≠.unk→∃ r,a.tmps[t]?=some r∧Qah δ y r:=fun y hy hne=>by
       cases hx:s.tmps[t]? with
       | none=>rw [List.getD,hx] at hy; simp at hy; exact absurd hy.symm hne
       | some z =>
         rw [List.getD,hx] at hy
         simp at hy
         subst hy
         obtain ⟨r,h1,h2⟩:=Qb5 hr.tm hx
         exact ⟨r,by simpa using h1,h2⟩
     split at hA
     · rename_i b hb
       obtain ⟨r,h1,h2⟩:=slot _ hb (by simp)
       simp only [Qah] at h2
       subst h2
       have hy:yielded ops a.tmps g=some b:=by simp [yielded,hd',h1]
       by_cases hbw:b=want
       · rw [if_pos hbw] at hA
         have hw:Region.wanted o (yielded ops a.tmps)=true:=by simp [Region.wanted,hg,hy,hbw]
         rw [if_pos hw]
         exact both eA hA (by unfold Qgd; rw [hg]; simp only [hd,hb,if_pos hbw]) h
       · rw [if_neg hbw] at hA
         cases hA
         have hw:¬ Region.wanted o (yielded ops a.tmps)=true:=by simp [Region.wanted,hg,hy,hbw]
         rw [if_neg hw]
         exact ⟨fun _ _=>trivial,skip ((split false _ (by unfold Qgd; rw [hg]; simp only [hd,hb,if_neg hbw]) h).2 rfl)⟩
     · rename_i vs hb
       obtain ⟨r,h1,h2⟩:=slot _ hb (by simp)
       simp only [Qah] at h2
       subst h2
       cases hA
       have hy:yielded ops a.tmps g=none:=by simp [yielded,hd',h1]
       have hw:¬ Region.wanted o (yielded ops a.tmps)=true:=by simp [Region.wanted,hg,hy]
       rw [if_neg hw]
       exact ⟨fun _ _=>trivial,skip ((split false _ (by unfold Qgd; rw [hg]; simp only [hd,hb]) h).2 rfl)⟩
     · cases hA
theorem Qwo {ops:List Oper}:∀ {o:Oper},o∈ops→∀ t,o.dst=some t→t∈Qc5 ops:=by
 induction ops with
 | nil=>intro o h; cases h
 | cons x l ih =>
   intro o h t ht
   rcases List.mem_cons.1 h with rfl | h
   · simp [Qc5,ht]
   · have:=ih h t ht
     unfold Qc5
     split
     · exact List.mem_cons_of_mem _ this
     · exact this
theorem Zai (hΓ:∀ f g,Γ f=some g→g.ok P f) (hown:∀ r,w0.heap.size≤r→own r) {ops:Array Oper} {bs:Vw} {KP:SV→Qbo→Prop} {K:St→Prop} {Q:Exit→Act→World→Prop} {δ0:Dict} {s0:St} {a0:Act}
   (hQ:∀ a w,Q8z own w0 (Qc5 ops.toList) δ0 s0 a0 K a w→Q .normal a w) (hQP:∀ v a w,Q8m own w0 (Qc5 ops.toList) δ0 s0 a0 KP v a w→Q (.panic [{v:=v,recovered:=false}]) a w) (h00:Qaw δ0 s0.tmps a0.tmps.toList):∀ (fuel:Nat) (listed:Array Bool) (δ:Dict) (s:St) (a:Act) (w:World),Qno P Γ ops bs KP K fuel listed s→Rep own w0 δ s a w→From (Qc5 ops.toList) δ0 s0 a0 δ s a→wpAnyIn (WF ro) n P .any ops Q fuel listed a w
 | 0,listed,δ,s,a,w,h,hr,hk=>⟨h.1,hQ a w ⟨δ,s,h.2,hr,hk⟩⟩
 | fuel + 1,listed,δ,s,a,w,h,hr,hk=>by
   refine ⟨fun h0=>hQ a w ⟨δ,s,h.1 h0,hr,hk⟩,fun i hi=>?_⟩
   have h1:=h.2 i hi
   unfold Qxb at h1
   obtain ⟨_,o,ho,_⟩:=mem_ready.1 hi
   rw [ho] at h1
   refine wpOpIn_mono (fun a' w' hg=>?_) (Qvh hΓ hown (Q:=Q) hQP h00 ho (fun t ht=>Qwo (by simpa using Array.mem_of_getElem? ho) t ht) hk h1 hr)
   obtain ⟨δ',s',h2,h3,h4⟩:=hg
   exact Zai hΓ hown hQ hQP h00 fuel _ δ' s' a' w' h2 h3 h4
theorem Q9l (hΓ:∀ f g,Γ f=some g→g.ok P f) (hown:∀ r,w0.heap.size≤r→own r) {ops:Array Oper} {bs:Vw} {dr:Bool} {KP:SV→Qbo→Prop} {K:St→Prop} {Q:Exit→Act→World→Prop} {δ0:Dict} {s0:St} {a0:Act}
   (hQ:∀ a w,Q8z own w0 (Qc5 ops.toList) δ0 s0 a0 K a w→Q .normal a w) (hQP:∀ v a w,Q8m own w0 (Qc5 ops.toList) δ0 s0 a0 KP v a w→Q (.panic [{v:=v,recovered:=false}]) a w) (h00:Qaw δ0 s0.tmps a0.tmps.toList):∀ (l:List Oper) (k:Nat) (δ:Dict) (s:St) (a:Act) (w:World),(∀ (j:Nat),l[j]?=ops[k + j]?)→Qzs P Γ ops.toList bs dr KP K l k s→Rep own w0 δ s a w →
   From (Qc5 ops.toList) δ0 s0 a0 δ s a→wpOpsIn (WF ro) n P ops Q (List.range' k l.length) a w
 | [],k,δ,s,a,w,_,h,hr,hk=>by simp only [List.length_nil,List.range'_zero,wpOpsIn]; exact hQ a w ⟨δ,s,h,hr,hk⟩
 | o :: l,k,δ,s,a,w,hl,h,hr,hk=>by
   have ho:ops[k]?=some o:=by simpa using (hl 0).symm
   simp only [List.length_cons,List.range'_succ,wpOpsIn_cons]
   refine wpOpIn_mono (fun a' w' hg=>?_) (Qvh hΓ hown (Q:=Q) hQP h00 ho (fun t ht=>Qwo (by simpa using Array.mem_of_getElem? ho) t ht) hk (Q0d h) hr)
   obtain ⟨δ',s',h2,h3,h4⟩:=hg
   exact Q9l hΓ hown hQ hQP h00 l (k + 1) δ' s' a' w' (fun j=>by have:=hl (j + 1); simpa [Nat.add_assoc,Nat.add_comm 1 j] using this) h2 h3 h4
theorem Rep.drew (h:Rep own w0 δ s a w):Rep own w0 δ s a {w with drawn:=w.drawn + 1} :=
 ⟨h.tm,h.df,⟨fun k b hk=>(h.hr.blk k b hk).imp fun _ ⟨d1,d2⟩=>⟨d1,fun hd=>(d2 hd).mono δ.le_refl fun _=>rfl⟩,h.hr.inj,h.hr.fz⟩,h.tight,h.mine,h.wr.drew,h.fzm⟩
theorem Rep.nx (h:Rep own w0 δ s a w) (n:Nat):Rep own w0 δ {s with nx:=n} a w:=⟨h.tm,h.df,h.hr,h.tight,h.mine,h.wr,h.fzm⟩
theorem From.nx {l:List Nat} {δ0 δ:Dict} {s0 s:St} {a0 a:Act} (h:From l δ0 s0 a0 δ s a) (n:Nat):From l δ0 s0 a0 δ {s with nx:=n} a:=⟨h.keep,h.le,h.locks,h.len,h.df⟩
theorem Q1e (hm:P.follows .mixedOrders=true) (hΓ:∀ f g,Γ f=some g→g.ok P f) (hown:∀ r,w0.heap.size≤r→own r) {ops:Array Oper} {draw:Bool} {rid:Nat} {pr:List (Nat×(Nat→List Nat))} {KP:SV→Qbo→Prop} {K:St→Prop} {Q:Exit→Act→World→Prop} {δ0:Dict} {s0:St} {a0:Act}
   (hQ:∀ a w,Q8z own w0 (Qc5 ops.toList) δ0 s0 a0 K a w→Q .normal a w) (hQP:∀ v a w,Q8m own w0 (Qc5 ops.toList) δ0 s0 a0 KP v a w→Q (.panic [{v:=v,recovered:=false}]) a w) (h00:Qaw δ0 s0.tmps a0.tmps.toList) (hb:(!draw||Qe1 P Γ ops ⟨Qa7 ops.toList [],pr⟩)=true) (h:Qzs P Γ ops.toList ⟨Qa7 ops.toList [],pr⟩ draw KP K ops.toList 0 s)
   (hr:Rep own w0 δ s a w) (hk:From (Qc5 ops.toList) δ0 s0 a0 δ s a):(Code.region rid ops draw).wpIn (WF ro) n P Q a w:=by
 cases draw with
 | false =>
   refine wpIn_region ?_
   have:=Q9l (ro:=ro) (n:=n) hΓ hown hQ hQP h00 ops.toList 0 δ s a w (fun j=>by simp) h hr hk
   rw [Array.length_toList,← List.range_eq_range'] at this
   exact this
 | true =>
   simp only [Bool.not_true,Bool.false_or] at hb
   refine wpIn_region_any hm ?_
   have:=Qw2 hb ops.toList 0 (Array.replicate ops.size false) s (fun j=>by simp) (by simp) (fun j hj=>by simp [hj]) (by simp) h
   rw [Array.length_toList] at this
   exact Zai hΓ hown hQ hQP h00 _ _ δ s a _ this hr.drew hk
end
end Go.SE
end
section
namespace Go.SE
theorem Qca {b:Bool} {p:Prop}:Qt3 b p↔b=true∧p:=by
 cases b <;> simp [Qt3]
section
variable {m:List (Nat×Cur)} {h:Qbo} {δ' δ'':Dict}
mutual
theorem Qmq (hz:∀ q,δ'.fz q→δ''.fz q) (hat:∀ N k,Qbm m N=some (.at k)→∀ p,δ' k=some p→δ'' N=some p) (hnil:∀ N sz,Qbm m N=some (.nil sz)→δ'' N=some ⟨0,sz,0,0,true,false⟩)
   (hold:∀ k,Qbm m k=none→(h k).isSome=true→∀ p,δ' k=some p→δ'' k=some p):∀ (x y:SV) (r:Value),mtS m h x y→Qah δ' y r→Qah δ'' x r
 | .unk,_,_,_,_=>by simp only [Qah]
 | .v x,y,r,hm,hr=>by
   simp only [mtS] at hm
   subst hm
   simp only [Qah] at *
   exact hr
 | .sl k s i l c,y,r,hm,hr=>by
   simp only [mtS] at hm
   cases hc:Qbm m k with
   | none =>
     rw [hc] at hm
     simp only [Qca] at hm
     obtain ⟨hh,rfl⟩:=hm
     simp only [Qah] at *
     obtain ⟨p,h1,h2⟩:=hr
     exact ⟨p,hold k hc hh p h1,h2⟩
   | some cu =>
     rw [hc] at hm
     cases cu with
     | «at» k' =>
       simp only at hm
       subst hm
       simp only [Qah] at *
       obtain ⟨p,h1,h2⟩:=hr
       exact ⟨p,hat k k' hc p h1,h2⟩
     | nil sz =>
       simp only [Qca] at hm
       obtain ⟨hh,rfl,rfl,rfl,rfl⟩:=hm
       have:=Nat.eq_of_beq_eq_true hh
       subst this
       simp only [Qah] at *
       subst hr
       exact ⟨_,hnil k sz hc,rfl,Nat.le_refl _,.inr ⟨trivial,.inl trivial,_,rfl⟩⟩
 | .vp k j,y,r,hm,hr=>by
   simp only [mtS] at hm
   cases hc:Qbm m k with
   | none =>
     rw [hc] at hm
     simp only [Qca] at hm
     obtain ⟨hh,rfl⟩:=hm
     simp only [Qah] at *
     obtain ⟨p,h1,h2⟩:=hr
     exact ⟨p,hold k hc hh p h1,h2⟩
   | some cu =>
     rw [hc] at hm
     cases cu with
     | «at» k' =>
       simp only at hm
       subst hm
       simp only [Qah] at *
       obtain ⟨p,h1,h2⟩:=hr
       exact ⟨p,hat k k' hc p h1,h2⟩
     | nil sz=>exact hm.elim
 | .ptr k i j,y,r,hm,hr=>by
   simp only [mtS] at hm
   cases hc:Qbm m k with
   | none =>
     rw [hc] at hm
     simp only [Qca] at hm
     obtain ⟨hh,rfl⟩:=hm
     simp only [Qah] at *
     obtain ⟨p,h1,h2⟩:=hr
     exact ⟨p,hold k hc hh p h1,h2⟩
   | some cu =>
     rw [hc] at hm
     cases cu with
     | «at» k' =>
       simp only at hm
       subst hm
       simp only [Qah] at *
       obtain ⟨p,h1,h2⟩:=hr
       exact ⟨p,hat k k' hc p h1,h2⟩
     | nil sz=>exact hm.elim
 | .ap k n l,y,r,hm,hr=>by
   simp only [mtS] at hm
   cases hc:Qbm m k with
   | none =>
     rw [hc] at hm
     simp only [Qca] at hm
     obtain ⟨hh,rfl⟩:=hm
     simp only [Qah] at *
     obtain ⟨p,h1,h2⟩:=hr
     exact ⟨p,hold k hc hh p h1,h2⟩
   | some cu =>
     rw [hc] at hm
     cases cu with
     | «at» k' =>
       simp only at hm
       subst hm
       simp only [Qah] at *
       obtain ⟨p,h1,h2⟩:=hr
       exact ⟨p,hat k k' hc p h1,h2⟩
     | nil sz=>exact hm.elim
 | .mp k,y,r,hm,hr=>by
   simp only [mtS] at hm
   cases hc:Qbm m k with
   | none =>
     rw [hc] at hm
     simp only [Qca] at hm
     obtain ⟨hh,rfl⟩:=hm
     simp only [Qah] at *
     obtain ⟨p,h1,h2⟩:=hr
     exact ⟨p,hold k hc hh p h1,h2⟩
   | some cu =>
     rw [hc] at hm
     cases cu with
     | «at» k' =>
       simp only at hm
       subst hm
       simp only [Qah] at *
       obtain ⟨p,h1,h2⟩:=hr
       exact ⟨p,hat k k' hc p h1,h2⟩
     | nil sz=>exact hm.elim
 | .fz s n row,y,r,hm,hr=>by
   simp only [mtS] at hm
   split at hm
   · rename_i s' n' row'
     obtain ⟨rfl,rfl,h3⟩:=hm
     simp only [Qah] at *
     rcases hr with h1 | ⟨q,c,h1,h2,h4,h5,h6⟩
     · exact .inl h1
     · exact .inr ⟨q,c,hz q h1,h2,h4,fun i hi=>(h5 i hi).trans (h3 i hi),h6⟩
   · exact hm.elim
 | .fn f cs,y,r,hm,hr=>by
   simp only [mtS] at hm
   split at hm
   · rename_i f' ds
     obtain ⟨rfl,hm⟩:=hm
     simp only [Qah] at *
     obtain ⟨xs,h1,h2⟩:=hr
     exact ⟨xs,h1,Qj4 hz hat hnil hold cs ds xs hm h2⟩
   · exact hm.elim
 | .ifc t x,y,r,hm,hr=>by
   simp only [mtS] at hm
   split at hm
   · rename_i t' z
     obtain ⟨rfl,hm⟩:=hm
     simp only [Qah] at *
     obtain ⟨v,h1,h2⟩:=hr
     exact ⟨v,h1,Qmq hz hat hnil hold x z v hm h2⟩
   · exact hm.elim
 | .agg cs,y,r,hm,hr=>by
   simp only [mtS] at hm
   split at hm
   · rename_i ds
     simp only [Qah] at *
     obtain ⟨xs,h1,h2⟩:=hr
     exact ⟨xs,h1,Qj4 hz hat hnil hold cs ds xs hm h2⟩
   · exact hm.elim
 | .tup cs,y,r,hm,hr=>by
   simp only [mtS] at hm
   split at hm
   · rename_i ds
     simp only [Qah] at *
     obtain ⟨xs,h1,h2⟩:=hr
     exact ⟨xs,h1,Qj4 hz hat hnil hold cs ds xs hm h2⟩
   · exact hm.elim
theorem Qj4 (hz:∀ q,δ'.fz q→δ''.fz q) (hat:∀ N k,Qbm m N=some (.at k)→∀ p,δ' k=some p→δ'' N=some p) (hnil:∀ N sz,Qbm m N=some (.nil sz)→δ'' N=some ⟨0,sz,0,0,true,false⟩)
   (hold:∀ k,Qbm m k=none→(h k).isSome=true→∀ p,δ' k=some p→δ'' k=some p):∀ (xs ys:List SV) (rs:List Value),mtL m h xs ys→Qaw δ' ys rs→Qaw δ'' xs rs
 | [],ys,rs,hm,hr=>by
   simp only [mtL] at hm
   split at hm
   · exact Qc6 (Dict.le_refl δ'') _ _ (by cases rs <;> simp only [Qaw] at *)
   · exact hm.elim
 | x :: xs,ys,rs,hm,hr=>by
   match ys,rs,hr with
   | y :: ys',r :: rs',hr =>
     simp only [Qaw] at hr ⊢
     simp only [mtL] at hm
     match xs,hm with
     | [],hm =>
       simp only at hm
       match ys',hm with
       | [],hm =>
         refine ⟨Qmq hz hat hnil hold x y r hm hr.1,?_⟩
         cases rs' with
         | nil=>simp only [Qaw]
         | cons _ _=>simp only [Qaw] at hr; exact hr.2.elim
       | _ :: _,hm=>exact hm.elim
     | x' :: xs',hm =>
       simp only at hm
       exact ⟨Qmq hz hat hnil hold x y r hm.1 hr.1,Qj4 hz hat hnil hold (x' :: xs') ys' rs' hm.2 hr.2⟩
   | [],[],hr=>simp only [mtL] at hm
   | [],_ :: _,hr=>simp only [Qaw] at hr
   | _ :: _,[],hr=>simp only [Qaw] at hr
end
end
mutual
theorem Qni {δ0 δ' δ'':Dict} (hle:δ0.le δ') (hle2:δ0.le δ'') (hz:∀ q,δ'.fz q→δ''.fz q):∀ (x:SV) (r r':Value),Qah δ0 x r→Qah δ' x r'→Qah δ'' x r'
 | .unk,_,_,_,_=>by simp only [Qah]
 | .v x,_,r',_,h'=>by simp only [Qah] at *; exact h'
 | .vp k j,_,r',h0,h'=>by
   simp only [Qah] at *
   obtain ⟨p0,g1,_⟩:=h0
   obtain ⟨p,h1,h2⟩:=h'
   have:=hle _ _ g1; rw [h1] at this; cases this
   exact ⟨_,hle2 _ _ g1,h2⟩
 | .ptr k i j,_,r',h0,h'=>by
   simp only [Qah] at *
   obtain ⟨p0,g1,_⟩:=h0
   obtain ⟨p,h1,h2⟩:=h'
   have:=hle _ _ g1; rw [h1] at this; cases this
   exact ⟨_,hle2 _ _ g1,h2⟩
 | .sl k s i l c,_,r',h0,h'=>by
   simp only [Qah] at *
   obtain ⟨p0,g1,_⟩:=h0
   obtain ⟨p,h1,h2⟩:=h'
   have:=hle _ _ g1; rw [h1] at this; cases this
   exact ⟨_,hle2 _ _ g1,h2⟩
 | .ap k n l,_,r',h0,h'=>by
   simp only [Qah] at *
   obtain ⟨p0,g1,_⟩:=h0
   obtain ⟨p,h1,h2⟩:=h'
   have:=hle _ _ g1; rw [h1] at this; cases this
   exact ⟨_,hle2 _ _ g1,h2⟩
 | .mp k,_,r',h0,h'=>by
   simp only [Qah] at *
   obtain ⟨p0,g1,_⟩:=h0
   obtain ⟨p,h1,h2⟩:=h'
   have:=hle _ _ g1; rw [h1] at this; cases this
   exact ⟨_,hle2 _ _ g1,h2⟩
 | .fz s n row,_,r',_,h'=>by
   simp only [Qah] at *
   rcases h' with h1 | ⟨q,c,h1,h2⟩
   · exact .inl h1
   · exact .inr ⟨q,c,hz q h1,h2⟩
 | .fn f caps,_,r',h0,h'=>by
   simp only [Qah] at *
   obtain ⟨xs0,_,g2⟩:=h0
   obtain ⟨xs,h1,h2⟩:=h'
   exact ⟨xs,h1,Qjl hle hle2 hz caps xs0 xs g2 h2⟩
 | .ifc t x,_,r',h0,h'=>by
   simp only [Qah] at *
   obtain ⟨y0,_,g2⟩:=h0
   obtain ⟨y,h1,h2⟩:=h'
   exact ⟨y,h1,Qni hle hle2 hz x y0 y g2 h2⟩
 | .agg cs,_,r',h0,h'=>by
   simp only [Qah] at *
   obtain ⟨xs0,_,g2⟩:=h0
   obtain ⟨xs,h1,h2⟩:=h'
   exact ⟨xs,h1,Qjl hle hle2 hz cs xs0 xs g2 h2⟩
 | .tup vs,_,r',h0,h'=>by
   simp only [Qah] at *
   obtain ⟨xs0,_,g2⟩:=h0
   obtain ⟨xs,h1,h2⟩:=h'
   exact ⟨xs,h1,Qjl hle hle2 hz vs xs0 xs g2 h2⟩
theorem Qjl {δ0 δ' δ'':Dict} (hle:δ0.le δ') (hle2:δ0.le δ'') (hz:∀ q,δ'.fz q→δ''.fz q):∀ (xs:List SV) (rs rs':List Value),Qaw δ0 xs rs→Qaw δ' xs rs'→Qaw δ'' xs rs'
 | [],_,[],_,_=>by simp only [Qaw]
 | x :: xs,r :: rs,r' :: rs',h0,h'=>by
   simp only [Qaw] at *
   exact ⟨Qni hle hle2 hz x r r' h0.1 h'.1,Qjl hle hle2 hz xs rs rs' h0.2 h'.2⟩
 | _ :: _,[],_,h0,_=>by simp only [Qaw] at h0
 | [],_,_ :: _,_,h'=>by simp only [Qaw] at h'
 | _ :: _,_ :: _,[],_,h'=>by simp only [Qaw] at h'
end
section
variable {P:Program} {Γ:Qbz} {own:Own} {w0:World} {L:LoopSpec}
theorem Qo4 {δ:Dict} {rs:List Value}:∀ (ps:List (Nat×SV)) {l:List SV},Qaw δ l rs→(∀ t v,(t,v)∈ps→∀ r,rs[t]?=some r→Qah δ v r)→Qaw δ (Qli l ps) rs
 | [],l,h,_=>h
 | (t,v) :: ps,l,h,hp=>by
   simp only [Qli]
   refine Qo4 ps ?_ fun t' v' hm r hr=>hp t' v' (List.mem_cons_of_mem _ hm) r hr
   refine Qei (by simpa using Qa6 h) fun i x hx=>?_
   rw [List.getElem?_set] at hx
   by_cases hi:t=i
   · subst hi
     rw [if_pos rfl] at hx
     split at hx
     · cases hx
       rename_i hlt
       have hlt':t<rs.length:=by rw [← Qa6 h]; exact hlt
       exact ⟨rs[t],List.getElem?_eq_getElem hlt',hp t _ List.mem_cons_self _ (List.getElem?_eq_getElem hlt')⟩
     · cases hx
   · rw [if_neg hi] at hx
     exact Qb5 h hx
theorem Qhq {X α:Type} (x:X) (k:Nat):∀ l:List (Nat×(X→α)),Qac k (atX x l)=Qac k l
 | []=>rfl
 | (k',f) :: rest=>by simp only [atX,Qac,Qhq x k rest]
theorem Qkk {m:List (Nat×Cur)} {h:Qbo} {s:St}:∀ {ps:List (Nat×SV)},Qpm m h s ps→∀ t v,(t,v)∈ps→mtS m h v (s.tmps.getD t .unk)
 | [],_,t,v,h=>by cases h
 | [(t',v')],h,t,v,hm=>by
   simp only [List.mem_singleton,Prod.mk.injEq] at hm
   obtain ⟨rfl,rfl⟩:=hm
   exact h
 | (t',v') :: p :: rest,h,t,v,hm=>by
   simp only [Qpm] at h
   rcases List.mem_cons.1 hm with he | hm
   · cases he; exact h.1
   · exact Qkk h.2 t v hm
structure BlkFits (m:List (Nat×Cur)) (h:Qbo) (b p:Blk):Prop where
 size:b.size=p.size
 rw:b.rw=p.rw
 lock:b.lock=false
 lock':p.lock=false
 flat:p.flat=true→b.flat=true
 dead:b.dead=false
 dead':p.dead=false
 elem:p.elem≠0→b.elem=p.elem
 whole:p.whole=true→b.whole=true
 n:b.n=p.n
 ext:p.ext≤b.ext
 sp:(∃ a c,b.sp=some a∧p.sp=some c∧Zd7 p.size a c)∨(b.sp=none∧p.sp=none)
 row:p.sp=none→∀ i,i<p.n→(p.flat=true∧b.row i=p.row i)∨(p.flat=false∧mtL m h (p.row i) (b.row i))
theorem Qdy {m:List (Nat×Cur)} {h:Qbo} {b p:Blk} (he:Qnw m h b p):BlkFits m h b p:=by
 unfold Qnw at he
 rw [Qca] at he
 obtain ⟨hc,h1,h2,h3⟩:=he
 simp only [Bool.and_eq_true,Bool.not_eq_true',Bool.or_eq_true,beq_iff_eq] at hc
 obtain ⟨⟨⟨⟨⟨⟨⟨⟨c1,c2⟩,c3⟩,c4⟩,c5⟩,c6⟩,c7⟩,c8⟩,c9⟩:=hc
 refine ⟨Nat.eq_of_beq_eq_true c1,c2,c3,c4,fun hp=>?_,c6,c7,fun hp=>?_,fun hp=>?_,h1,h2,?_,fun hsp i hi=>?_⟩
 · rcases c5 with c5 | c5
   · exact c5
   · rw [hp] at c5; cases c5
 · rcases c8 with c8 | c8
   · exact absurd (Nat.eq_of_beq_eq_true c8) hp
   · exact Nat.eq_of_beq_eq_true c8
 · rcases c9 with c9 | c9
   · rw [hp] at c9; cases c9
   · exact c9
 · split at h3
   · rename_i c hc
     split at h3
     · rename_i a ha
       exact .inl ⟨a,c,ha,hc,h3⟩
     · exact h3.elim
   · rename_i hc
     split at h3
     · exact h3.elim
     · rename_i ha
       exact .inr ⟨ha,hc⟩
 · rw [hsp] at h3
   simp only at h3
   split at h3
   · exact h3.elim
   cases hf:p.flat with
   | true=>rw [hf] at h3; exact .inl ⟨rfl,h3 i hi⟩
   | false =>
     rw [hf] at h3
     simp only at h3
     cases hl:p.lit with
     | true =>
       rw [hl] at h3
       simp only [Qca] at h3
       have:=Nat.eq_of_beq_eq_true h3.1
       have:i=0:=by omega
       subst this
       exact .inr ⟨rfl,h3.2⟩
     | false=>rw [hl] at h3; exact .inr ⟨rfl,h3 i hi⟩
theorem MapRep.eq {sz:Nat} {a c:MapC} {es:Array MapEntry} {clock:Nat} (h:MapRep sz a es clock) (he:Zd7 sz a c):MapRep sz c es clock :=
 ⟨h.cnt.trans he.1,h.key,h.wf,h.one,fun k=>by rw [← he.2.1 k]; exact h.has k,fun x hx k hk=>by
   rw [h.val x hx k hk]
   congr 2
   refine List.map_congr_left fun i hi=>?_
   rw [he.2.2 k i (List.mem_range.1 hi)],fun k hk i hi=>by rw [← he.2.2 k i hi]; exact h.off k (by rw [he.2.1 k]; exact hk) i hi,h.born,h.apart⟩
theorem Qgq {m:List (Nat×Cur)} {h:Qbo} {s:St}:∀ {ps:List (Nat×Blk)},Qnc m h s ps→∀ k p,(k,p)∈ps →
   (∃ k' b,Qbm m k=some (.at k')∧s.heap k'=some b∧BlkFits m h b p)∨(∃ sz,Qbm m k=some (.nil sz)∧p.n=0∧p.ext=0∧sz=p.size)∨(∃ b,Qbm m k=none∧s.heap k=some b∧BlkFits m h b p)
 | [],_,k,p,hm=>by cases hm
 | (k',p') :: rest,he,k,p,hm=>by
   simp only [Qnc] at he
   -- the first and the rest
   have both:((∃ k'' b,Qbm m k'=some (.at k'')∧s.heap k''=some b∧BlkFits m h b p')∨(∃ sz,Qbm m k'=some (.nil sz)∧p'.n=0∧p'.ext=0∧sz=p'.size)∨(∃ b,Qbm m k'=none∧s.heap k'=some b∧BlkFits m h b p'))∧Qnc m h s rest:=by
     cases hc:Qbm m k' with
     | none =>
       rw [hc] at he
       simp only at he
       cases hs:s.heap k' with
       | none=>rw [hs] at he; exact he.elim
       | some b =>
         rw [hs] at he
         cases rest with
         | nil=>exact ⟨.inr (.inr ⟨b,rfl,rfl,Qdy he⟩),trivial⟩
         | cons q rest=>exact ⟨.inr (.inr ⟨b,rfl,rfl,Qdy he.1⟩),he.2⟩
     | some cu =>
       rw [hc] at he
       cases cu with
       | «at» k'' =>
         simp only at he
         cases hs:s.heap k'' with
         | none=>rw [hs] at he; exact he.elim
         | some b =>
           rw [hs] at he
           cases rest with
           | nil=>exact ⟨.inl ⟨k'',b,rfl,hs,Qdy he⟩,trivial⟩
           | cons q rest=>exact ⟨.inl ⟨k'',b,rfl,hs,Qdy he.1⟩,he.2⟩
       | nil sz =>
         simp only [Qca,Bool.and_eq_true,Bool.not_eq_true'] at he
         exact ⟨.inr (.inl ⟨sz,rfl,he.1.1,he.1.2.1,Nat.eq_of_beq_eq_true he.1.2.2.1.2⟩),he.2⟩
   rcases List.mem_cons.1 hm with e | hm
   · cases e; exact both.1
   · exact Qgq both.2 k p hm
theorem Qe6 {k:Nat}:∀ (u:List (Nat×Blk)) (h:Qbo),Qac k u=true→∃ b,(k,b)∈u∧Qb3 h u k=some b
 | [],_,hn=>by simp [Qac] at hn
 | (k',b) :: rest,h,hn=>by
   simp only [Qb3]
   cases hr:Qac k rest with
   | true =>
     obtain ⟨b',h1,h2⟩:=Qe6 rest (Qew h k' b) hr
     exact ⟨b',List.mem_cons_of_mem _ h1,h2⟩
   | false =>
     rw [Qat rest _ hr]
     simp only [Qac,hr,Bool.or_false] at hn
     have:k=k':=Nat.eq_of_beq_eq_true hn
     subst this
     exact ⟨b,List.mem_cons_self,by simp [Qew]⟩
theorem curOf_names {X:Type} {s:St} {x:X}:∀ {l:List (Nat×(X→Blk)×(St→SV))} {k:Nat},(Qbm (Q7r s x l) k≠none↔Qac k (Qdz x l)=true)
 | [],k=>by simp [Q7r,Qbm,Qdz,Qac]
 | (k',p,f) :: l,k=>by
   simp only [Q7r,Qbm,Qdz,Qac]
   cases h:Nat.beq k k' with
   | true=>simp
   | false=>simpa using curOf_names (l:=l)
theorem Qsn {k:Nat} {c:Cur}:∀ {m:List (Nat×Cur)},Qbm m k=some c→(k,c)∈m
 | [],h=>by cases h
 | (k',c') :: m,h=>by
   simp only [Qbm] at h
   cases hb:Nat.beq k k' with
   | true =>
     rw [hb,cond_true] at h
     cases h
     rw [Nat.eq_of_beq_eq_true hb]
     exact List.mem_cons_self
   | false=>rw [hb,cond_false] at h; exact List.mem_cons_of_mem _ (Qsn h)
theorem Qiq {h:Qbo} {kills:List Nat}:∀ {m:List (Nat×Cur)},Qkt h kills m=true→(∀ N k,Qbm m N=some (.at k)→h k=none∨k∈kills)∧(∀ N N' k,Qbm m N=some (.at k)→Qbm m N'=some (.at k)→N=N')
 | [],_=>⟨fun N k h=>(by cases h),fun N N' k h _=>(by cases h)⟩
 | (K,c) :: m,ho=>by
   have hrest:Qkt h kills m=true:=by
     cases c with
     | «at» k=>simp only [Qkt,Bool.and_eq_true] at ho; exact ho.2
     | nil sz=>exact ho
   obtain ⟨g1,g2⟩:=Qiq hrest
   have hd:∀ k,c=.at k→(h k=none∨k∈kills)∧∀ N,Qbm m N≠some (.at k):=fun k e=>by
     subst e
     simp only [Qkt,Bool.and_eq_true,Bool.or_eq_true] at ho
     refine ⟨ho.1.1.imp (fun hh=>by simpa using hh) (fun hh=>by simpa using hh),fun N hN=>?_⟩
     have:=List.all_eq_true.1 ho.1.2 _ (Qsn hN)
     simp at this
   constructor
   · intro N k hN
     simp only [Qbm] at hN
     cases hb:Nat.beq N K with
     | true=>rw [hb,cond_true] at hN; cases hN; exact (hd k rfl).1
     | false=>rw [hb,cond_false] at hN; exact g1 N k hN
   · intro N N' k hN hN'
     simp only [Qbm] at hN hN'
     cases hb:Nat.beq N K with
     | true =>
       rw [hb,cond_true] at hN
       cases hN
       cases hb':Nat.beq N' K with
       | true=>rw [Nat.eq_of_beq_eq_true hb,Nat.eq_of_beq_eq_true hb']
       | false=>rw [hb',cond_false] at hN'; exact absurd hN' ((hd k rfl).2 N')
     | false =>
       rw [hb,cond_false] at hN
       cases hb':Nat.beq N' K with
       | true=>rw [hb',cond_true] at hN'; cases hN'; exact absurd hN ((hd k rfl).2 N)
       | false=>rw [hb',cond_false] at hN'; exact g2 N N' k hN hN'
theorem Qcy {α:Type} {k:Nat}:∀ {a b:List (Nat×α)},Qac k (a++b)=(Qac k a||Qac k b)
 | [],b=>by simp [Qac]
 | (k',y) :: a,b=>by simp only [List.cons_append,Qac,Qcy (a:=a),Bool.or_assoc]
theorem Qdr {α:Type} {k:Nat}:∀ {l:List (Nat×α)},Qac k l=true→∃ y,(k,y)∈l
 | [],h=>by simp [Qac] at h
 | (k',y) :: l,h=>by
   simp only [Qac,Bool.or_eq_true] at h
   rcases h with h | h
   · rw [Nat.eq_of_beq_eq_true h]; exact ⟨y,List.mem_cons_self⟩
   · obtain ⟨z,hz⟩:=Qdr h; exact ⟨z,List.mem_cons_of_mem _ hz⟩
theorem Qo0 {X:Type} {x:X} {k:Nat} {p:Blk}:∀ {l:List (Nat×(X→Blk)×(St→SV))},(k,p)∈Qdz x l→∃ q∈l,q.1=k
 | [],h=>by cases h
 | (k',f,g) :: l,h=>by
   simp only [Qdz] at h
   rcases List.mem_cons.1 h with e | h
   · cases e; exact ⟨_,List.mem_cons_self,rfl⟩
   · obtain ⟨q,h1,h2⟩:=Qo0 h; exact ⟨q,List.mem_cons_of_mem _ h1,h2⟩
structure NamesOk (L:LoopSpec) (h:Qbo) (ks:List Nat):Prop where
 blks:∀ k,Qac k L.blks=true→h k≠none∧k ∉ ks
 news:∀ (x:L.X) k,Qac k (Qdz x L.news)=true→h k=none
 kills:∀ k,k∈ks→∃ b,h k=some b∧b.lock=false
theorem Qd4 {h:Qbo} {ks:List Nat} (hall:Qc0 L h ks=true):NamesOk L h ks:=by
 unfold Qc0 at hall
 simp only [Bool.and_eq_true,List.all_eq_true] at hall
 obtain ⟨⟨h1,h2⟩,h3⟩:=hall
 refine ⟨fun k hk=>?_,fun x k hk=>?_,fun k hk=>?_⟩
 · obtain ⟨y,hy⟩:=Qdr hk
   have:=h1 _ hy
   simp only [Bool.not_eq_true',List.elem_eq_contains,List.contains_eq_mem,decide_eq_false_iff_not] at this
   exact ⟨fun e=>by rw [e] at this; simp at this,this.2⟩
 · obtain ⟨y,hy⟩:=Qdr hk
   obtain ⟨q,q1,q2⟩:=Qo0 hy
   have:=h2 q q1
   rw [q2] at this
   simpa using this
 · have:=h3 k hk
   split at this
   · rename_i b hb; exact ⟨b,hb,by simpa using this⟩
   · cases this
theorem Qf7 (s:St) (x:L.X) (hall:NamesOk L s.heap (L.kills s)) (k:Nat) :
   ((L.head s x).heap k=none∧s.heap k=none) ∨
   (∃ p,(k,p)∈atX x L.blks++Qdz x L.news∧(L.head s x).heap k=some p∧((s.heap k≠none∧Qac k L.blks=true∧k ∉ L.kills s)∨(s.heap k=none∧Qac k (Qdz x L.news)=true))) ∨
   (∃ b,s.heap k=some b∧k∈L.kills s∧(L.head s x).heap k=some (Qdb {b with lock:=true})∧b.lock=false) ∨
   (∃ b,s.heap k=some b∧(L.head s x).heap k=some {b with lock:=true}∧Qac k L.blks=false∧k ∉ L.kills s):=by
 unfold LoopSpec.head
 simp only
 cases hi:Qac k (atX x L.blks++Qdz x L.news) with
 | true =>
   obtain ⟨p,h1,h2⟩:=Qe6 (atX x L.blks++Qdz x L.news) (fun k=>match s.heap k with | some b=>some (bif (L.kills s).elem k then Qdb {b with lock:=true} else bif Qac k L.blks then b else {b with lock:=true}) | none=>none) hi
   refine .inr (.inl ⟨p,h1,h2,?_⟩)
   rw [Qcy,Bool.or_eq_true,Qhq] at hi
   rcases hi with hi | hi
   · exact .inl ⟨(hall.blks k hi).1,hi,(hall.blks k hi).2⟩
   · exact .inr ⟨hall.news x k hi,hi⟩
 | false =>
   rw [Qat _ _ hi]
   rw [Qcy,Bool.or_eq_false_iff,Qhq] at hi
   cases hs:s.heap k with
   | none=>exact .inl ⟨rfl,rfl⟩
   | some b =>
     by_cases hk:k∈L.kills s
     · obtain ⟨b',h1,h2⟩:=hall.kills k hk
       rw [hs] at h1; cases h1
       exact .inr (.inr (.inl ⟨b,rfl,hk,by simp [hk],h2⟩))
     · exact .inr (.inr (.inr ⟨b,rfl,by simp [hi.1,hk],hi.1,hk⟩))
theorem Qe5 {s s':St} {x:L.X} {δ0 δ':Dict} {a0 a':Act} {w' we:World} {l:List Nat} (hall:NamesOk L s.heap (L.kills s)) (hcov:L.covers l=true) (hr0:Rep own w0 δ0 s a0 we) (hr:Rep own w0 δ' s' a' w')
   (hle:δ0.le δ') (hk:keep l a0 a') (hlen:a'.tmps.size=a0.tmps.size) (hlock:∀ k b,s.heap k=some b→Qac k L.blks=false→k ∉ L.kills s→s'.heap k=some b∨s'.heap k=some {b with lock:=true}) (hf:Qnm L s.heap (L.kills s) s' x) :
   ∃ δ'',δ0.le δ''∧Rep own w0 δ'' (L.head s x) a' w':=by
 unfold Qnm at hf
 simp only [Qca] at hf
 obtain ⟨hco,_,hs,hb⟩:=hf
 obtain ⟨hco1,hco2⟩:=Qiq hco
 generalize hm:Q7r s' x L.news=m at hs hb hco1 hco2
 have hdom:∀ k,s.heap k≠none→δ0 k≠none:=fun k hk h0=>by
   cases hh:s.heap k with
   | none=>exact hk hh
   | some b=>obtain ⟨p,h1,_⟩:=hr0.hr.blk k b hh; rw [h0] at h1; cases h1
 have hnew:∀ k,Qbm m k≠none→s.heap k=none:=fun k hk=>by
   rw [← hm,curOf_names] at hk
   exact hall.news x k hk
 have hold0:∀ k,s.heap k≠none→Qbm m k=none:=fun k hk=>by
   cases hc:Qbm m k with
   | none=>rfl
   | some c=>exact absurd (hnew k (by rw [hc]; simp)) hk
 let δ'':Dict:=⟨fun k=>match Qbm m k with
   | some (.at k')=>δ' k'
   | some (.nil sz)=>some ⟨0,sz,0,0,true,false⟩
   | none=>δ0 k,δ'.fz⟩
 have dz:∀ q,δ'.fz q→δ''.fz q:=fun _ h=>h
 have dat:∀ N k,Qbm m N=some (.at k)→δ'' N=δ' k:=fun N k h=>by simp only [δ'',h]
 have dnil:∀ N sz,Qbm m N=some (.nil sz)→δ'' N=some ⟨0,sz,0,0,true,false⟩:=fun N sz h=>by simp only [δ'',h]
 have dold:∀ k,Qbm m k=none→δ'' k=δ0 k:=fun k h=>by simp only [δ'',h]
 have dsame:∀ k,s.heap k≠none→∀ p,δ' k=some p→δ0 k=some p:=fun k hk p hp=>by
   cases h0:δ0 k with
   | none=>exact (hdom k hk h0).elim
   | some q=>have:=hle _ _ h0; rw [hp] at this; cases this; rfl
 have hle'':δ0.le δ'':=⟨fun k p hp=>by
   have:s.heap k≠none:=fun e=>by rw [hr0.tight k e] at hp; cases hp
   rw [dold k (hold0 k this)]; exact hp,hle.fz⟩
 have hat:∀ N k,Qbm m N=some (.at k)→∀ p,δ' k=some p→δ'' N=some p:=fun N k h p hp=>by rw [dat N k h,hp]
 have hold:∀ k,Qbm m k=none→(s.heap k).isSome=true→∀ p,δ' k=some p→δ'' k=some p:=fun k h hh p hp=>by
   rw [dold k h]
   exact dsame k (by intro e; rw [e] at hh; cases hh) p hp
 -- a block that Qnm
 have conv:∀ (b p:Blk) (q:Loc),BlkFits m s.heap b p→Live δ' b w' q→Live δ'' p w' q:=fun b p q hf hl=>by
   refine ⟨hl.s.trans hf.size,hl.n.trans hf.n,fun hno=>?_,fun hno=>?_,fun hh=>hf.rw ▸ hl.loose hh⟩
   · have:=hl.no hno
     have h1:=hf.n
     have h2:=hf.ext
     omega
   · rcases hf.sp with ⟨a,c,s1,s2,s3⟩ | ⟨s1,s2⟩
     · have hb:=hl.rep hno
       unfold Qcm at hb ⊢
       rw [s1] at hb
       rw [s2]
       obtain ⟨es,clock,c1,c2⟩:=hb
       exact ⟨es,clock,c1,by rw [hf.size] at c2; exact c2.eq s3⟩
     refine Qbt s2 ?_
     have hfrow:=hf.row s2
     obtain ⟨c,e,fz,c1,c2,c3,c4,c5,c6,c7⟩:=Qap s1 (hl.rep hno)
     have hrows:∀ i,i<p.n→∀ (rs:List Value),Qaw δ' (b.row i) rs→Qaw δ'' (p.row i) rs:=fun i hi rs hrs=>by
       rcases hfrow i hi with ⟨g1,g2⟩ | ⟨_,g1⟩
       · rw [← g2]
         exact Qcv dz _ _ (c3 (hf.flat g1) i (by rw [hf.n]; exact hi)) hrs
       · exact Qj4 dz hat dnil hold _ _ _ g1 hrs
     refine ⟨c,e,fz,c1,fun h=>c2 (hf.rw.trans h),fun h i hi=>?_,fun h=>?_,?_,fun h=>?_,fun i hi=>?_⟩
     · rcases hfrow i hi with ⟨g1,g2⟩ | ⟨g1,_⟩
       · rw [← g2]; exact c3 (hf.flat h) i (by rw [hf.n]; exact hi)
       · rw [h] at g1; cases g1
     · rw [← hf.elem h]; exact c4 (by rw [hf.elem h]; exact h)
     · rw [← hf.size]
       have:=Nat.mul_le_mul_right b.size hf.ext
       omega
     · rw [← hf.size]; exact (c6 (hf.whole h)).imp id fun ⟨a,b⟩=>⟨a,fun hr=>b (hf.rw.trans hr)⟩
     · obtain ⟨d1,d2⟩:=c7 i (by rw [hf.n]; exact hi)
       obtain ⟨xs,e1,e2⟩:=Qdt (δ:=δ') (c:=c) (b.row i) (q.o + i*b.size) (fun j y hy=>d2 j y hy)
       have e3:=hrows i hi xs e1
       have hlen':=Qa6 e1
       have hlen'':=Qa6 e3
       rw [hf.size] at d1 e2
       refine ⟨by omega,fun j y hy=>?_⟩
       obtain ⟨r,f1,f2⟩:=Qb5 e3 hy
       exact ⟨r,e2 j r f1,f2⟩
 -- a block of the head,as s' has it
 have orig:∀ k p,(L.head s x).heap k=some p→∃ q,δ'' k=some q∧(p.dead=false→Live δ'' p w' q∧(q.no=false→∃ k' b,s'.heap k'=some b∧b.dead=false∧b.rw=p.rw∧δ' k'=some q∧((Qbm m k=some (.at k'))∨(Qbm m k=none∧k'=k∧s.heap k≠none∧k ∉ L.kills s)))):=fun k p hp=>by
   rcases Qf7 s x hall k with ⟨h1,_⟩ | ⟨p',h1,h2,h3⟩ | ⟨b,h1,h2,h3,_⟩ | ⟨b,h1,h2,h3,h4⟩
   · rw [hp] at h1; cases h1
   · rw [hp] at h2; cases h2
     rcases Qgq hb k p h1 with ⟨k',b,g1,g2,g3⟩ | ⟨sz,g1,g2,g3,g4⟩ | ⟨b,g1,g2,g3⟩
     · obtain ⟨q,d1,d2⟩:=hr.hr.blk k' b g2
       exact ⟨q,(dat k k' g1).trans d1,fun _=>⟨conv b p q g3 (d2 g3.dead),fun _=>⟨k',b,g2,g3.dead,g3.rw,d1,.inl g1⟩⟩⟩
     · subst g4
       exact ⟨_,dnil k _ g1,fun _=>⟨⟨rfl,g2.symm,fun _=>⟨g2,g3⟩,fun hh=>(by cases hh),fun hh=>(by cases hh)⟩,fun hh=>(by cases hh)⟩⟩
     · have hold':s.heap k≠none∧k ∉ L.kills s:=by
         rcases h3 with ⟨h3,_,h4⟩ | ⟨_,h4⟩
         · exact ⟨h3,h4⟩
         · rw [← curOf_names (s:=s'),hm] at h4; exact absurd g1 h4
       obtain ⟨q,d1,d2⟩:=hr.hr.blk k b g2
       exact ⟨q,(dold k g1).trans (dsame k hold'.1 q d1),fun _=>⟨conv b p q g3 (d2 g3.dead),fun _=>⟨k,b,g2,g3.dead,g3.rw,d1,.inr ⟨g1,rfl,hold'.1,hold'.2⟩⟩⟩⟩
   · rw [hp] at h3; cases h3
     obtain ⟨q,d1,_⟩:=hr0.hr.blk k b h1
     exact ⟨q,hle'' _ _ d1,fun hh=>by simp [Qdb] at hh⟩
   · rw [hp] at h2; cases h2
     have hcase:∃ b',s'.heap k=some b'∧b'.size=b.size∧b'.rw=b.rw∧b'.n=b.n∧b'.row=b.row∧b'.flat=b.flat∧b'.dead=b.dead∧b'.ext=b.ext∧b'.elem=b.elem∧b'.whole=b.whole∧b'.sp=b.sp:=by
       rcases hlock k b h1 h3 h4 with g | g
       · exact ⟨b,g,rfl,rfl,rfl,rfl,rfl,rfl,rfl,rfl,rfl,rfl⟩
       · exact ⟨_,g,rfl,rfl,rfl,rfl,rfl,rfl,rfl,rfl,rfl,rfl⟩
     obtain ⟨b',g1,g2,g3,g4,g5,g6,g7,g8,g9,g10,g11⟩:=hcase
     obtain ⟨q0,q1,q2⟩:=hr0.hr.blk k b h1
     obtain ⟨q,d1,d2⟩:=hr.hr.blk k b' g1
     have hsk:s.heap k≠none:=by rw [h1]; simp
     have hc:=hold0 k hsk
     have hqq:=dsame k hsk q d1
     rw [q1] at hqq; cases hqq
     refine ⟨q0,(dold k hc).trans q1,fun hdd=>⟨?_,fun _=>⟨k,b',g1,by rw [g7]; exact hdd,g3,d1,.inr ⟨hc,rfl,hsk,h4⟩⟩⟩⟩
     have hdd':b.dead=false:=hdd
     have hl:=d2 (by rw [g7]; exact hdd')
     have hl0:=q2 hdd'
     refine ⟨hl.s.trans g2,hl.n.trans g4,fun hno=>by have:=hl.no hno; rw [g4,g8] at this; exact this,fun hno=>?_,fun hh=>g3 ▸ hl.loose hh⟩
     cases hsp:b.sp with
     | some m =>
       have hb:=hl.rep hno
       unfold Qcm at hb ⊢
       rw [g11,hsp] at hb
       simp only at hb ⊢
       rw [g2] at hb
       exact hb
     | none =>
     refine Qbt (by first | rfl | exact hsp) ?_
     obtain ⟨c,e,fz,c1,c2,c3,c4,c5,c6,c7⟩:=Qap (g11.trans hsp) (hl.rep hno)
     obtain ⟨_,_,_,_,_,_,_,_,_,z7⟩:=Qap hsp (hl0.rep hno)
     rw [g2,g8] at c5
     rw [g3] at c2
     rw [g6,g4,g5] at c3
     rw [g9] at c4
     rw [g2,g10,g3] at c6
     refine ⟨c,e,fz,c1,c2,c3,c4,c5,c6,fun i hi=>?_⟩
     obtain ⟨d1',d2'⟩:=c7 i (by rw [g4]; exact hi)
     obtain ⟨p1,p2⟩:=z7 i hi
     rw [g5,g2] at d1'
     refine ⟨d1',fun j y hy=>?_⟩
     obtain ⟨r',f1,f2⟩:=d2' j y (by rw [g5]; exact hy)
     rw [g2] at f1
     obtain ⟨r'',f3,f4⟩:=p2 j y hy
     exact ⟨r',f1,Qni hle hle'' dz y r'' r' f4 f2⟩
 have origl:∀ k r,Qc9 δ'' (L.head s x).heap k r→∃ k' b p,(L.head s x).heap k=some p∧s'.heap k'=some b∧b.rw=p.rw∧Qc9 δ' s'.heap k' r∧((Qbm m k=some (.at k'))∨(Qbm m k=none∧k'=k∧s.heap k≠none∧k ∉ L.kills s)):=fun k r ⟨p,q,h1,h2,h3,h4,h5⟩=>by
   obtain ⟨q',g1,g2⟩:=orig k p h1
   rw [h3] at g1; cases g1
   obtain ⟨k',b,e1,e2,e3,e4,e5⟩:=(g2 h2).2 h4
   exact ⟨k',b,p,h1,e1,e3,⟨b,q,e1,e2,e4,h4,h5⟩,e5⟩
 refine ⟨δ'',hle'',?_,hr.df,⟨fun k p hp=>?_,fun k1 k2 r p hl1 hl2 hp hrw=>?_,fun q hq=>⟨(hr.hr.fz q hq).1,fun k p hp hrw hl=>?_⟩⟩,fun k hk=>?_,fun r ⟨k,p,hp,hrw,hl⟩=>?_,hr.wr,hr.fzm⟩
 · -- the slots
   unfold LoopSpec.head
   refine Qo4 (atX x L.slots) (l:=Qb9 s.tmps (L.dead++L.slots.map (·.1))) ?_ fun t v hmm r hr'=>?_
   · refine Qei ?_ fun t y hy=>?_
     · have:∀ (ds:List Nat) (l:List SV),(Qb9 l ds).length=l.length:=by
         intro ds
         induction ds with
         | nil=>intro l; rfl
         | cons d ds ih=>intro l; simp only [Qb9]; rw [ih]; simp
       rw [this]
       have:=Qa6 hr0.tm
       simp at this ⊢
       omega
     · rw [Qqc] at hy
       by_cases hd:t∈L.dead++L.slots.map (·.1)∧t<s.tmps.length
       · rw [if_pos hd] at hy
         cases hy
         have:t<a'.tmps.toList.length:=by
           have h1:=Qa6 hr0.tm
           simp at h1 ⊢
           omega
         exact ⟨_,List.getElem?_eq_getElem this,by simp only [Qah]⟩
       · rw [if_neg hd] at hy
         have hlt:t<s.tmps.length:=(List.getElem?_eq_some_iff.1 hy).1
         have hnd:t ∉ L.dead++L.slots.map (·.1):=fun hx=>hd ⟨hx,hlt⟩
         have hnl:t ∉ l:=fun hx=>by
           have h1:=List.all_eq_true.1 hcov t hx
           simp only [Bool.or_eq_true] at h1
           rcases h1 with h1 | h1
           · refine hnd (List.mem_append_right _ ?_)
             have:∀ (ps:List (Nat×(L.X→SV))),Qac t ps=true→t∈ps.map (·.1):=by
               intro ps
               induction ps with
               | nil=>intro h; simp [Qac] at h
               | cons p ps ih =>
                 obtain ⟨k,f⟩:=p
                 intro h
                 simp only [Qac,Bool.or_eq_true] at h
                 rcases h with h | h
                 · have:=Nat.eq_of_beq_eq_true h
                   subst this
                   simp
                 · simp only [List.map_cons]; exact List.mem_cons_of_mem _ (ih h)
             exact this _ h1
           · exact hnd (List.mem_append_left _ (by simpa using h1))
         obtain ⟨r,h1,h2⟩:=Qb5 hr0.tm hy
         refine ⟨r,?_,Qb4 hle'' _ _ h2⟩
         have:=hk t hnl
         simp at h1 ⊢
         rw [this,h1]
   · have h1:=Qkk hs t v hmm
     refine Qmq dz hat dnil hold v _ r h1 ?_
     cases hx:s'.tmps[t]? with
     | none=>rw [List.getD,hx]; simp [Qah]
     | some y =>
       rw [List.getD,hx]
       simp only [Option.getD_some]
       obtain ⟨r',g1,g2⟩:=Qb5 hr.tm hx
       rw [g1] at hr'; cases hr'
       exact g2
 · obtain ⟨q,g1,g2⟩:=orig k p hp
   exact ⟨q,g1,fun hd=>(g2 hd).1⟩
 · obtain ⟨k1',b1,p1,e1,e2,e3,e4,e5⟩:=origl k1 r hl1
   obtain ⟨k2',b2,p2,f1,f2,f3,f4,f5⟩:=origl k2 r hl2
   have:p1=p:=by
     have h:some p1=some p:=e1.symm.trans hp
     cases h; rfl
   subst this
   have:=hr.hr.inj k1' k2' r b1 e4 f4 e2 (e3.trans hrw)
   subst this
   rcases e5 with e5 | ⟨e5,rfl,e6,e7⟩ <;> rcases f5 with f5 | ⟨f5,rfl,f6,f7⟩
   · exact hco2 k1 k2 _ e5 f5
   · rcases hco1 k1 _ e5 with g | g
     · exact absurd g f6
     · exact absurd g f7
   · rcases hco1 k2 _ f5 with g | g
     · exact absurd g e6
     · exact absurd g e7
   · rfl
 · obtain ⟨k',b,p',e1,e2,e3,e4,_⟩:=origl k q.r hl
   have:p'=p:=by
     have h:some p'=some p:=e1.symm.trans hp
     cases h; rfl
   subst this
   exact (hr.hr.fz q hq).2 k' b e2 (e3.trans hrw) e4
 · rcases Qf7 s x hall k with ⟨_,h1⟩ | ⟨p,_,h2,_⟩ | ⟨b,_,_,h2,_⟩ | ⟨b,_,h2,_⟩
   · have hc:Qbm m k=none:=by
       cases hc:Qbm m k with
       | none=>rfl
       | some c =>
         exfalso
         have:Qac k (atX x L.blks++Qdz x L.news)=true:=by
           rw [Qcy,Bool.or_eq_true]
           right
           rw [← curOf_names (s:=s'),hm,hc]; simp
         have:=Qqf (atX x L.blks++Qdz x L.news) (fun k=>match s.heap k with | some b=>some (bif (L.kills s).elem k then Qdb {b with lock:=true} else bif Qac k L.blks then b else {b with lock:=true}) | none=>none) this
         exact this hk
     rw [dold k hc]
     exact hr0.tight k h1
   · rw [hk] at h2; cases h2
   · rw [hk] at h2; cases h2
   · rw [hk] at h2; cases h2
 · obtain ⟨k',b,p',e1,e2,e3,e4,_⟩:=origl k r hl
   have:p'=p:=by
     have h:some p'=some p:=e1.symm.trans hp
     cases h; rfl
   subst this
   exact hr.mine r ⟨k',b,e2,e3.trans hrw,e4⟩
theorem Rep.off {B:Nat} {δ:Dict} {s:St} {a:Act} {w w':World} (hB:w0.heap.size≤B) (h:Rep own w0 δ s a w) (ho:Off B w w'):HRep δ s.heap w'∧WRel own w0 w':=by
 refine ⟨⟨fun k b hk=>?_,h.hr.inj,fun q hq=>⟨Fz.at_data (fun x hx hd=>ho.same _ _ hx (.inl hd)) (h.hr.fz q hq).1,(h.hr.fz q hq).2⟩⟩,⟨ho.os.trans h.wr.os,ho.tape.trans h.wr.tape,ho.output.trans h.wr.output,Nat.le_trans h.wr.size ho.size,fun r hr hno=>?_⟩⟩
 · obtain ⟨p,d1,d2⟩:=h.hr.blk k b hk
   refine ⟨p,d1,fun hd=>?_⟩
   have hl:=d2 hd
   exact ⟨hl.s,hl.n,hl.no,fun hno=>Qnd (fun x hx hd=>ho.same _ _ hx (.inl hd)) (hl.rep hno),hl.loose⟩
 · have h1:=h.wr.block r hr hno
   rw [Array.getElem?_eq_getElem hr] at h1 ⊢
   exact ho.same _ _ h1 (.inr (Nat.lt_of_lt_of_le hr hB))
theorem MarksOk.off {B0 B:Nat} {ds:List Deferred} {w w':World} (h:MarksOk B0 ds w) (hlt:∀ D,({target:=.collected D,args:=#[]}:Deferred)∈ds→D<B) (ho:Off B w w'):MarksOk B0 ds w':=by
 obtain ⟨Ds,rest,h1,h0,h2,h3⟩:=h
 exact ⟨Ds,rest,h1,h0,h2,fun D hD=>⟨(h3 D hD).1,ho.same _ _ (h3 D hD).2 (.inr (hlt D (by rw [h1]; exact List.mem_append_left _ (List.mem_map_of_mem hD))))⟩⟩
theorem MarksOk.lt {B0:Nat} {ds:List Deferred} {w:World} (h:MarksOk B0 ds w):∀ D,({target:=.collected D,args:=#[]}:Deferred)∈ds→D<w.heap.size:=by
 obtain ⟨Ds,rest,h1,h0,_,h3⟩:=h
 intro D hD
 rw [h1] at hD
 rcases List.mem_append.1 hD with hD | hD
 case inr=>have:=h0 _ hD; simp [Qwi] at this
 obtain ⟨D',hD',e⟩:=List.mem_map.1 hD
 cases e
 exact (Array.getElem?_eq_some_iff.1 (h3 D hD').2).1
theorem HRep.aside {B:Nat} {δ:Dict} {hp:Qbo} {w w':World} (h:HRep δ hp w) (ho:Off B w w'):HRep δ hp w':=by
 refine ⟨fun k b hk=>?_,h.inj,fun q hq=>⟨Fz.at_data (fun x hx hd=>ho.same _ _ hx (.inl hd)) (h.fz q hq).1,(h.fz q hq).2⟩⟩
 obtain ⟨p,d1,d2⟩:=h.blk k b hk
 refine ⟨p,d1,fun hd=>?_⟩
 have hl:=d2 hd
 exact ⟨hl.s,hl.n,hl.no,fun hno=>Qnd (fun x hx hd=>ho.same _ _ hx (.inl hd)) (hl.rep hno),hl.loose⟩
theorem Qhe {h0 h:Qbo} {k:Nat} {b:Blk} (hk:Qb1 h0 h k=some b):h k=some b∨b.dead=true∧b.rw=false:=by
 unfold Qb1 at hk
 cases hh:h k with
 | none=>rw [hh] at hk; cases hk
 | some b1 =>
   rw [hh] at hk
   simp only [Option.some.injEq] at hk
   cases hs:b1.sp with
   | none=>rw [hs] at hk; exact .inl (by rw [← hk])
   | some m =>
     rw [hs] at hk
     cases hd:b1.dead with
     | true=>rw [hd,cond_true] at hk; exact .inl (by rw [← hk])
     | false =>
       rw [hd,cond_false] at hk
       cases h1:h0 k with
       | none=>rw [h1] at hk; exact .inr (by rw [← hk]; simp [Qdb])
       | some b0 =>
         rw [h1] at hk
         simp only at hk
         cases h2:b0.dead with
         | true=>rw [h2,cond_true] at hk; exact .inr (by rw [← hk]; simp [Qdb])
         | false=>rw [h2,cond_false] at hk; exact .inl (by rw [← hk])
theorem Qof {h0 h:Qbo} {k:Nat} (hk:Qb1 h0 h k=none):h k=none:=by
 unfold Qb1 at hk
 cases hh:h k with
 | none=>rfl
 | some b1=>rw [hh] at hk; cases hk
theorem Qog {h0 h:Qbo} {k:Nat} {b:Blk} {l:Bool} (h1:h0 k=some b) (h2:h k=some {b with lock:=l}):Qb1 h0 h k=some {b with lock:=l}:=by
 unfold Qb1
 rw [h2,h1]
 simp only
 cases b.sp with
 | none=>rfl
 | some m=>cases hd:b.dead <;> rfl
theorem Qjc {δ:Dict} {h0 h:Qbo} {k r:Nat} (hl:Qc9 δ (Qb1 h0 h) k r):Qc9 δ h k r:=by
 obtain ⟨b,p,h1,h2,h3⟩:=hl
 rcases Qhe h1 with g | g
 · exact ⟨b,p,g,h2,h3⟩
 · rw [g.1] at h2; cases h2
theorem HRep.kill {δ:Dict} {h0 h:Qbo} {w:World} (hr:HRep δ h w):HRep δ (Qb1 h0 h) w:=by
 have live:∀ k b,Qb1 h0 h k=some b→b.rw=true→h k=some b:=fun k b hk hb=>by
   rcases Qhe hk with g | g
   · exact g
   · rw [g.2] at hb; cases hb
 refine ⟨fun k b hk=>?_,fun k k' r b h1 h2 hk hb=>hr.inj k k' r b (Qjc h1) (Qjc h2) (live k b hk hb) hb,fun q hq=>⟨(hr.fz q hq).1,fun k b hk hb hl=>(hr.fz q hq).2 k b (live k b hk hb) hb (Qjc hl)⟩⟩
 rcases Qhe hk with g | g
 · exact hr.blk k b g
 · cases hh:h k with
   | none=>unfold Qb1 at hk; rw [hh] at hk; cases hk
   | some b1 =>
     obtain ⟨p,d1,_⟩:=hr.blk k b1 hh
     exact ⟨p,d1,fun hd=>by rw [g.1] at hd; cases hd⟩
theorem Qj6 {δ:Dict} {h0 h:Qbo} {r:Nat} (hx:Qfl δ (Qb1 h0 h) r):Qfl δ h r:=by
 obtain ⟨k,b,h1,h2,h3⟩:=hx
 rcases Qhe h1 with g | g
 · exact ⟨k,b,g,h2,Qjc h3⟩
 · rw [g.2] at h2; cases h2
theorem Qoe {δ0 δ:Dict} {h0 h:Qbo} {w0 w:World} (hr0:HRep δ0 h0 w0) (hle:δ0.le δ) (hr:HRep δ h w) {r:Nat} (hx:Qfl δ (Qb1 h0 h) r):(∃ c e fz,w.heap[r]?=some (.cells c e fz))∨r<w0.heap.size:=by
 obtain ⟨k,b,h1,h2,b',p,g1,g2,g3,g4,g5⟩:=hx
 have e:b'=b:=by
   have h:some b'=some b:=g1.symm.trans h1
   cases h; rfl
 subst e
 have hk:h k=some b':=by
   rcases Qhe h1 with g | g
   · exact g
   · rw [g.1] at g2; cases g2
 obtain ⟨q,d1,d2⟩:=hr.blk k b' hk
 rw [g3] at d1; cases d1
 have hb:=(d2 g2).rep g4
 cases hs:b'.sp with
 | none =>
   obtain ⟨c,e,fz,c1,_⟩:=Qap hs hb
   exact .inl ⟨c,e,fz,by rw [← g5]; exact c1⟩
 | some m =>
   right
   unfold Qb1 at h1
   rw [hk] at h1
   simp only [Option.some.injEq] at h1
   rw [hs,g2,cond_false] at h1
   cases hh:h0 k with
   | none=>rw [hh] at h1; rw [← h1] at g2; simp [Qdb] at g2
   | some b0 =>
     rw [hh] at h1
     simp only at h1
     cases hd:b0.dead with
     | true=>rw [hd,cond_true] at h1; rw [← h1] at g2; simp [Qdb] at g2
     | false =>
       obtain ⟨p0,f1,f2⟩:=hr0.blk k b0 hh
       have:=hle _ _ f1
       rw [g3] at this; cases this
       rw [← g5]
       exact Qcw ((f2 hd).rep g4)
theorem Rep.aside {B:Nat} {δ:Dict} {s:St} {a:Act} {w w':World} (h:Rep own w0 δ s a w) (hB:w0.heap.size≤B) (hlt:∀ D,({target:=.collected D,args:=#[]}:Deferred)∈a.defers→D<B) (ho:Off B w w'):Rep own w0 δ s a w' :=
 ⟨h.tm,h.df.off hlt ho,(h.off hB ho).1,h.tight,h.mine,(h.off hB ho).2,h.fzm⟩
theorem MarksOk.cons {B0 D:Nat} {ds:List Deferred} {w:World} (h:MarksOk B0 ds w) (hB:B0≤D) (hlt:∀ D',({target:=.collected D',args:=#[]}:Deferred)∈ds→D'<D) (hD:w.heap[D]?=some (.deferred (some []))):MarksOk B0 ({target:=.collected D,args:=#[]} :: ds) w:=by
 obtain ⟨Ds,rest,h1,h0,h2,h3⟩:=h
 refine ⟨D :: Ds,rest,by rw [h1]; rfl,h0,List.nodup_cons.2 ⟨fun hm=>?_,h2⟩,fun D' hD'=>?_⟩
 · have:=hlt D (by rw [h1]; exact List.mem_append_left _ (List.mem_map_of_mem hm))
   omega
 · rcases List.mem_cons.1 hD' with rfl | hm
   · exact ⟨hB,hD⟩
   · exact h3 D' hm
theorem Q1m {δ:Dict}:∀ (ps:List Nat) (xs:List SV) (vs:List Value) (l:List SV) (arr:List Value),Qaw δ l arr→Qaw δ xs vs→Qaw δ (Qko l ps xs) ((ps.zip vs).foldl (fun t pv=>t.set pv.1 pv.2) arr)
 | [],xs,vs,l,arr,h,_=>by simpa [Qko] using h
 | t :: ts,[],[],l,arr,h,_=>by simpa [Qko] using h
 | t :: ts,x :: xs,v :: vs,l,arr,h,hx=>by
   simp only [Qaw] at hx
   simp only [Qko,List.zip_cons_cons,List.foldl_cons]
   exact Q1m ts xs vs _ _ (Qq2 h t hx.1) hx.2
 | t :: ts,[],_ :: _,l,arr,_,hx=>by simp only [Qaw] at hx
 | t :: ts,_ :: _,[],l,arr,_,hx=>by simp only [Qaw] at hx
theorem Q24 (ps:Array Tmp) (vs arr:Array Value):((ps.zip vs).foldl (fun t (p,v)=>t.setIfInBounds p v) arr).toList=(ps.toList.zip vs.toList).foldl (fun t pv=>t.set pv.1 pv.2) arr.toList:=by
 rw [← Array.foldl_toList,Array.toList_zip]
 generalize ps.toList.zip vs.toList=l
 induction l generalizing arr with
 | nil=>rfl
 | cons x l ih =>
   simp only [List.foldl_cons]
   rw [ih,Array.toList_setIfInBounds]
theorem Rep.same {δ:Dict} {s s':St} {a:Act} {w:World} (h:Rep own w0 δ s a w) (ht:s'.tmps=s.tmps) (hh:s'.heap=s.heap):Rep own w0 δ s' a w :=
 ⟨by rw [ht]; exact h.tm,h.df,by rw [hh]; exact h.hr,by rw [hh]; exact h.tight,by rw [hh]; exact h.mine,h.wr,h.fzm⟩
theorem Rep.unlock {δ:Dict} {s s':St} {a:Act} {w:World} (h:Rep own w0 δ s' a w):Rep own w0 δ {s' with heap:=unlock s.heap s'.heap} a w:=by
 have key:∀ k b,Go.SE.unlock s.heap s'.heap k=some b→∃ b',s'.heap k=some b'∧b'.size=b.size∧b'.rw=b.rw∧b'.n=b.n∧b'.row=b.row∧b'.flat=b.flat∧b'.dead=b.dead∧b'.ext=b.ext∧b'.elem=b.elem∧b'.whole=b.whole∧b'.sp=b.sp:=fun k b hk=>by
   unfold Go.SE.unlock at hk
   cases h1:s'.heap k with
   | none=>rw [h1] at hk; cases hk
   | some b' =>
     rw [h1] at hk
     simp only at hk
     cases h2:s.heap k with
     | none=>rw [h2] at hk; cases hk; exact ⟨b,rfl,rfl,rfl,rfl,rfl,rfl,rfl,rfl,rfl,rfl,rfl⟩
     | some b0=>rw [h2] at hk; cases hk; exact ⟨b',rfl,rfl,rfl,rfl,rfl,rfl,rfl,rfl,rfl,rfl,rfl⟩
 have keyl:∀ k r,Qc9 δ (Go.SE.unlock s.heap s'.heap) k r→Qc9 δ s'.heap k r:=fun k r ⟨b,p,h1,h2,h3⟩=>by
   obtain ⟨b',g1,_,_,_,_,_,g7,_⟩:=key k b h1
   exact ⟨b',p,g1,g7.trans h2,h3⟩
 refine ⟨h.tm,h.df,⟨fun k b hk=>?_,fun k k' r b hl hl' hk hrw=>?_,fun q hq=>⟨(h.hr.fz q hq).1,fun k b hk hb hl=>by
   obtain ⟨b',g1,_,g3,_⟩:=key k b hk
   exact (h.hr.fz q hq).2 k b' g1 (g3.trans hb) (keyl k q.r hl)⟩⟩,fun k hk=>?_,fun r ⟨k,b,hk,hrw,hl⟩=>?_,h.wr,h.fzm⟩
 · obtain ⟨b',g1,g2,g3,g4,g5,g6,g7,g8,g9,g10,g11⟩:=key k b hk
   obtain ⟨q,d1,d2⟩:=h.hr.blk k b' g1
   refine ⟨q,d1,fun hd=>?_⟩
   have hl:=d2 (g7.trans hd)
   exact ⟨hl.s.trans g2,hl.n.trans g4,fun hno=>by have:=hl.no hno; rw [g4,g8] at this; exact this,fun hno=>Qux g2 g3 g4 g5 g6 g8 g9 g10 g11 (hl.rep hno),fun hh=>g3 ▸ hl.loose hh⟩
 · obtain ⟨b1,g1,_,g3,_⟩:=key k b hk
   exact h.hr.inj k k' r b1 (keyl k r hl) (keyl k' r hl') g1 (g3.trans hrw)
 · refine h.tight k ?_
   simp only [Go.SE.unlock] at hk
   cases h1:s'.heap k with
   | none=>rfl
   | some b' =>
     rw [h1] at hk
     simp only at hk
     cases h2:s.heap k <;> rw [h2] at hk <;> cases hk
 · obtain ⟨b1,g1,_,g3,_⟩:=key k b hk
   exact h.mine r ⟨k,b1,g1,g3.trans hrw,keyl k r hl⟩
structure FromC (q:Bool) (l:List Nat) (δ0:Dict) (s0:St) (a0:Act) (δ:Dict) (s:St) (a:Act):Prop where
 keep:keep l a0 a
 le:δ0.le δ
 locks:locks s0 s
 len:a.tmps.size=a0.tmps.size
 rs:Qfm a.defers=Qfm a0.defers
 df:q=true→a.defers=a0.defers
theorem FromC.refl (q:Bool) (l:List Nat) (δ:Dict) (s:St) (a:Act):FromC q l δ s a δ s a:=⟨Qeo l a,δ.le_refl,Qoc s,rfl,rfl,fun _=>rfl⟩
theorem FromC.wk {q q':Bool} {l:List Nat} {δ0 δ:Dict} {s0 s:St} {a0 a:Act} (h:FromC q l δ0 s0 a0 δ s a) (hq:q'=true→q=true):FromC q' l δ0 s0 a0 δ s a:=⟨h.keep,h.le,h.locks,h.len,h.rs,fun e=>h.df (hq e)⟩
theorem FromC.trans {q:Bool} {l:List Nat} {δ0 δ1 δ2:Dict} {s0 s1 s2:St} {a0 a1 a2:Act} (h:FromC q l δ0 s0 a0 δ1 s1 a1) (h':FromC q l δ1 s1 a1 δ2 s2 a2):FromC q l δ0 s0 a0 δ2 s2 a2 :=
 ⟨Qdx h.keep h'.keep,Dict.le_trans h.le h'.le,Qim h.locks h'.locks,h'.len.trans h.len,h'.rs.trans h.rs,fun hq=>(h'.df hq).trans (h.df hq)⟩
theorem FromC.mono {q:Bool} {l l':List Nat} {δ0 δ:Dict} {s0 s:St} {a0 a:Act} (h:FromC q l δ0 s0 a0 δ s a) (hs:∀ t,t∈l→t∈l'):FromC q l' δ0 s0 a0 δ s a:=⟨Qhf h.keep hs,h.le,h.locks,h.len,h.rs,h.df⟩
theorem FromC.nx {q:Bool} {l:List Nat} {δ0 δ:Dict} {s0 s:St} {a0 a:Act} (h:FromC q l δ0 s0 a0 δ s a) (n:Nat):FromC q l δ0 s0 a0 δ {s with nx:=n} a:=⟨h.keep,h.le,h.locks,h.len,h.rs,h.df⟩
def Q5e (own:Own) (w0:World) (q:Bool) (l:List Nat) (δ0:Dict) (s0:St) (a0:Act) (K:Exit→St→Prop) (e:Exit) (a:Act) (w:World):Prop :=
 ∃ δ s,K e s∧Rep own w0 δ s a w∧FromC q l δ0 s0 a0 δ s a
theorem Qrk {s:St} {i:Nat} {b:Bool} {t:Bool} (h:s.eval (.tmp i)=.v (.bool b)) (hb:b=t):({s with tmps:=s.tmps.set i (.v (.bool t))}:St)=s:=by
 subst hb
 simp only [St.eval] at h
 have hx:s.tmps.getD i .unk=.v (.bool b):=by
   cases hg:s.tmps[i]? with
   | none=>rw [List.getD,hg] at h; simp [Qde,undef] at h
   | some y=>rw [List.getD,hg] at h ⊢; simpa using h
 rw [Qvm hx (by simp)]
theorem Qrf {L M:LoopSpec} {s:St} (h:Qpc L M s=true) (hn:Qc0 M s.heap (M.kills s)=true) :
   (∀ k b,s.heap k=some b→b.lock=true→Qac k M.blks=false∧k ∉ M.kills s)∧∀ k,Qac k M.blks=false→k ∉ M.kills s→Qac k L.blks=false∧k ∉ L.kills s:=by
 unfold Qpc at h
 simp only [Bool.and_eq_true,List.all_eq_true] at h
 obtain ⟨⟨h1,h2⟩,h3⟩:=h
 unfold Qc0 at hn
 simp only [Bool.and_eq_true,List.all_eq_true] at hn
 refine ⟨fun k b hk hl=>⟨?_,fun hm=>?_⟩,fun k hi hkk=>⟨?_,fun hm=>?_⟩⟩
 · cases hi:Qac k M.blks with
   | false=>rfl
   | true =>
     obtain ⟨y,hy⟩:=Qdr hi
     have:=h1 _ hy
     simp only [hk,hl] at this
     cases this
 · have:=hn.2 k hm
   rw [hk] at this
   simp only [hl] at this
   cases this
 · cases hi':Qac k L.blks with
   | false=>rfl
   | true =>
     obtain ⟨y,hy⟩:=Qdr hi'
     have:=h2 _ hy
     simp only at this
     rw [hi] at this
     cases this
 · have:=h3 k hm
   exact hkk (by simpa using this)
theorem Q1z {L:LoopSpec} {s:St} {x0:L.X} (hall:NamesOk L s.heap (L.kills s)) (hf0:Qnm L s.heap (L.kills s) s x0):∀ k b,s.heap k=some b→b.lock=true→Qac k L.blks=false∧k ∉ L.kills s:=fun k b hk hl=>by
 constructor
 · cases hi:Qac k L.blks with
   | false=>rfl
   | true =>
     exfalso
     have hi':Qac k (atX x0 L.blks++Qdz x0 L.news)=true:=by rw [Qcy,Qhq,hi]; rfl
     obtain ⟨p,hp,_⟩:=Qe6 (atX x0 L.blks++Qdz x0 L.news) s.heap hi'
     unfold Qnm at hf0
     simp only [Qca] at hf0
     have hc:Qbm (Q7r s x0 L.news) k=none:=by
       cases hc:Qbm (Q7r s x0 L.news) k with
       | none=>rfl
       | some c =>
         have:Qac k (Qdz x0 L.news)=true:=curOf_names.1 (by rw [hc]; simp)
         rw [hall.news x0 k this] at hk; cases hk
     rcases Qgq hf0.2.2.2 k p hp with ⟨k',b',g1,_⟩ | ⟨sz,g1,_⟩ | ⟨b',_,g1,g2⟩
     · rw [hc] at g1; cases g1
     · rw [hc] at g1; cases g1
     · rw [hk] at g1; cases g1
       have:=g2.lock
       rw [hl] at this; cases this
 · intro hkk
   obtain ⟨b',g1,g2⟩:=hall.kills k hkk
   rw [hk] at g1; cases g1
   rw [hl] at g2; cases g2
theorem Qeh (hm:P.follows .mixedOrders=true) (hΓ:∀ f g,Γ f=some g→g.ok P f) {Λ:Nat→Option LoopSpec}:∀ (c:Code) (ro:Option Nat) (n:Nat) (own:Own) (w0:World),(∀ r,w0.heap.size≤r→own r)→(ro=none∨Qmn c=true)→∀ (id:Nat) (K:Exit→St→Prop) (δ:Dict) (s:St) (a:Act) (w:World),
   Qci P Γ Λ c id s K→Rep own w0 δ s a w→c.wpIn (WF ro) n P (Q5e own w0 (Qmn c) (Qid c) δ s a K) a w
 | .skip,ro,n,own,w0,hown,hrf,id,K,δ,s,a,w,h,hr=>wpIn_skip ⟨δ,s,h,hr,FromC.refl _ _ _ _ _⟩
 | .exit i,ro,n,own,w0,hown,hrf,id,K,δ,s,a,w,h,hr=>wpIn_exit ⟨δ,s,h,hr,FromC.refl _ _ _ _ _⟩
 | .ret,ro,n,own,w0,hown,hrf,id,K,δ,s,a,w,h,hr=>wpIn_ret ⟨δ,s,h,hr,FromC.refl _ _ _ _ _⟩
 | .region rid ops draw,ro,n,own,w0,hown,hrf,id,K,δ,s,a,w,h,hr=>by
   simp only [Qci] at h
   cases hb:(!draw||Qe1 P Γ ops ⟨Qa7 ops.toList [],prOf Λ rid⟩) with
   | false=>rw [hb] at h; exact h.elim
   | true =>
     rw [hb,cond_true] at h
     refine Q1e hm hΓ hown (fun a' w' ⟨δ',s',h1,h2,h3⟩=>⟨δ',{s' with nx:=s'.nx + 8*ops.size},h1,h2.nx _,⟨h3.keep,h3.le,h3.locks,h3.len,by rw [h3.df],fun _=>h3.df⟩⟩) (fun v a' w' ⟨δ',x,h',k1,k2,k3,k4⟩=>?_) hr.tm hb h hr (From.refl _ _ _ _)
     cases x with
     | v val =>
       simp only [Qah] at k2
       subst k2
       exact ⟨δ',{tmps:=Qb9 s.tmps (Qc5 ops.toList),heap:=h',nx:=s.nx + 8*ops.size},k1,k3.nx (s.nx + 8*ops.size),⟨k4.keep,k4.le,k4.locks,k4.len,by rw [k4.df],fun _=>k4.df⟩⟩
     | _=>exact k1.elim
 | .seq x y,ro,n,own,w0,hown,hrf,id,K,δ,s,a,w,h,hr=>by
   simp only [Qci] at h
   cases hL:atL s (Λ (Q99 x)) with
   | none =>
     rw [hL] at h
     simp only at h
     refine wpIn_seq (wpIn_mono (Qeh hm hΓ x ro n own w0 hown (hrf.imp (fun e=>e) fun h=>((Bool.and_eq_true _ _).mp h).1) id _ δ s a w h hr) fun e a' w' ⟨δ',s',h1,h2,h3⟩=>?_)
     have h3':=(h3.mono (l':=Qid (.seq x y)) fun t ht=>List.mem_append_left _ ht).wk (q':=Qmn (.seq x y)) fun h=>((Bool.and_eq_true _ _).mp h).1
     cases e with
     | normal =>
       refine wpIn_mono (Qeh hm hΓ y ro n own w0 hown (hrf.imp (fun e=>e) fun h=>((Bool.and_eq_true _ _).mp h).2) id K δ' s' a' w' h1 h2) fun e2 a2 w2 ⟨δ2,s2,g1,g2,g3⟩=>?_
       exact ⟨δ2,s2,g1,g2,h3'.trans ((g3.mono fun t ht=>List.mem_append_right _ ht).wk fun h=>((Bool.and_eq_true _ _).mp h).2)⟩
     | exit i=>exact ⟨δ',s',h1,h2,h3'⟩
     | goto l=>exact ⟨δ',s',h1,h2,h3'⟩
     | ret=>exact ⟨δ',s',h1,h2,h3'⟩
     | panic ch=>exact ⟨δ',s',h1,h2,h3'⟩
     | outgrown=>exact ⟨δ',s',h1,h2,h3'⟩
   | some L =>
     rw [hL] at h
     simp only at h
     cases hcv:(L.news.isEmpty&&L.covers (Qid x)&&Qc0 L s.heap (L.kills s)) with
     | false=>rw [hcv] at h; exact h.elim
     | true =>
       rw [hcv,cond_true] at h
       simp only [Bool.and_eq_true] at hcv
       obtain ⟨⟨hne,hcov⟩,hna⟩:=hcv
       have hall:=Qd4 hna
       have hnews:L.news=[]:=by cases hn:L.news with | nil=>rfl | cons _ _=>rw [hn] at hne; cases hne
       have hkill:L.kills s=[]:=by unfold LoopSpec.kills; rw [hnews]; rfl
       obtain ⟨h1,h2⟩:=h
       have hshut:∀ k b,s.heap k=some b→(L.shut s).heap k=some (bif Qac k L.blks then b else {b with lock:=true}):=fun k b hk=>by
         unfold LoopSpec.shut Go.SE.unlock
         simp only [hk]
         cases Qac k L.blks <;> rfl
       have hlocked:∀ k b,s.heap k=some b→b.lock=true→(L.shut s).heap k=some b:=fun k b hk hl=>by
         rw [hshut k b hk]
         cases Qac k L.blks with
         | true=>rfl
         | false=>rw [cond_false,show ({b with lock:=true}:Blk)=b by cases b; simp only at hl; subst hl; rfl]
       have hrs:Rep own w0 δ (L.shut s) a w:=Rep.unlock (s:={s with heap:=fun k=>match s.heap k with | some b=>some (bif Qac k L.blks then b else {b with lock:=true}) | none=>none}) hr
       refine wpIn_seq (wpIn_mono (Qeh hm hΓ x ro n own w0 hown (hrf.imp (fun e=>e) fun h=>((Bool.and_eq_true _ _).mp h).1) id _ δ (L.shut s) a w h1 hrs) fun e a' w' ⟨δ',s',g1,g2,g3⟩=>?_)
       have out:∀ e',K e' {s' with heap:=unlock s.heap s'.heap}→Q5e own w0 (Qmn (.seq x y)) (Qid (.seq x y)) δ s a K e' a' w':=fun e' hK =>
         ⟨δ',_,hK,g2.unlock,⟨Qhf g3.keep fun t ht=>List.mem_append_left _ ht,g3.le,fun k b hk hl=>by
           have:=g3.locks k b (hlocked k b hk hl) hl
           show unlock s.heap s'.heap k=some b
           unfold unlock
           rw [this,hk],g3.len,g3.rs,fun hq=>g3.df ((Bool.and_eq_true _ _).mp hq).1⟩⟩
       cases e with
       | normal =>
         obtain ⟨x0,hf⟩:=g1
         have hinv:L.inv x0:=by
           unfold Qnm at hf
           simp only [Qca] at hf
           exact hf.2.1
         obtain ⟨δ3,e1,e2⟩:=Qe5 hall hcov hr g2 g3.le g3.keep g3.len (fun k b hk hi _=>.inr (by
           refine g3.locks k _ ?_ rfl
           rw [hshut k b hk,hi]; rfl)) hf
         have e3:Rep own w0 δ3 (L.opn s (cnt x) x0) a' w':=(Rep.unlock (s:=s) e2).nx _
         have nolock:∀ k b,s.heap k=some b→b.lock=true→Qac k L.blks=false:=fun k b hk hl=>by
           cases hi:Qac k L.blks with
           | false=>rfl
           | true =>
             exfalso
             have hi':Qac k (atX x0 L.blks++Qdz x0 L.news)=true:=by rw [Qcy,Qhq,hi]; rfl
             obtain ⟨p,hp,_⟩:=Qe6 (atX x0 L.blks++Qdz x0 L.news) s.heap hi'
             unfold Qnm at hf
             simp only [Qca] at hf
             have hc:∀ k,Qbm (Q7r s' x0 L.news) k=none:=fun k=>by rw [hnews]; rfl
             rcases Qgq hf.2.2.2 k p hp with ⟨k',b',q1,_⟩ | ⟨sz,q1,_⟩ | ⟨b',_,q1,q2⟩
             · rw [hc] at q1; cases q1
             · rw [hc] at q1; cases q1
             · rw [g3.locks k b (hlocked k b hk hl) hl] at q1; cases q1
               have:=q2.lock
               rw [hl] at this; cases this
         refine wpIn_mono (Qeh hm hΓ y ro n own w0 hown (hrf.imp (fun e=>e) fun h=>((Bool.and_eq_true _ _).mp h).2) id K δ3 _ a' w' (h2 x0 hinv) e3) fun e2 a2 w2 ⟨δ2,s2,q1,q2,q3⟩=>?_
         refine ⟨δ2,s2,q1,q2,⟨Qdx (Qhf g3.keep fun t ht=>List.mem_append_left _ ht) (Qhf q3.keep fun t ht=>List.mem_append_right _ ht),Dict.le_trans e1 q3.le,fun k b hk hl=>?_,q3.len.trans g3.len,q3.rs.trans g3.rs,fun hq=>(q3.df ((Bool.and_eq_true _ _).mp hq).2).trans (g3.df ((Bool.and_eq_true _ _).mp hq).1)⟩⟩
         refine q3.locks k b ?_ hl
         show unlock s.heap (L.head s x0).heap k=some b
         unfold unlock
         rcases Qf7 s x0 hall k with ⟨_,h1⟩ | ⟨p,_,_,⟨_,h1,_⟩ | ⟨h1,_⟩⟩ | ⟨b',_,h1,_⟩ | ⟨b',h1,h2,_⟩
         · rw [hk] at h1; cases h1
         · rw [nolock k b hk hl] at h1; cases h1
         · rw [hk] at h1; cases h1
         · rw [hkill] at h1; cases h1
         · rw [hk] at h1; cases h1
           rw [h2,hk]
       | exit i=>exact out _ g1
       | goto l=>exact out _ g1
       | ret=>exact out _ g1
       | panic ch=>exact out _ g1
       | outgrown=>exact out _ g1
 | .cond c x y,ro,n,own,w0,hown,hrf,id,K,δ,s,a,w,h,hr=>by
   simp only [Qci] at h
   cases hc:s.eval c with
   | v val =>
     rw [hc] at h
     cases val with
     | bool t =>
       simp only at h
       have hev:=hr.eval c
       rw [hc] at hev
       simp only [Qah] at hev
       have both:sel t (Qci P Γ Λ x id s (Zag (s.nx + 8*(cnt x + cnt y)) K)) (Qci P Γ Λ y id s (Zag (s.nx + 8*(cnt x + cnt y)) K)):=by
         cases c with
         | tmp i =>
           cases t with
           | true=>simp only [sel] at h ⊢; rw [Qrk hc rfl] at h; exact h
           | false=>simp only [sel] at h ⊢; rw [Qrk hc rfl] at h; exact h
         | const v=>exact h
         | global g=>exact h
         | func f=>exact h
       cases t with
       | true =>
         refine wpIn_cond_true hev (wpIn_mono (Qeh hm hΓ x ro n own w0 hown (hrf.imp (fun e=>e) fun h=>((Bool.and_eq_true _ _).mp h).1) id _ δ s a w both hr) fun e a' w' ⟨δ',s',h1,h2,h3⟩=>⟨δ',_,h1,h2.nx _,((h3.nx _).mono fun t ht=>List.mem_append_left _ ht).wk fun h=>((Bool.and_eq_true _ _).mp h).1⟩)
       | false =>
         refine wpIn_cond_false hev (wpIn_mono (Qeh hm hΓ y ro n own w0 hown (hrf.imp (fun e=>e) fun h=>((Bool.and_eq_true _ _).mp h).2) id _ δ s a w both hr) fun e a' w' ⟨δ',s',h1,h2,h3⟩=>⟨δ',_,h1,h2.nx _,((h3.nx _).mono fun t ht=>List.mem_append_right _ ht).wk fun h=>((Bool.and_eq_true _ _).mp h).2⟩)
     | _=>exact h.elim
   | _=>rw [hc] at h; exact h.elim
 | .block bid c,ro,n,own,w0,hown,hrf,id,K,δ,s,a,w,h,hr=>by
   simp only [Qci] at h
   refine wpIn_block (wpIn_mono (Qeh hm hΓ c ro n own w0 hown hrf bid _ δ s a w h hr) fun e a' w' ⟨δ',s0,h1,h2,h3⟩=>?_)
   have h2:=h2.nx (s.nx + 8*cnt c)
   have h3:=h3.nx (s.nx + 8*cnt c)
   unfold Zag at h1
   generalize ({s0 with nx:=s.nx + 8*cnt c}:St)=s' at h1 h2 h3
   cases e with
   | exit i =>
     simp only at h1
     show (if i=bid then _ else _)
     by_cases hi:i=bid
     · rw [if_pos hi]
       rw [show Nat.beq i bid=true by rw [hi]; exact Nat.beq_refl bid,cond_true] at h1
       exact ⟨δ',s',h1,h2,h3⟩
     · rw [if_neg hi]
       rw [Qbc hi,cond_false] at h1
       exact ⟨δ',s',h1,h2,h3⟩
   | normal=>exact ⟨δ',s',h1,h2,h3⟩
   | goto l=>exact ⟨δ',s',h1,h2,h3⟩
   | ret=>exact ⟨δ',s',h1,h2,h3⟩
   | panic ch=>exact ⟨δ',s',h1,h2,h3⟩
   | outgrown=>exact ⟨δ',s',h1,h2,h3⟩
 | .loop c,ro,n,own,w0,hown,hrf,id,K,δ,s,a,w,h,hr=>by
   simp only [Qci] at h
   cases hL:atL s (Λ id) with
   | none=>rw [hL] at h; exact h.elim
   | some L =>
     rw [hL] at h
     simp only at h
     cases hL2:atL s (Λ (5000000 + id)) with
     | none =>
       rw [hL2] at h
       simp only at h
       cases hcv:(L.covers (Qid c)&&Qc0 L s.heap (L.kills s)) with
       | false=>rw [hcv] at h; exact h.elim
       | true =>
         rw [hcv,cond_true] at h
         rw [Bool.and_eq_true] at hcv
         have hall:=Qd4 hcv.2
         obtain ⟨⟨x0,hf0⟩,hround⟩:=h
         have inv_of:∀ s' x,Qnm L s.heap (L.kills s) s' x→L.inv x:=fun s' x hf=>by
           unfold Qnm at hf
           simp only [Qca] at hf
           exact hf.2.1
         have nolock:∀ k b,s.heap k=some b→b.lock=true→Qac k L.blks=false∧k ∉ L.kills s:=Q1z hall hf0
         let I:Nat→Act→World→Prop:=fun q a' w'=>∃ x δ1,L.inv x∧L.mu x=q∧δ.le δ1∧Rep own w0 δ1 (L.head s x) a' w'∧keep (Qid c) a a'∧a'.tmps.size=a.tmps.size∧Qfm a'.defers=Qfm a.defers∧(Qmn c=true→a'.defers=a.defers)
         obtain ⟨δ1,hd1,hd2⟩:=Qe5 hall hcv.1 hr hr δ.le_refl (Qeo _ a) rfl (fun k b hk _ _=>.inl hk) hf0
         refine wpIn_loop_ghost I (L.mu x0) ⟨x0,δ1,inv_of s x0 hf0,rfl,hd1,hd2,Qeo _ a,rfl,rfl,fun _=>rfl⟩ ?_
         rintro q a1 w1 ⟨x,δ1,hinv,hmu,hle1,hrep,hkeep,hlen,hrest,hdf⟩
         refine wpIn_mono (Qeh hm hΓ c ro n own w0 hown hrf id _ δ1 (L.head s x) a1 w1 (hround x hinv) hrep) fun e a2 w2 ⟨δ2,s2,g1,g2,g3⟩=>?_
         -- what is locked at the head is as it was
         have hlk:∀ k b,s.heap k=some b→Qac k L.blks=false→k ∉ L.kills s→s2.heap k=some {b with lock:=true}:=fun k b hk hi hkk=>by
           refine g3.locks k _ ?_ rfl
           rcases Qf7 s x hall k with ⟨_,h1⟩ | ⟨p,_,_,⟨_,h1,_⟩ | ⟨h1,_⟩⟩ | ⟨b',_,h1,_⟩ | ⟨b',h1,h2,_⟩
           · rw [hk] at h1; cases h1
           · rw [hi] at h1; cases h1
           · rw [hk] at h1; cases h1
           · exact absurd h1 hkk
           · rw [hk] at h1; cases h1; exact h2
         have out:∀ e',K e' {s2 with heap:=unlock s.heap s2.heap}→Q5e own w0 (Qmn (.loop c)) (Qid (.loop c)) δ s a K e' a2 w2:=fun e' hK =>
           ⟨δ2,_,hK,g2.unlock,⟨Qdx hkeep g3.keep,Dict.le_trans hle1 g3.le,fun k b hk hl=>by
             have:=hlk k b hk (nolock k b hk hl).1 (nolock k b hk hl).2
             show unlock s.heap s2.heap k=some b
             unfold unlock
             rw [this,hk],g3.len.trans hlen,g3.rs.trans hrest,fun hq=>(g3.df hq).trans (hdf hq)⟩⟩
         cases e with
         | normal =>
           obtain ⟨x',hf',hlt⟩:=g1
           obtain ⟨δ3,e1,e2⟩:=Qe5 hall hcv.1 hr g2 (Dict.le_trans hle1 g3.le) (Qdx hkeep g3.keep) (g3.len.trans hlen) (fun k b hk hi hkk=>.inr (hlk k b hk hi hkk)) hf'
           exact ⟨L.mu x',by omega,x',δ3,inv_of s2 x' hf',rfl,e1,e2,Qdx hkeep g3.keep,g3.len.trans hlen,g3.rs.trans hrest,fun hq=>(g3.df hq).trans (hdf hq)⟩
         | exit i=>exact out _ g1
         | goto l=>exact out _ g1
         | ret=>exact out _ g1
         | panic ch=>exact out _ g1
         | outgrown=>exact out _ g1
     | some M =>
       rw [hL2] at h
       simp only at h
       cases hcv:((L.covers (Qid c)&&Qc0 L s.heap (L.kills s))&&(M.covers (Qid c)&&Qc0 M s.heap (M.kills s))&&Qpc L M s) with
       | false=>rw [hcv] at h; exact h.elim
       | true =>
         rw [hcv,cond_true] at h
         simp only [Bool.and_eq_true] at hcv
         obtain ⟨⟨⟨hcL,hnL⟩,hcM,hnM⟩,hw2⟩:=hcv
         have hallL:=Qd4 hnL
         have hallM:=Qd4 hnM
         obtain ⟨nolockM,sub⟩:=Qrf hw2 hnM
         have nolockL:∀ k b,s.heap k=some b→b.lock=true→Qac k L.blks=false∧k ∉ L.kills s:=fun k b hk hl=>sub k (nolockM k b hk hl).1 (nolockM k b hk hl).2
         obtain ⟨⟨x0,hf0⟩,hrL,hrM⟩:=h
         have inv_of:∀ (S:LoopSpec) s' x,Qnm S s.heap (S.kills s) s' x→S.inv x:=fun S s' x hf=>by
           unfold Qnm at hf
           simp only [Qca] at hf
           exact hf.2.1
         let J:LoopSpec→Nat→Act→World→Prop:=fun S q a' w'=>∃ (x:S.X) (δ1:Dict),S.inv x∧S.mu x=q∧δ.le δ1∧Rep own w0 δ1 (S.head s x) a' w'∧keep (Qid c) a a'∧a'.tmps.size=a.tmps.size∧Qfm a'.defers=Qfm a.defers∧(Qmn c=true→a'.defers=a.defers)
         let I:Nat→Act→World→Prop:=fun q a' w'=>J L q a' w'∨J M q a' w'
         -- a round from either head
         have round:∀ (S:LoopSpec),NamesOk S s.heap (S.kills s)→(∀ k b,s.heap k=some b→b.lock=true→Qac k S.blks=false∧k ∉ S.kills s)→∀ (x:S.X) (δ1:Dict) (a1:Act) (w1:World) (N:St→Prop),Qci P Γ Λ c id (S.head s x) (fun e s'=>match e with
             | .normal=>N s'
             | e=>K e {s' with heap:=unlock s.heap s'.heap})→δ.le δ1→Rep own w0 δ1 (S.head s x) a1 w1→keep (Qid c) a a1→a1.tmps.size=a.tmps.size→Qfm a1.defers=Qfm a.defers→(Qmn c=true→a1.defers=a.defers) →
             c.wpIn (WF ro) n P (fun e a2 w2=>match e with
               | .normal=>∃ δ2 s2,N s2∧Rep own w0 δ2 s2 a2 w2∧δ.le δ2∧keep (Qid c) a a2∧a2.tmps.size=a.tmps.size∧Qfm a2.defers=Qfm a.defers∧(Qmn c=true→a2.defers=a.defers)∧∀ k b,s.heap k=some b→Qac k S.blks=false→k ∉ S.kills s→s2.heap k=some {b with lock:=true}
               | e=>Q5e own w0 (Qmn (.loop c)) (Qid (.loop c)) δ s a K e a2 w2) a1 w1:=fun S hall nolock x δ1 a1 w1 N hv hle1 hrep hkeep hlen hrest hdf=>by
           refine wpIn_mono (Qeh hm hΓ c ro n own w0 hown hrf id _ δ1 (S.head s x) a1 w1 hv hrep) fun e a2 w2 ⟨δ2,s2,g1,g2,g3⟩=>?_
           have hlk:∀ k b,s.heap k=some b→Qac k S.blks=false→k ∉ S.kills s→s2.heap k=some {b with lock:=true}:=fun k b hk hi hkk=>by
             refine g3.locks k _ ?_ rfl
             rcases Qf7 s x hall k with ⟨_,h1⟩ | ⟨p,_,_,⟨_,h1,_⟩ | ⟨h1,_⟩⟩ | ⟨b',_,h1,_⟩ | ⟨b',h1,h2,_⟩
             · rw [hk] at h1; cases h1
             · rw [hi] at h1; cases h1
             · rw [hk] at h1; cases h1
             · exact absurd h1 hkk
             · rw [hk] at h1; cases h1; exact h2
           have out:∀ e',K e' {s2 with heap:=unlock s.heap s2.heap}→Q5e own w0 (Qmn (.loop c)) (Qid (.loop c)) δ s a K e' a2 w2:=fun e' hK =>
             ⟨δ2,_,hK,g2.unlock,⟨Qdx hkeep g3.keep,Dict.le_trans hle1 g3.le,fun k b hk hl=>by
               have:=hlk k b hk (nolock k b hk hl).1 (nolock k b hk hl).2
               show unlock s.heap s2.heap k=some b
               unfold unlock
               rw [this,hk],g3.len.trans hlen,g3.rs.trans hrest,fun hq=>(g3.df hq).trans (hdf hq)⟩⟩
           cases e with
           | normal=>exact ⟨δ2,s2,g1,g2,Dict.le_trans hle1 g3.le,Qdx hkeep g3.keep,g3.len.trans hlen,g3.rs.trans hrest,fun hq=>(g3.df hq).trans (hdf hq),hlk⟩
           | exit i=>exact out _ g1
           | goto l=>exact out _ g1
           | ret=>exact out _ g1
           | panic ch=>exact out _ g1
           | outgrown=>exact out _ g1
         obtain ⟨δ1,hd1,hd2⟩:=Qe5 hallL hcL hr hr δ.le_refl (Qeo _ a) rfl (fun k b hk _ _=>.inl hk) hf0
         refine wpIn_loop_ghost I (L.mu x0) (.inl ⟨x0,δ1,inv_of L s x0 hf0,rfl,hd1,hd2,Qeo _ a,rfl,rfl,fun _=>rfl⟩) ?_
         rintro q a1 w1 (⟨x,δ1,hinv,hmu,hle1,hrep,hkeep,hlen,hrest,hdf⟩ | ⟨x,δ1,hinv,hmu,hle1,hrep,hkeep,hlen,hrest,hdf⟩)
         · refine wpIn_mono (round L hallL nolockL x δ1 a1 w1 _ (hrL x hinv) hle1 hrep hkeep hlen hrest hdf) fun e a2 w2 he=>?_
           cases e with
           | normal =>
             obtain ⟨δ2,s2,hN,g2,g3,g4,g5,g6,g7,hlk⟩:=he
             rcases hN with ⟨x',hf',hlt⟩ | ⟨x',hf',hlt⟩
             · obtain ⟨δ3,e1,e2⟩:=Qe5 hallL hcL hr g2 g3 g4 g5 (fun k b hk hi hkk=>.inr (hlk k b hk hi hkk)) hf'
               exact ⟨L.mu x',by omega,.inl ⟨x',δ3,inv_of L s2 x' hf',rfl,e1,e2,g4,g5,g6,g7⟩⟩
             · obtain ⟨δ3,e1,e2⟩:=Qe5 hallM hcM hr g2 g3 g4 g5 (fun k b hk hi hkk=>.inr (hlk k b hk (sub k hi hkk).1 (sub k hi hkk).2)) hf'
               exact ⟨M.mu x',by omega,.inr ⟨x',δ3,inv_of M s2 x' hf',rfl,e1,e2,g4,g5,g6,g7⟩⟩
           | exit i=>exact he
           | goto l=>exact he
           | ret=>exact he
           | panic ch=>exact he
           | outgrown=>exact he
         · refine wpIn_mono (round M hallM nolockM x δ1 a1 w1 _ (hrM x hinv) hle1 hrep hkeep hlen hrest hdf) fun e a2 w2 he=>?_
           cases e with
           | normal =>
             obtain ⟨δ2,s2,hN,g2,g3,g4,g5,g6,g7,hlk⟩:=he
             obtain ⟨x',hf',hlt⟩:=hN
             obtain ⟨δ3,e1,e2⟩:=Qe5 hallM hcM hr g2 g3 g4 g5 (fun k b hk hi hkk=>.inr (hlk k b hk hi hkk)) hf'
             exact ⟨M.mu x',by omega,.inr ⟨x',δ3,inv_of M s2 x' hf',rfl,e1,e2,g4,g5,g6,g7⟩⟩
           | exit i=>exact he
           | goto l=>exact he
           | ret=>exact he
           | panic ch=>exact he
           | outgrown=>exact he
 | .rangeFunc f ps asg cb,ro,n,own,w0,hown,hrf,id,K,δ,s,a,w,h,hr=>by
   rcases hrf with hrf | hrf
   · subst hrf
     simp only [Qci] at h
     cases hL:atL s (Λ id) with
     | none=>rw [hL] at h; exact h.elim
     | some L =>
       rw [hL] at h
       simp only at h
       cases hit:L.it with
       | none=>rw [hit] at h; exact h.elim
       | some it =>
         rw [hit] at h
         cases hev:s.eval f with
         | fn g caps =>
           rw [hev] at h
           simp only at h
           cases hc:(Nat.beq g it.f&&L.slots.isEmpty&&Qmn asg&&Qmn cb&&Qc0 L s.heap (L.kills s)) with
           | false=>rw [hc] at h; exact h.elim
           | true =>
             rw [hc,cond_true] at h
             simp only [Bool.and_eq_true] at hc
             obtain ⟨⟨⟨⟨c1,_⟩,c3⟩,c4⟩,c5⟩:=hc
             obtain rfl:=Nat.eq_of_beq_eq_true c1
             have hall:=Qd4 c5
             cases hrun:it.run caps s.heap with
             | none=>rw [hrun] at h; exact h.elim
             | some pk =>
               obtain ⟨p,N,m,item,ks⟩:=pk
               rw [hrun] at h
               simp only at h
               cases hm2:(Nat.beq m ps.size&&ks.all (fun k=>!Qac k L.blks&&!(L.kills s).elem k)) with
               | false=>rw [hm2] at h; exact h.elim
               | true =>
                 rw [hm2,cond_true] at h
                 rw [Bool.and_eq_true] at hm2
                 obtain ⟨k1,k2⟩:=hm2
                 obtain rfl:=Nat.eq_of_beq_eq_true k1
                 have k2:=List.all_eq_true.1 k2
                 obtain ⟨⟨hP,hp⟩,⟨x0,hx0,hf0⟩,hround,hdone⟩:=h
                 obtain ⟨itP,itf,itrun,itok⟩:=it
                 simp only at hP hrun hev
                 have itok:Zns P itf itrun:=hP ▸ itok
                 have hev':=hr.eval f
                 rw [hev] at hev'
                 simp only [Qah] at hev'
                 obtain ⟨lb,hlb,hcaps⟩:=hev'
                 obtain ⟨heg,encs,hencs,hseq⟩:=itok caps s.heap p N ps.size item ks hrun hp δ w lb hcaps hr.hr
                 have B0:w0.heap.size≤w.heap.size:=hr.wr.size
                 have mlt:=hr.df.lt
                 have inv_of:∀ s' x,Qnm L s.heap (L.kills s) s' x→L.inv x:=fun s' x hf=>by
                   unfold Qnm at hf
                   simp only [Qca] at hf
                   exact hf.2.1
                 have nolock:∀ k b,s.heap k=some b→b.lock=true→Qac k L.blks=false∧k ∉ L.kills s:=Q1z hall hf0
                 have kept:∀ k,k∈ks→Qac k L.blks=false∧k ∉ L.kills s:=fun k hk=>by
                   have:=k2 k hk
                   simp only [Bool.and_eq_true,Bool.not_eq_true'] at this
                   exact ⟨this.1,fun hm=>by have:=this.2; simp [hm] at this⟩
                 have headLock:∀ x k b,s.heap k=some b→Qac k L.blks=false→k ∉ L.kills s→(L.head s x).heap k=some {b with lock:=true}:=fun x k b hk hi hkk=>by
                   rcases Qf7 s x hall k with ⟨_,h1⟩ | ⟨p,_,_,⟨_,h1,_⟩ | ⟨h1,_⟩⟩ | ⟨b',_,h1,_⟩ | ⟨b',h1,h2,_⟩
                   · rw [hk] at h1; cases h1
                   · rw [hi] at h1; cases h1
                   · rw [hk] at h1; cases h1
                   · exact absurd h1 hkk
                   · rw [hk] at h1; cases h1; exact h2
                 -- a state's Rep with the caller's own slots
                 have withTmps:∀ {s':St} {δ':Dict} {W:World},δ.le δ'→HRep δ' s'.heap W→(∀ k,s'.heap k=none→δ' k=none)→(∀ r,Qfl δ' s'.heap r→own r)→WRel own w0 W→MarksOk w0.heap.size a.defers W→(∀ q,δ'.fz q→own.z q∨own q.r)→Rep own w0 δ' {s' with tmps:=s.tmps} a W :=
                   fun hle h1 h2 h3 h4 h5 h6=>⟨Qc6 hle _ _ hr.tm,h5,h1,h2,h3,h4,h6⟩
                 have outC:∀ {s':St} {δ':Dict} {W:World} {e:Exit} {a':Act},a'.tmps=a.tmps→Qfm a'.defers=Qfm a.defers→K e {s with heap:=unlock s.heap s'.heap}→δ.le δ'→Rep own w0 δ' {s' with tmps:=s.tmps} a' W→(∀ k b,s.heap k=some b→Qac k L.blks=false→k ∉ L.kills s→s'.heap k=some {b with lock:=true})→Q5e own w0 false [] δ s a K e a' W :=
                   fun {s' δ' W e a'} ht hds hK hle hrep hlk=>⟨δ',_,hK,(hrep.unlock (s:=s)).same rfl rfl,⟨fun t _=>by rw [ht],hle,fun k b hk hl=>by
                     have:=hlk k b hk (nolock k b hk hl).1 (nolock k b hk hl).2
                     show unlock s.heap s'.heap k=some b
                     unfold unlock
                     rw [this,hk],by rw [ht],hds,fun h=>(by cases h)⟩⟩
                 let I:Nat→World→Prop:=fun k W=>∃ x δ1,L.inv x∧L.ix x=k∧δ.le δ1∧Rep own w0 δ1 (L.head s x) a W
                 let Ix:Code→World→Prop:=fun c W=>(c=.ret∧Q5e own w0 false [] δ s a K .ret a W)∨∃ i,c=.exit i∧Q5e own w0 false [] δ s a K (.exit i) a W
                 have marked:∀ {e:Exit} {D:Nat} {W:World},w.heap.size≤D→Q5e own w0 false [] δ s a K e a W→W.heap[D]?=some (.deferred (some []))→Q5e own w0 false [] δ s a K e {a with defers:={target:=.collected D,args:=#[]} :: a.defers} W :=
                   fun {e D W} hD ⟨δ',s',hK,hrep,hfr⟩ hd=>⟨δ',s',hK,⟨hrep.tm,hrep.df.cons (Nat.le_trans B0 hD) (fun D' hD'=>Nat.lt_of_lt_of_le (mlt D' hD') hD) hd,hrep.hr,hrep.tight,hrep.mine,hrep.wr,hrep.fzm⟩,⟨hfr.keep,hfr.le,hfr.locks,hfr.len,hfr.rs,fun h=>(by cases h)⟩⟩
                 obtain ⟨δ1,hd1,hd2⟩:=Qe5 (l:=[]) hall rfl hr hr δ.le_refl (Qeo _ a) rfl (fun k b hk _ _=>.inl hk) hf0
                 refine Zid (N:=N) hlb heg hseq (fun i hi=>(hencs i hi).2) I Ix ?_ ?_ ?_ ⟨x0,δ1,inv_of s x0 hf0,hx0,hd1,hd2⟩ ?_ ?_ ?_ ?_
                 · rintro k W W' ⟨x,δ1,h1,h2,h3,h4⟩ ho
                   exact ⟨x,δ1,h1,h2,h3,h4.aside B0 mlt ho⟩
                 · rintro c W W' (⟨rfl,δ',s',hK,hrep,hfr⟩ | ⟨i,rfl,δ',s',hK,hrep,hfr⟩) ho
                   · exact .inl ⟨rfl,δ',s',hK,hrep.aside B0 mlt ho,hfr⟩
                   · exact .inr ⟨i,rfl,δ',s',hK,hrep.aside B0 mlt ho,hfr⟩
                 · rintro k W ⟨x,δ1,h1,h2,h3,h4⟩
                   refine ⟨δ1,h3,fun k' hk' b p hb hp hd=>?_⟩
                   obtain ⟨q,e1,e2⟩:=h4.hr.blk k' _ (headLock x k' b hb (kept k' hk').1 (kept k' hk').2)
                   have:=h3 _ _ hp
                   rw [e1] at this; cases this
                   have hl:=e2 hd
                   exact ⟨hl.s,hl.n,hl.no,hl.rep,hl.loose⟩
                 · rintro l k W ⟨x,δ1,hinv,hix,hle1,hrep⟩ hk
                   subst hix
                   have own1c:∀ r,r<W.heap.size→(W.heap.size≤r∨Qfl δ1 (Qb1 s.heap (L.head s x).heap) r)→∃ o,W.heap[r]?=some o∧Qnu o=true:=fun r hlt hx=>by
                     rcases hx with hx | hx
                     · omega
                     · exact Qjw hrep.hr (Qj6 hx)
                   have htm:Qaw δ1 (Qko (L.head s x).tmps ps.toList (item (L.ix x))) ((ps.zip (encs (L.ix x))).foldl (fun t (p,v)=>t.setIfInBounds p v) a.tmps).toList:=by
                     rw [Q24]
                     exact Q1m _ _ _ _ _ hrep.tm (Qc6 hle1 _ _ (hencs _ hk).1)
                   have rep1:Rep ⟨fun r=>W.heap.size≤r∨Qfl δ1 (Qb1 s.heap (L.head s x).heap) r,δ1.fz⟩ W δ1 {L.head s x with tmps:=Qko (L.head s x).tmps ps.toList (item (L.ix x)),heap:=Qb1 s.heap (L.head s x).heap} {tmps:=(ps.zip (encs (L.ix x))).foldl (fun t (p,v)=>t.setIfInBounds p v) a.tmps,defers:=[]} W :=
                     ⟨htm,MarksOk.nil _ _,hrep.hr.kill,fun k hk=>hrep.tight k (Qof hk),fun r hx=>.inr hx,WRel.refl _ _,fun q hq=>.inl hq⟩
                   have hv:=hround x hinv hk
                   refine wpIn_mono (Qeh hm hΓ asg (some l) 0 _ W (fun r hx=>Or.inl hx) (.inr c3) id _ δ1 _ _ W hv rep1) fun e1 a2 W1 hg=>?_
                   obtain ⟨δ2,s2,g1,g2,g3⟩:=hg
                   cases e1 with
                   | exit i=>exact g1.elim
                   | goto l=>exact g1.elim
                   | ret=>exact g1.elim
                   | panic ch=>exact g1.elim
                   | outgrown=>exact g1.elim
                   | normal =>
                     have keep1:KeepsFrom w.heap.size W W1:=⟨g2.wr.size,fun r o hB hr' ho'=>by
                       have hlt:=(Array.getElem?_eq_some_iff.1 hr').1
                       refine (g2.wr.block r hlt fun hx=>?_).trans hr'
                       rcases hx with hx | hx
                       · omega
                       · rcases Qoe hr.hr hle1 hrep.hr hx with ⟨c,e,fz,hc⟩ | hc
                         · rw [hr'] at hc; cases hc; cases ho'
                         · omega⟩
                     refine ⟨keep1,fun W2 ho=>?_⟩
                     have hdf:a2.defers=[]:=g3.df c3
                     have hr2:HRep δ2 s2.heap W2:=g2.hr.aside ho
                     have own2c:∀ r,r<W2.heap.size→(W2.heap.size≤r∨Qfl δ2 (Qb1 s.heap s2.heap) r)→∃ o,W2.heap[r]?=some o∧Qnu o=true:=fun r hlt hx=>by
                       rcases hx with hx | hx
                       · omega
                       · exact Qjw hr2 (Qj6 hx)
                     have rep2:Rep ⟨fun r=>W2.heap.size≤r∨Qfl δ2 (Qb1 s.heap s2.heap) r,δ2.fz⟩ W2 δ2 {s2 with heap:=Qb1 s.heap s2.heap} a2 W2 :=
                       ⟨g2.tm,by rw [hdf]; exact MarksOk.nil _ _,hr2.kill,fun k hk=>g2.tight k (Qof hk),fun r hx=>.inr hx,WRel.refl _ _,fun q hq=>.inl hq⟩
                     refine wpIn_mono (Qeh hm hΓ cb (some l) 0 _ W2 (fun r hx=>Or.inl hx) (.inr c4) id _ δ2 _ a2 W2 g1 rep2) fun e a3 W3 ⟨δ3,s3,e1,e2,e3⟩=>?_
                     have ownBack:∀ r,(W2.heap.size≤r∨Qfl δ2 (Qb1 s.heap s2.heap) r)→own r:=fun r hx=>by
                       have sz1:=hrep.wr.size
                       have sz2:=g2.wr.size
                       have sz3:=ho.size
                       rcases hx with hx | hx
                       · exact hown r (by omega)
                       · rcases g2.mine r (Qj6 hx) with hx | hx
                         · exact hown r (by omega)
                         · exact hrep.mine r (Qj6 hx)
                     have hle3:δ.le δ3:=Dict.le_trans hle1 (Dict.le_trans g3.le e3.le)
                     have hlk3:∀ k b,s.heap k=some b→Qac k L.blks=false→k ∉ L.kills s→s3.heap k=some {b with lock:=true}:=fun k b hk hi hkk =>
                       e3.locks k _ (Qog hk (g3.locks k _ (Qog hk (headLock x k b hk hi hkk)) rfl)) rfl
                     have wr3:WRel own w0 W3:=by
                       refine ⟨e2.wr.os.trans (ho.os.trans (g2.wr.os.trans hrep.wr.os)),e2.wr.tape.trans (ho.tape.trans (g2.wr.tape.trans hrep.wr.tape)),e2.wr.output.trans (ho.output.trans (g2.wr.output.trans hrep.wr.output)),Nat.le_trans hrep.wr.size (Nat.le_trans g2.wr.size (Nat.le_trans ho.size e2.wr.size)),fun r hr' hno=>?_⟩
                       have sz1:=hrep.wr.size
                       have sz2:=g2.wr.size
                       have sz3:=ho.size
                       have b1:=hrep.wr.block r hr' hno
                       have b2:=g2.wr.block r (by omega) (fun hx=>by
                         rcases hx with hx | hx
                         · omega
                         · exact hno (hrep.mine r (Qj6 hx)))
                       have b3:W2.heap[r]?=W1.heap[r]?:=by
                         have hlt:r<W1.heap.size:=by omega
                         rw [Array.getElem?_eq_getElem hlt]
                         exact ho.same _ _ (Array.getElem?_eq_getElem hlt) (.inr (by omega))
                       have b4:=e2.wr.block r (by omega) (fun hx=>hno (ownBack r hx))
                       rw [b4,b3,b2,b1]
                     have df3:MarksOk w0.heap.size a.defers W3:=((hrep.df.rel g2.wr own1c).off mlt ho).rel e2.wr own2c
                     have rep3:Rep own w0 δ3 {s3 with tmps:=s.tmps} a W3:=withTmps hle3 e2.hr e2.tight (fun r hx=>ownBack r (e2.mine r hx)) wr3 df3 (fun q hq=>by
                       rcases e2.fzm q hq with hx | hx
                       · rcases g2.fzm q hx with hx | hx
                         · exact hrep.fzm q hx
                         · rcases hx with hx | hx
                           · exact .inr (hown q.r (Nat.le_trans hrep.wr.size hx))
                           · exact .inr (hrep.mine q.r (Qj6 hx))
                       · exact .inr (ownBack q.r hx))
                     have hkf:KeepsFrom w.heap.size W2 W3:=⟨e2.wr.size,fun r o hB hr' ho'=>by
                       have hlt:=(Array.getElem?_eq_some_iff.1 hr').1
                       refine (e2.wr.block r hlt fun hx=>?_).trans hr'
                       rcases hx with hx | hx
                       · omega
                       · rcases Qoe hr.hr (Dict.le_trans hle1 g3.le) hr2 hx with ⟨c,e,fz,hc⟩ | hc
                         · rw [hr'] at hc; cases hc; cases ho'
                         · omega⟩
                     cases e with
                     | normal =>
                       obtain ⟨x',hx',hf'⟩:=e1
                       obtain ⟨δ4,f1,f2⟩:=Qe5 (l:=[]) (s':={s3 with tmps:=s.tmps}) hall rfl hr rep3 hle3 (Qeo _ a) rfl (fun k b hk hi hkk=>.inr (hlk3 k b hk hi hkk)) hf'
                       exact ⟨hkf,x',δ4,inv_of _ x' hf',hx',f1,f2⟩
                     | ret=>exact ⟨hkf,.inl ⟨rfl,outC rfl rfl e1 hle3 rep3 hlk3⟩⟩
                     | exit i=>exact ⟨hkf,.inr ⟨i,rfl,outC rfl rfl e1 hle3 rep3 hlk3⟩⟩
                     | goto l=>exact e1.elim
                     | panic ch=>exact e1.elim
                     | outgrown=>exact e1.elim
                 · rintro D W hD ⟨x,δ1,hinv,hix,hle1,hrep⟩ hd
                   exact marked hD (outC rfl rfl (hdone x hinv hix) hle1 (withTmps hle1 hrep.hr hrep.tight hrep.mine hrep.wr hrep.df hrep.fzm) (headLock x)) hd
                 · rintro D W hD (⟨_,he⟩ | ⟨i,hi,_⟩) hd
                   · exact marked hD he hd
                   · cases hi
                 · rintro D i W hD (⟨hi,_⟩ | ⟨j,hj,he⟩) hd
                   · cases hi
                   · cases hj; exact marked hD he hd
         | _=>rw [hev] at h; exact h.elim
   · simp only [Qmn] at hrf; cases hrf
 | .scope c,ro,n,own,w0,hown,hrf,id,K,δ,s,a,w,h,hr=>by
   simp only [Qci] at h
   refine Qw6 (wpIn_mono (Qeh hm hΓ c ro n own w0 hown hrf id _ δ s a w h hr) fun e a' w' ⟨δ',s',h1,h2,h3⟩=>?_)
   cases e with
   | goto l=>exact h1.elim
   | exit i=>exact ⟨fun l h=>(by cases h),δ',s',h1,h2,h3⟩
   | normal=>exact ⟨fun l h=>(by cases h),δ',s',h1,h2,h3⟩
   | ret=>exact ⟨fun l h=>(by cases h),δ',s',h1,h2,h3⟩
   | panic ch=>exact ⟨fun l h=>(by cases h),δ',s',h1,h2,h3⟩
   | outgrown=>exact ⟨fun l h=>(by cases h),δ',s',h1,h2,h3⟩
 | .label _,ro,n,own,w0,hown,hrf,id,K,δ,s,a,w,h,hr=>wpIn_label ⟨δ,s,h,hr,FromC.refl _ _ _ _ _⟩
 | .goto _,ro,n,own,w0,hown,hrf,id,K,δ,s,a,w,h,hr=>by simp only [Qci] at h
 | .refuse _,ro,n,own,w0,hown,hrf,id,K,δ,s,a,w,h,hr=>by simp only [Qci] at h
end
end Go.SE
end
section
namespace Go.SE
open Go.RowKit
mutual
def Q59:SV→Value
 | .v x=>x
 | .agg cs=>.agg (Qjn cs).toArray
 | .tup cs=>.tuple (Qjn cs).toArray
 | _=>undef
def Qjn:List SV→List Value
 | []=>[]
 | x :: xs=>Q59 x :: Qjn xs
end
mutual
theorem Qe8 {δ:Dict}:∀ (x:SV) (r:Value),Qea x=true→(Qah δ x r↔r=Q59 x)
 | .v x,r,_=>by simp only [Qah,Q59]
 | .agg cs,r,h=>by
   simp only [Qea] at h
   simp only [Qah,Q59]
   constructor
   · rintro ⟨xs,rfl,h2⟩; rw [(Qd0 cs xs h).1 h2]
   · rintro rfl; exact ⟨_,rfl,(Qd0 cs _ h).2 rfl⟩
 | .tup cs,r,h=>by
   simp only [Qea] at h
   simp only [Qah,Q59]
   constructor
   · rintro ⟨xs,rfl,h2⟩; rw [(Qd0 cs xs h).1 h2]
   · rintro rfl; exact ⟨_,rfl,(Qd0 cs _ h).2 rfl⟩
 | .unk,_,h=>by simp [Qea] at h
 | .vp _ _,_,h=>by simp [Qea] at h
 | .ptr _ _ _,_,h=>by simp [Qea] at h
 | .sl _ _ _ _ _,_,h=>by simp [Qea] at h
 | .ap _ _ _,_,h=>by simp [Qea] at h
 | .fn _ _,_,h=>by simp [Qea] at h
 | .ifc _ _,_,h=>by simp [Qea] at h
theorem Qd0 {δ:Dict}:∀ (xs:List SV) (rs:List Value),Qf5 xs=true→(Qaw δ xs rs↔rs=Qjn xs)
 | [],[],_=>by simp [Qaw,Qjn]
 | x :: xs,r :: rs,h=>by
   simp only [Qf5,Bool.and_eq_true] at h
   simp only [Qaw,Qjn,List.cons.injEq,Qe8 x r h.1,Qd0 xs rs h.2]
 | [],_ :: _,_=>by simp [Qaw,Qjn]
 | _ :: _,[],_=>by simp [Qaw,Qjn]
end
section
variable {P:Program} {Γ:Qbz}
theorem Qj0 {own:Own} {w0:World} {δ:Dict} {s:St} {a:Act} {w:World} (hr:Rep own w0 δ s a w):∀ (l:List ResultVar) (xs:List SV),Qej P s l=some xs →
   ∃ vs,(l.mapM (m:=Sem) fun | .tmp t=>pure (a.tmps.getD t undef) | .cell x t=>do loadVar t (← asAddr (a.tmps.getD x undef))).run P w=.ok vs w∧Qaw δ xs vs
 | [],xs,h=>by
   simp only [Qej,Option.some.injEq] at h
   subst h
   exact ⟨[],by simp,by simp only [Qaw]⟩
 | .tmp t :: rest,xs,h=>by
   simp only [Qej] at h
   cases hl:Qej P s rest with
   | none=>rw [hl] at h; cases h
   | some l =>
     rw [hl] at h
     cases h
     obtain ⟨vs,h1,h2⟩:=Qj0 hr rest l hl
     refine ⟨a.tmps.getD t undef :: vs,?_,by simp only [Qaw]; exact ⟨hr.eval (.tmp t),h2⟩⟩
     simp only [List.mapM_cons,Sem.run_bind,Sem.run_pure,Result.andThen_ok]
     rw [h1]
     rfl
 | .cell x t :: rest,xs,h=>by
   simp only [Qej] at h
   cases hl:Qej P s rest with
   | none=>rw [hl] at h; cases h
   | some l =>
     cases hv:Q2k P s.heap t (s.tmps.getD x Qde) with
     | none=>rw [hl,hv] at h; cases h
     | some pv =>
       rw [hl,hv] at h
       · cases h
         obtain ⟨vs,h1,h2⟩:=Qj0 hr rest l hl
         have hev:=hr.eval (.tmp x)
         obtain ⟨y,y1,y2⟩:=Q2j (P:=P) (w:=w) hv hev hr.hr
         refine ⟨y :: vs,?_,by simp only [Qaw]; exact ⟨y2,h2⟩⟩
         simp only [Act.eval] at y1
         have hld:(do loadVar t (← asAddr (a.tmps.getD x undef)):Sem Value).run P w=.ok y w:=by
           unfold Instr.loadAt at y1
           generalize a.tmps.getD x undef=z at y1 hev ⊢
           cases z <;> simp only [Instr.sureAddr,Sem.run_bind] at y1 <;> try (simp [stuck] at y1; done)
           rename_i ad
           cases ad with
           | none=>simp [stuck] at y1
           | some ad=>simpa [asAddr] using y1
         simp only [List.mapM_cons,Sem.run_bind]
         rw [Sem.run_bind] at hld
         rw [hld]
         simp only [Result.andThen_ok]
         rw [h1]
         rfl
theorem Zif {own:Own} {w0:World} {δ:Dict} {s:St} {a:Act} {w:World} {fn:Func} {x:SV} (hr:Rep own w0 δ s a w) (h:Zfu P fn s=some x) :
   ∃ v,(results fn a.tmps).run P w=.ok v w∧Qah δ x v:=by
 unfold Zfu at h
 cases hl:Qej P s fn.results.toList with
 | none=>rw [hl] at h; cases h
 | some xs =>
   rw [hl] at h
   obtain ⟨vs,h1,h2⟩:=Qj0 (P:=P) hr _ _ hl
   have hrun:(results fn a.tmps).run P w=.ok (if h:vs.toArray.size=1 then vs.toArray[0] else .tuple vs.toArray) w:=by
     unfold results
     rw [Array.mapM_eq_mapM_toList]
     simp only [Sem.run_bind,Sem.run_map]
     refine Eq.trans (congrArg (fun z:Result (List Value)=>((Result.andThen z fun a w'=>Result.ok a.toArray w').andThen fun a w'=>Sem.run P (pure (if h:a.size=1 then a[0] else Value.tuple a)) w')) h1) ?_
     simp
   rw [hrun]
   match xs,vs,h2,h with
   | [y],[v],h2,h =>
     cases h
     simp only [Qaw,and_true] at h2
     exact ⟨v,by simp,h2⟩
   | [],[],h2,h =>
     cases h
     exact ⟨_,rfl,by simp only [Qah]; exact ⟨[],by simp,h2⟩⟩
   | y :: y' :: ys,v :: v' :: vs,h2,h =>
     cases h
     exact ⟨_,rfl,by simp only [Qah]; exact ⟨v :: v' :: vs,by simp,h2⟩⟩
   | [],_ :: _,h2,_=>simp only [Qaw] at h2
   | [_],[],h2,_=>simp only [Qaw] at h2
   | [_],_ :: _ :: _,h2,_=>simp [Qaw] at h2
   | _ :: _ :: _,[],h2,_=>simp only [Qaw] at h2
   | _ :: _ :: _,[_],h2,_=>simp [Qaw] at h2
theorem Qkr {fn:Func} {tmps:Array Value} {R:Ending→World→Prop} {B:Nat}:∀ (Ds:List Nat) (w:World),Ds.Nodup→(∀ D,D∈Ds→B≤D∧w.heap[D]?=some (.deferred (some []))) →
   (∀ W,Off B w W→∃ v,(results fn tmps).run P W=.ok v W∧R (.returned v) W)→LeavesInM Fence.wide 0 P fn tmps R (Ds.map fun D=>{target:=.collected D,args:=#[]}) .returning w
 | [],w,_,_,h=>h w (Off.refl B w)
 | D :: Ds,w,hn,hd,h=>by
   obtain ⟨h1,h2⟩:=hd D List.mem_cons_self
   have hoff:Off B w (w.putObj D (.deferred none)):=Off.putObj _ h2 rfl h1
   refine ⟨by simp,.inl ⟨D,_,rfl,run_takeDeferred h2,Qkr Ds _ (List.nodup_cons.1 hn).2 (fun D' hD'=>?_) fun W hW=>h W (hoff.trans hW)⟩⟩
   have hne:D'≠D:=fun e=>(List.nodup_cons.1 hn).1 (e ▸ hD')
   obtain ⟨g1,g2⟩:=hd D' (List.mem_cons_of_mem _ hD')
   exact ⟨g1,(World.putObj_heap_other hne).trans g2⟩
theorem Qqj (hm:P.follows .mixedOrders=true) (hΓ:∀ f g,Γ f=some g→g.ok P f) {f:FuncId} {fn:Func} (hf:P.funcs[f]?=some fn) {Λ:Nat→Option LoopSpec} {args:List SV} {h0:Qbo} {nx:Nat} {δ:Dict} {w:World} {vals:List Value}
   (ha:Qaw δ args vals) (hr:HRep δ h0 w) (ht:∀ k,h0 k=none→δ k=none) {R:SV→Qbo→Prop} (h:Qcf P Γ Λ fn args h0 nx R) :
   Calls P f vals.toArray w fun e w'=>∃ r x δ' h',e=.returned r∧R x h'∧Qah δ' x r∧HRep δ' h' w'∧δ.le δ'∧WRel (Qfl δ h0) w w'∧((∀ q,Qfl δ' h' q→w.heap.size≤q∨Qfl δ h0 q)∧∀ q,δ'.fz q→δ.fz q∨w.heap.size≤q.r∨Qfl δ h0 q.r):=by
 unfold Qcf at h
 cases hb:fn.body with
 | none=>rw [hb] at h; exact h.elim
 | some c =>
   rw [hb] at h
   simp only at h
   refine callsIn_wide.1 (callsIn_of_wp_marks (F:=Fence.wide) (n:=0) hf hb trivial ?_ rfl)
   have hlen:=Qa6 ha
   have hrep:Rep ⟨fun r=>w.heap.size≤r∨Qfl δ h0 r,δ.fz⟩ w δ {tmps:=args++List.replicate (fn.ntmps - args.length) Qde,heap:=h0,nx} {tmps:=vals.toArray++Array.replicate (fn.ntmps - vals.toArray.size) undef,defers:=[]} w:=by
     refine ⟨?_,MarksOk.nil _ _,hr,ht,fun r hx=>Or.inr hx,WRel.refl _ _,fun q hq=>.inl hq⟩
     simp only [Array.toList_append,Array.toList_replicate,List.size_toArray,← hlen]
     exact Qgt ha (Qie (by simp [Qde,Qah]) _)
   refine wpIn_mono (Qeh hm hΓ c none 0 _ w (fun r hx=>Or.inl hx) (.inl rfl) 0 _ δ _ _ w h hrep) fun e a' w' ⟨δ',s',h1,h2,h3⟩=>?_
   have fin:(match Zfu P fn s' with | some x=>R x s'.heap | none=>False)→LeavesInM Fence.wide 0 P fn a'.tmps (fun e w'=>∃ r x δ' h',e=.returned r∧R x h'∧Qah δ' x r∧HRep δ' h' w'∧δ.le δ'∧WRel (Qfl δ h0) w w'∧((∀ q,Qfl δ' h' q→w.heap.size≤q∨Qfl δ h0 q)∧∀ q,δ'.fz q→δ.fz q∨w.heap.size≤q.r∨Qfl δ h0 q.r)) a'.defers .returning w':=fun hx=>by
     cases hrs:Zfu P fn s' with
     | none=>rw [hrs] at hx; exact hx.elim
     | some x =>
       rw [hrs] at hx
       obtain ⟨Ds,d1,d2,d3⟩:=h2.df.split (r:=[]) h3.rs
       rw [d1,List.append_nil]
       refine Qkr (B:=w.heap.size) Ds w' d2 d3 fun W hW=>?_
       obtain ⟨o1,o2⟩:=h2.off (Nat.le_refl _) hW
       have h2':Rep ⟨fun r=>w.heap.size≤r∨Qfl δ h0 r,δ.fz⟩ w δ' s' {a' with defers:=[]} W:=⟨h2.tm,MarksOk.nil _ _,o1,h2.tight,h2.mine,o2,h2.fzm⟩
       obtain ⟨v,v1,v2⟩:=Zif (P:=P) h2' hrs
       refine ⟨v,v1,v,x,δ',s'.heap,rfl,hx,v2,o1,h3.le,⟨o2.os,o2.tape,o2.output,o2.size,fun r hlt hn=>o2.block r hlt ?_⟩,h2.mine,h2.fzm⟩
       rintro (hx | hx)
       · omega
       · exact hn hx
   cases e with
   | normal=>exact fin h1
   | ret=>exact fin h1
   | exit i=>exact h1.elim
   | goto i=>exact h1.elim
   | panic i=>exact h1.elim
   | outgrown=>exact h1.elim
def Qao (f:List SV→Option (Option Prop×SV)):Ctr :=
 {writes:=false,run:=fun args _ _=>match f args with | some (p,x)=>some (.det p x []) | none=>none}
def Q10:Qbo:=fun _=>none
def Q9w:Dict:=⟨fun _=>none,fun _=>False⟩
theorem HRep.empty (w:World):HRep Q9w Q10 w:=⟨fun k b h=>(by cases h),fun k k' r b h=>(by obtain ⟨_,_,h,_⟩:=h; cases h),fun q hq=>hq.elim⟩
def Qaq (P:Program) (f:FuncId) (spec:List SV→Option (Option Prop×SV)):Prop :=
 ∀ args p x,spec args=some (p,x)→(∀ q,p=some q→q)→Qf5 args=true∧Qea x=true∧∀ w,Calls P f (Qjn args).toArray w fun e w'=>e=.returned (Q59 x)∧Below w.heap.size w w'
def Qbe (P:Program) (Γ:Qbz) (Λ:Nat→Option LoopSpec) (fn:Func) (args:List SV) (R:SV→Prop):Prop:=Qcf P Γ Λ fn args Q10 64 fun x _=>R x
theorem Qxi (hm:P.follows .mixedOrders=true) (hΓ:∀ f g,Γ f=some g→g.ok P f) {f:FuncId} {fn:Func} (hf:P.funcs[f]?=some fn) {Λ:Nat→Option LoopSpec} {args:List SV} (ha:Qf5 args=true) {x:SV} (hx:Qea x=true)
   (h:Qbe P Γ Λ fn args (·=x)) (w:World):Calls P f (Qjn args).toArray w fun e w'=>e=.returned (Q59 x)∧Below w.heap.size w w':=by
 refine (Qqj hm hΓ hf (δ:=Q9w) (h0:=Q10) ((Qd0 _ _ ha).2 rfl) (HRep.empty w) (fun _ _=>rfl) h).mono fun e w' ⟨r,y,δ',h',h1,h2,h3,_,_,h6,_⟩=>?_
 subst h2
 refine ⟨by rw [h1,(Qe8 _ _ hx).1 h3],h6.os,h6.tape,h6.output,h6.size,fun k hk=>h6.block k hk ?_⟩
 rintro ⟨k',b,hb,_⟩
 cases hb
theorem Qri {δ:Dict} {h:Qbo} {w w':World} (hr:HRep δ h w) (h5:Below w.heap.size w w'):Upd δ h w δ [] w' :=
 ⟨δ.le_refl,⟨fun k b hk=>(hr.blk k b hk).imp fun p ⟨d1,d2⟩=>⟨d1,fun hd=>(d2 hd).mono δ.le_refl fun hno=>h5.block p.r (Qcw ((d2 hd).rep hno))⟩,hr.inj,fun q hq=>⟨Fz.at_same (hr.fz q hq).1 (h5.block q.r (Fz.at_lt (hr.fz q hq).1)),(hr.fz q hq).2⟩⟩,fun k h0 h1=>absurd h0 h1,fun k p h0 h1=>(by rw [h0] at h1; cases h1),WRel.of_below h5,fun q hq=>.inl hq⟩
theorem Qas {f : FuncId} {fn : Func} (hf : P.funcs[f]? = some fn) (hn : (fn.name == "runtime.NumGoroutine") = false) (hb : fn.body.isNone = false) {spec : List SV → Option (Option Prop × SV)} (hs : Qaq P f spec) : (Qao spec).ok P f := by
 intro args h base e he δ w vals ha hr hp _
 simp only [Qao] at he
 cases hsp:spec args with
 | none=>rw [hsp] at he; cases he
 | some px =>
   obtain ⟨p,x⟩:=px
   rw [hsp] at he
   cases he
   obtain ⟨h1,h2,h3⟩:=hs args p x hsp hp
   have hv:=(Qd0 _ _ h1).1 ha
   subst hv
   have hrun:(callFunc f (Qjn args).toArray).run P w=.ok (.enter f (Qjn args).toArray) w:=by
     have hn' : ¬ fn.name = "runtime.NumGoroutine" := by simpa using hn
     have hb':¬ fn.body=none:=fun e=>by rw [e] at hb; cases hb
     simp [callFunc,hf,hn',hb']
   rw [hrun]
   refine (h3 w).mono fun ed w' ⟨h4,h5⟩=>⟨Q59 x,x,[],δ,h4,⟨rfl,rfl⟩,(Qe8 _ _ h2).2 rfl,?_⟩
   exact Qri hr h5
theorem Qax (hm:P.follows .mixedOrders=true) (hΓ:∀ f g,Γ f=some g→g.ok P f) {f:FuncId} {fn:Func} (hf:P.funcs[f]?=some fn) {spec:List SV→Option (Option Prop×SV)} {Λ:List SV→Nat→Option LoopSpec}
   (h:∀ args p x,spec args=some (p,x)→(∀ q,p=some q→q)→Qf5 args=true∧Qea x=true∧Qbe P Γ (Λ args) fn args (·=x)):Qaq P f spec:=fun args p x hs hp =>
 ⟨(h args p x hs hp).1,(h args p x hs hp).2.1,Qxi hm hΓ hf (h args p x hs hp).1 (h args p x hs hp).2.1 (h args p x hs hp).2.2⟩
def Qbi:Qbz:=fun _=>none
theorem Qam:∀ f g,Qbi f=some g→g.ok P f:=fun _ _ h=>by cases h
def Qai (Γ:Qbz) (f:FuncId) (g:Ctr):Qbz:=fun x=>bif Nat.beq x f then some g else Γ x
theorem Qad {Γ:Qbz} (hΓ:∀ f g,Γ f=some g→g.ok P f) {f:FuncId} {g:Ctr} (hg:g.ok P f):∀ f' g',Qai Γ f g f'=some g'→g'.ok P f':=fun f' g' h=>by
 unfold Qai at h
 cases he:Nat.beq f' f with
 | true =>
   rw [he] at h
   cases h
   rw [Nat.eq_of_beq_eq_true he]; exact hg
 | false=>rw [he] at h; exact hΓ f' g' h
end
end Go.SE
end
section
namespace Go.SE
def Qau (n:Nat) (row:Nat→List SV):List (List SV):=(List.range' 0 n).map row
theorem Qf1 {n:Nat} {row:Nat→List SV} (i:Nat):(Qau n row)[i]?=if i<n then some (row i) else none:=by
 unfold Qau
 rw [List.getElem?_map]
 split
 · rw [List.getElem?_range' (by omega)]; simp
 · rw [List.getElem?_eq_none (by simp; omega)]; rfl
theorem Qgg (n:Nat) (row:Nat→List SV):Qau (n + 1) row=Qau n row++[row n]:=by
 unfold Qau
 rw [List.range'_concat]; simp
theorem Qg8 {n:Nat} {row row':Nat→List SV} (h:∀ i,i<n→row i=row' i):Qau n row=Qau n row':=by
 unfold Qau
 refine List.map_congr_left fun i hi=>h i ?_
 have:=(List.mem_range'_1.1 hi).2
 omega
def Qe3 (ok:List SV→Prop):List (List SV)→Prop
 | []=>True
 | r :: t=>ok r∧Qe3 ok t
theorem Qr1 {ok:List SV→Prop}:∀ {l:List (List SV)},Qe3 ok l↔∀ r∈l,ok r
 | []=>by simp [Qe3]
 | a :: t=>by simp [Qe3,Qr1 (l:=t)]
theorem okAll_rows {ok:List SV→Prop} {n:Nat} {row:Nat→List SV}:Qe3 ok (Qau n row)↔∀ i,i<n→ok (row i):=by
 rw [Qr1]
 constructor
 · intro h i hi
   exact h _ (List.mem_of_getElem? (i:=i) (by rw [Qf1,if_pos hi]))
 · intro h r hr
   obtain ⟨i,hi⟩:=List.getElem?_of_mem hr
   rw [Qf1] at hi
   split at hi
   · cases hi; rename_i h'; exact h i h'
   · cases hi
def Qja (i:Nat):Code→Nat→Option Code
 | .loop c,e=>bif Nat.beq e i then some c else Qja i c e
 | .seq a b,e=>match Qja i a e with
   | some c=>some c
   | none=>Qja i b e
 | .cond _ a b,e=>match Qja i a e with
   | some c=>some c
   | none=>Qja i b e
 | .block id c,_=>Qja i c id
 | .scope c,e=>Qja i c e
 | .rangeFunc _ _ _ c,e=>Qja i c e
 | _,_=>none
def Qwr (fn:Func) (i:Nat) (keep:List Nat):List Nat:=match fn.body with
 | some c=>match Qja i c 0 with
   | some b=>(Qid b).filter fun t=>!keep.elem t
   | none=>[]
 | none=>[]
def Qdv (Λ:Nat→Option LoopSpec) (fn:Func) (id:Nat) (X:Type) (inv:X→Prop) (mu:X→Nat) (slots:List (Nat×(X→SV))) (blks:List (Nat×(X→Blk))):Nat→Option LoopSpec:=fun i =>
 bif Nat.beq i id then some {X,inv,mu,slots,blks,dead:=Qwr fn id (slots.map (·.1))} else Λ i
def Qlx (Λ:Nat→Option LoopSpec) (fn:Func) (id:Nat) (X:Type) (inv:X→Prop) (mu:X→Nat) (slots:List (Nat×(X→SV))) (blks:List (Nat×(X→Blk))) (news:List (Nat×(X→Blk)×(St→SV))):Nat→Option LoopSpec:=fun i =>
 bif Nat.beq i id then some {X,inv,mu,slots,blks,news,dead:=Qwr fn id (slots.map (·.1))} else Λ i
def Q8g (Λ:Nat→Option LoopSpec) (fn:Func) (id:Nat) (X:Type) (inv:X→Prop) (rel:St→X→Prop) (mu:X→Nat) (slots:List (Nat×(X→SV))) (blks:List (Nat×(X→Blk))):Nat→Option LoopSpec:=fun i =>
 bif Nat.beq i id then some {X,inv,mu,slots,blks,dead:=Qwr fn id (slots.map (·.1)),rel:=some rel} else Λ i
def Qq1 (Λ:Nat→Option LoopSpec) (id:Nat) (it:It) (X:Type) (inv:X→Prop) (ix:X→Nat) (blks:List (Nat×(X→Blk))) (news:List (Nat×(X→Blk)×(St→SV)):=[]):Nat→Option LoopSpec:=fun i =>
 bif Nat.beq i id then some {X,inv,mu:=fun _=>0,slots:=[],blks,dead:=[],news,it:=some it,ix} else Λ i
def Zj8 (Λ:Nat→Option LoopSpec) (rid:Nat) (pr:List (Nat×(Nat→Nat))):Nat→Option LoopSpec:=fun i =>
 bif Nat.beq i (1000000 + rid) then some {X:=Unit,inv:=fun _=>True,mu:=fun _=>0,slots:=[],blks:=[],dead:=[],pr:=pr.map fun p=>(p.1,fun nx=>[p.2 nx])} else Λ i
def Qo3 (Λ:Nat→Option LoopSpec) (rid:Nat) (pr:List (Nat×(Nat→List Nat))):Nat→Option LoopSpec:=fun i =>
 bif Nat.beq i (1000000 + rid) then some {X:=Unit,inv:=fun _=>True,mu:=fun _=>0,slots:=[],blks:=[],dead:=[],pr} else Λ i
def Qic (t:Nat) (s:St):SV:=s.tmps.getD t .unk
def Zej (k j:Nat) (s:St):SV:=match s.heap k with
 | some b=>(b.row 0).getD j .unk
 | none=>.unk
end Go.SE
end
section
namespace Go.SE
open Go.RowKit
inductive Ent where
 | win (k s i n:Nat)
 | whole (k:Nat)
def Qm4 (k:Nat):List Ent→Nat→Option Nat
 | [],_=>none
 | .whole k' :: rest,j=>bif Nat.beq k k' then some j else Qm4 k rest (j + 1)
 | .win _ _ _ _ :: rest,j=>Qm4 k rest (j + 1)
structure Can where
 es:List Ent
 bs:List Blk
 /-- Is what a pointer points at only read? -/
 ro:Bool:=false
def Qa1 (b:Blk) (s i n:Nat):Blk:={elem:=b.elem,size:=s,rw:=false,lock:=false,lit:=false,flat:=true,n,row:=fun y=>b.row (i + y),ext:=0}
def Can.push (c:Can) (e:Ent) (b:Blk):Can:=⟨c.es++[e],c.bs++[b],c.ro⟩
def Can.setRow (c:Can) (j:Nat) (cs:List SV):Can:=⟨c.es,match c.bs[j]? with | some b=>c.bs.set j {b with row:=fun _=>cs} | none=>c.bs,c.ro⟩
mutual
def Qqw:Nat→Qbo→Bool→SV→Can→Option (SV×Can)
 | 0,_,_,_,_=>none
 | d + 1,h,deep,x,c=>match x with
   | .v y=>some (.v y,c)
   | .unk=>some (.unk,c)
   | .agg cs=>match Qtc d h deep cs c with
     | some (l,c')=>some (.agg l,c')
     | none=>none
   | .sl k s i n cap=>match h k with
     | some b=>bif b.off||!b.flat||!Nat.beq b.size s then none else bif deep&&b.rw then (match Qm4 k c.es 0 with
         | some j=>some (.sl j s i n cap,c)
         | none=>some (.sl c.es.length s i n cap,c.push (.whole k) {b with lock:=false}))
       else some (.sl c.es.length s 0 n cap,c.push (.win k s i n) (Qa1 b s i n))
     | none=>none
   | .vp k 0=>bif c.ro then (match h k with
       | some b=>bif b.off||!b.flat||!Nat.beq b.n 1 then none else some (.ptr c.es.length 0 0,c.push (.win k b.size 0 1) (Qa1 b b.size 0 1))
       | none=>none)
     else match Qm4 k c.es 0 with
     | some j=>some (.vp j 0,c)
     | none=>match h k with
       | some b=>bif b.off||!b.rw||!Nat.beq b.n 1 then none else
           match Qtc d h true (b.row 0) (c.push (.whole k) {b with lock:=false}) with
           | some (l,c')=>some (.vp c.es.length 0,c'.setRow c.es.length l)
           | none=>none
       | none=>none
   | .fn f cs=>match Qtc d h true cs c with
     | some (l,c')=>some (.fn f l,c')
     | none=>none
   | .fz s n row=>some (.fz s n row,c)
   | .mp k=>match Qm4 k c.es 0 with
     | some j=>some (.mp j,c)
     | none=>match h k with
       | some b=>bif b.dead||b.sp.isNone||!b.flat then none else bif c.ro||!b.rw then
             some (.mp c.es.length,c.push (.win k b.size 0 b.n) {b with rw:=false,lock:=false})
           else some (.mp c.es.length,c.push (.whole k) {b with lock:=false})
       | none=>none
   | .ifc t y=>match Qqw d h deep y c with
     | some (y',c')=>some (.ifc t y',c')
     | none=>none
   | _=>none
def Qtc:Nat→Qbo→Bool→List SV→Can→Option (List SV×Can)
 | 0,_,_,_,_=>none
 | d + 1,h,deep,xs,c=>match xs with
   | []=>some ([],c)
   | x :: rest=>match Qqw d h deep x c with
     | some (y,c')=>match Qtc d h deep rest c' with
       | some (l,c'')=>some (y :: l,c'')
       | none=>none
     | none=>none
end
inductive Back where
 | win (k i:Nat)
 | whole (k:Nat)
 | no
def Qcd (es:List Ent) (base j:Nat):Back :=
 match es[j]? with
 | some (.win k _ i _)=>.win k i
 | some (.whole k)=>.whole k
 | none=>bif Nat.ble 1000 j&&Nat.blt j 1008 then .whole (base + (j - 1000)) else .no
mutual
def Qq9 (es:List Ent) (base:Nat):SV→SV
 | .unk=>.unk
 | .v x=>.v x
 | .vp j x=>match Qcd es base j with | .whole k=>.vp k x | _=>.unk
 | .ptr j i x=>match Qcd es base j with | .whole k=>.ptr k i x | .win k i0=>.ptr k (i0 + i) x | .no=>.unk
 | .sl j s i n c=>match Qcd es base j with | .whole k=>.sl k s i n c | .win k i0=>.sl k s (i0 + i) n c | .no=>.unk
 | .ap j m l=>match Qcd es base j with | .whole k=>.ap k m l | _=>.unk
 | .mp j=>match Qcd es base j with | .whole k=>.mp k | .win k _=>.mp k | .no=>.unk
 | .fz s n row=>.fz s n row
 | .fn f cs=>.fn f (Q7q es base cs)
 | .ifc t x=>.ifc t (Qq9 es base x)
 | .agg cs=>.agg (Q7q es base cs)
 | .tup cs=>.tup (Q7q es base cs)
def Q7q (es:List Ent) (base:Nat):List SV→List SV
 | []=>[]
 | x :: xs=>Qq9 es base x :: Q7q es base xs
end
def Qra (es:List Ent) (base:Nat) (b:Blk):Blk:={b with row:=match b.flat with | true=>b.row | false=>fun i=>Q7q es base (b.row i)}
def Qiu (es:List Ent) (base:Nat):List (Nat×Blk)→List (Nat×Blk)
 | []=>[]
 | (j,b) :: rest=>match Qcd es base j with
   | .whole k=>(k,Qra es base b) :: Qiu es base rest
   | _=>Qiu es base rest
def Zf0 (es:List Ent) (base:Nat):Eff→Eff
 | .det p x u=>.det p (Qq9 es base x) (Qiu es base u)
 | .nd p C c0 x u=>.nd p C c0 (fun c=>Qq9 es base (x c)) (fun c=>Qiu es base (u c))
 | .alt b e1 e2=>.alt b (Zf0 es base e1) (Zf0 es base e2)
def Qj7 (k:Nat):Ent→Bool
 | .whole k'=>Nat.beq k k'
 | .win k' _ _ _=>Nat.beq k k'
def Qfq (h:Qbo):List Ent→Bool
 | []=>true
 | .whole k :: rest=>rest.all (fun e=>!Qj7 k e)&&Qfq h rest
 | .win k _ _ _ :: rest=>rest.all (fun e=>match e with | .whole k'=>!Nat.beq k k' | .win _ _ _ _=>true)&&Qfq h rest
def Qhi (h:Qbo) (base:Nat):Nat→Bool
 | 0=>true
 | n + 1=>(h (base + n)).isNone&&Qhi h base n
def Qcz (w:Bool) (spec:List SV→List Blk→Option Eff):Ctr :=
 {writes:=w,run:=fun args h base=>match Qtc 400 h false args ⟨[],[],!w⟩ with
     | some (l,c)=>bif Qfq h c.es&&Qhi h base 8&&Nat.ble c.es.length 1000 then match spec l c.bs with
       | some e=>some (Zf0 c.es base e)
       | none=>none
       else none
     | none=>none}
def Qaf (bs:List Blk):Qbo:=fun k=>bs[k]?
def Qc8 (bs:List Blk):List (Nat×Blk)→Bool
 | []=>true
 | (k,p) :: rest=>(match bs[k]? with | some b=>b.rw&&!b.dead | none=>Nat.ble 1000 k&&Nat.blt k 1008&&p.rw&&!p.dead)&&Qc8 bs rest
def Qd7 (u:List (Nat×Blk)):List Blk→Nat→Bool
 | [],_=>true
 | b :: rest,j=>(!b.rw||b.dead||Qac j u)&&Qd7 u rest (j + 1)
def Qg0 (bs:List Blk) (u:List (Nat×Blk)):Bool:=Qc8 bs u&&Qd7 u bs 0
def Qbv (P:Program) (f:FuncId) (spec:List SV→List Blk→Option Eff):Prop :=
 ∀ args bs e,spec args bs=some e→e.asks→∀ δ w vals,Qaw δ args vals→HRep δ (Qaf bs) w→(∀ k,Qaf bs k=none→δ k=none)→bs.length≤1000 →
   Calls P f vals.toArray w fun ed w'=>∃ r x u δ',ed=.returned r∧Qce e x u∧Qg0 bs u=true∧Qah δ' x r∧Upd δ (Qaf bs) w δ' u w'
def Qst (j s:Nat) (y:SV) (m:List (Nat×Cur)):List (Nat×Cur) :=
 match Qbm m j with
 | some _=>m
 | none=>match Q17 y with
   | some k=>m++[(j,.at k)]
   | none=>m++[(j,.nil s)]
mutual
def Zkl:SV→SV→List (Nat×Cur)→List (Nat×Cur)
 | .sl j s _ _ _,y,m=>bif Nat.ble 1000 j then Qst j s y m else m
 | .vp j _,y,m=>bif Nat.ble 1000 j then Qst j 0 y m else m
 | .ptr j _ _,y,m=>bif Nat.ble 1000 j then Qst j 0 y m else m
 | .ap j s _,y,m=>bif Nat.ble 1000 j then Qst j s y m else m
 | .mp j,y,m=>bif Nat.ble 1000 j then Qst j 1 y m else m
 | .agg xs,.agg ys,m=>Zh2 xs ys m
 | .tup xs,.tup ys,m=>Zh2 xs ys m
 | .fn _ xs,.fn _ ys,m=>Zh2 xs ys m
 | .ifc _ x,.ifc _ y,m=>Zkl x y m
 | _,_,m=>m
def Zh2:List SV→List SV→List (Nat×Cur)→List (Nat×Cur)
 | x :: xs,y :: ys,m=>Zh2 xs ys (Zkl x y m)
 | _,_,m=>m
end
def Zfr (h':Qbo):List (Nat×Blk)→List (Nat×Cur)→List (Nat×Cur)
 | [],m=>m
 | (k,p) :: rest,m=>match p.dead,p.flat with
   | false,false=>match (match Nat.ble 1000 k with
       | false=>some k
       | true=>match Qbm m k with
         | some (.at k')=>some k'
         | _=>none) with
     | some j=>match h' j with
       | some b=>Zfr h' rest (Zh2 (p.row 0) (b.row 0) m)
       | none=>Zfr h' rest m
     | none=>Zfr h' rest m
   | _,_=>Zfr h' rest m
def Qhm (m:List (Nat×Cur)) (h h':Qbo):List (Nat×Blk)→Prop
 | []=>True
 | (k,p) :: rest=>match p.dead with
   | true=>Qhm m h h' rest
   | false=>match Qbm m k with
     | some (.at k')=>match h' k' with
       | some b=>match rest with
         | []=>Qnw m h b p
         | _=>Qnw m h b p∧Qhm m h h' rest
       | none=>False
     | some (.nil sz)=>(p.n=0∧p.ext=0∧Qt3 (Nat.beq sz p.size) True)∧Qhm m h h' rest
     | none=>Qt3 (Nat.blt k 1000) (match h' k with
       | some b=>match rest with
         | []=>Qnw m h b p
         | _=>Qnw m h b p∧Qhm m h h' rest
       | none=>False)
def Qlr (u:List (Nat×Blk)):List (Nat×Cur)→Bool
 | []=>true
 | (j,_) :: rest=>Qac j u&&Nat.ble 1000 j&&Qlr u rest
def fin (bs:List Blk) (x:SV) (u:List (Nat×Blk)) (y:SV) (h':Qbo):Prop :=
 let m:=Zfr h' u (Zkl x y [])
 Qt3 (Qg0 bs u&&Qkt (Qaf bs) [] m&&Qlr u m) (mtS m (Qaf bs) x y∧Qhm m (Qaf bs) h' u)
def Qgb (bs:List Blk) (e:Eff) (y:SV) (h':Qbo):Prop :=
 match e with
 | .det _ x u=>fin bs x u y h'
 | .nd _ C _ x u=>∃ c:C,fin bs (x c) (u c) y h'
 | .alt b e1 e2=>sel b (Qgb bs e1 y h') (Qgb bs e2 y h')
theorem Qq4 {bs:List Blk} {y:SV} {h':Qbo}:∀ {e:Eff},Qgb bs e y h'→∃ x u,Qce e x u∧fin bs x u y h'
 | .det p x u,h=>⟨x,u,⟨rfl,rfl⟩,h⟩
 | .nd p C c0 x u,h=>by obtain ⟨c,hc⟩:=h; exact ⟨x c,u c,⟨c,rfl,rfl⟩,hc⟩
 | .alt true e1 e2,h=>Qq4 (e:=e1) h
 | .alt false e1 e2,h=>Qq4 (e:=e2) h
structure BlkSame (a b:Blk):Prop where
 size:a.size=b.size
 rw:a.rw=b.rw
 flat:a.flat=b.flat
 n:a.n=b.n
 ext:a.ext=b.ext
 dead:a.dead=b.dead
 elem:a.elem=b.elem
 whole:a.whole=b.whole
 row:∀ i,i<a.n→a.row i=b.row i
 sp:a.sp=b.sp
def Qdn:List Blk→List Blk→Prop
 | [],[]=>True
 | a :: as,b :: bs=>BlkSame a b∧Qdn as bs
 | _,_=>False
theorem BlkSame.refl (b:Blk):BlkSame b b:=⟨rfl,rfl,rfl,rfl,rfl,rfl,rfl,rfl,fun _ _=>rfl,rfl⟩
theorem BlkSame.symm {a b:Blk} (h:BlkSame a b):BlkSame b a:=⟨h.size.symm,h.rw.symm,h.flat.symm,h.n.symm,h.ext.symm,h.dead.symm,h.elem.symm,h.whole.symm,fun i hi=>(h.row i (by rw [h.n]; exact hi)).symm,h.sp.symm⟩
theorem Qqz:∀ {as bs:List Blk},Qdn as bs→Qdn bs as
 | [],[],_=>trivial
 | _ :: _,_ :: _,h=>⟨h.1.symm,Qqz h.2⟩
 | [],_ :: _,h=>h.elim
 | _ :: _,[],h=>h.elim
theorem Qku:∀ {as bs:List Blk},Qdn as bs→as.length=bs.length
 | [],[],_=>rfl
 | _ :: _,_ :: _,h=>by simp [Qku h.2]
 | [],_ :: _,h=>h.elim
 | _ :: _,[],h=>h.elim
theorem Qcl:∀ {as bs:List Blk},Qdn as bs→∀ (k:Nat),(as[k]?=none∧bs[k]?=none)∨∃ a b,as[k]?=some a∧bs[k]?=some b∧BlkSame a b
 | [],[],_,k=>.inl ⟨by simp,by simp⟩
 | a :: as,b :: bs,h,0=>.inr ⟨a,b,by simp,by simp,h.1⟩
 | a :: as,b :: bs,h,k + 1=>by simpa using Qcl h.2 k
 | [],_ :: _,h,_=>h.elim
 | _ :: _,[],h,_=>h.elim
theorem Live.same {δ:Dict} {a b:Blk} {w:World} {p:Loc} (h:BlkSame a b) (hl:Live δ a w p):Live δ b w p:=by
 refine ⟨hl.s.trans h.size,hl.n.trans h.n,fun hno=>by rw [← h.n,← h.ext]; exact hl.no hno,fun hno=>?_,fun hh=>h.rw ▸ hl.loose hh⟩
 cases hs:a.sp with
 | some m =>
   have hb:=hl.rep hno
   unfold Qcm at hb ⊢
   rw [← h.sp,hs]
   rw [hs] at hb
   simp only at hb ⊢
   rw [← h.size]
   exact hb
 | none =>
 refine Qbt (h.sp ▸ hs) ?_
 obtain ⟨c,e,fz,c1,c2,c3,c4,c5,c6,c7⟩:=Qap hs (hl.rep hno)
 refine ⟨c,e,fz,c1,fun hh=>c2 (h.rw.trans hh),fun hh i hi=>?_,fun hh=>?_,?_,fun hh=>?_,fun i hi=>?_⟩
 · rw [← h.row i (by rw [h.n]; exact hi)]; exact c3 (h.flat.trans hh) i (by rw [h.n]; exact hi)
 · rw [← h.elem]; exact c4 (by rw [h.elem]; exact hh)
 · rw [← h.ext,← h.size]; exact c5
 · rw [← h.size,← h.rw]; exact c6 (h.whole.trans hh)
 · rw [← h.row i (by rw [h.n]; exact hi),← h.size]; exact c7 i (by rw [h.n]; exact hi)
theorem Qup {as bs:List Blk} {δ:Dict} {w:World} (h:Qdn as bs) (hr:HRep δ (Qaf as) w):HRep δ (Qaf bs) w:=by
 have hl:∀ k r,Qc9 δ (Qaf bs) k r→Qc9 δ (Qaf as) k r:=fun k r ⟨b,p,h1,h2,h3⟩=>by
   rcases Qcl h k with ⟨_,g⟩ | ⟨a,b',g1,g2,g3⟩
   · unfold Qaf at h1; rw [g] at h1; cases h1
   · unfold Qaf at h1; rw [g2] at h1; cases h1
     exact ⟨a,p,g1,g3.dead.trans h2,h3⟩
 refine ⟨fun k b hk=>?_,fun k k' r b h1 h2 hk hb=>?_,fun q hq=>⟨(hr.fz q hq).1,fun k b hk hb hx=>?_⟩⟩
 · rcases Qcl h k with ⟨_,g⟩ | ⟨a,b',g1,g2,g3⟩
   · unfold Qaf at hk; rw [g] at hk; cases hk
   · unfold Qaf at hk; rw [g2] at hk; cases hk
     obtain ⟨p,d1,d2⟩:=hr.blk k a g1
     exact ⟨p,d1,fun hd=>(d2 (g3.dead.trans hd)).same g3⟩
 · rcases Qcl h k with ⟨_,g⟩ | ⟨a,b',g1,g2,g3⟩
   · unfold Qaf at hk; rw [g] at hk; cases hk
   · unfold Qaf at hk; rw [g2] at hk; cases hk
     exact hr.inj k k' r a (hl _ _ h1) (hl _ _ h2) g1 (g3.rw.trans hb)
 · rcases Qcl h k with ⟨_,g⟩ | ⟨a,b',g1,g2,g3⟩
   · unfold Qaf at hk; rw [g] at hk; cases hk
   · unfold Qaf at hk; rw [g2] at hk; cases hk
     exact (hr.fz q hq).2 k a g1 (g3.rw.trans hb) (hl _ _ hx)
theorem Quq {as bs:List Blk} (h:Qdn as bs) (k:Nat) (hk:Qaf bs k=none):Qaf as k=none:=by
 rcases Qcl h k with ⟨g,_⟩ | ⟨a,b',g1,g2,_⟩
 · exact g
 · unfold Qaf at hk; rw [g2] at hk; cases hk
theorem Qd3 {bs:List Blk}:∀ {u:List (Nat×Blk)},Qc8 bs u=true→∀ (k:Nat) (p:Blk),(k,p)∈u→(∃ b,bs[k]?=some b∧b.rw=true∧b.dead=false)∨(bs[k]?=none∧1000≤k∧k<1008∧p.rw=true∧p.dead=false)
 | [],_,k,p,h=>by cases h
 | (k',p') :: u,ho,k,p,h=>by
   simp only [Qc8,Bool.and_eq_true] at ho
   rcases List.mem_cons.1 h with e | h
   · have e1:k=k':=congrArg Prod.fst e
     have e2:p=p':=congrArg Prod.snd e
     subst e1
     subst e2
     have h1:=ho.1
     cases hb:bs[k]? with
     | some b =>
       rw [hb] at h1
       simp only [Bool.and_eq_true,Bool.not_eq_true'] at h1
       exact .inl ⟨b,rfl,h1.1,h1.2⟩
     | none =>
       rw [hb] at h1
       simp only [Bool.and_eq_true,Bool.not_eq_true'] at h1
       exact .inr ⟨rfl,Nat.le_of_ble_eq_true h1.1.1.1,Nat.le_of_ble_eq_true h1.1.1.2,h1.1.2,h1.2⟩
   · exact Qd3 ho.2 k p h
theorem Qfh {u:List (Nat×Blk)}:∀ {bs:List Blk} {j:Nat},Qd7 u bs j=true→∀ (k:Nat) (b:Blk),bs[k]?=some b→b.rw=true→b.dead=false→Qac (j + k) u=true
 | [],_,_,k,b,h,_,_=>by simp at h
 | b' :: bs,j,ho,0,b,h,h1,h2=>by
   simp at h
   subst h
   simp only [Qd7,Bool.and_eq_true,Bool.or_eq_true,Bool.not_eq_true'] at ho
   rcases ho.1 with (g | g) | g
   · rw [h1] at g; cases g
   · rw [h2] at g; cases g
   · exact g
 | b' :: bs,j,ho,k + 1,b,h,h1,h2=>by
   simp at h
   simp only [Qd7,Bool.and_eq_true] at ho
   have:=Qfh ho.2 k b h h1 h2
   rw [show j + (k + 1)=j + 1 + k by omega]
   exact this
theorem Qhl {m:List (Nat×Cur)} {h h':Qbo}:∀ {u:List (Nat×Blk)},Qhm m h h' u→∀ k p,(k,p)∈u→p.dead=false →
   (∃ k' b,Qbm m k=some (.at k')∧h' k'=some b∧BlkFits m h b p)∨(∃ sz,Qbm m k=some (.nil sz)∧p.n=0∧p.ext=0∧sz=p.size)∨(∃ b,Qbm m k=none∧k<1000∧h' k=some b∧BlkFits m h b p)
 | [],_,k,p,hm,_=>by cases hm
 | (k',p') :: rest,he,k,p,hm,hd=>by
   simp only [Qhm] at he
   cases hpd:p'.dead with
   | true =>
     rw [hpd] at he
     rcases List.mem_cons.1 hm with e | hm
     · cases e; rw [hd] at hpd; cases hpd
     · exact Qhl he k p hm hd
   | false =>
     rw [hpd] at he
     simp only at he
     have both:((∃ k'' b,Qbm m k'=some (.at k'')∧h' k''=some b∧BlkFits m h b p')∨(∃ sz,Qbm m k'=some (.nil sz)∧p'.n=0∧p'.ext=0∧sz=p'.size)∨(∃ b,Qbm m k'=none∧k'<1000∧h' k'=some b∧BlkFits m h b p'))∧Qhm m h h' rest:=by
       cases hc:Qbm m k' with
       | none =>
         rw [hc] at he
         simp only [Qca] at he
         obtain ⟨hlt,he⟩:=he
         have hlt:k'<1000:=Nat.le_of_ble_eq_true hlt
         cases hs:h' k' with
         | none=>rw [hs] at he; exact he.elim
         | some b =>
           rw [hs] at he
           cases rest with
           | nil=>exact ⟨.inr (.inr ⟨b,rfl,hlt,rfl,Qdy he⟩),trivial⟩
           | cons q rest=>exact ⟨.inr (.inr ⟨b,rfl,hlt,rfl,Qdy he.1⟩),he.2⟩
       | some cu =>
         rw [hc] at he
         cases cu with
         | «at» k'' =>
           simp only at he
           cases hs:h' k'' with
           | none=>rw [hs] at he; exact he.elim
           | some b =>
             rw [hs] at he
             cases rest with
             | nil=>exact ⟨.inl ⟨k'',b,rfl,hs,Qdy he⟩,trivial⟩
             | cons q rest=>exact ⟨.inl ⟨k'',b,rfl,hs,Qdy he.1⟩,he.2⟩
         | nil sz =>
           simp only [Qca] at he
           exact ⟨.inr (.inl ⟨sz,rfl,he.1.1,he.1.2.1,Nat.eq_of_beq_eq_true he.1.2.2.1⟩),he.2⟩
     rcases List.mem_cons.1 hm with e | hm
     · cases e; exact both.1
     · exact Qhl both.2 k p hm hd
theorem Qjh {u:List (Nat×Blk)}:∀ {m:List (Nat×Cur)},Qlr u m=true→∀ k,Qbm m k≠none→Qac k u=true∧1000≤k
 | [],_,k,h=>absurd rfl h
 | (j,c) :: m,ho,k,h=>by
   simp only [Qlr,Bool.and_eq_true] at ho
   simp only [Qbm] at h
   cases hb:Nat.beq k j with
   | true =>
     rw [Nat.eq_of_beq_eq_true hb]
     exact ⟨ho.1.1,Nat.le_of_ble_eq_true ho.1.2⟩
   | false=>rw [hb,cond_false] at h; exact Qjh ho.2 k h
theorem Qsh {m:List (Nat×Cur)} {h:Qbo} {δ' δ'':Dict} (hz:∀ q,δ'.fz q→δ''.fz q) (hat:∀ N k,Qbm m N=some (.at k)→∀ p,δ' k=some p→δ'' N=some p) (hnil:∀ N sz,Qbm m N=some (.nil sz)→δ'' N=some ⟨0,sz,0,0,true,false⟩)
   (hold:∀ k,Qbm m k=none→(h k).isSome=true→∀ p,δ' k=some p→δ'' k=some p) {b p:Blk} {q:Loc} {w':World} (hf:BlkFits m h b p) (hl:Live δ' b w' q):Live δ'' p w' q:=by
 refine ⟨hl.s.trans hf.size,hl.n.trans hf.n,fun hno=>?_,fun hno=>?_,fun hh=>hf.rw ▸ hl.loose hh⟩
 · have:=hl.no hno
   have h1:=hf.n
   have h2:=hf.ext
   omega
 · rcases hf.sp with ⟨a,c,s1,s2,s3⟩ | ⟨s1,s2⟩
   · have hb:=hl.rep hno
     unfold Qcm at hb ⊢
     rw [s1] at hb
     rw [s2]
     obtain ⟨es,clock,c1,c2⟩:=hb
     exact ⟨es,clock,c1,by rw [hf.size] at c2; exact c2.eq s3⟩
   refine Qbt s2 ?_
   have hfrow:=hf.row s2
   obtain ⟨c,e,fz,c1,c2,c3,c4,c5,c6,c7⟩:=Qap s1 (hl.rep hno)
   have hrows:∀ i,i<p.n→∀ (rs:List Value),Qaw δ' (b.row i) rs→Qaw δ'' (p.row i) rs:=fun i hi rs hrs=>by
     rcases hfrow i hi with ⟨g1,g2⟩ | ⟨_,g1⟩
     · rw [← g2]
       exact Qcv hz _ _ (c3 (hf.flat g1) i (by rw [hf.n]; exact hi)) hrs
     · exact Qj4 hz hat hnil hold _ _ _ g1 hrs
   refine ⟨c,e,fz,c1,fun h=>c2 (hf.rw.trans h),fun h i hi=>?_,fun h=>?_,?_,fun h=>?_,fun i hi=>?_⟩
   · rcases hfrow i hi with ⟨g1,g2⟩ | ⟨g1,_⟩
     · rw [← g2]; exact c3 (hf.flat h) i (by rw [hf.n]; exact hi)
     · rw [h] at g1; cases g1
   · rw [← hf.elem h]; exact c4 (by rw [hf.elem h]; exact h)
   · rw [← hf.size]
     have:=Nat.mul_le_mul_right b.size hf.ext
     omega
   · rw [← hf.size]; exact (c6 (hf.whole h)).imp id fun ⟨a,b⟩=>⟨a,fun hr=>b (hf.rw.trans hr)⟩
   · obtain ⟨d1,d2⟩:=c7 i (by rw [hf.n]; exact hi)
     obtain ⟨xs,e1,e2⟩:=Qdt (δ:=δ') (c:=c) (b.row i) (q.o + i*b.size) (fun j y hy=>d2 j y hy)
     have e3:=hrows i hi xs e1
     have hlen':=Qa6 e1
     have hlen'':=Qa6 e3
     rw [hf.size] at d1 e2
     refine ⟨by omega,fun j y hy=>?_⟩
     obtain ⟨r,f1,f2⟩:=Qb5 e3 hy
     exact ⟨r,e2 j r f1,f2⟩
section
variable {P:Program} {Γ:Qbz}
theorem Zeu {bs:List Blk} {δ δ':Dict} {h':Qbo} {w w':World} {x y:SV} {u:List (Nat×Blk)} {r:Value} (hr:HRep δ (Qaf bs) w) (ht:∀ k,Qaf bs k=none→δ k=none) (hlen:bs.length≤1000) (hf:fin bs x u y h') (hy:Qah δ' y r) (hr':HRep δ' h' w') (hle:δ.le δ')
   (hw:WRel (Qfl δ (Qaf bs)) w w') (hmine:(∀ q,Qfl δ' h' q→w.heap.size≤q∨Qfl δ (Qaf bs) q)∧∀ q,δ'.fz q→δ.fz q∨w.heap.size≤q.r∨Qfl δ (Qaf bs) q.r):Qg0 bs u=true∧∃ δ'',Qah δ'' x r∧Upd δ (Qaf bs) w δ'' u w':=by
 unfold fin at hf
 simp only [Qca,Bool.and_eq_true] at hf
 obtain ⟨⟨⟨hfo,hco⟩,hcn⟩,hmx,hfb⟩:=hf
 generalize Zfr h' u (Zkl x y [])=m at hco hcn hmx hfb
 refine ⟨hfo,?_⟩
 unfold Qg0 at hfo
 rw [Bool.and_eq_true] at hfo
 obtain ⟨hco1,hco2⟩:=Qiq hco
 have hnew:∀ k,Qbm m k≠none→Qaf bs k=none∧Qac k u=true:=fun k hk=>by
   obtain ⟨h1,h2⟩:=Qjh hcn k hk
   refine ⟨?_,h1⟩
   unfold Qaf
   rw [List.getElem?_eq_none]
   omega
 have hold0:∀ k,Qaf bs k≠none→Qbm m k=none:=fun k hk=>by
   cases hc:Qbm m k with
   | none=>rfl
   | some c=>exact absurd (hnew k (by rw [hc]; simp)).1 hk
 let δ'':Dict:=⟨fun k=>match Qbm m k with
   | some (.at k')=>δ' k'
   | some (.nil sz)=>some ⟨0,sz,0,0,true,false⟩
   | none=>δ k,δ'.fz⟩
 have dz:∀ q,δ'.fz q→δ''.fz q:=fun _ h=>h
 have dat:∀ N k,Qbm m N=some (.at k)→δ'' N=δ' k:=fun N k h=>by simp only [δ'',h]
 have dnil:∀ N sz,Qbm m N=some (.nil sz)→δ'' N=some ⟨0,sz,0,0,true,false⟩:=fun N sz h=>by simp only [δ'',h]
 have dold:∀ k,Qbm m k=none→δ'' k=δ k:=fun k h=>by simp only [δ'',h]
 have hdom:∀ k,Qaf bs k≠none→∃ p,δ k=some p:=fun k hk=>by
   cases hh:Qaf bs k with
   | none=>exact absurd hh hk
   | some b=>obtain ⟨p,h1,_⟩:=hr.blk k b hh; exact ⟨p,h1⟩
 have dsame:∀ k,Qaf bs k≠none→∀ p,δ' k=some p→δ k=some p:=fun k hk p hp=>by
   obtain ⟨q,h0⟩:=hdom k hk
   have:=hle _ _ h0; rw [hp] at this; cases this; exact h0
 have hle'':δ.le δ'':=⟨fun k p hp=>by
   have:Qaf bs k≠none:=fun e=>by rw [ht k e] at hp; cases hp
   rw [dold k (hold0 k this)]; exact hp,hle.fz⟩
 have hat:∀ N k,Qbm m N=some (.at k)→∀ p,δ' k=some p→δ'' N=some p:=fun N k h p hp=>by rw [dat N k h,hp]
 have hold:∀ k,Qbm m k=none→(Qaf bs k).isSome=true→∀ p,δ' k=some p→δ'' k=some p:=fun k h hh p hp=>by
   rw [dold k h]
   exact dsame k (by intro e; rw [e] at hh; cases hh) p hp
 -- a block that is written
 have orig:∀ k p,(k,p)∈u→∃ q,δ'' k=some q∧(p.dead=false→Live δ'' p w' q∧(q.no=false→∃ k' b,h' k'=some b∧b.dead=false∧b.rw=p.rw∧δ' k'=some q∧(Qbm m k=some (.at k')∨(Qbm m k=none∧k'=k∧Qaf bs k≠none)))):=fun k p hp=>by
   have holdOr:=Qd3 hfo.1 k p hp
   cases hd:p.dead with
   | true =>
     rcases holdOr with ⟨b,h1,_⟩ | ⟨_,_,_,_,h2⟩
     · obtain ⟨q,hq⟩:=hdom k (by unfold Qaf; rw [h1]; simp)
       exact ⟨q,hle'' _ _ hq,fun hh=>(by cases hh)⟩
     · rw [hd] at h2; cases h2
   | false =>
     rcases Qhl hfb k p hp hd with ⟨k',b,g1,g2,g3⟩ | ⟨sz,g1,g2,g3,g4⟩ | ⟨b,g1,g0,g2,g3⟩
     · obtain ⟨q,d1,d2⟩:=hr'.blk k' b g2
       exact ⟨q,(dat k k' g1).trans d1,fun _=>⟨Qsh dz hat dnil hold g3 (d2 g3.dead),fun _=>⟨k',b,g2,g3.dead,g3.rw,d1,.inl g1⟩⟩⟩
     · subst g4
       exact ⟨_,dnil k _ g1,fun _=>⟨⟨rfl,g2.symm,fun _=>⟨g2,g3⟩,fun hh=>(by cases hh),fun hh=>(by cases hh)⟩,fun hh=>(by cases hh)⟩⟩
     · have hk:Qaf bs k≠none:=by
         rcases holdOr with ⟨b,h1,_⟩ | ⟨_,h1,_⟩
         · unfold Qaf; rw [h1]; simp
         · omega
       obtain ⟨q,d1,d2⟩:=hr'.blk k b g2
       exact ⟨q,(dold k g1).trans (dsame k hk q d1),fun _=>⟨Qsh dz hat dnil hold g3 (d2 g3.dead),fun _=>⟨k,b,g2,g3.dead,g3.rw,d1,.inr ⟨g1,rfl,hk⟩⟩⟩⟩
 -- what is not written may not be
 have ro:∀ k b,Qac k u=false→Qaf bs k=some b→b.dead=false→b.rw=false:=fun k b hi hk hd=>by
   cases hb:b.rw with
   | false=>rfl
   | true =>
     have:=Qfh hfo.2 k b hk hb hd
     rw [Nat.zero_add,hi] at this; cases this
 -- a name behind
 have cls:∀ k r,Qc9 δ'' (Qb3 (Qaf bs) u) k r→(∃ k' b p,(k,p)∈u∧Qb3 (Qaf bs) u k=some p∧h' k'=some b∧b.rw=p.rw∧Qc9 δ' h' k' r∧(Qbm m k=some (.at k')∨(Qbm m k=none∧k'=k∧Qaf bs k≠none)))∨(Qac k u=false∧Qc9 δ (Qaf bs) k r):=fun k r ⟨p,q,h1,h2,h3,h4,h5⟩=>by
   cases hi:Qac k u with
   | true =>
     obtain ⟨p',g1,g2⟩:=Qe6 u (Qaf bs) hi
     rw [h1] at g2; cases g2
     obtain ⟨q',d1,d2⟩:=orig k p g1
     rw [h3] at d1; cases d1
     obtain ⟨k',b,e1,e2,e3,e4,e5⟩:=(d2 h2).2 h4
     exact .inl ⟨k',b,p,g1,h1,e1,e3,⟨b,q,e1,e2,e4,h4,h5⟩,e5⟩
   | false =>
     rw [Qat u _ hi] at h1
     have hk:Qaf bs k≠none:=by rw [h1]; simp
     rw [dold k (hold0 k hk)] at h3
     exact .inr ⟨rfl,p,q,h1,h2,h3,h4,h5⟩
 refine ⟨δ'',Qmq dz hat dnil hold x y r hmx hy,hle'',⟨fun k p hp=>?_,fun k1 k2 r p hl1 hl2 hp hrw=>?_,fun q hq=>⟨(hr'.fz q hq).1,fun k p hp hrw hl=>?_⟩⟩,fun k h0 h1=>?_,fun k q h0 h1 hno=>?_,hw,hmine.2⟩
 · cases hi:Qac k u with
   | true =>
     obtain ⟨p',g1,g2⟩:=Qe6 u (Qaf bs) hi
     rw [hp] at g2; cases g2
     obtain ⟨q,d1,d2⟩:=orig k p g1
     exact ⟨q,d1,fun hd=>(d2 hd).1⟩
   | false =>
     rw [Qat u _ hi] at hp
     obtain ⟨q,d1,d2⟩:=hr.blk k p hp
     refine ⟨q,hle'' _ _ d1,fun hd=>(d2 hd).mono hle'' fun hno=>hw.block q.r (Qcw ((d2 hd).rep hno)) ?_⟩
     rintro ⟨k0,b0,e1,e2,e3⟩
     have:=hr.inj k0 k q.r b0 e3 ⟨p,q,hp,hd,d1,hno,rfl⟩ e1 e2
     subst this
     rw [hp] at e1; cases e1
     rw [ro k0 p hi hp hd] at e2; cases e2
 · rcases cls k1 r hl1 with ⟨k1',b1,p1,e1,e2,e3,e4,e5,e6⟩ | ⟨e1,e2⟩
   · have:p1=p:=by
       have h:some p1=some p:=e2.symm.trans hp
       cases h; rfl
     subst this
     rcases cls k2 r hl2 with ⟨k2',b2,p2,f1,f2,f3,f4,f5,f6⟩ | ⟨f1,f2⟩
     · have:=hr'.inj k1' k2' r b1 e5 f5 e3 (e4.trans hrw)
       subst this
       rcases e6 with e6 | ⟨e6,rfl,e7⟩ <;> rcases f6 with f6 | ⟨f6,rfl,f7⟩
       · exact hco2 k1 k2 _ e6 f6
       · rcases hco1 k1 _ e6 with g | g
         · exact absurd g f7
         · cases g
       · rcases hco1 k2 _ f6 with g | g
         · exact absurd g e7
         · cases g
       · rfl
     · -- one that is written against one that is only read
       exfalso
       rcases hmine.1 r ⟨k1',b1,e3,e4.trans hrw,e5⟩ with g | ⟨k0,b0,g1,g2,g3⟩
       · have:=Qdq hr f2; omega
       · have:=hr.inj k0 k2 r b0 g3 f2 g1 g2
         subst this
         obtain ⟨b2,q2,h1,h2,_⟩:=f2
         rw [h1] at g1; cases g1
         rw [ro k0 _ f1 h1 h2] at g2; cases g2
   · exfalso
     rw [Qat u _ e1] at hp
     obtain ⟨b2,q2,h1,h2,_⟩:=e2
     rw [hp] at h1; cases h1
     rw [ro k1 _ e1 hp h2] at hrw; cases hrw
 · rcases cls k q.r hl with ⟨k1',b1,p1,e1,e2,e3,e4,e5,e6⟩ | ⟨e1,e2⟩
   · have:p1=p:=by
       have h:some p1=some p:=e2.symm.trans hp
       cases h; rfl
     subst this
     exact (hr'.fz q hq).2 k1' b1 e3 (e4.trans hrw) e5
   · rw [Qat u _ e1] at hp
     obtain ⟨b2,q2,h1,h2,_⟩:=e2
     rw [hp] at h1; cases h1
     rw [ro k _ e1 hp h2] at hrw; cases hrw
 · cases hi:Qac k u with
   | true=>rfl
   | false =>
     exfalso
     have hc:Qbm m k=none:=by
       cases hc:Qbm m k with
       | none=>rfl
       | some c=>rw [(hnew k (by rw [hc]; simp)).2] at hi; cases hi
     rw [dold k hc] at h1
     exact h1 h0
 · have hc:Qbm m k≠none:=fun hc=>by rw [dold k hc,h0] at h1; cases h1
   obtain ⟨_,hi⟩:=hnew k hc
   obtain ⟨p,g1,_⟩:=Qe6 u (Qaf bs) hi
   have hp:p.rw=true∧p.dead=false:=by
     rcases Qd3 hfo.1 k p g1 with ⟨b,e1,_⟩ | ⟨_,_,_,e1,e2⟩
     · have:Qaf bs k=some b:=e1
       rw [(hnew k hc).1] at this; cases this
     · exact ⟨e1,e2⟩
   obtain ⟨q',d1,d2⟩:=orig k p g1
   rw [h1] at d1; cases d1
   obtain ⟨k',b,e1,e2,e3,e4,_⟩:=(d2 hp.2).2 hno
   exact hmine.1 q.r ⟨k',b,e1,e3.trans hp.1,b,q,e1,e2,e4,hno,rfl⟩
theorem Qb0 (hm:P.follows .mixedOrders=true) (hΓ:∀ f g,Γ f=some g→g.ok P f) {f:FuncId} {fn:Func} (hf:P.funcs[f]?=some fn) {spec:List SV→List Blk→Option Eff} {Λ:List SV→List Blk→Nat→Option LoopSpec}
   (h:∀ args bs e,spec args bs=some e→e.asks→∃ bs',Qdn bs bs'∧Qcf P Γ (Λ args bs) fn args (Qaf bs') 64 (fun y h'=>Qgb bs' e y h')):Qbv P f spec:=fun args bs e hs hp δ w vals ha hr ht hlen=>by
 obtain ⟨bs',hsm,hvc⟩:=h args bs e hs hp
 have hr1:=Qup hsm hr
 have ht1:∀ k,Qaf bs' k=none→δ k=none:=fun k hk=>ht k (Quq hsm k hk)
 refine (Qqj hm hΓ hf ha hr1 ht1 hvc).mono fun ed w' ⟨r,y,δ',h',h1,h2,h3,h4,h5,h6,h7⟩=>?_
 obtain ⟨x,u,hout,hfin⟩:=Qq4 h2
 obtain ⟨g1,δ'',g2,g3⟩:=Zeu hr1 ht1 (by rw [← Qku hsm]; exact hlen) hfin h3 h4 h5 h6 h7
 refine ⟨r,x,u,δ'',h1,hout,?_,g2,?_⟩
 · -- the same names
   unfold Qg0 at g1 ⊢
   rw [Bool.and_eq_true] at g1 ⊢
   constructor
   · have:∀ u:List (Nat×Blk),Qc8 bs' u=Qc8 bs u:=by
       intro u
       induction u with
       | nil=>rfl
       | cons q u ih =>
         obtain ⟨k,p⟩:=q
         simp only [Qc8,ih]
         rcases Qcl hsm k with ⟨e1,e2⟩ | ⟨a,b,e1,e2,e3⟩
         · rw [e1,e2]
         · rw [e1,e2]; simp only [e3.rw,e3.dead]
     rw [← this]; exact g1.1
   · have:∀ (as bs:List Blk) j,Qdn as bs→Qd7 u as j=Qd7 u bs j:=by
       intro as
       induction as with
       | nil=>intro bs j h; cases bs with | nil=>rfl | cons _ _=>exact h.elim
       | cons a as ih =>
         intro bs j h
         cases bs with
         | nil=>exact h.elim
         | cons b bs=>simp only [Qd7,h.1.rw,h.1.dead,ih bs (j + 1) h.2]
     rw [this bs bs' 0 hsm]; exact g1.2
 · -- the same effect
   have hrwOf:∀ r,Qfl δ (Qaf bs') r→Qfl δ (Qaf bs) r:=fun r ⟨k,b,e1,e2,b',p,e3,e4,e5⟩=>by
     rcases Qcl hsm k with ⟨_,g⟩ | ⟨a,b0,f1,f2,f3⟩
     · unfold Qaf at e1; rw [g] at e1; cases e1
     · unfold Qaf at e1 e3; rw [f2] at e1 e3; cases e1; cases e3
       exact ⟨k,a,f1,f3.rw.trans e2,a,p,f1,f3.dead.trans e4,e5⟩
   have hget:∀ k,(Qb3 (Qaf bs) u k=none∧Qb3 (Qaf bs') u k=none)∨∃ a b,Qb3 (Qaf bs) u k=some a∧Qb3 (Qaf bs') u k=some b∧BlkSame b a:=fun k=>by
     cases hi:Qac k u with
     | true =>
       rw [Qf8 u (Qaf bs) (Qaf bs') hi]
       cases hh:Qb3 (Qaf bs') u k with
       | none=>exact .inl ⟨rfl,rfl⟩
       | some b=>exact .inr ⟨b,b,rfl,rfl,BlkSame.refl b⟩
     | false =>
       rw [Qat u _ hi,Qat u _ hi]
       rcases Qcl hsm k with ⟨e1,e2⟩ | ⟨a,b,e1,e2,e3⟩
       · exact .inl ⟨e1,e2⟩
       · exact .inr ⟨a,b,e1,e2,e3.symm⟩
   have hlies:∀ k r,Qc9 δ'' (Qb3 (Qaf bs) u) k r→Qc9 δ'' (Qb3 (Qaf bs') u) k r:=fun k r ⟨b,p,e1,e2,e3⟩=>by
     rcases hget k with ⟨g,_⟩ | ⟨a,b',f1,f2,f3⟩
     · rw [g] at e1; cases e1
     · rw [f1] at e1; cases e1
       exact ⟨b',p,f2,f3.dead.trans e2,e3⟩
   refine ⟨g3.le,⟨fun k b hk=>?_,fun k k' r b l1 l2 hk hb=>?_,fun q hq=>⟨(g3.rep.fz q hq).1,fun k b hk hb hl=>?_⟩⟩,g3.fresh,fun k p e1 e2 e3=>(g3.place k p e1 e2 e3).imp id (hrwOf _),g3.wrel.mono fun r _=>hrwOf r,fun q hq=>(g3.fzp q hq).imp id fun hx=>hx.imp id (hrwOf _)⟩
   · rcases hget k with ⟨g,_⟩ | ⟨a,b',f1,f2,f3⟩
     · rw [g] at hk; cases hk
     · rw [f1] at hk; cases hk
       obtain ⟨p,d1,d2⟩:=g3.rep.blk k b' f2
       exact ⟨p,d1,fun hd=>(d2 (f3.dead.trans hd)).same f3⟩
   · rcases hget k with ⟨g,_⟩ | ⟨a,b',f1,f2,f3⟩
     · rw [g] at hk; cases hk
     · rw [f1] at hk; cases hk
       exact g3.rep.inj k k' r b' (hlies _ _ l1) (hlies _ _ l2) f2 (f3.rw.trans hb)
   · rcases hget k with ⟨g,_⟩ | ⟨a,b',f1,f2,f3⟩
     · rw [g] at hk; cases hk
     · rw [f1] at hk; cases hk
       exact (g3.rep.fz q hq).2 k b' f2 (f3.rw.trans hb) (hlies _ _ hl)
end
def Qcb (δ:Dict) (es:List Ent):Dict:=⟨fun j=>match es[j]? with
 | some (.win k s i n)=>match δ k with
   | some p=>some ⟨p.r,s,p.o + i*s,n,p.no,p.loose⟩
   | none=>none
 | some (.whole k)=>δ k
 | none=>none,δ.fz⟩
theorem Qow (δ:Dict) (es t:List Ent):Dict.le (Qcb δ es) (Qcb δ (es++t)):=⟨fun j p h=>by
 unfold Qcb at *
 simp only at *
 cases hj:es[j]? with
 | none=>rw [hj] at h; cases h
 | some e =>
   have hlt:=(List.getElem?_eq_some_iff.1 hj).1
   rw [List.getElem?_append_left hlt,hj]
   rw [hj] at h
   exact h,fun _ hq=>hq⟩
def EntOk (h:Qbo) (δ D:Dict) (b:Blk):Ent→Prop
 | .win k s i n=>∃ b0 p,h k=some b0∧b0.dead=false∧b0.flat=true∧b0.size=s∧δ k=some p∧i + n≤p.n∧((b0.sp=none∧b=Qa1 b0 s i n)∨(b0.sp.isSome=true∧i=0∧n=b0.n∧b={b0 with rw:=false,lock:=false}))
 | .whole k=>∃ b0,h k=some b0∧b0.dead=false∧b0.rw=true∧b.size=b0.size∧b.rw=b0.rw∧b.flat=b0.flat∧b.n=b0.n∧b.ext=b0.ext∧b.dead=b0.dead∧b.elem=b0.elem∧b.whole=b0.whole∧b.sp=b0.sp ∧
     ((b0.flat=true∧b.row=b0.row)∨(b0.n=1∧(∀ rs,Qaw δ (b0.row 0) rs→Qaw D (b.row 0) rs)∧(b0.flat=true→Qan (b.row 0)=true)))
theorem EntOk.mono {h:Qbo} {δ D D':Dict} {b:Blk} (hle:D.le D'):∀ {e:Ent},EntOk h δ D b e→EntOk h δ D' b e
 | .win _ _ _ _,ho=>ho
 | .whole _,⟨b0,h1,h2,h3,h4,h5,h6,h7,h8,h9,h10,h11,hsp,h12⟩=>⟨b0,h1,h2,h3,h4,h5,h6,h7,h8,h9,h10,h11,hsp,h12.imp id fun ⟨a,c,d⟩=>⟨a,fun rs hr=>Qc6 hle _ _ (c rs hr),d⟩⟩
structure CanOk (h:Qbo) (δ:Dict) (c:Can) (pend:List Nat):Prop where
 len:c.es.length=c.bs.length
 ent:∀ (j:Nat) e b,c.es[j]?=some e→c.bs[j]?=some b→j∈pend∨EntOk h δ (Qcb δ c.es) b e
structure Grows (c c':Can) (pend:List Nat):Prop where
 es:∃ t,c'.es=c.es++t
 keep:∀ j,j∈pend→j<c.es.length→c'.bs[j]?=c.bs[j]?
theorem Grows.refl (c:Can) (pend:List Nat):Grows c c pend:=⟨⟨[],by simp⟩,fun _ _ _=>rfl⟩
theorem Grows.trans {a b c:Can} {pend:List Nat} (h:Grows a b pend) (h':Grows b c pend):Grows a c pend:=by
 obtain ⟨t,ht⟩:=h.es
 obtain ⟨t',ht'⟩:=h'.es
 refine ⟨⟨t++t',by rw [ht',ht,List.append_assoc]⟩,fun j hj hlt=>(h'.keep j hj ?_).trans (h.keep j hj hlt)⟩
 rw [ht]; simp; omega
theorem Grows.le {a b:Can} {pend:List Nat} (h:Grows a b pend) (δ:Dict):Dict.le (Qcb δ a.es) (Qcb δ b.es):=by
 obtain ⟨t,ht⟩:=h.es
 rw [ht]
 exact Qow δ _ _
theorem Qj1 {h:Qbo} {δ:Dict} {c:Can} {pend:List Nat} (hc:CanOk h δ c pend) {e:Ent} {b:Blk} (he:c.es.length∈pend∨EntOk h δ (Qcb δ (c.es++[e])) b e):CanOk h δ (c.push e b) pend:=by
 refine ⟨by simp [Can.push,hc.len],fun j e' b' h1 h2=>?_⟩
 simp only [Can.push] at h1 h2 ⊢
 by_cases hj:j<c.es.length
 · rw [List.getElem?_append_left hj] at h1
   rw [List.getElem?_append_left (by rw [← hc.len]; exact hj)] at h2
   exact (hc.ent j e' b' h1 h2).imp id fun ho=>ho.mono (Qow δ _ _)
 · have:j=c.es.length:=by
     have:=(List.getElem?_eq_some_iff.1 h1).1
     simp at this
     omega
   subst this
   rw [List.getElem?_append_right (Nat.le_refl _)] at h1
   rw [hc.len,List.getElem?_append_right (Nat.le_refl _)] at h2
   simp at h1 h2
   subst h1 h2
   exact he
theorem Qf4 (c:Can) (e:Ent) (b:Blk) (pend:List Nat) (hlen:c.es.length=c.bs.length):Grows c (c.push e b) pend:=⟨⟨[e],rfl⟩,fun j _ hlt=>by simp only [Can.push]; rw [List.getElem?_append_left (by omega)]⟩
theorem Qf9 {k:Nat}:∀ {es:List Ent} {j i:Nat},Qm4 k es j=some i→j≤i∧es[i - j]?=some (.whole k)
 | [],j,i,h=>by cases h
 | .whole k' :: rest,j,i,h=>by
   simp only [Qm4] at h
   cases hb:Nat.beq k k' with
   | true =>
     rw [hb,cond_true] at h
     cases h
     rw [Nat.eq_of_beq_eq_true hb]
     exact ⟨Nat.le_refl _,by simp⟩
   | false =>
     rw [hb,cond_false] at h
     obtain ⟨h1,h2⟩:=Qf9 h
     refine ⟨by omega,?_⟩
     rw [show i - j=(i - (j + 1)) + 1 by omega,List.getElem?_cons_succ]
     exact h2
 | .win _ _ _ _ :: rest,j,i,h=>by
   simp only [Qm4] at h
   obtain ⟨h1,h2⟩:=Qf9 h
   refine ⟨by omega,?_⟩
   rw [show i - j=(i - (j + 1)) + 1 by omega,List.getElem?_cons_succ]
   exact h2
section
variable {h:Qbo} {δ:Dict} {w:World}
structure CanRes (h:Qbo) (δ:Dict) (pend:List Nat) (c c':Can):Prop where
 grows:Grows c c' pend
 ok:CanOk h δ c' pend
theorem Qqv (hr:HRep δ h w):∀ (d:Nat),
   (∀ (deep:Bool) (x:SV) (c:Can) (y:SV) (c':Can) (pend:List Nat),Qqw d h deep x c=some (y,c')→CanOk h δ c pend→(∃ r,Qah δ x r)→CanRes h δ pend c c'∧(∀ r,Qah δ x r→Qah (Qcb δ c'.es) y r)∧(Qbr x=true→y=x)) ∧
   (∀ (deep:Bool) (xs:List SV) (c:Can) (ys:List SV) (c':Can) (pend:List Nat),Qtc d h deep xs c=some (ys,c')→CanOk h δ c pend→(∃ rs,Qaw δ xs rs)→CanRes h δ pend c c'∧(∀ rs,Qaw δ xs rs→Qaw (Qcb δ c'.es) ys rs)∧(Qan xs=true→ys=xs))
 | 0=>⟨fun deep x c y c' pend hc=>by simp [Qqw] at hc,fun deep xs c ys c' pend hc=>by simp [Qtc] at hc⟩
 | d + 1=>by
   obtain ⟨ihS,ihL⟩:=Qqv hr d
   constructor
   · intro deep x c y c' pend hc hok hex
     cases x with
     | v z =>
       simp only [Qqw,Option.some.injEq,Prod.mk.injEq] at hc
       obtain ⟨rfl,rfl⟩:=hc
       exact ⟨⟨Grows.refl _ _,hok⟩,fun r hr'=>by simpa only [Qah] using hr',fun _=>rfl⟩
     | unk =>
       simp only [Qqw,Option.some.injEq,Prod.mk.injEq] at hc
       obtain ⟨rfl,rfl⟩:=hc
       exact ⟨⟨Grows.refl _ _,hok⟩,fun r hr'=>by simp only [Qah],fun _=>rfl⟩
     | agg cs =>
       simp only [Qqw] at hc
       cases hl:Qtc d h deep cs c with
       | none=>rw [hl] at hc; cases hc
       | some lc =>
         obtain ⟨l,c1⟩:=lc
         rw [hl] at hc
         simp only [Option.some.injEq,Prod.mk.injEq] at hc
         obtain ⟨rfl,rfl⟩:=hc
         obtain ⟨r,hr'⟩:=hex
         simp only [Qah] at hr'
         obtain ⟨xs,_,hxs⟩:=hr'
         obtain ⟨h1,h2,h3⟩:=ihL deep cs c l c1 pend hl hok ⟨xs,hxs⟩
         refine ⟨h1,fun r hr'=>?_,fun hn=>by rw [h3 (by simpa [Qbr] using hn)]⟩
         simp only [Qah] at hr' ⊢
         obtain ⟨xs,e1,e2⟩:=hr'
         exact ⟨xs,e1,h2 xs e2⟩
     | sl k s i n cap =>
       simp only [Qqw] at hc
       cases hk:h k with
       | none=>rw [hk] at hc; cases hc
       | some b =>
         rw [hk] at hc
         simp only at hc
         cases hb:(b.off||!b.flat||!Nat.beq b.size s) with
         | true=>rw [hb] at hc; cases hc
         | false =>
           rw [hb,cond_false] at hc
           simp only [Bool.or_eq_false_iff,Bool.not_eq_false'] at hb
           obtain ⟨⟨b1,b2⟩,b3⟩:=hb
           obtain ⟨b1,hsp⟩:=Blk.off_false b1
           have hbs:=Nat.eq_of_beq_eq_true b3
           have hnn:∀ {q:Prop},Qbr (SV.sl k s i n cap)=true→q:=fun hn=>by simp [Qbr] at hn
           cases hdr:(deep&&b.rw) with
           | true =>
             rw [hdr,cond_true] at hc
             rw [Bool.and_eq_true] at hdr
             cases hix:Qm4 k c.es 0 with
             | some j =>
               rw [hix] at hc
               simp only [Option.some.injEq,Prod.mk.injEq] at hc
               obtain ⟨rfl,rfl⟩:=hc
               have hj:=(Qf9 hix).2
               rw [Nat.sub_zero] at hj
               refine ⟨⟨Grows.refl _ _,hok⟩,fun r hr'=>?_,hnn⟩
               simp only [Qah] at hr' ⊢
               obtain ⟨p,d1,d2⟩:=hr'
               exact ⟨p,by unfold Qcb; simp only; rw [hj]; exact d1,d2⟩
             | none =>
               rw [hix] at hc
               simp only [Option.some.injEq,Prod.mk.injEq] at hc
               obtain ⟨rfl,rfl⟩:=hc
               refine ⟨⟨Qf4 _ _ _ _ hok.len,Qj1 hok (.inr ⟨b,hk,b1,hdr.2,rfl,rfl,rfl,rfl,rfl,rfl,rfl,rfl,rfl,.inl ⟨b2,rfl⟩⟩)⟩,fun r hr'=>?_,hnn⟩
               simp only [Qah] at hr' ⊢
               obtain ⟨p,d1,d2⟩:=hr'
               exact ⟨p,by unfold Qcb Can.push; simp [d1],d2⟩
           | false =>
             rw [hdr,cond_false] at hc
             simp only [Option.some.injEq,Prod.mk.injEq] at hc
             obtain ⟨rfl,rfl⟩:=hc
             obtain ⟨r0,hr0⟩:=hex
             simp only [Qah] at hr0
             obtain ⟨p0,d1,d2,d3,_⟩:=hr0
             refine ⟨⟨Qf4 _ _ _ _ hok.len,Qj1 hok (.inr ⟨b,p0,hk,b1,b2,hbs,d1,d3,.inl ⟨hsp,rfl⟩⟩)⟩,fun r hr'=>?_,hnn⟩
             simp only [Qah] at hr' ⊢
             obtain ⟨p,e1,e2,e3,e4⟩:=hr'
             refine ⟨⟨p.r,s,p.o + i*s,n,p.no,p.loose⟩,by unfold Qcb Can.push; simp [e1],rfl,by simp,e4.imp (fun ⟨g1,c',gc,g2⟩=>⟨g1,c',gc,by rw [g2]; simp⟩) id⟩
     | vp k jj =>
       have hnn:∀ {q:Prop},Qbr (SV.vp k jj)=true→q:=fun hn=>by simp [Qbr] at hn
       cases jj with
       | succ _=>simp [Qqw] at hc
       | zero =>
       simp only [Qqw] at hc
       cases hro:c.ro with
       | true =>
         rw [hro,cond_true] at hc
         cases hk:h k with
         | none=>rw [hk] at hc; cases hc
         | some b =>
           rw [hk] at hc
           simp only at hc
           cases hb:(b.off||!b.flat||!Nat.beq b.n 1) with
           | true=>rw [hb] at hc; cases hc
           | false =>
             rw [hb,cond_false] at hc
             simp only [Option.some.injEq,Prod.mk.injEq] at hc
             obtain ⟨rfl,rfl⟩:=hc
             simp only [Bool.or_eq_false_iff,Bool.not_eq_false'] at hb
             obtain ⟨⟨b1,b2⟩,b3⟩:=hb
             obtain ⟨b1,hsp⟩:=Blk.off_false b1
             obtain ⟨r0,hr0⟩:=hex
             simp only [Qah] at hr0
             obtain ⟨p0,d1,d2,_⟩:=hr0
             refine ⟨⟨Qf4 _ _ _ _ hok.len,Qj1 hok (.inr ⟨b,p0,hk,b1,b2,rfl,d1,by omega,.inl ⟨hsp,rfl⟩⟩)⟩,fun r hr'=>?_,hnn⟩
             simp only [Qah] at hr' ⊢
             obtain ⟨p,e1,e2,e3⟩:=hr'
             refine ⟨⟨p.r,b.size,p.o + 0*b.size,1,p.no,p.loose⟩,by unfold Qcb Can.push; simp [e1],Nat.lt_succ_self 0,by rw [e3]; simp⟩
       | false =>
       rw [hro,cond_false] at hc
       cases hix:Qm4 k c.es 0 with
       | some j =>
         rw [hix] at hc
         simp only [Option.some.injEq,Prod.mk.injEq] at hc
         obtain ⟨rfl,rfl⟩:=hc
         have hj:=(Qf9 hix).2
         rw [Nat.sub_zero] at hj
         refine ⟨⟨Grows.refl _ _,hok⟩,fun r hr'=>?_,hnn⟩
         simp only [Qah] at hr' ⊢
         obtain ⟨p,d1,d2⟩:=hr'
         exact ⟨p,by unfold Qcb; simp only; rw [hj]; exact d1,d2⟩
       | none =>
         rw [hix] at hc
         simp only at hc
         cases hk:h k with
         | none=>rw [hk] at hc; cases hc
         | some b =>
           rw [hk] at hc
           simp only at hc
           cases hb:(b.off||!b.rw||!Nat.beq b.n 1) with
           | true=>rw [hb] at hc; cases hc
           | false =>
             rw [hb,cond_false] at hc
             simp only [Bool.or_eq_false_iff,Bool.not_eq_false'] at hb
             obtain ⟨⟨b1,b2⟩,b3⟩:=hb
             obtain ⟨b1,hsp⟩:=Blk.off_false b1
             have hbn:=Nat.eq_of_beq_eq_true b3
             cases hl:Qtc d h true (b.row 0) (c.push (.whole k) {b with lock:=false}) with
             | none=>rw [hl] at hc; cases hc
             | some lc =>
               obtain ⟨l,c1⟩:=lc
               rw [hl] at hc
               simp only [Option.some.injEq,Prod.mk.injEq] at hc
               obtain ⟨rfl,rfl⟩:=hc
               -- the cells that are there
               obtain ⟨p,d1,d2⟩:=hr.blk k b hk
               have hlv:=d2 b1
               have hno:=hlv.notNo (by have:=hlv.n; omega)
               obtain ⟨cc,e,fz,c1',c2,c3,c4,c5,c6,c7⟩:=Qap hsp (hlv.rep hno)
               obtain ⟨xs,x1,_⟩:=Qdt (δ:=δ) (c:=cc) (b.row 0) (p.o + 0*b.size) (fun j x hx=>(c7 0 (by omega)).2 j x hx)
               have hok1:CanOk h δ (c.push (.whole k) {b with lock:=false}) (c.es.length :: pend):=Qj1 ⟨hok.len,fun j e b h1 h2=>(hok.ent j e b h1 h2).imp (List.mem_cons_of_mem _) id⟩ (.inl List.mem_cons_self)
               obtain ⟨g1,g2,g3⟩:=ihL true (b.row 0) _ l c1 (c.es.length :: pend) hl hok1 ⟨xs,x1⟩
               obtain ⟨t,ht⟩:=g1.grows.es
               simp only [Can.push] at ht
               have hmine:c1.bs[c.es.length]?=some {b with lock:=false}:=by
                 rw [g1.grows.keep c.es.length List.mem_cons_self (by simp [Can.push])]
                 simp [Can.push,hok.len]
               have hes:c1.es[c.es.length]?=some (.whole k):=by rw [ht]; simp
               have Qew:(c1.setRow c.es.length l).bs=c1.bs.set c.es.length {b with lock:=false,row:=fun _=>l}:=by
                 simp only [Can.setRow,hmine]
               have hlt:c.es.length<c1.bs.length:=(List.getElem?_eq_some_iff.1 hmine).1
               refine ⟨⟨⟨⟨Ent.whole k :: t,?_⟩,fun j hj hjl=>?_⟩,⟨?_,fun j e b' h1 h2=>?_⟩⟩,fun r hr'=>?_,hnn⟩
               · show c1.es=_
                 rw [ht]; simp
               · rw [Qew,List.getElem?_set_ne (by omega),g1.grows.keep j (List.mem_cons_of_mem _ hj) (by simp [Can.push]; omega)]
                 simp only [Can.push]
                 rw [List.getElem?_append_left (by rw [← hok.len]; exact hjl)]
               · show c1.es.length=_
                 rw [Qew,List.length_set]; exact g1.ok.len
               · have h1:c1.es[j]?=some e:=h1
                 rw [Qew] at h2
                 by_cases hj:j=c.es.length
                 · subst hj
                   rw [hes] at h1
                   cases h1
                   rw [List.getElem?_set_self hlt] at h2
                   cases h2
                   right
                   exact ⟨b,hk,b1,b2,rfl,rfl,rfl,rfl,rfl,rfl,rfl,rfl,rfl,.inr ⟨hbn,g2,fun hf=>by rw [g3 (c3 hf 0 (by omega))]; exact c3 hf 0 (by omega)⟩⟩
                 · rw [List.getElem?_set_ne (Ne.symm hj)] at h2
                   rcases g1.ok.ent j e b' h1 h2 with hp | hp
                   · rcases List.mem_cons.1 hp with hp | hp
                     · exact absurd hp hj
                     · exact .inl hp
                   · exact .inr hp
               · simp only [Qah] at hr' ⊢
                 obtain ⟨p',q1,q2⟩:=hr'
                 exact ⟨p',by show Qcb δ c1.es _=_; unfold Qcb; simp only; rw [hes]; exact q1,q2⟩
     | ptr k i j=>simp [Qqw] at hc
     | ap k m l=>simp [Qqw] at hc
     | fn f cs =>
       simp only [Qqw] at hc
       cases hl:Qtc d h true cs c with
       | none=>rw [hl] at hc; cases hc
       | some lc =>
         obtain ⟨l,c1⟩:=lc
         rw [hl] at hc
         simp only [Option.some.injEq,Prod.mk.injEq] at hc
         obtain ⟨rfl,rfl⟩:=hc
         obtain ⟨r,hr'⟩:=hex
         simp only [Qah] at hr'
         obtain ⟨xs,_,hxs⟩:=hr'
         obtain ⟨h1,h2,h3⟩:=ihL true cs c l c1 pend hl hok ⟨xs,hxs⟩
         refine ⟨h1,fun r hr'=>?_,fun hn=>by rw [h3 (by simpa [Qbr] using hn)]⟩
         simp only [Qah] at hr' ⊢
         obtain ⟨xs,e1,e2⟩:=hr'
         exact ⟨xs,e1,h2 xs e2⟩
     | fz s n row =>
       simp only [Qqw,Option.some.injEq,Prod.mk.injEq] at hc
       obtain ⟨rfl,rfl⟩:=hc
       exact ⟨⟨Grows.refl _ _,hok⟩,fun r hr'=>by simp only [Qah] at hr' ⊢; exact hr',fun _=>rfl⟩
     | mp k =>
       have hnn:∀ {q:Prop},Qbr (SV.mp k)=true→q:=fun hn=>by simp [Qbr] at hn
       simp only [Qqw] at hc
       cases hix:Qm4 k c.es 0 with
       | some j =>
         rw [hix] at hc
         simp only [Option.some.injEq,Prod.mk.injEq] at hc
         obtain ⟨rfl,rfl⟩:=hc
         have hj:=(Qf9 hix).2
         rw [Nat.sub_zero] at hj
         refine ⟨⟨Grows.refl _ _,hok⟩,fun r hr'=>?_,hnn⟩
         simp only [Qah] at hr' ⊢
         obtain ⟨p,d1,d2⟩:=hr'
         exact ⟨p,by unfold Qcb; simp only; rw [hj]; exact d1,d2⟩
       | none =>
         rw [hix] at hc
         simp only at hc
         cases hk:h k with
         | none=>rw [hk] at hc; cases hc
         | some b =>
           rw [hk] at hc
           simp only at hc
           cases hb:(b.dead||b.sp.isNone||!b.flat) with
           | true=>rw [hb] at hc; cases hc
           | false =>
             rw [hb,cond_false] at hc
             simp only [Bool.or_eq_false_iff,Bool.not_eq_false'] at hb
             obtain ⟨⟨b1,b2⟩,b3⟩:=hb
             have hsp:b.sp.isSome=true:=by cases hs:b.sp with | none=>rw [hs] at b2; cases b2 | some m=>rfl
             obtain ⟨r0,hr0⟩:=hex
             simp only [Qah] at hr0
             obtain ⟨p0,d1,d2,_⟩:=hr0
             obtain ⟨p1,e1,e2⟩:=hr.blk k b hk
             rw [d1] at e1; cases e1
             have hpn:=(e2 b1).n
             cases hrw:(c.ro||!b.rw) with
             | true =>
               rw [hrw,cond_true] at hc
               simp only [Option.some.injEq,Prod.mk.injEq] at hc
               obtain ⟨rfl,rfl⟩:=hc
               refine ⟨⟨Qf4 _ _ _ _ hok.len,Qj1 hok (.inr ⟨b,p0,hk,b1,b3,rfl,d1,by omega,.inr ⟨hsp,rfl,rfl,rfl⟩⟩)⟩,fun r hr'=>?_,hnn⟩
               simp only [Qah] at hr' ⊢
               obtain ⟨p,f1,f2,f3⟩:=hr'
               exact ⟨⟨p.r,b.size,p.o + 0*b.size,b.n,p.no,p.loose⟩,by unfold Qcb Can.push; simp [f1],f2,f3⟩
             | false =>
               rw [hrw,cond_false] at hc
               simp only [Option.some.injEq,Prod.mk.injEq] at hc
               obtain ⟨rfl,rfl⟩:=hc
               rw [Bool.or_eq_false_iff] at hrw
               refine ⟨⟨Qf4 _ _ _ _ hok.len,Qj1 hok (.inr ⟨b,hk,b1,by simpa using hrw.2,rfl,rfl,rfl,rfl,rfl,rfl,rfl,rfl,rfl,.inl ⟨b3,rfl⟩⟩)⟩,fun r hr'=>?_,hnn⟩
               simp only [Qah] at hr' ⊢
               obtain ⟨p,f1,f2⟩:=hr'
               exact ⟨p,by unfold Qcb Can.push; simp [f1],f2⟩
     | tup cs=>simp [Qqw] at hc
     | ifc t y0 =>
       simp only [Qqw] at hc
       cases hy:Qqw d h deep y0 c with
       | none=>rw [hy] at hc; cases hc
       | some p =>
         obtain ⟨y1,c1⟩:=p
         rw [hy] at hc
         simp only [Option.some.injEq,Prod.mk.injEq] at hc
         obtain ⟨rfl,rfl⟩:=hc
         obtain ⟨r,hr'⟩:=hex
         simp only [Qah] at hr'
         obtain ⟨v,_,hv⟩:=hr'
         obtain ⟨a1,a2,a3⟩:=ihS deep y0 c y1 c1 pend hy hok ⟨v,hv⟩
         refine ⟨a1,fun r hr'=>?_,fun hn=>?_⟩
         · simp only [Qah] at hr' ⊢
           obtain ⟨v,e,hv⟩:=hr'
           exact ⟨v,e,a2 v hv⟩
         · simp only [Qbr] at hn
           rw [a3 hn]
   · intro deep xs c ys c' pend hc hok hex
     cases xs with
     | nil =>
       simp only [Qtc,Option.some.injEq,Prod.mk.injEq] at hc
       obtain ⟨rfl,rfl⟩:=hc
       exact ⟨⟨Grows.refl _ _,hok⟩,fun rs hr'=>by cases rs <;> simp only [Qaw] at *,fun _=>rfl⟩
     | cons x rest =>
       simp only [Qtc] at hc
       cases hx:Qqw d h deep x c with
       | none=>rw [hx] at hc; cases hc
       | some yc =>
         obtain ⟨y,c1⟩:=yc
         rw [hx] at hc
         simp only at hc
         cases hl:Qtc d h deep rest c1 with
         | none=>rw [hl] at hc; cases hc
         | some lc =>
           obtain ⟨l,c2⟩:=lc
           rw [hl] at hc
           simp only [Option.some.injEq,Prod.mk.injEq] at hc
           obtain ⟨rfl,rfl⟩:=hc
           obtain ⟨rs,hrs⟩:=hex
           cases rs with
           | nil=>simp only [Qaw] at hrs
           | cons r rs =>
             simp only [Qaw] at hrs
             obtain ⟨a1,a2,a3⟩:=ihS deep x c y c1 pend hx hok ⟨r,hrs.1⟩
             obtain ⟨e1,e2,e3⟩:=ihL deep rest c1 l c2 pend hl a1.ok ⟨rs,hrs.2⟩
             refine ⟨⟨a1.grows.trans e1.grows,e1.ok⟩,fun rs' hrs'=>?_,fun hn=>?_⟩
             · cases rs' with
               | nil=>simp only [Qaw] at hrs'
               | cons r' rs' =>
                 simp only [Qaw] at hrs' ⊢
                 exact ⟨Qb4 (e1.grows.le δ) _ _ (a2 r' hrs'.1),e2 rs' hrs'.2⟩
             · simp only [Qan,Bool.and_eq_true] at hn
               rw [a3 hn.1,e3 hn.2]
end
end Go.SE
end
