/-
 What the proof uses, part 17.
-/
import Derived.Deep.Quiet
import Derived.Sort.Grow
import Derived.Test.YthkihlpeaidlnaaGreatZr16
set_option maxRecDepth 100000
set_option linter.unusedSimpArgs false
set_option linter.unusedVariables false

section
namespace Go.SE
open Go.RowKit
section
variable {P:Program} {ops:Array Oper} {Q:Exit→Act→World→Prop} {ro:Option Nat} {n:Nat}
theorem Q7o {m:Nat} {dst:Nat→Nat} {vals:Nat→Value} {a0:Act} {C:World→Prop} (hinj:∀ i j,i<m→j<m→dst i=dst j→i=j) (hlt:∀ i,i<m→dst i<a0.tmps.size) (hm:m≤ops.size)
   (hback:∀ (j:Nat) o,ops[j]?=some o→∀ e∈o.after,Region.binds .any e=true→e.on<j)
   (hlate:∀ i,m≤i→∀ o,ops[i]?=some o→∀ j,j<m→((Qa7 ops.toList []).getD i 0).testBit j=true)
   (hrun:∀ i,i<m→∀ o,ops[i]?=some o→o.dst=some (dst i)∧o.guard=none∧(∀ c,o.op≠.defer c)∧∀ a:Act,a.tmps.size=a0.tmps.size→(∀ e,e∈o.after→e.on<m→Region.binds .any e=true→a.tmps[dst e.on]?=some (vals e.on))→(∀ t,(∀ j,j<m→dst j≠t)→a.tmps[t]?=a0.tmps[t]?)→∀ w,C w→Oper.quietUpon P C w (vals i) ((execOp a.eval o).run P w))
   (hrest:∀ w,C w→∀ listed,listed.size=ops.size→Qgw ops listed→(∀ i,i<m→listed.getD i false=true)→(∀ i,m≤i→listed.getD i false=false)→wpAnyIn (WF ro) n P .any ops Q (ops.size - m) listed {tmps:=Qk6 dst vals a0.tmps m,defers:=a0.defers} w) :
   ∀ (fuel:Nat) (listed:Array Bool) (a:Act) (w:World),C w→listed.size=ops.size→Qgw ops listed→(∀ i,m≤i→listed.getD i false=false)→DetAt m dst vals a0 listed a→fuel=left listed m + (ops.size - m)→wpAnyIn (WF ro) n P .any ops Q fuel listed a w:=by
 intro fuel
 induction fuel with
 | zero =>
   intro listed a w hCw hs hc hn hd hf
   have h0:=Qhc m (show left listed m=0 by omega)
   have e:=hd.full hinj hlt h0
   subst e
   have:=hrest w hCw listed hs hc h0 hn
   rw [show ops.size - m=0 by omega] at this
   exact this
 | succ fuel ih =>
   intro listed a w hCw hs hc hn hd hf
   by_cases hz:left listed m=0
   · have h0:=Qhc m hz
     have e:=hd.full hinj hlt h0
     subst e
     have:=hrest w hCw listed hs hc h0 hn
     rw [show ops.size - m=fuel + 1 by omega] at this
     exact this
   · -- what comes up is one of the first m
     have early:∀ i,i∈Region.ready .any ops listed→i<m:=fun i hi=>by
       rcases Nat.lt_or_ge i m with h | h
       · exact h
       · exfalso
         obtain ⟨_,o,ho,hall⟩:=mem_ready.1 hi
         refine hz ?_
         have all:∀ j,j<m→listed.getD j false=true:=fun j hj=>Qgp (fun j o ho e he=>hback j o (by simpa using ho) e (by simpa using he)) hc i o ho hall (hlate i h o ho j hj)
         have:∀ k,k≤m→left listed k=0:=by
           intro k
           induction k with
           | zero=>intro _; rfl
           | succ k ihk=>intro hk; simp only [left]; rw [ihk (by omega),if_pos (all k (by omega))]
         exact this m (Nat.le_refl _)
     refine ⟨fun hnil=>?_,fun i hi=>?_⟩
     · exfalso
       -- the first that is not listed may come up
       have ex:∃ i,i<m∧listed.getD i false=false∧∀ j,j<i→listed.getD j false=true:=by
         have:∀ k,left listed k≠0→∃ i,i<k∧listed.getD i false=false∧∀ j,j<i→listed.getD j false=true:=by
           intro k
           induction k with
           | zero=>intro h; exact absurd rfl h
           | succ k ihk =>
             intro h
             by_cases h':left listed k=0
             · refine ⟨k,Nat.lt_succ_self k,?_,Qhc k h'⟩
               cases hl:listed.getD k false with
               | false=>rfl
               | true=>simp only [left] at h; rw [h',hl,if_pos rfl] at h; exact absurd rfl h
             · obtain ⟨i,h1,h2⟩:=ihk h'
               exact ⟨i,by omega,h2⟩
         exact this m hz
       obtain ⟨i,h1,h2,h3⟩:=ex
       have hsz:i<ops.size:=by omega
       have:i∈Region.ready .any ops listed:=mem_ready.2 ⟨by
         have hl:i<listed.size:=by omega
         rw [Array.getD_eq_getD_getElem?,Array.getElem?_eq_getElem hl] at h2 ⊢
         simpa using h2,ops[i],by simp [hsz],fun e he hb=>h3 e.on (hback i _ (by simp [hsz]) e he hb)⟩
       rw [hnil] at this
       cases this
     · have him:=early i hi
       obtain ⟨hun,o,ho,hall⟩:=mem_ready.1 hi
       obtain ⟨hdst,hg,hdf,hr⟩:=hrun i him o ho
       have hsl:i<listed.size:=by
         have:=(Array.getElem?_eq_some_iff.1 ho).1
         omega
       have hui:listed.getD i false=false:=by
         rw [Array.getD_eq_getD_getElem?,Array.getElem?_eq_getElem hsl] at hun ⊢
         simpa using hun
       have hrr:=hr a hd.size (fun e he hem hb=>hd.hit e.on hem (hall e he hb)) (fun t ht=>hd.miss t fun j hj _=>ht j hj) w hCw
       unfold wpOpIn
       rw [ho]
       simp only
       rw [if_pos (by simp [Region.wanted,hg])]
       refine ⟨fun _ _=>by cases ro <;> trivial,?_⟩
       rw [show o.semAt (WF ro).round a.eval=execOp a.eval o from Oper.semAt_eq _ _ _ hdf]
       have key:∀ w',C w'→wpAnyIn (WF ro) n P .any ops Q fuel (listed.setIfInBounds i true) (a.put o.dst (vals i)) w':=fun w' hw'=>by
         refine ih (listed.setIfInBounds i true) _ w' hw' (by simp [hs]) (Qkd hc hi) (fun j hj=>by rw [getD_set_ne false (by omega)]; exact hn j hj) ⟨fun j hj hl=>?_,fun t ht=>?_,by rw [Qhv]; exact hd.df,by rw [Qpo]; exact hd.size⟩ ?_
         · rw [hdst]
           simp only [Act.put]
           by_cases e:j=i
           · subst e
             have:=hlt j hj
             rw [← hd.size] at this
             simp [this]
           · rw [getD_set_ne false (fun h=>e h.symm)] at hl
             rw [Array.getElem?_setIfInBounds_ne (fun h=>e (hinj i j him hj h).symm)]
             exact hd.hit j hj hl
         · rw [hdst]
           simp only [Act.put]
           have hne:dst i≠t:=ht i him (Qgm hsl)
           rw [Array.getElem?_setIfInBounds_ne hne]
           refine hd.miss t fun j hj hl=>?_
           by_cases e:j=i
           · rw [e]; exact hne
           · exact ht j hj (by rw [getD_set_ne false (fun h=>e h.symm)]; exact hl)
         · rw [Qwd hui hsl,if_pos him]
           omega
       generalize (execOp a.eval o).run P w=r at hrr ⊢
       cases r with
       | ok nx w' =>
         cases nx <;> simp only [Oper.quietUpon] at hrr
         case value u =>
           obtain ⟨e1,e2⟩:=hrr
           rw [e1,e2]
           exact key w hCw
         case skip =>
           obtain ⟨e1,e2⟩:=hrr
           rw [e1,Oper.uponIn_skip,← e2]
           exact key w hCw
         case enter f args =>
           obtain ⟨e1,hcl⟩:=hrr
           rw [e1,Oper.uponIn_enter]
           refine ⟨fun hh=>(by cases ro <;> cases hh),(Qjj ro (n - 1) hcl).mono fun e w'' ⟨he,hw''⟩=>?_⟩
           rw [he]
           exact key w'' hw''
       | halt x w'=>simp only [Oper.quietUpon] at hrr
theorem Qip {id m:Nat} {T:Array Value} {dst:Nat→Nat} {vals:Nat→Value} {a:Act} {w:World} {C:World→Prop} (hmx:P.follows .mixedOrders=true) (hinj:∀ i j,i<m→j<m→dst i=dst j→i=j) (hlt:∀ i,i<m→dst i<a.tmps.size) (hm:m≤ops.size)
   (hback:∀ (j:Nat) o,ops[j]?=some o→∀ e∈o.after,Region.binds .any e=true→e.on<j)
   (hlate:∀ i,m≤i→∀ o,ops[i]?=some o→∀ j,j<m→((Qa7 ops.toList []).getD i 0).testBit j=true)
   (hrun:∀ i,i<m→∀ o,ops[i]?=some o→o.dst=some (dst i)∧o.guard=none∧(∀ c,o.op≠.defer c)∧∀ b:Act,b.tmps.size=a.tmps.size→(∀ e,e∈o.after→e.on<m→Region.binds .any e=true→b.tmps[dst e.on]?=some (vals e.on))→(∀ t,(∀ j,j<m→dst j≠t)→b.tmps[t]?=a.tmps[t]?)→∀ w,C w→Oper.quietUpon P C w (vals i) ((execOp b.eval o).run P w))
   (hT:Qk6 dst vals a.tmps m=T) (hC0:C w.drew) (hrest:∀ w,C w→∀ listed,listed.size=ops.size→Qgw ops listed→(∀ i,i<m→listed.getD i false=true)→(∀ i,m≤i→listed.getD i false=false)→wpAnyIn (WF ro) n P .any ops Q (ops.size - m) listed {tmps:=T,defers:=a.defers} w) :
   (Code.region id ops true).wpIn (WF ro) n P Q a w:=by
 subst hT
 refine wpIn_region_any hmx ?_
 have hrep:∀ i,(Array.replicate ops.size false).getD i false=false:=fun i=>by
   simp only [Array.getD_eq_getD_getElem?,Array.getElem?_replicate]
   split <;> rfl
 have hl:∀ k,left (Array.replicate ops.size false) k=k:=by
   intro k
   induction k with
   | zero=>rfl
   | succ k ih=>simp only [left]; rw [ih,hrep k]; rfl
 refine Q7o hinj hlt hm hback hlate hrun hrest ops.size _ a w.drew hC0 (by simp) (fun j o _ h=>absurd (by rw [hrep] at h; exact h:false=true) (by simp)) (fun i _=>hrep i) ⟨fun i _ h=>absurd (by rw [hrep] at h; exact h:false=true) (by simp),fun _ _=>rfl,rfl,rfl⟩ ?_
 rw [hl]; omega
end
end Go.SE
end
section
set_option maxHeartbeats 2000000
namespace Go.Proofs.YthkihlpeaidlnaaGreat
open Go.RowKit Go.Shelf Go.SE Go.Sort
attribute [local go_sem] Oper.semAt_some
def orI (a b:Int):Int:=if a=0 then b else a
theorem Qs4 (b o c:Nat) (x y:Int) (W:World) (h0:W.cell? ⟨b,o,none⟩=some (.int .i64 x)) (h1:W.cell? ⟨b,o + 1,none⟩=some (.int .i64 y)) :
   Calls Tryz.prog 49 #[.slice (some ⟨b,o,none⟩) 2 c] W fun e w'=>e=.returned (.int .i64 (orI x y))∧w'=W:=by
 refine (callsIn_wide (n:=1)).1 ?_
 refine callsIn_of_wp Tryz.func49 rfl trivial ?_ rfl
 simp only [Tryz.ntmps49,List.size_toArray,List.length_cons,List.length_nil,Nat.reduceAdd,Nat.reduceSub,Array.replicate_succ,Array.replicate_zero,List.push_toArray,List.append_toArray,List.nil_append,List.cons_append]
 gi_wp2
 gi_loopw [8] (fun i wr=>wr=W∧(i=.int .i64 0∨(i=.int .i64 1∧x=0)∨(i=.int .i64 2∧x=0∧y=0))) (fun i _=>2 - (intOf i).toNat)
 case atStart=>exact ⟨rfl,.inl rfl⟩
 case round =>
   obtain ⟨rfl,rfl | ⟨rfl,hx⟩ | ⟨rfl,hx,hy⟩⟩:=hrel
   · by_cases hx:x=0
     · subst hx
       gi_wp2
       exact ⟨⟨trivial,.inr (.inl ⟨rfl,trivial⟩)⟩,by decide⟩
     · gi_wp2
       go_ret
       exact ⟨by unfold orI; rw [if_neg hx]; rfl,rfl⟩
   · subst hx
     by_cases hy:y=0
     · subst hy
       gi_wp2
       exact ⟨⟨trivial,.inr (.inr ⟨rfl,trivial,trivial⟩)⟩,by decide⟩
     · gi_wp2
       go_ret
       exact ⟨by unfold orI; rw [if_pos rfl]; rfl,rfl⟩
   · subst hx hy
     gi_wp2
     go_ret
     exact ⟨rfl,rfl⟩
theorem Qyg (x:Int) (W:World):Calls Tryz.prog 111 #[.int .i64 x] W fun e w'=>e=.returned (.bool false)∧w'=W:=by
 go_enter Tryz.func111,Tryz.ntmps111
 go_wp2
 go_ret
 exact ⟨by simp,rfl⟩
theorem Qkj (x y:Int) (W:World):Calls Tryz.prog 51 #[.int .i64 x,.int .i64 y] W fun e w'=>e=.returned (.int .i64 (Qb7 x y))∧w'=W:=by
 have hcon:=fun v W'=>Qyg v W'
 by_cases h1:x<y
 · go_enter Tryz.func51,Tryz.ntmps51
   go_wp2_with (go_at_call 111; refine (hcon _ _).mono ?_; rintro e w' ⟨rfl,rfl⟩)
   go_ret
   exact ⟨by unfold Qb7; rw [if_pos h1]; rfl,rfl⟩
 · by_cases h2:y<x
   · go_enter Tryz.func51,Tryz.ntmps51
     go_wp2_with (go_at_call 111; refine (hcon _ _).mono ?_; rintro e w' ⟨rfl,rfl⟩)
     go_ret
     exact ⟨by unfold Qb7; rw [if_neg (by omega),if_pos (by omega)]; rfl,rfl⟩
   · go_enter Tryz.func51,Tryz.ntmps51
     go_wp2_with (go_at_call 111; refine (hcon _ _).mono ?_; rintro e w' ⟨rfl,rfl⟩)
     go_ret
     exact ⟨by unfold Qb7; rw [if_neg (by omega),if_neg (by omega)]; rfl,rfl⟩
theorem Qyf (x:Int) (W:World):Calls Tryz.prog 110 #[.int .i64 x] W fun e w'=>e=.returned (.bool false)∧w'=W:=by
 go_enter Tryz.func110,Tryz.ntmps110
 go_wp2
 go_ret
 exact ⟨by simp,rfl⟩
theorem Qyp (x y:Int) (W:World):Calls Tryz.prog 50 #[.int .i64 x,.int .i64 y] W fun e w'=>e=.returned (.int .i64 (Qb7 x y))∧w'=W:=by
 have hcon:=fun v W'=>Qyf v W'
 by_cases h1:x<y
 · go_enter Tryz.func50,Tryz.ntmps50
   go_wp2_with (go_at_call 110; refine (hcon _ _).mono ?_; rintro e w' ⟨rfl,rfl⟩)
   go_ret
   exact ⟨by unfold Qb7; rw [if_pos h1]; rfl,rfl⟩
 · by_cases h2:y<x
   · go_enter Tryz.func50,Tryz.ntmps50
     go_wp2_with (go_at_call 110; refine (hcon _ _).mono ?_; rintro e w' ⟨rfl,rfl⟩)
     go_ret
     exact ⟨by unfold Qb7; rw [if_neg (by omega),if_pos (by omega)]; rfl,rfl⟩
   · go_enter Tryz.func50,Tryz.ntmps50
     go_wp2_with (go_at_call 110; refine (hcon _ _).mono ?_; rintro e w' ⟨rfl,rfl⟩)
     go_ret
     exact ⟨by unfold Qb7; rw [if_neg (by omega),if_neg (by omega)]; rfl,rfl⟩
theorem Qaz {a:Act} {t:Nat} {v:Value} (h:a.tmps[t]?=some v):a.eval (.tmp t)=v:=by
 simp [Act.eval,Array.getD_eq_getD_getElem?,h]
def GrW (w1:World) (w:World):Prop:=∃ n os,w=grow (w1.drewN n) os
end Go.Proofs.YthkihlpeaidlnaaGreat
end
section
set_option maxHeartbeats 4000000
namespace Go.Proofs.YthkihlpeaidlnaaGreat
open Go.RowKit Go.Shelf Go.SE Go.Sort
attribute [local go_sem] Oper.semAt_some
def cmP (a b:Int×Int):Int:=orI (Qb7 a.1 b.1) (Qb7 a.2 b.2)
theorem Q85 (a b:Int×Int) (W:World):Calls Tryz.prog 55 #[.agg #[.int .i64 a.1,.int .i64 a.2],.agg #[.int .i64 b.1,.int .i64 b.2]] W fun e w'=>e=.returned (.int .i64 (cmP a b))∧∃ q os',w'=grow (W.drewN q) os':=by
 refine (callsIn_wide (n:=1)).1 ?_
 refine callsIn_of_wp Tryz.func55 rfl trivial ?_ rfl
 simp only [Tryz.ntmps55,List.size_toArray,List.length_cons,List.length_nil,Nat.reduceAdd,Nat.reduceSub,Array.replicate_succ,Array.replicate_zero,List.push_toArray,List.append_toArray,List.nil_append,List.cons_append]
 gi_wp2
 obtain ⟨A,hA⟩:∃ A,W.heap.size=A:=⟨_,rfl⟩
 obtain ⟨B,hB⟩:∃ B,A + 1=B:=⟨_,rfl⟩
 obtain ⟨w1,hw1⟩:∃ w1,((W.alloc (Obj.cells #[.int .i64 a.1,.int .i64 a.2] 56)).alloc (Obj.cells #[.int .i64 b.1,.int .i64 b.2] 56))=w1:=⟨_,rfl⟩
 have sz:w1.heap.size=A + 2:=by rw [← hw1,World.size_alloc,World.size_alloc,hA]
 have cA:w1.heap[A]?=some (.cells #[.int .i64 a.1,.int .i64 a.2] 56 (0,0)):=by
   rw [← hw1,← hA]; exact (Go.RowKit.Below.heap_alloc _ _ _ (by simp)).trans (World.alloc_heap_new W _)
 have cB:w1.heap[B]?=some (.cells #[.int .i64 b.1,.int .i64 b.2] 56 (0,0)):=by
   rw [← hw1,← hB,← hA]
   have:=World.alloc_heap_new (W.alloc (.cells #[.int .i64 a.1,.int .i64 a.2] 56)) (.cells #[.int .i64 b.1,.int .i64 b.2] 56)
   rwa [World.size_alloc] at this
 have gc:∀ q os k o x,k<A + 2→w1.cell? ⟨k,o,none⟩=some x→(grow (w1.drewN q) os).cell? ⟨k,o,none⟩=some x:=fun q os k o x hk h=>by
   rw [cell?_grow _ _ _ (by show k<w1.heap.size; omega)]; exact h
 have gA0:∀ q os,(grow (w1.drewN q) os).cell? ⟨A,0,none⟩=some (.int .i64 a.1):=fun q os=>gc q os A 0 _ (by omega) (by rw [Qch cA]; rfl)
 have gA1:∀ q os,(grow (w1.drewN q) os).cell? ⟨A,1,none⟩=some (.int .i64 a.2):=fun q os=>gc q os A 1 _ (by omega) (by rw [Qch cA]; rfl)
 have gB0:∀ q os,(grow (w1.drewN q) os).cell? ⟨B,0,none⟩=some (.int .i64 b.1):=fun q os=>gc q os B 0 _ (by omega) (by rw [Qch cB]; rfl)
 have gB1:∀ q os,(grow (w1.drewN q) os).cell? ⟨B,1,none⟩=some (.int .i64 b.2):=fun q os=>gc q os B 1 _ (by omega) (by rw [Qch cB]; rfl)
 have hgr:∀ q os,∃ q' os',grow (w1.drewN q) os=grow (W.drewN q') os':=fun q os=>⟨q,#[Obj.cells #[.int .i64 a.1,.int .i64 a.2] 56]++#[Obj.cells #[.int .i64 b.1,.int .i64 b.2] 56]++os,by rw [← hw1,alloc_eq_grow,alloc_eq_grow,grow_grow]; simp only [grow,World.drewN,Array.append_assoc]⟩
 rw [hA,hB,hw1]
 clear cA cB gc sz hw1 hA hB
 refine Qip (ro:=none) (m:=10) (C:=GrW w1) (T:=#[.agg #[.int .i64 a.1,.int .i64 a.2],.agg #[.int .i64 b.1,.int .i64 b.2],.pointer (some ⟨A,0,none⟩),.pointer (some ⟨B,0,none⟩),.int .i64 0,.pointer (some ⟨A,0,none⟩),.int .i64 (a.1),.pointer (some ⟨B,0,none⟩),.int .i64 (b.1),.int .i64 (Qb7 a.1 b.1),.pointer (some ⟨A,1,none⟩),.int .i64 (a.2),.pointer (some ⟨B,1,none⟩),.int .i64 (b.2),.int .i64 (Qb7 a.2 b.2),undef,undef]) (dst:=fun i=>i + 5) (vals:=fun i=>([.pointer (some ⟨A,0,none⟩),.int .i64 (a.1),.pointer (some ⟨B,0,none⟩),.int .i64 (b.1),.int .i64 (Qb7 a.1 b.1),.pointer (some ⟨A,1,none⟩),.int .i64 (a.2),.pointer (some ⟨B,1,none⟩),.int .i64 (b.2),.int .i64 (Qb7 a.2 b.2)]:List Value).getD i undef) rfl (fun i j _ _ h=>by simpa using h) (fun i hi=>by simp; omega) (by simp) (fun j o ho e he hb=>by have:=Qby (k:=0) rfl j o (by simpa using ho) e (by simpa using he) hb; omega) ?_ ?_ (by kernel_rfl) ⟨1,#[],by rw [grow_empty]; rfl⟩ ?_
 · intro i hi o ho j hj
   have hi':=(Array.getElem?_eq_some_iff.1 ho).1
   simp only [List.size_toArray,List.length_cons,List.length_nil] at hi'
   obtain rfl | rfl | rfl:i=10∨i=11∨i=12:=by omega
   · exact (by decide:∀ j,j<10→Nat.testBit 1023 j=true) j hj
   · exact (by decide:∀ j,j<10→Nat.testBit 2047 j=true) j hj
   · exact (by decide:∀ j,j<10→Nat.testBit 4095 j=true) j hj
 · intro i hi o ho
   obtain rfl | rfl | rfl | rfl | rfl | rfl | rfl | rfl | rfl | rfl:i=0∨i=1∨i=2∨i=3∨i=4∨i=5∨i=6∨i=7∨i=8∨i=9:=by omega
   · have ho:=(Option.some.inj ho).symm; subst ho
     refine ⟨rfl,rfl,fun c h=>(by simp at h),fun b' _ hE hm=>?_⟩
     have y2:b'.eval (.tmp 2)=.pointer (some ⟨A,0,none⟩):=Qaz (hm 2 (fun j _=>by omega))
     clear hE hm
     rintro w ⟨q,os,rfl⟩
     generalize b'.eval=E at *
     show Oper.quietUpon _ _ _ _ _
     rw [show Sem.run Tryz.prog (execOp E _) (grow (w1.drewN q) os)=Result.ok (Next.value (.pointer (some ⟨A,0,none⟩))) (grow (w1.drewN q) os) from by go_simp]
     exact ⟨rfl,rfl⟩
   · have ho:=(Option.some.inj ho).symm; subst ho
     refine ⟨rfl,rfl,fun c h=>(by simp at h),fun b' _ hE hm=>?_⟩
     have x0:b'.eval (.tmp 5)=.pointer (some ⟨A,0,none⟩):=Qaz (hE ⟨0,.data⟩ (by simp) (by decide) rfl)
     clear hE hm
     rintro w ⟨q,os,rfl⟩
     generalize b'.eval=E at *
     show Oper.quietUpon _ _ _ _ _
     rw [show Sem.run Tryz.prog (execOp E _) (grow (w1.drewN q) os)=Result.ok (Next.value (.int .i64 (a.1))) (grow (w1.drewN q) os) from by go_simp]
     exact ⟨rfl,rfl⟩
   · have ho:=(Option.some.inj ho).symm; subst ho
     refine ⟨rfl,rfl,fun c h=>(by simp at h),fun b' _ hE hm=>?_⟩
     have y3:b'.eval (.tmp 3)=.pointer (some ⟨B,0,none⟩):=Qaz (hm 3 (fun j _=>by omega))
     clear hE hm
     rintro w ⟨q,os,rfl⟩
     generalize b'.eval=E at *
     show Oper.quietUpon _ _ _ _ _
     rw [show Sem.run Tryz.prog (execOp E _) (grow (w1.drewN q) os)=Result.ok (Next.value (.pointer (some ⟨B,0,none⟩))) (grow (w1.drewN q) os) from by go_simp]
     exact ⟨rfl,rfl⟩
   · have ho:=(Option.some.inj ho).symm; subst ho
     refine ⟨rfl,rfl,fun c h=>(by simp at h),fun b' _ hE hm=>?_⟩
     have x2:b'.eval (.tmp 7)=.pointer (some ⟨B,0,none⟩):=Qaz (hE ⟨2,.data⟩ (by simp) (by decide) rfl)
     clear hE hm
     rintro w ⟨q,os,rfl⟩
     generalize b'.eval=E at *
     show Oper.quietUpon _ _ _ _ _
     rw [show Sem.run Tryz.prog (execOp E _) (grow (w1.drewN q) os)=Result.ok (Next.value (.int .i64 (b.1))) (grow (w1.drewN q) os) from by go_simp]
     exact ⟨rfl,rfl⟩
   · have ho:=(Option.some.inj ho).symm; subst ho
     refine ⟨rfl,rfl,fun c h=>(by simp at h),fun b' _ hE hm=>?_⟩
     have x1:b'.eval (.tmp 6)=.int .i64 (a.1):=Qaz (hE ⟨1,.data⟩ (by simp) (by decide) rfl)
     have x3:b'.eval (.tmp 8)=.int .i64 (b.1):=Qaz (hE ⟨3,.data⟩ (by simp) (by decide) rfl)
     clear hE hm
     rintro w ⟨q,os,rfl⟩
     have z:b'.eval (.func 51)=.func (.func 51) #[] #[]:=rfl
     generalize b'.eval=E at *
     show Oper.quietUpon _ _ _ _ _
     rw [show Sem.run Tryz.prog (execOp E _) (grow (w1.drewN q) os)=Result.ok (Next.enter 51 #[.int .i64 (a.1),.int .i64 (b.1)]) (grow (w1.drewN q) os) from by go_simp]
     exact ⟨rfl,(Qkj a.1 b.1 _).mono fun e w' ⟨h1,h2⟩=>⟨h1,q,os,h2⟩⟩
   · have ho:=(Option.some.inj ho).symm; subst ho
     refine ⟨rfl,rfl,fun c h=>(by simp at h),fun b' _ hE hm=>?_⟩
     have y2:b'.eval (.tmp 2)=.pointer (some ⟨A,0,none⟩):=Qaz (hm 2 (fun j _=>by omega))
     clear hE hm
     rintro w ⟨q,os,rfl⟩
     generalize b'.eval=E at *
     show Oper.quietUpon _ _ _ _ _
     rw [show Sem.run Tryz.prog (execOp E _) (grow (w1.drewN q) os)=Result.ok (Next.value (.pointer (some ⟨A,1,none⟩))) (grow (w1.drewN q) os) from by go_simp]
     exact ⟨rfl,rfl⟩
   · have ho:=(Option.some.inj ho).symm; subst ho
     refine ⟨rfl,rfl,fun c h=>(by simp at h),fun b' _ hE hm=>?_⟩
     have x5:b'.eval (.tmp 10)=.pointer (some ⟨A,1,none⟩):=Qaz (hE ⟨5,.data⟩ (by simp) (by decide) rfl)
     clear hE hm
     rintro w ⟨q,os,rfl⟩
     generalize b'.eval=E at *
     show Oper.quietUpon _ _ _ _ _
     rw [show Sem.run Tryz.prog (execOp E _) (grow (w1.drewN q) os)=Result.ok (Next.value (.int .i64 (a.2))) (grow (w1.drewN q) os) from by go_simp]
     exact ⟨rfl,rfl⟩
   · have ho:=(Option.some.inj ho).symm; subst ho
     refine ⟨rfl,rfl,fun c h=>(by simp at h),fun b' _ hE hm=>?_⟩
     have y3:b'.eval (.tmp 3)=.pointer (some ⟨B,0,none⟩):=Qaz (hm 3 (fun j _=>by omega))
     clear hE hm
     rintro w ⟨q,os,rfl⟩
     generalize b'.eval=E at *
     show Oper.quietUpon _ _ _ _ _
     rw [show Sem.run Tryz.prog (execOp E _) (grow (w1.drewN q) os)=Result.ok (Next.value (.pointer (some ⟨B,1,none⟩))) (grow (w1.drewN q) os) from by go_simp]
     exact ⟨rfl,rfl⟩
   · have ho:=(Option.some.inj ho).symm; subst ho
     refine ⟨rfl,rfl,fun c h=>(by simp at h),fun b' _ hE hm=>?_⟩
     have x7:b'.eval (.tmp 12)=.pointer (some ⟨B,1,none⟩):=Qaz (hE ⟨7,.data⟩ (by simp) (by decide) rfl)
     clear hE hm
     rintro w ⟨q,os,rfl⟩
     generalize b'.eval=E at *
     show Oper.quietUpon _ _ _ _ _
     rw [show Sem.run Tryz.prog (execOp E _) (grow (w1.drewN q) os)=Result.ok (Next.value (.int .i64 (b.2))) (grow (w1.drewN q) os) from by go_simp]
     exact ⟨rfl,rfl⟩
   · have ho:=(Option.some.inj ho).symm; subst ho
     refine ⟨rfl,rfl,fun c h=>(by simp at h),fun b' _ hE hm=>?_⟩
     have x6:b'.eval (.tmp 11)=.int .i64 (a.2):=Qaz (hE ⟨6,.data⟩ (by simp) (by decide) rfl)
     have x8:b'.eval (.tmp 13)=.int .i64 (b.2):=Qaz (hE ⟨8,.data⟩ (by simp) (by decide) rfl)
     clear hE hm
     rintro w ⟨q,os,rfl⟩
     have z:b'.eval (.func 51)=.func (.func 51) #[] #[]:=rfl
     generalize b'.eval=E at *
     show Oper.quietUpon _ _ _ _ _
     rw [show Sem.run Tryz.prog (execOp E _) (grow (w1.drewN q) os)=Result.ok (Next.enter 51 #[.int .i64 (a.2),.int .i64 (b.2)]) (grow (w1.drewN q) os) from by go_simp]
     exact ⟨rfl,(Qkj a.2 b.2 _).mono fun e w' ⟨h1,h2⟩=>⟨h1,q,os,h2⟩⟩
 · rintro w ⟨q,os,rfl⟩ li hs hc h1 h0
   obtain ⟨Zs,hZs⟩:∃ Zs,(grow (w1.drewN q) os).heap.size=Zs:=⟨_,rfl⟩
   obtain ⟨w2,hw2⟩:∃ w2,(grow (w1.drewN q) os).alloc (.cells #[.int .i64 (Qb7 a.1 b.1),.int .i64 (Qb7 a.2 b.2)] 3)=w2:=⟨_,rfl⟩
   have c2:w2.heap[Zs]?=some (.cells #[.int .i64 (Qb7 a.1 b.1),.int .i64 (Qb7 a.2 b.2)] 3 (0,0)):=by rw [← hw2,← hZs]; exact World.alloc_heap_new _ _
   have k0:w2.cell? ⟨Zs,0,none⟩=some (.int .i64 (Qb7 a.1 b.1)):=by rw [Qch c2]; rfl
   have k1:w2.cell? ⟨Zs,0 + 1,none⟩=some (.int .i64 (Qb7 a.2 b.2)):=by rw [Qch c2]; rfl
   refine Qgj (fuel:=2) (m:=10) hs hc h1 h0 (fun j o ho e he hb=>by have:=Qby (k:=0) rfl j o (by simpa using ho) e (by simpa using he) hb; omega) rfl rfl (fun i hi o ho=>by
     have hi':=(Array.getElem?_eq_some_iff.1 ho).1
     simp only [List.size_toArray,List.length_cons,List.length_nil] at hi'
     obtain rfl | rfl:i=11∨i=12:=by omega
     all_goals rfl) ?_
   intro li hs hc h1 h0
   change Oper.wpIn (WF none) 1 Tryz.prog _ {tmps:=#[.agg #[.int .i64 a.1,.int .i64 a.2],.agg #[.int .i64 b.1,.int .i64 b.2],.pointer (some ⟨A,0,none⟩),.pointer (some ⟨B,0,none⟩),.int .i64 0,.pointer (some ⟨A,0,none⟩),.int .i64 (a.1),.pointer (some ⟨B,0,none⟩),.int .i64 (b.1),.int .i64 (Qb7 a.1 b.1),.pointer (some ⟨A,1,none⟩),.int .i64 (a.2),.pointer (some ⟨B,1,none⟩),.int .i64 (b.2),.int .i64 (Qb7 a.2 b.2),undef,undef],defers:=[]} _ _ _
   refine ⟨fun _ _=>trivial,?_⟩
   rw [show (Oper.semAt _ _ _).run Tryz.prog (grow (w1.drewN q) os)=.ok (.value (.slice (some ⟨Zs,0,none⟩) 2 2)) w2 from by
     rw [Oper.semAt_eq _ _ _ (fun c h=>(by simp at h)),← hw2,← hZs]
     go_simp]
   rw [Oper.uponIn_value]
   refine Qgj (fuel:=1) (m:=11) hs hc h1 h0 (fun j o ho e he hb=>by have:=Qby (k:=0) rfl j o (by simpa using ho) e (by simpa using he) hb; omega) rfl rfl (fun i hi o ho=>by
     have hi':=(Array.getElem?_eq_some_iff.1 ho).1
     simp only [List.size_toArray,List.length_cons,List.length_nil] at hi'
     obtain rfl:i=12:=by omega
     all_goals rfl) ?_
   intro li hs hc h1 h0
   change Oper.wpIn (WF none) 1 Tryz.prog _ {tmps:=#[.agg #[.int .i64 a.1,.int .i64 a.2],.agg #[.int .i64 b.1,.int .i64 b.2],.pointer (some ⟨A,0,none⟩),.pointer (some ⟨B,0,none⟩),.int .i64 0,.pointer (some ⟨A,0,none⟩),.int .i64 (a.1),.pointer (some ⟨B,0,none⟩),.int .i64 (b.1),.int .i64 (Qb7 a.1 b.1),.pointer (some ⟨A,1,none⟩),.int .i64 (a.2),.pointer (some ⟨B,1,none⟩),.int .i64 (b.2),.int .i64 (Qb7 a.2 b.2),.slice (some ⟨Zs,0,none⟩) 2 2,undef],defers:=[]} _ _ _
   refine ⟨fun _ _=>trivial,?_⟩
   rw [show (Oper.semAt _ _ _).run Tryz.prog w2=.ok (.enter 49 #[.slice (some ⟨Zs,0,none⟩) 2 2]) w2 from by
     rw [Oper.semAt_eq _ _ _ (fun c h=>(by simp at h))]
     go_simp]
   rw [Oper.uponIn_enter]
   refine ⟨fun h=>(by cases h),(Qjj none 0 (Qs4 Zs 0 2 _ _ w2 k0 k1)).mono ?_⟩
   rintro e w3 ⟨rfl,rfl⟩
   refine Qgj (fuel:=0) (m:=12) hs hc h1 h0 (fun j o ho e he hb=>by have:=Qby (k:=0) rfl j o (by simpa using ho) e (by simpa using he) hb; omega) rfl rfl (fun i hi o ho=>absurd (Array.getElem?_eq_some_iff.1 ho).1 (by simp only [List.size_toArray,List.length_cons,List.length_nil]; omega)) ?_
   intro li hs hc h1 h0
   change Oper.wpIn (WF none) 1 Tryz.prog _ {tmps:=#[.agg #[.int .i64 a.1,.int .i64 a.2],.agg #[.int .i64 b.1,.int .i64 b.2],.pointer (some ⟨A,0,none⟩),.pointer (some ⟨B,0,none⟩),.int .i64 0,.pointer (some ⟨A,0,none⟩),.int .i64 (a.1),.pointer (some ⟨B,0,none⟩),.int .i64 (b.1),.int .i64 (Qb7 a.1 b.1),.pointer (some ⟨A,1,none⟩),.int .i64 (a.2),.pointer (some ⟨B,1,none⟩),.int .i64 (b.2),.int .i64 (Qb7 a.2 b.2),.slice (some ⟨Zs,0,none⟩) 2 2,.int .i64 (orI (Qb7 a.1 b.1) (Qb7 a.2 b.2))],defers:=[]} _ _ _
   refine ⟨fun _ _=>trivial,?_⟩
   rw [show (Oper.semAt _ _ _).run Tryz.prog w3=.ok (.value (.int .i64 (orI (Qb7 a.1 b.1) (Qb7 a.2 b.2)))) w3 from by
     rw [Oper.semAt_eq _ _ _ (fun c h=>(by simp at h))]
     go_simp]
   rw [Oper.uponIn_value]
   refine Qqo hs h1 ?_
   change Exit.then _ _ Exit.normal {tmps:=#[.agg #[.int .i64 a.1,.int .i64 a.2],.agg #[.int .i64 b.1,.int .i64 b.2],.pointer (some ⟨A,0,none⟩),.pointer (some ⟨B,0,none⟩),.int .i64 (orI (Qb7 a.1 b.1) (Qb7 a.2 b.2)),.pointer (some ⟨A,0,none⟩),.int .i64 (a.1),.pointer (some ⟨B,0,none⟩),.int .i64 (b.1),.int .i64 (Qb7 a.1 b.1),.pointer (some ⟨A,1,none⟩),.int .i64 (a.2),.pointer (some ⟨B,1,none⟩),.int .i64 (b.2),.int .i64 (Qb7 a.2 b.2),.slice (some ⟨Zs,0,none⟩) 2 2,.int .i64 (orI (Qb7 a.1 b.1) (Qb7 a.2 b.2))],defers:=[]} w3
   gi_wp2
   go_ret
   refine ⟨rfl,?_⟩
   obtain ⟨q',os',hg⟩:=hgr q os
   rw [← hw2,alloc_eq_grow,hg,grow_grow]
   exact ⟨_,_,rfl⟩
theorem Qwa {P:Program} {sz:Nat} {m:MapC} {es:Array MapEntry} {clock:Nat} (hm:MapRep sz m es clock) {t el:TypeId} (hmt:Q69 P t=some (el,sz)) (n:Int) {w:World} {r:Nat} (hw:w.heap[r]?=some (.map es clock)) :
   (Instr.lookup t (.map (some r)) (.int .i64 n) false).run P w=.ok (.agg ((List.range sz).map fun i=>.int .i64 (m.val n i)).toArray) w:=by
 obtain ⟨kt,i,cs,h1,h2,h3,h4,h5,h6⟩:=Qf6 hmt
 have hz1:(zeroValue el).run P w=.ok (.agg cs) w:=by simp [zeroValue,typeInfo,h3,h4]
 have hget:(getObj r).run P w=.ok (.map es clock) w:=MapKept.run_getObj_map hw
 rcases Qlp hm h2 n w with ⟨j,x,f1,f2,f3,f4,f5⟩ | ⟨f1,f2,f3⟩
 · rw [f4] at f5
   simp [Instr.lookup,run_underlying h1,hget,Qeq h2,f5,f3]
 · have e1:cs=((List.range sz).map fun i=>Value.int .i64 (m.val n i)).toArray:=by
     apply Array.ext'
     rw [Qpa h5,h6]
     exact List.map_congr_left fun i hi=>by rw [hm.off n f1 i (List.mem_range.1 hi)]
   rw [e1] at hz1
   simp [Instr.lookup,run_underlying h1,hget,Qeq h2,f3,hz1,f1]
def cmX (m:MapC) (a b:Int):Int:=orI (Qb7 (m.val a 0) (m.val b 0)) (Qb7 a b)
theorem Q86 (a b:Int) {m:MapC} {X S M:Nat} {w1:World} (hX:w1.cell? ⟨X,0,none⟩=some (.pointer (some ⟨S,0,none⟩))) (hS:w1.cell? ⟨S,0,none⟩=some (.map (some M))) {es:Array MapEntry} {clock:Nat} (hM:w1.heap[M]?=some (.map es clock)) (hm:MapRep 4 m es clock) :
   Calls Tryz.prog 48 #[.int .i64 a,.int .i64 b,.pointer (some ⟨X,0,none⟩)] w1 fun e w'=>e=.returned (.int .i64 (cmX m a b))∧∃ q os',w'=grow (w1.drewN q) os':=by
 refine (callsIn_wide (n:=1)).1 ?_
 refine callsIn_of_wp Tryz.func48 rfl trivial ?_ rfl
 simp only [Tryz.ntmps48,List.size_toArray,List.length_cons,List.length_nil,Nat.reduceAdd,Nat.reduceSub,Array.replicate_succ,Array.replicate_zero,List.push_toArray,List.append_toArray,List.nil_append,List.cons_append]
 have lt:∀ k o v,w1.cell? ⟨k,o,none⟩=some v→k<w1.heap.size:=fun k o v h=>by
   rcases Nat.lt_or_ge k w1.heap.size with h' | h'
   · exact h'
   · simp [World.cell?,Array.getElem?_eq_none h'] at h
 have gc:∀ q os k o x,w1.cell? ⟨k,o,none⟩=some x→(grow (w1.drewN q) os).cell? ⟨k,o,none⟩=some x:=fun q os k o x h=>by
   rw [cell?_grow _ _ _ (by exact lt _ _ _ h)]; exact h
 have gX:∀ q os,(grow (w1.drewN q) os).cell? ⟨X,0,none⟩=some (.pointer (some ⟨S,0,none⟩)):=fun q os=>gc q os X 0 _ hX
 have gS:∀ q os,(grow (w1.drewN q) os).cell? ⟨S,0,none⟩=some (.map (some M)):=fun q os=>gc q os S 0 _ hS
 have gM:∀ q os,(grow (w1.drewN q) os).heap[M]?=some (.map es clock):=fun q os=>by
   have hlt:=(Array.getElem?_eq_some_iff.1 hM).1
   show (w1.heap++os)[M]?=_
   rw [Array.getElem?_append_left hlt,hM]
 have gl:∀ q os k,(Instr.lookup 106 (.map (some M)) (.int .i64 k) false).run Tryz.prog (grow (w1.drewN q) os)=.ok (.agg #[.int .i64 (m.val k 0),.int .i64 (m.val k 1),.int .i64 (m.val k 2),.int .i64 (m.val k 3)]) (grow (w1.drewN q) os):=fun q os k=>Qwa (el:=45) hm (by kernel_rfl) k (gM q os)
 have hgr:∀ q os,∃ q' os',grow (w1.drewN q) os=grow (w1.drewN q') os':=fun q os=>⟨q,os,rfl⟩
 clear gc lt hX hS hM hm gM
 gi_wp2
 refine Qip (ro:=none) (m:=18) (C:=GrW w1) (T:=#[.int .i64 (a),.int .i64 (b),.pointer (some ⟨X,0,none⟩),undef,undef,.int .i64 0,.pointer (some ⟨S,0,none⟩),.pointer (some ⟨S,0,none⟩),.pointer (some ⟨S,0,none⟩),.map (some M),.int .i64 (a),.agg #[.int .i64 (m.val a 0),.int .i64 (m.val a 1),.int .i64 (m.val a 2),.int .i64 (m.val a 3)],.int .i64 (m.val a 0),.pointer (some ⟨S,0,none⟩),.pointer (some ⟨S,0,none⟩),.pointer (some ⟨S,0,none⟩),.map (some M),.int .i64 (b),.agg #[.int .i64 (m.val b 0),.int .i64 (m.val b 1),.int .i64 (m.val b 2),.int .i64 (m.val b 3)],.int .i64 (m.val b 0),.int .i64 (Qb7 (m.val a 0) (m.val b 0)),.int .i64 (a),.int .i64 (b),.int .i64 (Qb7 a b),undef,undef]) (dst:=fun i=>i + 6) (vals:=fun i=>([.pointer (some ⟨S,0,none⟩),.pointer (some ⟨S,0,none⟩),.pointer (some ⟨S,0,none⟩),.map (some M),.int .i64 (a),.agg #[.int .i64 (m.val a 0),.int .i64 (m.val a 1),.int .i64 (m.val a 2),.int .i64 (m.val a 3)],.int .i64 (m.val a 0),.pointer (some ⟨S,0,none⟩),.pointer (some ⟨S,0,none⟩),.pointer (some ⟨S,0,none⟩),.map (some M),.int .i64 (b),.agg #[.int .i64 (m.val b 0),.int .i64 (m.val b 1),.int .i64 (m.val b 2),.int .i64 (m.val b 3)],.int .i64 (m.val b 0),.int .i64 (Qb7 (m.val a 0) (m.val b 0)),.int .i64 (a),.int .i64 (b),.int .i64 (Qb7 a b)]:List Value).getD i undef) rfl (fun i j _ _ h=>by simpa using h) (fun i hi=>by simp; omega) (by simp) (fun j o ho e he hb=>by have:=Qby (k:=0) rfl j o (by simpa using ho) e (by simpa using he) hb; omega) ?_ ?_ (by kernel_rfl) ⟨1,#[],by rw [grow_empty]; rfl⟩ ?_
 · intro i hi o ho j hj
   have hi':=(Array.getElem?_eq_some_iff.1 ho).1
   simp only [List.size_toArray,List.length_cons,List.length_nil] at hi'
   obtain rfl | rfl | rfl:i=18∨i=19∨i=20:=by omega
   · exact (by decide:∀ j,j<18→Nat.testBit 262143 j=true) j hj
   · exact (by decide:∀ j,j<18→Nat.testBit 524287 j=true) j hj
   · exact (by decide:∀ j,j<18→Nat.testBit 1048575 j=true) j hj
 · intro i hi o ho
   obtain rfl | rfl | rfl | rfl | rfl | rfl | rfl | rfl | rfl | rfl | rfl | rfl | rfl | rfl | rfl | rfl | rfl | rfl:i=0∨i=1∨i=2∨i=3∨i=4∨i=5∨i=6∨i=7∨i=8∨i=9∨i=10∨i=11∨i=12∨i=13∨i=14∨i=15∨i=16∨i=17:=by omega
   · have ho:=(Option.some.inj ho).symm; subst ho
     refine ⟨rfl,rfl,fun c h=>(by simp at h),fun b' _ hE hm=>?_⟩
     have y2:b'.eval (.tmp 2)=.pointer (some ⟨X,0,none⟩):=Qaz (hm 2 (fun j _=>by omega))
     clear hE hm
     rintro w ⟨q,os,rfl⟩
     generalize b'.eval=E at *
     show Oper.quietUpon _ _ _ _ _
     rw [show Sem.run Tryz.prog (execOp E _) (grow (w1.drewN q) os)=Result.ok (Next.value (.pointer (some ⟨S,0,none⟩))) (grow (w1.drewN q) os) from by go_simp]
     exact ⟨rfl,rfl⟩
   · have ho:=(Option.some.inj ho).symm; subst ho
     refine ⟨rfl,rfl,fun c h=>(by simp at h),fun b' _ hE hm=>?_⟩
     have x0:b'.eval (.tmp 6)=.pointer (some ⟨S,0,none⟩):=Qaz (hE ⟨0,.data⟩ (by simp) (by decide) rfl)
     clear hE hm
     rintro w ⟨q,os,rfl⟩
     generalize b'.eval=E at *
     show Oper.quietUpon _ _ _ _ _
     rw [show Sem.run Tryz.prog (execOp E _) (grow (w1.drewN q) os)=Result.ok (Next.value (.pointer (some ⟨S,0,none⟩))) (grow (w1.drewN q) os) from by go_simp]
     exact ⟨rfl,rfl⟩
   · have ho:=(Option.some.inj ho).symm; subst ho
     refine ⟨rfl,rfl,fun c h=>(by simp at h),fun b' _ hE hm=>?_⟩
     have x1:b'.eval (.tmp 7)=.pointer (some ⟨S,0,none⟩):=Qaz (hE ⟨1,.data⟩ (by simp) (by decide) rfl)
     clear hE hm
     rintro w ⟨q,os,rfl⟩
     generalize b'.eval=E at *
     show Oper.quietUpon _ _ _ _ _
     rw [show Sem.run Tryz.prog (execOp E _) (grow (w1.drewN q) os)=Result.ok (Next.value (.pointer (some ⟨S,0,none⟩))) (grow (w1.drewN q) os) from by go_simp]
     exact ⟨rfl,rfl⟩
   · have ho:=(Option.some.inj ho).symm; subst ho
     refine ⟨rfl,rfl,fun c h=>(by simp at h),fun b' _ hE hm=>?_⟩
     have x2:b'.eval (.tmp 8)=.pointer (some ⟨S,0,none⟩):=Qaz (hE ⟨2,.data⟩ (by simp) (by decide) rfl)
     clear hE hm
     rintro w ⟨q,os,rfl⟩
     generalize b'.eval=E at *
     show Oper.quietUpon _ _ _ _ _
     rw [show Sem.run Tryz.prog (execOp E _) (grow (w1.drewN q) os)=Result.ok (Next.value (.map (some M))) (grow (w1.drewN q) os) from by go_simp]
     exact ⟨rfl,rfl⟩
   · have ho:=(Option.some.inj ho).symm; subst ho
     refine ⟨rfl,rfl,fun c h=>(by simp at h),fun b' _ hE hm=>?_⟩
     have y0:b'.eval (.tmp 0)=.int .i64 (a):=Qaz (hm 0 (fun j _=>by omega))
     clear hE hm
     rintro w ⟨q,os,rfl⟩
     generalize b'.eval=E at *
     show Oper.quietUpon _ _ _ _ _
     rw [show Sem.run Tryz.prog (execOp E _) (grow (w1.drewN q) os)=Result.ok (Next.value (.int .i64 (a))) (grow (w1.drewN q) os) from by go_simp]
     exact ⟨rfl,rfl⟩
   · have ho:=(Option.some.inj ho).symm; subst ho
     refine ⟨rfl,rfl,fun c h=>(by simp at h),fun b' _ hE hm=>?_⟩
     have x3:b'.eval (.tmp 9)=.map (some M):=Qaz (hE ⟨3,.data⟩ (by simp) (by decide) rfl)
     have x4:b'.eval (.tmp 10)=.int .i64 (a):=Qaz (hE ⟨4,.data⟩ (by simp) (by decide) rfl)
     clear hE hm
     rintro w ⟨q,os,rfl⟩
     generalize b'.eval=E at *
     show Oper.quietUpon _ _ _ _ _
     rw [show Sem.run Tryz.prog (execOp E _) (grow (w1.drewN q) os)=Result.ok (Next.value (.agg #[.int .i64 (m.val a 0),.int .i64 (m.val a 1),.int .i64 (m.val a 2),.int .i64 (m.val a 3)])) (grow (w1.drewN q) os) from by
       show Sem.run Tryz.prog (Instr.lookup 106 (E (.tmp 9)) (E (.tmp 10)) false >>= fun v=>pure (Next.value v)) _=_
       rw [x3,x4,Sem.run_bind,gl]
       rfl]
     exact ⟨rfl,rfl⟩
   · have ho:=(Option.some.inj ho).symm; subst ho
     refine ⟨rfl,rfl,fun c h=>(by simp at h),fun b' _ hE hm=>?_⟩
     have x5:b'.eval (.tmp 11)=.agg #[.int .i64 (m.val a 0),.int .i64 (m.val a 1),.int .i64 (m.val a 2),.int .i64 (m.val a 3)]:=Qaz (hE ⟨5,.data⟩ (by simp) (by decide) rfl)
     clear hE hm
     rintro w ⟨q,os,rfl⟩
     generalize b'.eval=E at *
     show Oper.quietUpon _ _ _ _ _
     rw [show Sem.run Tryz.prog (execOp E _) (grow (w1.drewN q) os)=Result.ok (Next.value (.int .i64 (m.val a 0))) (grow (w1.drewN q) os) from by
       show Sem.run Tryz.prog (Instr.field 45 (E (.tmp 11)) 0 >>= fun v=>pure (Next.value v)) _=_
       rw [x5]
       kernel_rfl]
     exact ⟨rfl,rfl⟩
   · have ho:=(Option.some.inj ho).symm; subst ho
     refine ⟨rfl,rfl,fun c h=>(by simp at h),fun b' _ hE hm=>?_⟩
     have y2:b'.eval (.tmp 2)=.pointer (some ⟨X,0,none⟩):=Qaz (hm 2 (fun j _=>by omega))
     clear hE hm
     rintro w ⟨q,os,rfl⟩
     generalize b'.eval=E at *
     show Oper.quietUpon _ _ _ _ _
     rw [show Sem.run Tryz.prog (execOp E _) (grow (w1.drewN q) os)=Result.ok (Next.value (.pointer (some ⟨S,0,none⟩))) (grow (w1.drewN q) os) from by go_simp]
     exact ⟨rfl,rfl⟩
   · have ho:=(Option.some.inj ho).symm; subst ho
     refine ⟨rfl,rfl,fun c h=>(by simp at h),fun b' _ hE hm=>?_⟩
     have x7:b'.eval (.tmp 13)=.pointer (some ⟨S,0,none⟩):=Qaz (hE ⟨7,.data⟩ (by simp) (by decide) rfl)
     clear hE hm
     rintro w ⟨q,os,rfl⟩
     generalize b'.eval=E at *
     show Oper.quietUpon _ _ _ _ _
     rw [show Sem.run Tryz.prog (execOp E _) (grow (w1.drewN q) os)=Result.ok (Next.value (.pointer (some ⟨S,0,none⟩))) (grow (w1.drewN q) os) from by go_simp]
     exact ⟨rfl,rfl⟩
   · have ho:=(Option.some.inj ho).symm; subst ho
     refine ⟨rfl,rfl,fun c h=>(by simp at h),fun b' _ hE hm=>?_⟩
     have x8:b'.eval (.tmp 14)=.pointer (some ⟨S,0,none⟩):=Qaz (hE ⟨8,.data⟩ (by simp) (by decide) rfl)
     clear hE hm
     rintro w ⟨q,os,rfl⟩
     generalize b'.eval=E at *
     show Oper.quietUpon _ _ _ _ _
     rw [show Sem.run Tryz.prog (execOp E _) (grow (w1.drewN q) os)=Result.ok (Next.value (.pointer (some ⟨S,0,none⟩))) (grow (w1.drewN q) os) from by go_simp]
     exact ⟨rfl,rfl⟩
   · have ho:=(Option.some.inj ho).symm; subst ho
     refine ⟨rfl,rfl,fun c h=>(by simp at h),fun b' _ hE hm=>?_⟩
     have x9:b'.eval (.tmp 15)=.pointer (some ⟨S,0,none⟩):=Qaz (hE ⟨9,.data⟩ (by simp) (by decide) rfl)
     clear hE hm
     rintro w ⟨q,os,rfl⟩
     generalize b'.eval=E at *
     show Oper.quietUpon _ _ _ _ _
     rw [show Sem.run Tryz.prog (execOp E _) (grow (w1.drewN q) os)=Result.ok (Next.value (.map (some M))) (grow (w1.drewN q) os) from by go_simp]
     exact ⟨rfl,rfl⟩
   · have ho:=(Option.some.inj ho).symm; subst ho
     refine ⟨rfl,rfl,fun c h=>(by simp at h),fun b' _ hE hm=>?_⟩
     have y1:b'.eval (.tmp 1)=.int .i64 (b):=Qaz (hm 1 (fun j _=>by omega))
     clear hE hm
     rintro w ⟨q,os,rfl⟩
     generalize b'.eval=E at *
     show Oper.quietUpon _ _ _ _ _
     rw [show Sem.run Tryz.prog (execOp E _) (grow (w1.drewN q) os)=Result.ok (Next.value (.int .i64 (b))) (grow (w1.drewN q) os) from by go_simp]
     exact ⟨rfl,rfl⟩
   · have ho:=(Option.some.inj ho).symm; subst ho
     refine ⟨rfl,rfl,fun c h=>(by simp at h),fun b' _ hE hm=>?_⟩
     have x10:b'.eval (.tmp 16)=.map (some M):=Qaz (hE ⟨10,.data⟩ (by simp) (by decide) rfl)
     have x11:b'.eval (.tmp 17)=.int .i64 (b):=Qaz (hE ⟨11,.data⟩ (by simp) (by decide) rfl)
     clear hE hm
     rintro w ⟨q,os,rfl⟩
     generalize b'.eval=E at *
     show Oper.quietUpon _ _ _ _ _
     rw [show Sem.run Tryz.prog (execOp E _) (grow (w1.drewN q) os)=Result.ok (Next.value (.agg #[.int .i64 (m.val b 0),.int .i64 (m.val b 1),.int .i64 (m.val b 2),.int .i64 (m.val b 3)])) (grow (w1.drewN q) os) from by
       show Sem.run Tryz.prog (Instr.lookup 106 (E (.tmp 16)) (E (.tmp 17)) false >>= fun v=>pure (Next.value v)) _=_
       rw [x10,x11,Sem.run_bind,gl]
       rfl]
     exact ⟨rfl,rfl⟩
   · have ho:=(Option.some.inj ho).symm; subst ho
     refine ⟨rfl,rfl,fun c h=>(by simp at h),fun b' _ hE hm=>?_⟩
     have x12:b'.eval (.tmp 18)=.agg #[.int .i64 (m.val b 0),.int .i64 (m.val b 1),.int .i64 (m.val b 2),.int .i64 (m.val b 3)]:=Qaz (hE ⟨12,.data⟩ (by simp) (by decide) rfl)
     clear hE hm
     rintro w ⟨q,os,rfl⟩
     generalize b'.eval=E at *
     show Oper.quietUpon _ _ _ _ _
     rw [show Sem.run Tryz.prog (execOp E _) (grow (w1.drewN q) os)=Result.ok (Next.value (.int .i64 (m.val b 0))) (grow (w1.drewN q) os) from by
       show Sem.run Tryz.prog (Instr.field 45 (E (.tmp 18)) 0 >>= fun v=>pure (Next.value v)) _=_
       rw [x12]
       kernel_rfl]
     exact ⟨rfl,rfl⟩
   · have ho:=(Option.some.inj ho).symm; subst ho
     refine ⟨rfl,rfl,fun c h=>(by simp at h),fun b' _ hE hm=>?_⟩
     have x6:b'.eval (.tmp 12)=.int .i64 (m.val a 0):=Qaz (hE ⟨6,.data⟩ (by simp) (by decide) rfl)
     have x13:b'.eval (.tmp 19)=.int .i64 (m.val b 0):=Qaz (hE ⟨13,.data⟩ (by simp) (by decide) rfl)
     clear hE hm
     rintro w ⟨q,os,rfl⟩
     have z:b'.eval (.func 50)=.func (.func 50) #[] #[]:=rfl
     generalize b'.eval=E at *
     show Oper.quietUpon _ _ _ _ _
     rw [show Sem.run Tryz.prog (execOp E _) (grow (w1.drewN q) os)=Result.ok (Next.enter 50 #[.int .i64 (m.val a 0),.int .i64 (m.val b 0)]) (grow (w1.drewN q) os) from by go_simp]
     exact ⟨rfl,(Qyp (m.val a 0) (m.val b 0) _).mono fun e w' ⟨h1,h2⟩=>⟨h1,q,os,h2⟩⟩
   · have ho:=(Option.some.inj ho).symm; subst ho
     refine ⟨rfl,rfl,fun c h=>(by simp at h),fun b' _ hE hm=>?_⟩
     have y0:b'.eval (.tmp 0)=.int .i64 (a):=Qaz (hm 0 (fun j _=>by omega))
     clear hE hm
     rintro w ⟨q,os,rfl⟩
     generalize b'.eval=E at *
     show Oper.quietUpon _ _ _ _ _
     rw [show Sem.run Tryz.prog (execOp E _) (grow (w1.drewN q) os)=Result.ok (Next.value (.int .i64 (a))) (grow (w1.drewN q) os) from by go_simp]
     exact ⟨rfl,rfl⟩
   · have ho:=(Option.some.inj ho).symm; subst ho
     refine ⟨rfl,rfl,fun c h=>(by simp at h),fun b' _ hE hm=>?_⟩
     have y1:b'.eval (.tmp 1)=.int .i64 (b):=Qaz (hm 1 (fun j _=>by omega))
     clear hE hm
     rintro w ⟨q,os,rfl⟩
     generalize b'.eval=E at *
     show Oper.quietUpon _ _ _ _ _
     rw [show Sem.run Tryz.prog (execOp E _) (grow (w1.drewN q) os)=Result.ok (Next.value (.int .i64 (b))) (grow (w1.drewN q) os) from by go_simp]
     exact ⟨rfl,rfl⟩
   · have ho:=(Option.some.inj ho).symm; subst ho
     refine ⟨rfl,rfl,fun c h=>(by simp at h),fun b' _ hE hm=>?_⟩
     have x15:b'.eval (.tmp 21)=.int .i64 (a):=Qaz (hE ⟨15,.data⟩ (by simp) (by decide) rfl)
     have x16:b'.eval (.tmp 22)=.int .i64 (b):=Qaz (hE ⟨16,.data⟩ (by simp) (by decide) rfl)
     clear hE hm
     rintro w ⟨q,os,rfl⟩
     have z:b'.eval (.func 51)=.func (.func 51) #[] #[]:=rfl
     generalize b'.eval=E at *
     show Oper.quietUpon _ _ _ _ _
     rw [show Sem.run Tryz.prog (execOp E _) (grow (w1.drewN q) os)=Result.ok (Next.enter 51 #[.int .i64 (a),.int .i64 (b)]) (grow (w1.drewN q) os) from by go_simp]
     exact ⟨rfl,(Qkj a b _).mono fun e w' ⟨h1,h2⟩=>⟨h1,q,os,h2⟩⟩
 · rintro w ⟨q,os,rfl⟩ li hs hc h1 h0
   obtain ⟨Zs,hZs⟩:∃ Zs,(grow (w1.drewN q) os).heap.size=Zs:=⟨_,rfl⟩
   obtain ⟨w2,hw2⟩:∃ w2,(grow (w1.drewN q) os).alloc (.cells #[.int .i64 (Qb7 (m.val a 0) (m.val b 0)),.int .i64 (Qb7 a b)] 3)=w2:=⟨_,rfl⟩
   have c2:w2.heap[Zs]?=some (.cells #[.int .i64 (Qb7 (m.val a 0) (m.val b 0)),.int .i64 (Qb7 a b)] 3 (0,0)):=by rw [← hw2,← hZs]; exact World.alloc_heap_new _ _
   have k0:w2.cell? ⟨Zs,0,none⟩=some (.int .i64 (Qb7 (m.val a 0) (m.val b 0))):=by rw [Qch c2]; rfl
   have k1:w2.cell? ⟨Zs,0 + 1,none⟩=some (.int .i64 (Qb7 a b)):=by rw [Qch c2]; rfl
   refine Qgj (fuel:=2) (m:=18) hs hc h1 h0 (fun j o ho e he hb=>by have:=Qby (k:=0) rfl j o (by simpa using ho) e (by simpa using he) hb; omega) rfl rfl (fun i hi o ho=>by
     have hi':=(Array.getElem?_eq_some_iff.1 ho).1
     simp only [List.size_toArray,List.length_cons,List.length_nil] at hi'
     obtain rfl | rfl:i=19∨i=20:=by omega
     all_goals rfl) ?_
   intro li hs hc h1 h0
   change Oper.wpIn (WF none) 1 Tryz.prog _ {tmps:=#[.int .i64 (a),.int .i64 (b),.pointer (some ⟨X,0,none⟩),undef,undef,.int .i64 0,.pointer (some ⟨S,0,none⟩),.pointer (some ⟨S,0,none⟩),.pointer (some ⟨S,0,none⟩),.map (some M),.int .i64 (a),.agg #[.int .i64 (m.val a 0),.int .i64 (m.val a 1),.int .i64 (m.val a 2),.int .i64 (m.val a 3)],.int .i64 (m.val a 0),.pointer (some ⟨S,0,none⟩),.pointer (some ⟨S,0,none⟩),.pointer (some ⟨S,0,none⟩),.map (some M),.int .i64 (b),.agg #[.int .i64 (m.val b 0),.int .i64 (m.val b 1),.int .i64 (m.val b 2),.int .i64 (m.val b 3)],.int .i64 (m.val b 0),.int .i64 (Qb7 (m.val a 0) (m.val b 0)),.int .i64 (a),.int .i64 (b),.int .i64 (Qb7 a b),undef,undef],defers:=[]} _ _ _
   refine ⟨fun _ _=>trivial,?_⟩
   rw [show (Oper.semAt _ _ _).run Tryz.prog (grow (w1.drewN q) os)=.ok (.value (.slice (some ⟨Zs,0,none⟩) 2 2)) w2 from by
     rw [Oper.semAt_eq _ _ _ (fun c h=>(by simp at h)),← hw2,← hZs]
     go_simp]
   rw [Oper.uponIn_value]
   refine Qgj (fuel:=1) (m:=19) hs hc h1 h0 (fun j o ho e he hb=>by have:=Qby (k:=0) rfl j o (by simpa using ho) e (by simpa using he) hb; omega) rfl rfl (fun i hi o ho=>by
     have hi':=(Array.getElem?_eq_some_iff.1 ho).1
     simp only [List.size_toArray,List.length_cons,List.length_nil] at hi'
     obtain rfl:i=20:=by omega
     all_goals rfl) ?_
   intro li hs hc h1 h0
   change Oper.wpIn (WF none) 1 Tryz.prog _ {tmps:=#[.int .i64 (a),.int .i64 (b),.pointer (some ⟨X,0,none⟩),undef,undef,.int .i64 0,.pointer (some ⟨S,0,none⟩),.pointer (some ⟨S,0,none⟩),.pointer (some ⟨S,0,none⟩),.map (some M),.int .i64 (a),.agg #[.int .i64 (m.val a 0),.int .i64 (m.val a 1),.int .i64 (m.val a 2),.int .i64 (m.val a 3)],.int .i64 (m.val a 0),.pointer (some ⟨S,0,none⟩),.pointer (some ⟨S,0,none⟩),.pointer (some ⟨S,0,none⟩),.map (some M),.int .i64 (b),.agg #[.int .i64 (m.val b 0),.int .i64 (m.val b 1),.int .i64 (m.val b 2),.int .i64 (m.val b 3)],.int .i64 (m.val b 0),.int .i64 (Qb7 (m.val a 0) (m.val b 0)),.int .i64 (a),.int .i64 (b),.int .i64 (Qb7 a b),.slice (some ⟨Zs,0,none⟩) 2 2,undef],defers:=[]} _ _ _
   refine ⟨fun _ _=>trivial,?_⟩
   rw [show (Oper.semAt _ _ _).run Tryz.prog w2=.ok (.enter 49 #[.slice (some ⟨Zs,0,none⟩) 2 2]) w2 from by
     rw [Oper.semAt_eq _ _ _ (fun c h=>(by simp at h))]
     go_simp]
   rw [Oper.uponIn_enter]
   refine ⟨fun h=>(by cases h),(Qjj none 0 (Qs4 Zs 0 2 _ _ w2 k0 k1)).mono ?_⟩
   rintro e w3 ⟨rfl,rfl⟩
   refine Qgj (fuel:=0) (m:=20) hs hc h1 h0 (fun j o ho e he hb=>by have:=Qby (k:=0) rfl j o (by simpa using ho) e (by simpa using he) hb; omega) rfl rfl (fun i hi o ho=>absurd (Array.getElem?_eq_some_iff.1 ho).1 (by simp only [List.size_toArray,List.length_cons,List.length_nil]; omega)) ?_
   intro li hs hc h1 h0
   change Oper.wpIn (WF none) 1 Tryz.prog _ {tmps:=#[.int .i64 (a),.int .i64 (b),.pointer (some ⟨X,0,none⟩),undef,undef,.int .i64 0,.pointer (some ⟨S,0,none⟩),.pointer (some ⟨S,0,none⟩),.pointer (some ⟨S,0,none⟩),.map (some M),.int .i64 (a),.agg #[.int .i64 (m.val a 0),.int .i64 (m.val a 1),.int .i64 (m.val a 2),.int .i64 (m.val a 3)],.int .i64 (m.val a 0),.pointer (some ⟨S,0,none⟩),.pointer (some ⟨S,0,none⟩),.pointer (some ⟨S,0,none⟩),.map (some M),.int .i64 (b),.agg #[.int .i64 (m.val b 0),.int .i64 (m.val b 1),.int .i64 (m.val b 2),.int .i64 (m.val b 3)],.int .i64 (m.val b 0),.int .i64 (Qb7 (m.val a 0) (m.val b 0)),.int .i64 (a),.int .i64 (b),.int .i64 (Qb7 a b),.slice (some ⟨Zs,0,none⟩) 2 2,.int .i64 (orI (Qb7 (m.val a 0) (m.val b 0)) (Qb7 a b))],defers:=[]} _ _ _
   refine ⟨fun _ _=>trivial,?_⟩
   rw [show (Oper.semAt _ _ _).run Tryz.prog w3=.ok (.value (.int .i64 (orI (Qb7 (m.val a 0) (m.val b 0)) (Qb7 a b)))) w3 from by
     rw [Oper.semAt_eq _ _ _ (fun c h=>(by simp at h))]
     go_simp]
   rw [Oper.uponIn_value]
   refine Qqo hs h1 ?_
   change Exit.then _ _ Exit.normal {tmps:=#[.int .i64 (a),.int .i64 (b),.pointer (some ⟨X,0,none⟩),undef,undef,.int .i64 (orI (Qb7 (m.val a 0) (m.val b 0)) (Qb7 a b)),.pointer (some ⟨S,0,none⟩),.pointer (some ⟨S,0,none⟩),.pointer (some ⟨S,0,none⟩),.map (some M),.int .i64 (a),.agg #[.int .i64 (m.val a 0),.int .i64 (m.val a 1),.int .i64 (m.val a 2),.int .i64 (m.val a 3)],.int .i64 (m.val a 0),.pointer (some ⟨S,0,none⟩),.pointer (some ⟨S,0,none⟩),.pointer (some ⟨S,0,none⟩),.map (some M),.int .i64 (b),.agg #[.int .i64 (m.val b 0),.int .i64 (m.val b 1),.int .i64 (m.val b 2),.int .i64 (m.val b 3)],.int .i64 (m.val b 0),.int .i64 (Qb7 (m.val a 0) (m.val b 0)),.int .i64 (a),.int .i64 (b),.int .i64 (Qb7 a b),.slice (some ⟨Zs,0,none⟩) 2 2,.int .i64 (orI (Qb7 (m.val a 0) (m.val b 0)) (Qb7 a b))],defers:=[]} w3
   gi_wp2
   go_ret
   refine ⟨rfl,?_⟩
   obtain ⟨q',os',hg⟩:=hgr q os
   rw [← hw2,alloc_eq_grow,hg,grow_grow]
   exact ⟨_,_,rfl⟩
end Go.Proofs.YthkihlpeaidlnaaGreat
end
