/-
 What the proof uses, part 19.
-/
import Derived.Shelf.SlicesE.DeleteFunc
import Derived.Test.YthkihlpeaidlnaaGreatZr18
set_option maxRecDepth 100000
set_option linter.unusedSimpArgs false
set_option linter.unusedVariables false

section
set_option maxHeartbeats 4000000
namespace Go.Proofs.YthkihlpeaidlnaaGreat
open Go.RowKit Go.Shelf Go.SE Go.Sort
attribute [local go_sem] Oper.semAt_some
def DrW (w1:World) (w:World):Prop:=∃ n,w=w1.drewN n
theorem Qw5 (k:Int) {a:Int} {m:MapC} {X Y S M:Nat} {w1:World} (hX:w1.cell? ⟨X,0,none⟩=some (.pointer (some ⟨S,0,none⟩))) (hS:w1.cell? ⟨S,0,none⟩=some (.map (some M))) {es:Array MapEntry} {clock:Nat} (hM:w1.heap[M]?=some (.map es clock)) (hm:MapRep 4 m es clock) (hY:w1.cell? ⟨Y,0,none⟩=some (.int .i64 a)) :
   Calls Tryz.prog 53 #[.int .i64 k,.pointer (some ⟨X,0,none⟩),.pointer (some ⟨Y,0,none⟩)] w1 fun e w'=>e=.returned (.bool (decide (m.val k 2<a)))∧∃ q,w'=w1.drewN q:=by
 refine (callsIn_wide (n:=1)).1 ?_
 refine callsIn_of_wp Tryz.func53 rfl trivial ?_ rfl
 simp only [Tryz.ntmps53,List.size_toArray,List.length_cons,List.length_nil,Nat.reduceAdd,Nat.reduceSub,Array.replicate_succ,Array.replicate_zero,List.push_toArray,List.append_toArray,List.nil_append,List.cons_append]
 have gX:∀ q,(w1.drewN q).cell? ⟨X,0,none⟩=some (.pointer (some ⟨S,0,none⟩)):=fun q=>hX
 have gS:∀ q,(w1.drewN q).cell? ⟨S,0,none⟩=some (.map (some M)):=fun q=>hS
 have gY:∀ q,(w1.drewN q).cell? ⟨Y,0,none⟩=some (.int .i64 a):=fun q=>hY
 have gM:∀ q,(w1.drewN q).heap[M]?=some (.map es clock):=fun q=>hM
 have gl:∀ q k,(Instr.lookup 106 (.map (some M)) (.int .i64 k) false).run Tryz.prog (w1.drewN q)=.ok (.agg #[.int .i64 (m.val k 0),.int .i64 (m.val k 1),.int .i64 (m.val k 2),.int .i64 (m.val k 3)]) (w1.drewN q):=fun q k=>Qwa (el:=45) hm (by kernel_rfl) k (gM q)
 clear hX hS hM hm gM hY
 gi_wp2
 refine Qip (ro:=none) (m:=10) (C:=DrW w1) (T:=#[.int .i64 (k),.pointer (some ⟨X,0,none⟩),.pointer (some ⟨Y,0,none⟩),undef,.bool false,.pointer (some ⟨S,0,none⟩),.pointer (some ⟨S,0,none⟩),.pointer (some ⟨S,0,none⟩),.map (some M),.int .i64 (k),.agg #[.int .i64 (m.val k 0),.int .i64 (m.val k 1),.int .i64 (m.val k 2),.int .i64 (m.val k 3)],.int .i64 (m.val k 2),.pointer (some ⟨Y,0,none⟩),.int .i64 (a),.bool (decide (m.val k 2<a))]) (dst:=fun i=>i + 5) (vals:=fun i=>([.pointer (some ⟨S,0,none⟩),.pointer (some ⟨S,0,none⟩),.pointer (some ⟨S,0,none⟩),.map (some M),.int .i64 (k),.agg #[.int .i64 (m.val k 0),.int .i64 (m.val k 1),.int .i64 (m.val k 2),.int .i64 (m.val k 3)],.int .i64 (m.val k 2),.pointer (some ⟨Y,0,none⟩),.int .i64 (a),.bool (decide (m.val k 2<a))]:List Value).getD i undef) rfl (fun i j _ _ h=>by simpa using h) (fun i hi=>by simp; omega) (by simp) (fun j o ho e he hb=>by have:=Qby (k:=0) rfl j o (by simpa using ho) e (by simpa using he) hb; omega) ?_ ?_ (by kernel_rfl) ⟨1,rfl⟩ ?_
 · intro i hi o ho j hj
   have hi':=(Array.getElem?_eq_some_iff.1 ho).1
   simp only [List.size_toArray,List.length_cons,List.length_nil] at hi'
   obtain rfl:i=10:=by omega
   · exact (by decide:∀ j,j<10→Nat.testBit 1023 j=true) j hj
 · intro i hi o ho
   obtain rfl | rfl | rfl | rfl | rfl | rfl | rfl | rfl | rfl | rfl:i=0∨i=1∨i=2∨i=3∨i=4∨i=5∨i=6∨i=7∨i=8∨i=9:=by omega
   · have ho:=(Option.some.inj ho).symm; subst ho
     refine ⟨rfl,rfl,fun c h=>(by simp at h),fun b' _ hE hm=>?_⟩
     have y1:b'.eval (.tmp 1)=.pointer (some ⟨X,0,none⟩):=Qaz (hm 1 (fun j _=>by omega))
     clear hE hm
     rintro w ⟨q,rfl⟩
     generalize b'.eval=E at *
     show Oper.quietUpon _ _ _ _ _
     rw [show Sem.run Tryz.prog (execOp E _) (w1.drewN q)=Result.ok (Next.value (.pointer (some ⟨S,0,none⟩))) (w1.drewN q) from by go_simp]
     exact ⟨rfl,rfl⟩
   · have ho:=(Option.some.inj ho).symm; subst ho
     refine ⟨rfl,rfl,fun c h=>(by simp at h),fun b' _ hE hm=>?_⟩
     have x0:b'.eval (.tmp 5)=.pointer (some ⟨S,0,none⟩):=Qaz (hE ⟨0,.data⟩ (by simp) (by decide) rfl)
     clear hE hm
     rintro w ⟨q,rfl⟩
     generalize b'.eval=E at *
     show Oper.quietUpon _ _ _ _ _
     rw [show Sem.run Tryz.prog (execOp E _) (w1.drewN q)=Result.ok (Next.value (.pointer (some ⟨S,0,none⟩))) (w1.drewN q) from by go_simp]
     exact ⟨rfl,rfl⟩
   · have ho:=(Option.some.inj ho).symm; subst ho
     refine ⟨rfl,rfl,fun c h=>(by simp at h),fun b' _ hE hm=>?_⟩
     have x1:b'.eval (.tmp 6)=.pointer (some ⟨S,0,none⟩):=Qaz (hE ⟨1,.data⟩ (by simp) (by decide) rfl)
     clear hE hm
     rintro w ⟨q,rfl⟩
     generalize b'.eval=E at *
     show Oper.quietUpon _ _ _ _ _
     rw [show Sem.run Tryz.prog (execOp E _) (w1.drewN q)=Result.ok (Next.value (.pointer (some ⟨S,0,none⟩))) (w1.drewN q) from by go_simp]
     exact ⟨rfl,rfl⟩
   · have ho:=(Option.some.inj ho).symm; subst ho
     refine ⟨rfl,rfl,fun c h=>(by simp at h),fun b' _ hE hm=>?_⟩
     have x2:b'.eval (.tmp 7)=.pointer (some ⟨S,0,none⟩):=Qaz (hE ⟨2,.data⟩ (by simp) (by decide) rfl)
     clear hE hm
     rintro w ⟨q,rfl⟩
     generalize b'.eval=E at *
     show Oper.quietUpon _ _ _ _ _
     rw [show Sem.run Tryz.prog (execOp E _) (w1.drewN q)=Result.ok (Next.value (.map (some M))) (w1.drewN q) from by go_simp]
     exact ⟨rfl,rfl⟩
   · have ho:=(Option.some.inj ho).symm; subst ho
     refine ⟨rfl,rfl,fun c h=>(by simp at h),fun b' _ hE hm=>?_⟩
     have y0:b'.eval (.tmp 0)=.int .i64 (k):=Qaz (hm 0 (fun j _=>by omega))
     clear hE hm
     rintro w ⟨q,rfl⟩
     generalize b'.eval=E at *
     show Oper.quietUpon _ _ _ _ _
     rw [show Sem.run Tryz.prog (execOp E _) (w1.drewN q)=Result.ok (Next.value (.int .i64 (k))) (w1.drewN q) from by go_simp]
     exact ⟨rfl,rfl⟩
   · have ho:=(Option.some.inj ho).symm; subst ho
     refine ⟨rfl,rfl,fun c h=>(by simp at h),fun b' _ hE hm=>?_⟩
     have x3:b'.eval (.tmp 8)=.map (some M):=Qaz (hE ⟨3,.data⟩ (by simp) (by decide) rfl)
     have x4:b'.eval (.tmp 9)=.int .i64 (k):=Qaz (hE ⟨4,.data⟩ (by simp) (by decide) rfl)
     clear hE hm
     rintro w ⟨q,rfl⟩
     generalize b'.eval=E at *
     show Oper.quietUpon _ _ _ _ _
     rw [show Sem.run Tryz.prog (execOp E _) (w1.drewN q)=Result.ok (Next.value (.agg #[.int .i64 (m.val k 0),.int .i64 (m.val k 1),.int .i64 (m.val k 2),.int .i64 (m.val k 3)])) (w1.drewN q) from by
       show Sem.run Tryz.prog (Instr.lookup 106 (E (.tmp 8)) (E (.tmp 9)) false >>= fun v=>pure (Next.value v)) _=_
       rw [x3,x4,Sem.run_bind,gl]
       rfl]
     exact ⟨rfl,rfl⟩
   · have ho:=(Option.some.inj ho).symm; subst ho
     refine ⟨rfl,rfl,fun c h=>(by simp at h),fun b' _ hE hm=>?_⟩
     have x5:b'.eval (.tmp 10)=.agg #[.int .i64 (m.val k 0),.int .i64 (m.val k 1),.int .i64 (m.val k 2),.int .i64 (m.val k 3)]:=Qaz (hE ⟨5,.data⟩ (by simp) (by decide) rfl)
     clear hE hm
     rintro w ⟨q,rfl⟩
     generalize b'.eval=E at *
     show Oper.quietUpon _ _ _ _ _
     rw [show Sem.run Tryz.prog (execOp E _) (w1.drewN q)=Result.ok (Next.value (.int .i64 (m.val k 2))) (w1.drewN q) from by
       show Sem.run Tryz.prog (Instr.field 45 (E (.tmp 10)) 2 >>= fun v=>pure (Next.value v)) _=_
       rw [x5]
       kernel_rfl]
     exact ⟨rfl,rfl⟩
   · have ho:=(Option.some.inj ho).symm; subst ho
     refine ⟨rfl,rfl,fun c h=>(by simp at h),fun b' _ hE hm=>?_⟩
     have y2:b'.eval (.tmp 2)=.pointer (some ⟨Y,0,none⟩):=Qaz (hm 2 (fun j _=>by omega))
     clear hE hm
     rintro w ⟨q,rfl⟩
     generalize b'.eval=E at *
     show Oper.quietUpon _ _ _ _ _
     rw [show Sem.run Tryz.prog (execOp E _) (w1.drewN q)=Result.ok (Next.value (.pointer (some ⟨Y,0,none⟩))) (w1.drewN q) from by go_simp]
     exact ⟨rfl,rfl⟩
   · have ho:=(Option.some.inj ho).symm; subst ho
     refine ⟨rfl,rfl,fun c h=>(by simp at h),fun b' _ hE hm=>?_⟩
     have x7:b'.eval (.tmp 12)=.pointer (some ⟨Y,0,none⟩):=Qaz (hE ⟨7,.data⟩ (by simp) (by decide) rfl)
     clear hE hm
     rintro w ⟨q,rfl⟩
     generalize b'.eval=E at *
     show Oper.quietUpon _ _ _ _ _
     rw [show Sem.run Tryz.prog (execOp E _) (w1.drewN q)=Result.ok (Next.value (.int .i64 (a))) (w1.drewN q) from by go_simp]
     exact ⟨rfl,rfl⟩
   · have ho:=(Option.some.inj ho).symm; subst ho
     refine ⟨rfl,rfl,fun c h=>(by simp at h),fun b' _ hE hm=>?_⟩
     have x6:b'.eval (.tmp 11)=.int .i64 (m.val k 2):=Qaz (hE ⟨6,.data⟩ (by simp) (by decide) rfl)
     have x8:b'.eval (.tmp 13)=.int .i64 (a):=Qaz (hE ⟨8,.data⟩ (by simp) (by decide) rfl)
     clear hE hm
     rintro w ⟨q,rfl⟩
     generalize b'.eval=E at *
     show Oper.quietUpon _ _ _ _ _
     rw [show Sem.run Tryz.prog (execOp E _) (w1.drewN q)=Result.ok (Next.value (.bool (decide (m.val k 2<a)))) (w1.drewN q) from by go_simp]
     exact ⟨rfl,rfl⟩
 · rintro w ⟨q,rfl⟩ li hs hc h1 h0
   refine Qgj (fuel:=0) (m:=10) hs hc h1 h0 (fun j o ho e he hb=>by have:=Qby (k:=0) rfl j o (by simpa using ho) e (by simpa using he) hb; omega) rfl rfl (fun i hi o ho=>absurd (Array.getElem?_eq_some_iff.1 ho).1 (by simp only [List.size_toArray,List.length_cons,List.length_nil]; omega)) ?_
   intro li hs hc h1 h0
   change Oper.wpIn (WF none) 1 Tryz.prog _ {tmps:=#[.int .i64 (k),.pointer (some ⟨X,0,none⟩),.pointer (some ⟨Y,0,none⟩),undef,.bool false,.pointer (some ⟨S,0,none⟩),.pointer (some ⟨S,0,none⟩),.pointer (some ⟨S,0,none⟩),.map (some M),.int .i64 (k),.agg #[.int .i64 (m.val k 0),.int .i64 (m.val k 1),.int .i64 (m.val k 2),.int .i64 (m.val k 3)],.int .i64 (m.val k 2),.pointer (some ⟨Y,0,none⟩),.int .i64 (a),.bool (decide (m.val k 2<a))],defers:=[]} _ _ _
   refine ⟨fun _ _=>trivial,?_⟩
   rw [show (Oper.semAt _ _ _).run Tryz.prog (w1.drewN q)=.ok (.value (.bool (decide (m.val k 2<a)))) (w1.drewN q) from by
     rw [Oper.semAt_eq _ _ _ (fun c h=>(by simp at h))]
     go_simp]
   rw [Oper.uponIn_value]
   refine Qqo hs h1 ?_
   change Exit.then _ _ Exit.normal {tmps:=#[.int .i64 (k),.pointer (some ⟨X,0,none⟩),.pointer (some ⟨Y,0,none⟩),undef,.bool (decide (m.val k 2<a)),.pointer (some ⟨S,0,none⟩),.pointer (some ⟨S,0,none⟩),.pointer (some ⟨S,0,none⟩),.map (some M),.int .i64 (k),.agg #[.int .i64 (m.val k 0),.int .i64 (m.val k 1),.int .i64 (m.val k 2),.int .i64 (m.val k 3)],.int .i64 (m.val k 2),.pointer (some ⟨Y,0,none⟩),.int .i64 (a),.bool (decide (m.val k 2<a))],defers:=[]} (w1.drewN q)
   gi_wp2
   go_ret
   exact ⟨rfl,q,rfl⟩
theorem Qyj (p:Option Addr) (fv:Value) (w:World):Calls Tryz.prog 112 #[.slice p 0 0,fv] w fun e w'=>e=.returned (.int .i64 (-1))∧w'=w:=by
 refine (callsIn_wide (n:=1)).1 ?_
 refine callsIn_of_wp Tryz.func112 rfl trivial ?_ rfl
 simp only [Tryz.ntmps112,List.size_toArray,List.length_cons,List.length_nil,Nat.reduceAdd,Nat.reduceSub,Array.replicate_succ,Array.replicate_zero,List.push_toArray,List.append_toArray,List.nil_append,List.cons_append]
 gi_wp2
 gi_loopw [8] (fun i wr=>wr=w∧i=.int .i64 0) (fun i _=>0)
 case atStart=>exact ⟨rfl,rfl⟩
 case round =>
   obtain ⟨rfl,rfl⟩:=hrel
   gi_wp2
   go_ret
   exact ⟨rfl,rfl⟩
theorem Qyo (p:Option Addr) (fv:Value) (w:World):Calls Tryz.prog 52 #[.slice p 0 0,fv] w fun e w'=>e=.returned (.slice p 0 0)∧w'=w:=by
 have hcon:=fun W'=>Qyj p fv W'
 go_enter Tryz.func52,Tryz.ntmps52
 go_wp2_with (go_at_call 112; refine (hcon _).mono ?_; rintro e w' ⟨rfl,rfl⟩)
 go_ret
 exact ⟨rfl,rfl⟩
end Go.Proofs.YthkihlpeaidlnaaGreat
end
section
namespace Go.Proofs.YthkihlpeaidlnaaGreat
open Go.RowKit Go.Shelf Go.SE Go.Sort Go.Proofs
def Q7p:Go.Shelf.Ren:=⟨fun | 10=>52 | 6=>112 | n=>n,fun | 22=>23 | 23=>3 | 25=>119 | 3=>3 | 4=>4 | 0=>0 | n=>n,fun | n=>n⟩
theorem delA:Go.Proofs.SlLaysH.n10 Tryz.prog Q7p:={
 mixed:=by kernel_rfl
 f6:=⟨Tryz.f112.name,by decide,Tryz.func112.trans (congrArg some (by kernel_rfl))⟩
 f10:=⟨Tryz.f52.name,by decide,Tryz.func52.trans (congrArg some (by kernel_rfl))⟩
 t0:=Tryz.underlying0
 a0:=Tryz.isAgg0
 z0:=Tryz.sizeOf0
 v0:=Tryz.zeroValue0
 t3:=Tryz.underlying3
 a3:=Tryz.isAgg3
 z3:=Tryz.sizeOf3
 v3:=Tryz.zeroValue3
 t4:=Tryz.underlying4
 a4:=Tryz.isAgg4
 z4:=Tryz.sizeOf4
 v4:=Tryz.zeroValue4
 t22:=Tryz.underlying23
 a22:=Tryz.isAgg23
 z22:=Tryz.sizeOf23
 v22:=Tryz.zeroValue23
 a23:=Tryz.isAgg3
 z23:=Tryz.sizeOf3
 t25:=Tryz.underlying119
 a25:=Tryz.isAgg119
 z25:=Tryz.sizeOf119
 v25:=Tryz.zeroValue119}
def Qgy (a b c d a' b' c' d':Int):Bool:=decide (max a a'≤min c c')&&decide (max b b'≤min d d')
def Qvn:List SV→Option (Option Prop×SV)
 | [.agg [.v (.int .i64 a),.v (.int .i64 b),.v (.int .i64 c),.v (.int .i64 d)],.agg [.v (.int .i64 a'),.v (.int .i64 b'),.v (.int .i64 c'),.v (.int .i64 d')]]=>some (some (bxP a b c d∧bxP a' b' c' d'),.v (.bool (Qgy a b c d a' b' c' d')))
 | _=>none
noncomputable def Zkh:Qbz:=Qai Qbi 42 (Qao Qmd)
theorem Zb2 (a b c d a' b' c' d':Int) (R:SV→Prop):(Qbe Tryz.prog Zkh Qay Tryz.f17 [pS4 a b c d,pS4 a' b' c' d'] R)=((((P21 a)∧(P21 b))∧(((P21 c)∧(P21 d))∧(((a:Int)≤c)∧((b:Int)≤d))))∧((((P21 a')∧(P21 b'))∧(((P21 c')∧(P21 d'))∧(((a':Int)≤c')∧((b':Int)≤d'))))∧(sel (decide (max a a'≤min c c')) (R (yF (decide (max b b'≤min d d')))) (R (yF false))))):=by kernel_rfl
def Qdd (m:MapC) (a:Int) (k:Int):Bool:=!decide (m.val k 2<a)
def delE (I X S D B:Blk) (m:MapC) (n cap:Nat) (a:Int):Eff:=.det (some ((∀ i,i<n→Qxr (I.row i))∧I.n=n∧n<4611686018427387904∧n≤cap)) (.sl 0 1 0 ((Qbk I n).filter (Qdd m a)).length cap) [(1,X),(2,S),(3,D),(4,B),(0,Qg2 I ((Qbk I n).filter (Qdd m a)))]
def Zms (args:List SV) (bs:List Blk):Option Eff:=match args,bs with
 | [.sl 0 1 0 n cap,.fn 53 [.vp 1 0,.vp 4 0]],[I,X,S,D,B]=>match X.row 0,S.row 0,D.sp,B.row 0 with
   | [.vp 2 0],[.mp 3],some m,[.v (.int .i64 a),.v (.int .i64 _),.v (.int .i64 _),.v (.int .i64 _)]=>bif (X.whole&&Nat.beq X.size 1&&Nat.beq X.n 1&&!X.off&&X.rw)&&(S.whole&&Nat.beq S.size 1&&Nat.beq S.n 1&&!S.off&&S.rw)&&(!D.dead&&Nat.beq D.size 4&&D.rw)&&(Nat.beq I.size 1&&I.rw&&!I.off&&I.flat&&!I.whole)&&(B.whole&&Nat.beq B.size 4&&Nat.beq B.n 1&&!B.off&&B.rw) then some (delE I X S D B m n cap a) else none
   | _,_,_,_=>none
 | _,_=>none
theorem Qy5:∀ f g,Zkh f=some g→g.ok Tryz.prog f:=Qad Qam (Qas Tryz.func42 (by kernel_rfl) (by kernel_rfl) Qis)
theorem Qo5:Qaq Tryz.prog 17 Qvn:=Qax hm Qy5 Tryz.func17 (Λ:=fun _=>Qay) fun args p x h hp=>by
 unfold Qvn at h
 split at h <;> try (cases h; done)
 rename_i a b c d a' b' c' d'
 cases h
 obtain ⟨h1,h2⟩:=hp _ rfl
 refine ⟨rfl,rfl,Eq.mpr (Zb2 a b c d a' b' c' d' _) ⟨h1,h2,Qag (fun e=>?_) fun e=>?_⟩⟩
 · unfold Qgy; rw [e]; rfl
 · unfold Qgy; rw [e]; rfl
theorem Qzw {δ:Dict} {bs:List Blk} {w:World} {k:Nat} {B:Blk} {x:SV} {rest:List SV} (hr:HRep δ (Qaf bs) w) (hk:Qaf bs k=some B) (a1:B.whole=true) (a3:B.n=1) (a4:B.dead=false) (asp:B.sp=none) (hrow0:B.row 0=x :: rest) :
   ∃ p r,δ k=some p∧p.no=false∧p.o=0∧w.cell? ⟨p.r,0,none⟩=some r∧Qah δ x r∧Qc9 δ (Qaf bs) k p.r:=by
 obtain ⟨p,d1,d2⟩:=hr.blk k B hk
 have hlv:=d2 a4
 have hno:p.no=false:=by
   cases e:p.no with
   | false=>rfl
   | true=>have:=(hlv.no e).1; omega
 obtain ⟨c,el,fz,hcell,_,_,_,_,hwh,hrow⟩:=Qap asp (hlv.rep hno)
 obtain ⟨ho,_⟩:=hwh a1
 obtain ⟨_,hr0⟩:=hrow 0 (by omega)
 obtain ⟨r,hr1,hr2⟩:=hr0 0 x (by rw [hrow0]; rfl)
 rw [ho] at hr1
 exact ⟨p,r,d1,hno,ho,by rw [Qch hcell]; simpa using hr1,hr2,B,p,hk,a4,d1,hno,rfl⟩
theorem Zdu {F:List Int} {n i:Nat} (hF:F.length≤n) (hi:i<n):(F++List.replicate (n - F.length) 0)[i]?=some (F.getD i 0):=by
 rcases Nat.lt_or_ge i F.length with h | h
 · rw [List.getElem?_append_left h,List.getD_eq_getElem?_getD,List.getElem?_eq_getElem h]; rfl
 · rw [List.getElem?_append_right h,List.getElem?_replicate,if_pos (by omega),List.getD_eq_getElem?_getD,List.getElem?_eq_none h]; rfl
theorem Q81:Qbv Tryz.prog 52 Zms:=fun args bs e hs hask δ w vals ha hr ht hl=>by
 unfold Zms at hs
 split at hs <;> try (cases hs; done)
 rename_i n cap I X S D B
 split at hs <;> try (cases hs; done)
 rename_i m a b1 b2 b3 hX hS hD hB
 obtain ⟨hc,rfl⟩:=Qer hs
 simp only [Bool.and_eq_true,Bool.not_eq_true',Nat.beq_eq] at hc
 obtain ⟨⟨⟨⟨⟨⟨⟨⟨x1,x2⟩,x3⟩,x4⟩,x5⟩,⟨⟨⟨s1,s2⟩,s3⟩,s4⟩,s5⟩,⟨d1,d2⟩,d3⟩,⟨⟨⟨i1',i2⟩,i3⟩,i4⟩,i5⟩,⟨⟨⟨y1,y2⟩,y3⟩,y4⟩,y5⟩:=hc
 obtain ⟨x4,xsp⟩:=Blk.off_false x4
 obtain ⟨s4,ssp⟩:=Blk.off_false s4
 obtain ⟨i3,isp⟩:=Blk.off_false i3
 obtain ⟨y4,ysp⟩:=Blk.off_false y4
 obtain ⟨hI,hIn,hn,hcap⟩:=hask _ rfl
 match vals,ha with
 | [v0,v1],ha =>
   simp only [Qaw,and_true] at ha
   obtain ⟨ha0,ha1⟩:=ha
   simp only [Qah] at ha1
   obtain ⟨xs,rfl,hxs⟩:=ha1
   match xs,hxs with
   | [x,y],hxs =>
     simp only [Qaw,Qah,and_true] at hxs
     obtain ⟨⟨px,hpx,_,rfl⟩,py,hpy,_,rfl⟩:=hxs
     obtain ⟨px',rx,e1,_,e3,e4,e5,lx⟩:=Qlf hr (show Qaf [I,X,S,D,B] 1=some X from rfl) x1 x2 x3 x4 xsp hX
     rw [hpx] at e1; cases e1
     obtain ⟨py',ry,k1,_,k3,k4,k5,ly⟩:=Qzw hr (show Qaf [I,X,S,D,B] 4=some B from rfl) y1 y3 y4 ysp hB
     rw [hpy] at k1; cases k1
     simp only [Qah] at k5
     subst k5
     simp only [Qah] at e5
     obtain ⟨ps,hps,_,rfl⟩:=e5
     obtain ⟨ps',rs,f1,_,f3,f4,f5,ls⟩:=Qlf hr (show Qaf [I,X,S,D,B] 2=some S from rfl) s1 s2 s3 s4 ssp hS
     rw [hps] at f1; cases f1
     obtain ⟨q,es,clock,rfl,g1,g2,lm⟩:=Q90 hr (show Qaf [I,X,S,D,B] 3=some D from rfl) hD d1 d2 f5
     rw [e3,k3,show ps.o + 0=0 by omega] at *
     obtain ⟨pI,hpI,dI⟩:=hr.blk 0 I rfl
     have lI:=dI i3
     simp only [Qah] at ha0
     obtain ⟨pI',h1,hpIs,h3,hv⟩:=ha0
     rw [hpI] at h1; cases h1
     have hIn':I.n=n:=hIn
     have hlF:((Qbk I n).filter (Qdd m a)).length≤n:=Nat.le_trans (List.length_filter_le _ _) (by simp [Qbk])
     have fin:Qg0 [I,X,S,D,B] [(1,X),(2,S),(3,D),(4,B),(0,Qg2 I ((Qbk I n).filter (Qdd m a)))]=true:=by
       simp [Qg0,Qc8,Qd7,Qac,x4,x5,s4,s5,d1,d3,i2,i3,y4,y5,Qg2]
     have e0:∀ w',Upd δ (Qaf [I,X,S,D,B]) w δ [(0,Qg2 I ((Qbk I n).filter (Qdd m a)))] w'→Upd δ (Qaf [I,X,S,D,B]) w δ [(1,X),(2,S),(3,D),(4,B),(0,Qg2 I ((Qbk I n).filter (Qdd m a)))] w':=fun w' u =>
       Qd1 (Qd1 (Qd1 (Qd1 u (show Qaf [I,X,S,D,B] 4=some B from rfl)) (show Qaf [I,X,S,D,B] 3=some D from rfl)) (show Qaf [I,X,S,D,B] 2=some S from rfl)) (show Qaf [I,X,S,D,B] 1=some X from rfl)
     rcases hv with ⟨hno,c',hc',rfl⟩ | ⟨hn0,hc0,ad,rfl⟩
     · have hc':c'=cap:=hc'.resolve_right fun hx=>by rw [lI.loose hx.1] at i2; cases i2
       have lII:Qc9 δ (Qaf [I,X,S,D,B]) 0 pI.r:=⟨I,pI,rfl,i3,hpI,hno,rfl⟩
       have nX:px.r≠pI.r:=Qgr hr lII lx rfl i2 (by omega)
       have nS:ps.r≠pI.r:=Qgr hr lII ls rfl i2 (by omega)
       have nM:q≠pI.r:=Qgr hr lII lm rfl i2 (by omega)
       have nY:py.r≠pI.r:=Qgr hr lII ly rfl i2 (by omega)
       obtain ⟨c,el,fz,hcell,hth,hfl,hel,hext,hwh,hrow⟩:=Qap isp (lI.rep hno)
       rw [i1'] at hrow hext
       have hce:∀ k,k<n→c[pI.o + k]?=some (.int .i64 (i1 (I.row k))):=fun k hk=>by
         obtain ⟨_,hr0⟩:=hrow k (by omega)
         obtain ⟨r,g1,g2⟩:=hr0 0 (.v (.int .i64 (i1 (I.row k)))) (by rw [Qsc (hI k hk)]; rfl)
         rw [show pI.o + k*1 + 0=pI.o + k by omega] at g1
         simp only [Qah] at g2
         rw [g1,g2]
       have hd:(Qbk I n).toArray.size=n:=by simp [Qbk]
       have hdk:∀ k,k<n→(Qbk I n).toArray[k]! =i1 (I.row k):=fun k hk=>by
         rw [getElem!_pos _ k (by rw [hd]; exact hk)]
         simp [Qbk]
       have hH:Holds (Value.int .i64) w pI.r (pI.o + 0*1) (Qbk I n).toArray:=fun j hj=>by
         rw [hd] at hj
         have hlt:pI.o + j<c.size:=(Array.getElem?_eq_some_iff.1 (hce j hj)).1
         rw [show pI.o + 0*1 + j=pI.o + j by omega]
         exact ⟨by rw [Qch hcell,hce j hj,hdk j hj],Ql6 hcell (hth i2) hlt⟩
       have szX:px.r<w.heap.size:=Qdq hr lx
       have szS:ps.r<w.heap.size:=Qdq hr ls
       have szM:q<w.heap.size:=Qdq hr lm
       have szY:py.r<w.heap.size:=Qdq hr ly
       have hp:PredAt Tryz.prog 53 #[.pointer (some ⟨px.r,0,none⟩),.pointer (some ⟨py.r,0,none⟩)] (Value.int .i64) (fun x=>decide (m.val x 2<a)) w:=fun W x hb =>
         Qw5 x ((hb.cell (p:=⟨px.r,0,none⟩) szX).trans e4) ((hb.cell (p:=⟨ps.r,0,none⟩) szS).trans f4) ((hb.block q szM).trans g1) g2 ((hb.cell (p:=⟨py.r,0,none⟩) szY).trans k4)
       have hpo:PredOver Tryz.prog 53 #[.pointer (some ⟨px.r,0,none⟩),.pointer (some ⟨py.r,0,none⟩)] (Value.int .i64) (fun x=>decide (m.val x 2<a)) pI.r (pI.o + 0*1) (Qbk I n).toArray.size w:=fun mm os dk x hdk=>by
         have cc:∀ k,k<w.heap.size→k≠pI.r→(sortWorld (Value.int .i64) w pI.r (pI.o + 0*1) mm dk os).cell? ⟨k,0,none⟩=w.cell? ⟨k,0,none⟩:=fun k hk hne=>by
           simp only [World.cell?,Qgc (Value.int .i64) hk hne]
         exact Qw5 x (by rw [cc _ szX nX]; exact e4) (by rw [cc _ szS nS]; exact f4) ((Qgc (Value.int .i64) szM nM).trans g1) g2 (by rw [cc _ szY nY]; exact k4)
       have hcon:=AnyE.slices_DeleteFunc delA (Value.int .i64) (fun _=>rfl) (fun x=>decide (m.val x 2<a)) 53 #[.pointer (some ⟨px.r,0,none⟩),.pointer (some ⟨py.r,0,none⟩)] (enters_of Tryz.func53 (by kernel_rfl) rfl) 0 Tryz.zeroValue3 pI.r (pI.o + 0*1) c' (Qbk I n).toArray w hp hpo hH (by rw [hd]; omega) (by rw [hd,hc']; exact hcap)
       rw [hd] at hcon
       change Calls Tryz.prog 52 _ _ _ at hcon
       refine hcon.mono fun ed w' ⟨h1,nn,h2⟩=>?_
       obtain ⟨F,hF⟩:∃ F,(Qbk I n).filter (Qdd m a)=F:=⟨_,rfl⟩
       have h1:ed=.returned (.slice (some ⟨pI.r,pI.o + 0*1,none⟩) F.length c'):=by rw [← hF]; exact h1
       have h2:w'=sortWorld (Value.int .i64) w pI.r (pI.o + 0*1) nn (F++List.replicate (n - F.length) 0).toArray #[]:=by
         rw [← hF]
         unfold sortWorld
         rw [grow_empty]
         exact h2
       rw [hF] at hlF fin e0
       subst h2
       have hln:(F++List.replicate (n - F.length) 0).toArray.size=n:=by simp; omega
       have hsz:∀ d:Array Int,(putCells (Value.int .i64) (pI.o + 0*1) d c).size=c.size:=fun d=>by simp [putCells]
       refine ⟨_,.sl 0 1 0 F.length cap,[(1,X),(2,S),(3,D),(4,B),(0,Qg2 I F)],δ,h1,⟨by rw [hF],by rw [hF]⟩,fin,?_,e0 _ ?_⟩
       · simp only [Qah]
         exact ⟨pI,hpI,hpIs,by omega,.inl ⟨hno,c',.inl hc',rfl⟩⟩
       refine Qec hr (show Qaf [I,X,S,D,B] 0=some I from rfl) i2 i3 hpI hno (fun _=>Live.mk lI.s lI.n lI.no (fun _=>Qbt isp ⟨_,el,fz,Qtp (Value.int .i64) hcell,fun h=>?_,fun _ i _=>rfl,hel,?_,fun h=>?_,fun i hi=>⟨i1'.symm,fun j x hx=>?_⟩⟩) lI.loose) rfl rfl rfl (Qto _) (fun r hne hlt=>Qgc (Value.int .i64) hlt hne)
       · rw [hsz]; exact hth h
       · rw [hsz]
         show pI.o + I.ext*I.size≤_
         rw [i1']; exact hext
       · rw [show (Qg2 I F).whole=I.whole from rfl,i5] at h; cases h
       · have hi:i<I.n:=hi
         have hin:i<n:=by omega
         match j,hx with
         | 0,hx =>
           have hx:some (SV.v (.int .i64 (F.getD i 0)))=some x:=hx
           cases hx
           refine ⟨_,?_,rfl⟩
           have hlt:pI.o + i<c.size:=(Array.getElem?_eq_some_iff.1 (hce i hin)).1
           show (putCells _ _ _ _)[pI.o + i*I.size + 0]?=_
           rw [i1',show pI.o + i*1 + 0=(pI.o + 0*1) + i by omega,Qt5 (Value.int .i64) (by rw [hln]; omega) (by omega),getElem!_pos _ i (by rw [hln]; omega)]
           congr 2
           have:=Zdu hlF hin
           simp only [List.getElem_toArray]
           exact Option.some.inj ((List.getElem?_eq_getElem _).symm.trans this)
         | j + 1,hx=>simp [Qg2] at hx
     · subst hn0
       have hcon:=Qyo ad (.func (.func 53) #[] #[.pointer (some ⟨px.r,0,none⟩),.pointer (some ⟨py.r,0,none⟩)]) w
       refine hcon.mono fun ed w' ⟨h1,h2⟩=>?_
       subst h2
       refine ⟨_,_,_,δ,h1,⟨rfl,rfl⟩,fin,?_,e0 _ ?_⟩
       · simp only [Qah]
         exact ⟨pI,hpI,hpIs,h3,.inr ⟨rfl,hc0,ad,rfl⟩⟩
       have lv:Live δ (Qg2 I ((Qbk I 0).filter (Qdd m a))) w' pI:=Live.mk lI.s lI.n lI.no (fun hno=>by
         obtain ⟨c,el,fz,hcell,hth,hfl,hel,hext,hwh,hrow⟩:=Qap isp (lI.rep hno)
         exact Qbt isp ⟨c,el,fz,hcell,hth,fun _ i _=>rfl,hel,hext,hwh,fun i hi=>absurd hi (by show ¬ i<I.n; omega)⟩) lI.loose
       cases hno:pI.no with
       | true=>exact Qrh hr (show Qaf [I,X,S,D,B] 0=some I from rfl) hpI hno lv
       | false=>exact Qec hr (show Qaf [I,X,S,D,B] 0=some I from rfl) i2 i3 hpI hno (fun _=>lv) rfl rfl rfl (Nat.le_refl _) (fun _ _ _=>rfl)
end Go.Proofs.YthkihlpeaidlnaaGreat
end
section
namespace Go.Proofs.YthkihlpeaidlnaaGreat
open Go.RowKit Go.SE
def xB (k:Nat):Blk:=Qct 24 [.vp k 0]
def sB (k:Nat):Blk:=Qct 108 [.mp k]
def Zix (m:MapC):Prop:=∀ k,m.has k=true→bxP (m.val k 0) (m.val k 1) (m.val k 2) (m.val k 3)
def Qgx (m:MapC) (i k:Int):Bool:=Qgy (m.val i 0) (m.val i 1) (m.val i 2) (m.val i 3) (m.val k 0) (m.val k 1) (m.val k 2) (m.val k 3)
def Qbf (m:MapC) (l:List Int):Nat→List Int
 | 0=>[]
 | k + 1=>(Qbf m l k).filter (Qdd m (m.val (l.getD k 0) 0))++[l.getD k 0]
def Qa5 (m:MapC) (l:List Int) (k:Nat):List Int:=(Qbf m l k).filter (Qdd m (m.val (l.getD k 0) 0))
def Qeb (m:MapC) (id:Int) (L:List Int) (j:Nat):List (Int×Int):=((L.take j).filter fun k=>Qgx m k id).map fun k=>(min id k,max id k)
def Qcc (m:MapC) (l:List Int):Nat→List (Int×Int)
 | 0=>[]
 | k + 1=>Qcc m l k++Qeb m (l.getD k 0) (Qa5 m l k) (Qa5 m l k).length
def Qa9 (m:MapC):List (Int×Int):=Qs9 (Qcc m (Qd9 m (Qak m)) (Qak m).length)
def inC (n c:Nat) (l:List Int):Blk:={elem:=3,size:=1,rw:=true,lock:=false,lit:=false,flat:=true,n,row:=fun i=>[.v (.int .i64 (l.getD i 0))],ext:=c}
def ouC (n c:Nat) (l:List (Int×Int)):Blk:={elem:=56,size:=2,rw:=true,lock:=false,lit:=false,flat:=true,n,row:=fun i=>Q1t (l.getD i (0,0)),ext:=c}
noncomputable def Zla:Qbz:=Qai (Qai (Qai (Qai (Qai Qbi 46 (Qcz true Zmn)) 47 (Qse Zmc)) 52 (Qse Zms)) 17 (Qao Qvn)) 54 (Qse Zmb)
structure PrX where
 k:Nat
 c:Nat
 d:Nat
structure PrY where
 k:Nat
 j:Nat
 d:Nat
def Qlw (Λ:Nat→Option LoopSpec) (fn:Func) (id:Nat) (X:Type) (inv:X→Prop) (rel:St→X→Prop) (mu:X→Nat) (slots:List (Nat×(X→SV))) (blks:List (Nat×(X→Blk))) (news:List (Nat×(X→Blk)×(St→SV))):Nat→Option LoopSpec:=fun i =>
 bif Nat.beq i id then some {X,inv,mu,slots,blks,news,dead:=Qwr fn id (slots.map (·.1)),rel:=some rel} else Λ i
noncomputable def Zk1 (m:MapC) (l:List Int) (n:Nat):Nat→Option LoopSpec :=
 Qlw (Qlx Qay Tryz.f16 0 PrX (fun x=>x.k≤n∧(Qbf m l x.k).length≤x.c∧(Qcc m l x.k).length≤x.d) (fun x=>n - x.k)
     [(18,fun x=>.v (.int .i64 (x.k:Nat))),(5,fun x=>.sl 40 1 0 (Qbf m l x.k).length x.c),(4,fun x=>.sl 41 2 0 (Qcc m l x.k).length x.d)] [(64,fun _=>xB 0),(0,fun _=>sB 1),(1,fun _=>mpB m)]
     [(40,fun x=>inC (Qbf m l x.k).length x.c (Qbf m l x.k),Qic 5),(41,fun x=>ouC (Qcc m l x.k).length x.d (Qcc m l x.k),Qic 4)])
   Tryz.f16 2 PrY (fun y=>y.j≤(Qa5 m l y.k).length∧(Qcc m l y.k++Qeb m (l.getD y.k 0) (Qa5 m l y.k) y.j).length≤y.d) (fun s y=>Qic 18 s=.v (.int .i64 (y.k:Nat))) (fun y=>(Qa5 m l y.k).length - y.j)
     [(33,fun y=>.v (.int .i64 (y.j:Nat))),(4,fun y=>.sl 42 2 0 (Qcc m l y.k++Qeb m (l.getD y.k 0) (Qa5 m l y.k) y.j).length y.d)] []
     [(42,fun y=>ouC (Qcc m l y.k++Qeb m (l.getD y.k 0) (Qa5 m l y.k) y.j).length y.d (Qcc m l y.k++Qeb m (l.getD y.k 0) (Qa5 m l y.k) y.j),Qic 4)]
def prE (q:Prop) (m:MapC):Eff:=.nd q Nat 0 (fun c=>.sl 1000 2 0 (Qa9 m).length ((Qa9 m).length + c)) fun c=>[(0,sB 1),(1,mpB m),(1000,ouC (Qa9 m).length ((Qa9 m).length + c) (Qa9 m))]
@[reducible] noncomputable def Qix (m:MapC):=(((1:Nat)=1)∧(((1:Nat)≤1)∧((((MapC.cnt m):Nat)=(MapC.cnt m))∧((∀ k:Int,(MapC.has m k=MapC.has m k))∧(∀ k:Int,(∀ i:Nat,(((i:Nat)<4)→(((MapC.val m k i):Int)=(MapC.val m k i)))))))))
theorem Zbv (m:MapC) (l:List Int) (n:Nat) (q:Prop):(Qcf Tryz.prog Zla (Zk1 m l n) Tryz.f16 [.vp 0 0] (Qaf [sB 1,mpB m]) 64 (fun y h'=>Qgb [sB 1,mpB m] (prE q m) y h')) =
((Quo m)∧(∀ c:Nat,(((∀ i:Nat,(((i:Nat)<(List.length (Qak m)))→(Qxr [yI (List.getD (Qak m) i 0)])))∧((((List.length (Qak m)):Nat)=(List.length (Qak m)))∧(((List.length (Qak m)):Nat)<4611686018427387904)))∧((∃ x:PrX,(((((PrX.k x):Nat)≤n)∧((((List.length (Qbf m l (PrX.k x))):Nat)≤(PrX.c x))∧(((List.length (Qcc m l (PrX.k x))):Nat)≤(PrX.d x))))∧((((yI 0)=(yI ((↑(PrX.k x):Int))))∧((((SV.v (Value.slice none 0 0))=(SV.v (Value.slice none 0 0)))∧(((0:Nat)=0)∧((((List.length (Qbf m l (PrX.k x))):Nat)=0)∧(((PrX.c x):Nat)=0))))∧(((SV.v (Value.slice none 0 0))=(SV.v (Value.slice none 0 0)))∧(((0:Nat)=0)∧((((List.length (Qcc m l (PrX.k x))):Nat)=0)∧(((PrX.d x):Nat)=0))))))∧((((1:Nat)=1)∧(((1:Nat)≤1)∧((SV.vp 0 0)=(SV.vp 0 0))))∧((((1:Nat)=1)∧(((1:Nat)≤1)∧((SV.mp 1)=(SV.mp 1))))∧((Qix m)∧(((((List.length (Qbf m l (PrX.k x))):Nat)=0)∧((((PrX.c x):Nat)=0)∧True))∧(((((List.length (Qcc m l (PrX.k x))):Nat)=0)∧((((PrX.d x):Nat)=0)∧True))∧True))))))))∧(∀ x:PrX,(((((PrX.k x):Nat)≤n)∧((((List.length (Qbf m l (PrX.k x))):Nat)≤(PrX.c x))∧(((List.length (Qcc m l (PrX.k x))):Nat)≤(PrX.d x))))→(sel (decide ((↑(PrX.k x):Int)<(↑(List.length (Qak m)):Int))) ((((0:Int)≤((↑(PrX.k x):Int)))∧((((↑(PrX.k x):Int)):Int)<((↑(List.length (Qak m)):Int))))∧(((∀ i:Nat,(((i:Nat)<(List.length (Qbf m l (PrX.k x))))→(Qxr [yI (List.getD (Qbf m l (PrX.k x)) i 0)])))∧((((List.length (Qbf m l (PrX.k x))):Nat)=(List.length (Qbf m l (PrX.k x))))∧((((List.length (Qbf m l (PrX.k x))):Nat)<4611686018427387904)∧(((List.length (Qbf m l (PrX.k x))):Nat)≤(PrX.c x)))))∧((∃ x_1:PrY,((((((PrY.j x_1):Nat)≤(List.length (Qa5 m l (PrY.k x_1))))∧(((List.length (Qcc m l (PrY.k x_1)++Qeb m (List.getD l (PrY.k x_1) 0) (Qa5 m l (PrY.k x_1)) (PrY.j x_1))):Nat)≤(PrY.d x_1)))∧((yI ((↑(PrX.k x):Int)))=(yI ((↑(PrY.k x_1):Int)))))∧((((yI 0)=(yI ((↑(PrY.j x_1):Int))))∧((SV.sl 41 2 0 (List.length (Qcc m l (PrX.k x))) (PrX.d x))=(SV.sl 41 2 0 (List.length (Qcc m l (PrY.k x_1)++Qeb m (List.getD l (PrY.k x_1) 0) (Qa5 m l (PrY.k x_1)) (PrY.j x_1))) (PrY.d x_1))))∧((((List.length (Qcc m l (PrX.k x))):Nat)=(List.length (Qcc m l (PrY.k x_1)++Qeb m (List.getD l (PrY.k x_1) 0) (Qa5 m l (PrY.k x_1)) (PrY.j x_1))))∧((((PrY.d x_1):Nat)≤(PrX.d x))∧(∀ i:Nat,(((i:Nat)<(List.length (Qcc m l (PrY.k x_1)++Qeb m (List.getD l (PrY.k x_1) 0) (Qa5 m l (PrY.k x_1)) (PrY.j x_1))))→([(yI (Prod.fst (List.getD (Qcc m l (PrX.k x)) i (0,0)))),(yI (Prod.snd (List.getD (Qcc m l (PrX.k x)) i (0,0))))]=[(yI (Prod.fst (List.getD (Qcc m l (PrY.k x_1)++Qeb m (List.getD l (PrY.k x_1) 0) (Qa5 m l (PrY.k x_1)) (PrY.j x_1)) i (0,0)))),(yI (Prod.snd (List.getD (Qcc m l (PrY.k x_1)++Qeb m (List.getD l (PrY.k x_1) 0) (Qa5 m l (PrY.k x_1)) (PrY.j x_1)) i (0,0))))]))))))))∧(∀ x_1:PrY,((((((PrY.j x_1):Nat)≤(List.length (Qa5 m l (PrY.k x_1))))∧(((List.length (Qcc m l (PrY.k x_1)++Qeb m (List.getD l (PrY.k x_1) 0) (Qa5 m l (PrY.k x_1)) (PrY.j x_1))):Nat)≤(PrY.d x_1)))∧((yI ((↑(PrX.k x):Int)))=(yI ((↑(PrY.k x_1):Int)))))→(sel (decide ((↑(PrY.j x_1):Int)<(↑(List.length (List.filter (Qdd m (MapC.val m (List.getD (Qd9 m (Qbk {elem:=3,size:=1,rw:=true,lock:=false,lit:=false,flat:=true,n:=List.length (Qak m),row:=fun i=>[yI (List.getD (Qak m) i 0)],ext:=List.length (Qak m) + c} (List.length (Qak m)))) (0 + Int.toNat (↑(PrX.k x):Int)) 0) 0)) (Qbk {elem:=3,size:=1,rw:=true,lock:=false,lit:=false,flat:=true,n:=List.length (Qbf m l (PrX.k x)),row:=fun i=>[yI (List.getD (Qbf m l (PrX.k x)) i 0)],ext:=PrX.c x} (List.length (Qbf m l (PrX.k x)))))):Int))) ((((0:Int)≤((↑(PrY.j x_1):Int)))∧((((↑(PrY.j x_1):Int)):Int)<((↑(List.length (List.filter (Qdd m (MapC.val m (List.getD (Qd9 m (Qbk {elem:=3,size:=1,rw:=true,lock:=false,lit:=false,flat:=true,n:=List.length (Qak m),row:=fun i=>[yI (List.getD (Qak m) i 0)],ext:=List.length (Qak m) + c} (List.length (Qak m)))) (0 + Int.toNat (↑(PrX.k x):Int)) 0) 0)) (Qbk {elem:=3,size:=1,rw:=true,lock:=false,lit:=false,flat:=true,n:=List.length (Qbf m l (PrX.k x)),row:=fun i=>[yI (List.getD (Qbf m l (PrX.k x)) i 0)],ext:=PrX.c x} (List.length (Qbf m l (PrX.k x)))))):Int))))∧(((bxP (MapC.val m (List.getD (List.filter (Qdd m (MapC.val m (List.getD (Qd9 m (Qbk {elem:=3,size:=1,rw:=true,lock:=false,lit:=false,flat:=true,n:=List.length (Qak m),row:=fun i=>[yI (List.getD (Qak m) i 0)],ext:=List.length (Qak m) + c} (List.length (Qak m)))) (0 + Int.toNat (↑(PrX.k x):Int)) 0) 0)) (Qbk {elem:=3,size:=1,rw:=true,lock:=false,lit:=false,flat:=true,n:=List.length (Qbf m l (PrX.k x)),row:=fun i=>[yI (List.getD (Qbf m l (PrX.k x)) i 0)],ext:=PrX.c x} (List.length (Qbf m l (PrX.k x))))) (0 + Int.toNat (↑(PrY.j x_1):Int)) 0) 0) (MapC.val m (List.getD (List.filter (Qdd m (MapC.val m (List.getD (Qd9 m (Qbk {elem:=3,size:=1,rw:=true,lock:=false,lit:=false,flat:=true,n:=List.length (Qak m),row:=fun i=>[yI (List.getD (Qak m) i 0)],ext:=List.length (Qak m) + c} (List.length (Qak m)))) (0 + Int.toNat (↑(PrX.k x):Int)) 0) 0)) (Qbk {elem:=3,size:=1,rw:=true,lock:=false,lit:=false,flat:=true,n:=List.length (Qbf m l (PrX.k x)),row:=fun i=>[yI (List.getD (Qbf m l (PrX.k x)) i 0)],ext:=PrX.c x} (List.length (Qbf m l (PrX.k x))))) (0 + Int.toNat (↑(PrY.j x_1):Int)) 0) 1) (MapC.val m (List.getD (List.filter (Qdd m (MapC.val m (List.getD (Qd9 m (Qbk {elem:=3,size:=1,rw:=true,lock:=false,lit:=false,flat:=true,n:=List.length (Qak m),row:=fun i=>[yI (List.getD (Qak m) i 0)],ext:=List.length (Qak m) + c} (List.length (Qak m)))) (0 + Int.toNat (↑(PrX.k x):Int)) 0) 0)) (Qbk {elem:=3,size:=1,rw:=true,lock:=false,lit:=false,flat:=true,n:=List.length (Qbf m l (PrX.k x)),row:=fun i=>[yI (List.getD (Qbf m l (PrX.k x)) i 0)],ext:=PrX.c x} (List.length (Qbf m l (PrX.k x))))) (0 + Int.toNat (↑(PrY.j x_1):Int)) 0) 2) (MapC.val m (List.getD (List.filter (Qdd m (MapC.val m (List.getD (Qd9 m (Qbk {elem:=3,size:=1,rw:=true,lock:=false,lit:=false,flat:=true,n:=List.length (Qak m),row:=fun i=>[yI (List.getD (Qak m) i 0)],ext:=List.length (Qak m) + c} (List.length (Qak m)))) (0 + Int.toNat (↑(PrX.k x):Int)) 0) 0)) (Qbk {elem:=3,size:=1,rw:=true,lock:=false,lit:=false,flat:=true,n:=List.length (Qbf m l (PrX.k x)),row:=fun i=>[yI (List.getD (Qbf m l (PrX.k x)) i 0)],ext:=PrX.c x} (List.length (Qbf m l (PrX.k x))))) (0 + Int.toNat (↑(PrY.j x_1):Int)) 0) 3))∧(bxP (MapC.val m (List.getD (Qd9 m (Qbk {elem:=3,size:=1,rw:=true,lock:=false,lit:=false,flat:=true,n:=List.length (Qak m),row:=fun i=>[yI (List.getD (Qak m) i 0)],ext:=List.length (Qak m) + c} (List.length (Qak m)))) (0 + Int.toNat (↑(PrX.k x):Int)) 0) 0) (MapC.val m (List.getD (Qd9 m (Qbk {elem:=3,size:=1,rw:=true,lock:=false,lit:=false,flat:=true,n:=List.length (Qak m),row:=fun i=>[yI (List.getD (Qak m) i 0)],ext:=List.length (Qak m) + c} (List.length (Qak m)))) (0 + Int.toNat (↑(PrX.k x):Int)) 0) 1) (MapC.val m (List.getD (Qd9 m (Qbk {elem:=3,size:=1,rw:=true,lock:=false,lit:=false,flat:=true,n:=List.length (Qak m),row:=fun i=>[yI (List.getD (Qak m) i 0)],ext:=List.length (Qak m) + c} (List.length (Qak m)))) (0 + Int.toNat (↑(PrX.k x):Int)) 0) 2) (MapC.val m (List.getD (Qd9 m (Qbk {elem:=3,size:=1,rw:=true,lock:=false,lit:=false,flat:=true,n:=List.length (Qak m),row:=fun i=>[yI (List.getD (Qak m) i 0)],ext:=List.length (Qak m) + c} (List.length (Qak m)))) (0 + Int.toNat (↑(PrX.k x):Int)) 0) 3)))∧(sel (Qgy (MapC.val m (List.getD (List.filter (Qdd m (MapC.val m (List.getD (Qd9 m (Qbk {elem:=3,size:=1,rw:=true,lock:=false,lit:=false,flat:=true,n:=List.length (Qak m),row:=fun i=>[yI (List.getD (Qak m) i 0)],ext:=List.length (Qak m) + c} (List.length (Qak m)))) (0 + Int.toNat (↑(PrX.k x):Int)) 0) 0)) (Qbk {elem:=3,size:=1,rw:=true,lock:=false,lit:=false,flat:=true,n:=List.length (Qbf m l (PrX.k x)),row:=fun i=>[yI (List.getD (Qbf m l (PrX.k x)) i 0)],ext:=PrX.c x} (List.length (Qbf m l (PrX.k x))))) (0 + Int.toNat (↑(PrY.j x_1):Int)) 0) 0) (MapC.val m (List.getD (List.filter (Qdd m (MapC.val m (List.getD (Qd9 m (Qbk {elem:=3,size:=1,rw:=true,lock:=false,lit:=false,flat:=true,n:=List.length (Qak m),row:=fun i=>[yI (List.getD (Qak m) i 0)],ext:=List.length (Qak m) + c} (List.length (Qak m)))) (0 + Int.toNat (↑(PrX.k x):Int)) 0) 0)) (Qbk {elem:=3,size:=1,rw:=true,lock:=false,lit:=false,flat:=true,n:=List.length (Qbf m l (PrX.k x)),row:=fun i=>[yI (List.getD (Qbf m l (PrX.k x)) i 0)],ext:=PrX.c x} (List.length (Qbf m l (PrX.k x))))) (0 + Int.toNat (↑(PrY.j x_1):Int)) 0) 1) (MapC.val m (List.getD (List.filter (Qdd m (MapC.val m (List.getD (Qd9 m (Qbk {elem:=3,size:=1,rw:=true,lock:=false,lit:=false,flat:=true,n:=List.length (Qak m),row:=fun i=>[yI (List.getD (Qak m) i 0)],ext:=List.length (Qak m) + c} (List.length (Qak m)))) (0 + Int.toNat (↑(PrX.k x):Int)) 0) 0)) (Qbk {elem:=3,size:=1,rw:=true,lock:=false,lit:=false,flat:=true,n:=List.length (Qbf m l (PrX.k x)),row:=fun i=>[yI (List.getD (Qbf m l (PrX.k x)) i 0)],ext:=PrX.c x} (List.length (Qbf m l (PrX.k x))))) (0 + Int.toNat (↑(PrY.j x_1):Int)) 0) 2) (MapC.val m (List.getD (List.filter (Qdd m (MapC.val m (List.getD (Qd9 m (Qbk {elem:=3,size:=1,rw:=true,lock:=false,lit:=false,flat:=true,n:=List.length (Qak m),row:=fun i=>[yI (List.getD (Qak m) i 0)],ext:=List.length (Qak m) + c} (List.length (Qak m)))) (0 + Int.toNat (↑(PrX.k x):Int)) 0) 0)) (Qbk {elem:=3,size:=1,rw:=true,lock:=false,lit:=false,flat:=true,n:=List.length (Qbf m l (PrX.k x)),row:=fun i=>[yI (List.getD (Qbf m l (PrX.k x)) i 0)],ext:=PrX.c x} (List.length (Qbf m l (PrX.k x))))) (0 + Int.toNat (↑(PrY.j x_1):Int)) 0) 3) (MapC.val m (List.getD (Qd9 m (Qbk {elem:=3,size:=1,rw:=true,lock:=false,lit:=false,flat:=true,n:=List.length (Qak m),row:=fun i=>[yI (List.getD (Qak m) i 0)],ext:=List.length (Qak m) + c} (List.length (Qak m)))) (0 + Int.toNat (↑(PrX.k x):Int)) 0) 0) (MapC.val m (List.getD (Qd9 m (Qbk {elem:=3,size:=1,rw:=true,lock:=false,lit:=false,flat:=true,n:=List.length (Qak m),row:=fun i=>[yI (List.getD (Qak m) i 0)],ext:=List.length (Qak m) + c} (List.length (Qak m)))) (0 + Int.toNat (↑(PrX.k x):Int)) 0) 1) (MapC.val m (List.getD (Qd9 m (Qbk {elem:=3,size:=1,rw:=true,lock:=false,lit:=false,flat:=true,n:=List.length (Qak m),row:=fun i=>[yI (List.getD (Qak m) i 0)],ext:=List.length (Qak m) + c} (List.length (Qak m)))) (0 + Int.toNat (↑(PrX.k x):Int)) 0) 2) (MapC.val m (List.getD (Qd9 m (Qbk {elem:=3,size:=1,rw:=true,lock:=false,lit:=false,flat:=true,n:=List.length (Qak m),row:=fun i=>[yI (List.getD (Qak m) i 0)],ext:=List.length (Qak m) + c} (List.length (Qak m)))) (0 + Int.toNat (↑(PrX.k x):Int)) 0) 3)) ((((((List.length (Qcc m l (PrY.k x_1)++Qeb m (List.getD l (PrY.k x_1) 0) (Qa5 m l (PrY.k x_1)) (PrY.j x_1)) + 1)*16):Nat)≤140737488355328)∧((((0 + PrY.d x_1):Nat)≤(PrY.d x_1))∧(∀ y:Nat,(((y:Nat)<1)→True))))∧(∀ c_1:Nat,(∃ x':PrY,(((((((PrY.j x'):Nat)≤(List.length (Qa5 m l (PrY.k x'))))∧(((List.length (Qcc m l (PrY.k x')++Qeb m (List.getD l (PrY.k x') 0) (Qa5 m l (PrY.k x')) (PrY.j x'))):Nat)≤(PrY.d x')))∧((yI ((↑(PrX.k x):Int)))=(yI ((↑(PrY.k x'):Int)))))∧((((yI (IntKind.wrap IntKind.i64 ((↑(PrY.j x_1):Int) + 1)))=(yI ((↑(PrY.j x'):Int))))∧((SV.sl 488 2 0 (List.length (Qcc m l (PrY.k x_1)++Qeb m (List.getD l (PrY.k x_1) 0) (Qa5 m l (PrY.k x_1)) (PrY.j x_1)) + 1) (List.length (Qcc m l (PrY.k x_1)++Qeb m (List.getD l (PrY.k x_1) 0) (Qa5 m l (PrY.k x_1)) (PrY.j x_1)) + 1 + c_1))=(SV.sl 488 2 0 (List.length (Qcc m l (PrY.k x')++Qeb m (List.getD l (PrY.k x') 0) (Qa5 m l (PrY.k x')) (PrY.j x'))) (PrY.d x'))))∧((((List.length (Qcc m l (PrY.k x_1)++Qeb m (List.getD l (PrY.k x_1) 0) (Qa5 m l (PrY.k x_1)) (PrY.j x_1)) + 1):Nat)=(List.length (Qcc m l (PrY.k x')++Qeb m (List.getD l (PrY.k x') 0) (Qa5 m l (PrY.k x')) (PrY.j x'))))∧((((PrY.d x'):Nat)≤(List.length (Qcc m l (PrY.k x_1)++Qeb m (List.getD l (PrY.k x_1) 0) (Qa5 m l (PrY.k x_1)) (PrY.j x_1)) + 1 + c_1))∧(∀ i:Nat,(((i:Nat)<(List.length (Qcc m l (PrY.k x')++Qeb m (List.getD l (PrY.k x') 0) (Qa5 m l (PrY.k x')) (PrY.j x'))))→([(yI (bop (Nat.blt i (List.length (Qcc m l (PrY.k x_1)++Qeb m (List.getD l (PrY.k x_1) 0) (Qa5 m l (PrY.k x_1)) (PrY.j x_1)))) (Prod.fst (List.getD (Qcc m l (PrY.k x_1)++Qeb m (List.getD l (PrY.k x_1) 0) (Qa5 m l (PrY.k x_1)) (PrY.j x_1)) (0 + i) (0,0))) (min (List.getD (Qd9 m (Qbk {elem:=3,size:=1,rw:=true,lock:=false,lit:=false,flat:=true,n:=List.length (Qak m),row:=fun i=>[yI (List.getD (Qak m) i 0)],ext:=List.length (Qak m) + c} (List.length (Qak m)))) (0 + Int.toNat (↑(PrX.k x):Int)) 0) (List.getD (List.filter (Qdd m (MapC.val m (List.getD (Qd9 m (Qbk {elem:=3,size:=1,rw:=true,lock:=false,lit:=false,flat:=true,n:=List.length (Qak m),row:=fun i=>[yI (List.getD (Qak m) i 0)],ext:=List.length (Qak m) + c} (List.length (Qak m)))) (0 + Int.toNat (↑(PrX.k x):Int)) 0) 0)) (Qbk {elem:=3,size:=1,rw:=true,lock:=false,lit:=false,flat:=true,n:=List.length (Qbf m l (PrX.k x)),row:=fun i=>[yI (List.getD (Qbf m l (PrX.k x)) i 0)],ext:=PrX.c x} (List.length (Qbf m l (PrX.k x))))) (0 + Int.toNat (↑(PrY.j x_1):Int)) 0)))),(yI (bop (Nat.blt i (List.length (Qcc m l (PrY.k x_1)++Qeb m (List.getD l (PrY.k x_1) 0) (Qa5 m l (PrY.k x_1)) (PrY.j x_1)))) (Prod.snd (List.getD (Qcc m l (PrY.k x_1)++Qeb m (List.getD l (PrY.k x_1) 0) (Qa5 m l (PrY.k x_1)) (PrY.j x_1)) (0 + i) (0,0))) (max (List.getD (Qd9 m (Qbk {elem:=3,size:=1,rw:=true,lock:=false,lit:=false,flat:=true,n:=List.length (Qak m),row:=fun i=>[yI (List.getD (Qak m) i 0)],ext:=List.length (Qak m) + c} (List.length (Qak m)))) (0 + Int.toNat (↑(PrX.k x):Int)) 0) (List.getD (List.filter (Qdd m (MapC.val m (List.getD (Qd9 m (Qbk {elem:=3,size:=1,rw:=true,lock:=false,lit:=false,flat:=true,n:=List.length (Qak m),row:=fun i=>[yI (List.getD (Qak m) i 0)],ext:=List.length (Qak m) + c} (List.length (Qak m)))) (0 + Int.toNat (↑(PrX.k x):Int)) 0) 0)) (Qbk {elem:=3,size:=1,rw:=true,lock:=false,lit:=false,flat:=true,n:=List.length (Qbf m l (PrX.k x)),row:=fun i=>[yI (List.getD (Qbf m l (PrX.k x)) i 0)],ext:=PrX.c x} (List.length (Qbf m l (PrX.k x))))) (0 + Int.toNat (↑(PrY.j x_1):Int)) 0))))]=[(yI (Prod.fst (List.getD (Qcc m l (PrY.k x')++Qeb m (List.getD l (PrY.k x') 0) (Qa5 m l (PrY.k x')) (PrY.j x')) i (0,0)))),(yI (Prod.snd (List.getD (Qcc m l (PrY.k x')++Qeb m (List.getD l (PrY.k x') 0) (Qa5 m l (PrY.k x')) (PrY.j x')) i (0,0))))])))))))∧(((List.length (Qa5 m l (PrY.k x')) - PrY.j x'):Nat)<(List.length (Qa5 m l (PrY.k x_1)) - PrY.j x_1)))))) (∃ x':PrY,(((((((PrY.j x'):Nat)≤(List.length (Qa5 m l (PrY.k x'))))∧(((List.length (Qcc m l (PrY.k x')++Qeb m (List.getD l (PrY.k x') 0) (Qa5 m l (PrY.k x')) (PrY.j x'))):Nat)≤(PrY.d x')))∧((yI ((↑(PrX.k x):Int)))=(yI ((↑(PrY.k x'):Int)))))∧((((yI (IntKind.wrap IntKind.i64 ((↑(PrY.j x_1):Int) + 1)))=(yI ((↑(PrY.j x'):Int))))∧((SV.sl 42 2 0 (List.length (Qcc m l (PrY.k x_1)++Qeb m (List.getD l (PrY.k x_1) 0) (Qa5 m l (PrY.k x_1)) (PrY.j x_1))) (PrY.d x_1))=(SV.sl 42 2 0 (List.length (Qcc m l (PrY.k x')++Qeb m (List.getD l (PrY.k x') 0) (Qa5 m l (PrY.k x')) (PrY.j x'))) (PrY.d x'))))∧((((List.length (Qcc m l (PrY.k x_1)++Qeb m (List.getD l (PrY.k x_1) 0) (Qa5 m l (PrY.k x_1)) (PrY.j x_1))):Nat)=(List.length (Qcc m l (PrY.k x')++Qeb m (List.getD l (PrY.k x') 0) (Qa5 m l (PrY.k x')) (PrY.j x'))))∧((((PrY.d x'):Nat)≤(PrY.d x_1))∧(∀ i:Nat,(((i:Nat)<(List.length (Qcc m l (PrY.k x')++Qeb m (List.getD l (PrY.k x') 0) (Qa5 m l (PrY.k x')) (PrY.j x'))))→([(yI (Prod.fst (List.getD (Qcc m l (PrY.k x_1)++Qeb m (List.getD l (PrY.k x_1) 0) (Qa5 m l (PrY.k x_1)) (PrY.j x_1)) i (0,0)))),(yI (Prod.snd (List.getD (Qcc m l (PrY.k x_1)++Qeb m (List.getD l (PrY.k x_1) 0) (Qa5 m l (PrY.k x_1)) (PrY.j x_1)) i (0,0))))]=[(yI (Prod.fst (List.getD (Qcc m l (PrY.k x')++Qeb m (List.getD l (PrY.k x') 0) (Qa5 m l (PrY.k x')) (PrY.j x')) i (0,0)))),(yI (Prod.snd (List.getD (Qcc m l (PrY.k x')++Qeb m (List.getD l (PrY.k x') 0) (Qa5 m l (PrY.k x')) (PrY.j x')) i (0,0))))])))))))∧(((List.length (Qa5 m l (PrY.k x')) - PrY.j x'):Nat)<(List.length (Qa5 m l (PrY.k x_1)) - PrY.j x_1))))))) ((((((List.length (List.filter (Qdd m (MapC.val m (List.getD (Qd9 m (Qbk {elem:=3,size:=1,rw:=true,lock:=false,lit:=false,flat:=true,n:=List.length (Qak m),row:=fun i=>[yI (List.getD (Qak m) i 0)],ext:=List.length (Qak m) + c} (List.length (Qak m)))) (0 + Int.toNat (↑(PrX.k x):Int)) 0) 0)) (Qbk {elem:=3,size:=1,rw:=true,lock:=false,lit:=false,flat:=true,n:=List.length (Qbf m l (PrX.k x)),row:=fun i=>[yI (List.getD (Qbf m l (PrX.k x)) i 0)],ext:=PrX.c x} (List.length (Qbf m l (PrX.k x))))) + 1)*8):Nat)≤140737488355328)∧((((0 + PrX.c x):Nat)≤(PrX.c x))∧(∀ y:Nat,(((y:Nat)<1)→True))))∧(∀ c_1:Nat,(∃ x':PrX,((((((PrX.k x'):Nat)≤n)∧((((List.length (Qbf m l (PrX.k x'))):Nat)≤(PrX.c x'))∧(((List.length (Qcc m l (PrX.k x'))):Nat)≤(PrX.d x'))))∧((((yI (IntKind.wrap IntKind.i64 ((↑(PrX.k x):Int) + 1)))=(yI ((↑(PrX.k x'):Int))))∧(((SV.sl 544 1 0 (List.length (List.filter (Qdd m (MapC.val m (List.getD (Qd9 m (Qbk {elem:=3,size:=1,rw:=true,lock:=false,lit:=false,flat:=true,n:=List.length (Qak m),row:=fun i=>[yI (List.getD (Qak m) i 0)],ext:=List.length (Qak m) + c} (List.length (Qak m)))) (0 + Int.toNat (↑(PrX.k x):Int)) 0) 0)) (Qbk {elem:=3,size:=1,rw:=true,lock:=false,lit:=false,flat:=true,n:=List.length (Qbf m l (PrX.k x)),row:=fun i=>[yI (List.getD (Qbf m l (PrX.k x)) i 0)],ext:=PrX.c x} (List.length (Qbf m l (PrX.k x))))) + 1) (List.length (List.filter (Qdd m (MapC.val m (List.getD (Qd9 m (Qbk {elem:=3,size:=1,rw:=true,lock:=false,lit:=false,flat:=true,n:=List.length (Qak m),row:=fun i=>[yI (List.getD (Qak m) i 0)],ext:=List.length (Qak m) + c} (List.length (Qak m)))) (0 + Int.toNat (↑(PrX.k x):Int)) 0) 0)) (Qbk {elem:=3,size:=1,rw:=true,lock:=false,lit:=false,flat:=true,n:=List.length (Qbf m l (PrX.k x)),row:=fun i=>[yI (List.getD (Qbf m l (PrX.k x)) i 0)],ext:=PrX.c x} (List.length (Qbf m l (PrX.k x))))) + 1 + c_1))=(SV.sl 544 1 0 (List.length (Qbf m l (PrX.k x'))) (PrX.c x')))∧((SV.sl 42 2 0 (List.length (Qcc m l (PrY.k x_1)++Qeb m (List.getD l (PrY.k x_1) 0) (Qa5 m l (PrY.k x_1)) (PrY.j x_1))) (PrY.d x_1))=(SV.sl 42 2 0 (List.length (Qcc m l (PrX.k x'))) (PrX.d x')))))∧((((1:Nat)=1)∧(((1:Nat)≤1)∧((SV.vp 0 0)=(SV.vp 0 0))))∧((((1:Nat)=1)∧(((1:Nat)≤1)∧((SV.mp 1)=(SV.mp 1))))∧((Qix m)∧(((((List.length (List.filter (Qdd m (MapC.val m (List.getD (Qd9 m (Qbk {elem:=3,size:=1,rw:=true,lock:=false,lit:=false,flat:=true,n:=List.length (Qak m),row:=fun i=>[yI (List.getD (Qak m) i 0)],ext:=List.length (Qak m) + c} (List.length (Qak m)))) (0 + Int.toNat (↑(PrX.k x):Int)) 0) 0)) (Qbk {elem:=3,size:=1,rw:=true,lock:=false,lit:=false,flat:=true,n:=List.length (Qbf m l (PrX.k x)),row:=fun i=>[yI (List.getD (Qbf m l (PrX.k x)) i 0)],ext:=PrX.c x} (List.length (Qbf m l (PrX.k x))))) + 1):Nat)=(List.length (Qbf m l (PrX.k x'))))∧((((PrX.c x'):Nat)≤(List.length (List.filter (Qdd m (MapC.val m (List.getD (Qd9 m (Qbk {elem:=3,size:=1,rw:=true,lock:=false,lit:=false,flat:=true,n:=List.length (Qak m),row:=fun i=>[yI (List.getD (Qak m) i 0)],ext:=List.length (Qak m) + c} (List.length (Qak m)))) (0 + Int.toNat (↑(PrX.k x):Int)) 0) 0)) (Qbk {elem:=3,size:=1,rw:=true,lock:=false,lit:=false,flat:=true,n:=List.length (Qbf m l (PrX.k x)),row:=fun i=>[yI (List.getD (Qbf m l (PrX.k x)) i 0)],ext:=PrX.c x} (List.length (Qbf m l (PrX.k x))))) + 1 + c_1))∧(∀ i:Nat,(((i:Nat)<(List.length (Qbf m l (PrX.k x'))))→([(yI (bop (Nat.blt i (List.length (List.filter (Qdd m (MapC.val m (List.getD (Qd9 m (Qbk {elem:=3,size:=1,rw:=true,lock:=false,lit:=false,flat:=true,n:=List.length (Qak m),row:=fun i=>[yI (List.getD (Qak m) i 0)],ext:=List.length (Qak m) + c} (List.length (Qak m)))) (0 + Int.toNat (↑(PrX.k x):Int)) 0) 0)) (Qbk {elem:=3,size:=1,rw:=true,lock:=false,lit:=false,flat:=true,n:=List.length (Qbf m l (PrX.k x)),row:=fun i=>[yI (List.getD (Qbf m l (PrX.k x)) i 0)],ext:=PrX.c x} (List.length (Qbf m l (PrX.k x))))))) (List.getD (List.filter (Qdd m (MapC.val m (List.getD (Qd9 m (Qbk {elem:=3,size:=1,rw:=true,lock:=false,lit:=false,flat:=true,n:=List.length (Qak m),row:=fun i=>[yI (List.getD (Qak m) i 0)],ext:=List.length (Qak m) + c} (List.length (Qak m)))) (0 + Int.toNat (↑(PrX.k x):Int)) 0) 0)) (Qbk {elem:=3,size:=1,rw:=true,lock:=false,lit:=false,flat:=true,n:=List.length (Qbf m l (PrX.k x)),row:=fun i=>[yI (List.getD (Qbf m l (PrX.k x)) i 0)],ext:=PrX.c x} (List.length (Qbf m l (PrX.k x))))) (0 + i) 0) (List.getD (Qd9 m (Qbk {elem:=3,size:=1,rw:=true,lock:=false,lit:=false,flat:=true,n:=List.length (Qak m),row:=fun i=>[yI (List.getD (Qak m) i 0)],ext:=List.length (Qak m) + c} (List.length (Qak m)))) (0 + Int.toNat (↑(PrX.k x):Int)) 0)))]=[(yI (List.getD (Qbf m l (PrX.k x')) i 0))])))))∧((((List.length (Qcc m l (PrY.k x_1)++Qeb m (List.getD l (PrY.k x_1) 0) (Qa5 m l (PrY.k x_1)) (PrY.j x_1))):Nat)=(List.length (Qcc m l (PrX.k x'))))∧((((PrX.d x'):Nat)≤(PrY.d x_1))∧(∀ i:Nat,(((i:Nat)<(List.length (Qcc m l (PrX.k x'))))→([(yI (Prod.fst (List.getD (Qcc m l (PrY.k x_1)++Qeb m (List.getD l (PrY.k x_1) 0) (Qa5 m l (PrY.k x_1)) (PrY.j x_1)) i (0,0)))),(yI (Prod.snd (List.getD (Qcc m l (PrY.k x_1)++Qeb m (List.getD l (PrY.k x_1) 0) (Qa5 m l (PrY.k x_1)) (PrY.j x_1)) i (0,0))))]=[(yI (Prod.fst (List.getD (Qcc m l (PrX.k x')) i (0,0)))),(yI (Prod.snd (List.getD (Qcc m l (PrX.k x')) i (0,0))))])))))))))))∧(((n - PrX.k x'):Nat)<(n - PrX.k x)))))))))))) (((∀ i:Nat,(((i:Nat)<(List.length (Qcc m l (PrX.k x))))→(Zkw [yI (Prod.fst (List.getD (Qcc m l (PrX.k x)) i (0,0))),yI (Prod.snd (List.getD (Qcc m l (PrX.k x)) i (0,0)))])))∧((((List.length (Qcc m l (PrX.k x))):Nat)=(List.length (Qcc m l (PrX.k x))))∧(((List.length (Qcc m l (PrX.k x))):Nat)<4611686018427387904)))∧(∃ c_1:Nat,(((SV.sl 41 2 0 (List.length (Qcc m l (PrX.k x))) (PrX.d x))=(SV.sl 41 2 0 (List.length (Qa9 m)) (List.length (Qa9 m) + c_1)))∧((((1:Nat)=1)∧(((1:Nat)≤1)∧((SV.mp 1)=(SV.mp 1))))∧((Qix m)∧((((List.length (Qcc m l (PrX.k x))):Nat)=(List.length (Qa9 m)))∧((((List.length (Qa9 m) + c_1):Nat)≤(PrX.d x))∧(∀ i:Nat,(((i:Nat)<(List.length (Qa9 m)))→([(yI (Prod.fst (List.getD (Qs9 (Qfb {elem:=56,size:=2,rw:=true,lock:=false,lit:=false,flat:=true,n:=List.length (Qcc m l (PrX.k x)),row:=fun i=>[yI (Prod.fst (List.getD (Qcc m l (PrX.k x)) i (0,0))),yI (Prod.snd (List.getD (Qcc m l (PrX.k x)) i (0,0)))],ext:=PrX.d x} (List.length (Qcc m l (PrX.k x))))) i (0,0)))),(yI (Prod.snd (List.getD (Qs9 (Qfb {elem:=56,size:=2,rw:=true,lock:=false,lit:=false,flat:=true,n:=List.length (Qcc m l (PrX.k x)),row:=fun i=>[yI (Prod.fst (List.getD (Qcc m l (PrX.k x)) i (0,0))),yI (Prod.snd (List.getD (Qcc m l (PrX.k x)) i (0,0)))],ext:=PrX.d x} (List.length (Qcc m l (PrX.k x))))) i (0,0))))]=[(yI (Prod.fst (List.getD (Qa9 m) i (0,0)))),(yI (Prod.snd (List.getD (Qa9 m) i (0,0))))]))))))))))))))))):=by kernel_rfl
theorem Qrq (l:List Int) (B:Blk) (h:∀ i,B.row i=[.v (.int .i64 (l.getD i 0))]):Qbk B l.length=l:=by
 refine List.ext_getElem (by simp [Qbk]) fun i h1 h2=>?_
 simp only [Qbk,List.getElem_map,List.getElem_range,h]
 show l.getD i 0=_
 rw [List.getD_eq_getElem?_getD,List.getElem?_eq_getElem h2]; rfl
theorem Q1b (l:List (Int×Int)) (B:Blk) (h:∀ i,B.row i=Q1t (l.getD i (0,0))):Qfb B l.length=l:=by
 refine List.ext_getElem (by simp [Qfb]) fun i h1 h2=>?_
 simp only [Qfb,List.getElem_map,List.getElem_range,h]
 show ((l.getD i (0,0)).1,(l.getD i (0,0)).2)=_
 rw [List.getD_eq_getElem?_getD,List.getElem?_eq_getElem h2]; rfl
theorem Za3:∀ f g,Zla f=some g→g.ok Tryz.prog f:=Qad (Qad (Qad (Qad (Qad Qam (Qc4 Tryz.func46 (by kernel_rfl) (by kernel_rfl) Q8x)) (Q2x Tryz.func47 (by kernel_rfl) (by kernel_rfl) Q8p)) (Q2x Tryz.func52 (by kernel_rfl) (by kernel_rfl) Q81)) (Qas Tryz.func17 (by kernel_rfl) (by kernel_rfl) Qo5)) (Q2x Tryz.func54 (by kernel_rfl) (by kernel_rfl) Q8o)
def Q0w (args:List SV) (bs:List Blk):Option Eff:=match args with
 | [.vp 0 0]=>swK bs fun m=>prE (Quo m∧Zix m) m
 | _=>none
theorem Q2u {m:MapC}:(Qak m).length≤8:=Nat.le_trans (List.length_filter_le _ _) (by decide)
theorem Qp9 (m:MapC) (l:List Int):∀ k,(Qbf m l k).length≤k
 | 0=>Nat.le_refl _
 | k + 1=>by
   have:=Qp9 m l k
   have h2:=List.length_filter_le (Qdd m (m.val (l.getD k 0) 0)) (Qbf m l k)
   simp only [Qbf,List.length_append,List.length_cons,List.length_nil]
   omega
theorem srt_mem {m:MapC} {l:List Int} {k:Int}:k∈Qd9 m l↔k∈l:=List.mem_mergeSort
theorem Qwc {m:MapC} {l:List Int} {x:Int}:∀ k,k≤l.length→x∈Qbf m l k→x∈l
 | 0,_,h=>by cases h
 | k + 1,hk,h=>by
   simp only [Qbf,List.mem_append,List.mem_filter,List.mem_singleton] at h
   rcases h with ⟨h,_⟩ | rfl
   · exact Qwc k (by omega) h
   · rw [List.getD_eq_getElem?_getD,List.getElem?_eq_getElem (by omega)]
     exact List.getElem_mem _
theorem Qv0 (m:MapC) (id:Int) (L:List Int) (j:Nat):(Qeb m id L j).length≤j:=by
 simp only [Qeb,List.length_map]
 exact Nat.le_trans (List.length_filter_le _ _) (by simp; omega)
theorem Qsq (m:MapC) (l:List Int) (k:Nat):(Qa5 m l k).length≤k:=Nat.le_trans (List.length_filter_le _ _) (Qp9 m l k)
theorem Qua (m:MapC) (l:List Int):∀ k,k≤8→(Qcc m l k).length≤8*k
 | 0,_=>Nat.le_refl _
 | k + 1,h=>by
   have:=Qua m l k (by omega)
   have h2:=Qv0 m (l.getD k 0) (Qa5 m l k) (Qa5 m l k).length
   have h3:=Qsq m l k
   simp only [Qcc,List.length_append]
   omega
theorem Q1v {m:MapC} {id z:Int} {L:List Int} {j:Nat} (hj:j<L.length) (hz:L.getD j 0=z):Qeb m id L (j + 1)=Qeb m id L j++(if Qgx m z id=true then [(min id z,max id z)] else []):=by
 have e:L.take (j + 1)=L.take j++[z]:=by
   rw [List.take_add_one,List.getElem?_eq_getElem hj]
   rw [List.getD_eq_getElem?_getD,List.getElem?_eq_getElem hj] at hz
   have hz:L[j]=z:=hz
   rw [hz]; rfl
 unfold Qeb
 rw [e,List.filter_append,List.map_append]
 congr 1
 cases h:Qgx m z id <;> simp [List.filter,h]
theorem Q3v {α:Type} {O:List α} {p d:α} {i:Nat} (hi:i<O.length + 1):(O++[p]).getD i d=if Nat.blt i O.length=true then O.getD i d else p:=by
 rcases Nat.lt_or_ge i O.length with h | h
 · have hb:Nat.blt i O.length=true:=by simpa using h
   rw [if_pos hb,List.getD_eq_getElem?_getD,List.getD_eq_getElem?_getD,List.getElem?_append_left h]
 · have hb:¬ Nat.blt i O.length=true:=by simpa using h
   obtain rfl:i=O.length:=by omega
   rw [if_neg hb,List.getD_eq_getElem?_getD]
   simp
theorem Q6z (m:MapC) (q:Prop) (hP:Quo m) (hB:Zix m):Qcf Tryz.prog Zla (Zk1 m (Qd9 m (Qak m)) (Qak m).length) Tryz.f16 [.vp 0 0] (Qaf [sB 1,mpB m]) 64 (fun y h'=>Qgb [sB 1,mpB m] (prE q m) y h'):=by
 have hl8:=Q2u (m:=m)
 have hln:(Qd9 m (Qak m)).length=(Qak m).length:=Qvi m _
 have hhas:∀ z,z∈Qd9 m (Qak m)→m.has z=true:=fun z hz=>(Qmy hP z).1 (srt_mem.1 hz)
 have hprs:Qa9 m=Qs9 (Qcc m (Qd9 m (Qak m)) (Qak m).length):=rfl
 rw [Zbv]
 repeat (first | unfold Qix)
 refine ⟨hP,fun c=>⟨⟨fun i _=>trivial,rfl,by omega⟩,⟨⟨0,0,0⟩,⟨Nat.zero_le _,Nat.le_refl _,Nat.le_refl _⟩,⟨rfl,⟨rfl,rfl,rfl,rfl⟩,rfl,rfl,rfl,rfl⟩,⟨rfl,Nat.le_refl _,rfl⟩,⟨rfl,Nat.le_refl _,rfl⟩,⟨rfl,Nat.le_refl _,rfl,fun _=>rfl,fun _ _ _=>rfl⟩,⟨rfl,rfl,trivial⟩,⟨rfl,rfl,trivial⟩,trivial⟩,fun x ⟨hk,hlc,hod⟩=>?_⟩⟩
 have hll:=Qp9 m (Qd9 m (Qak m)) x.k
 rw [Qrq (Qak m) _ fun i=>rfl,Qrq (Qbf m (Qd9 m (Qak m)) x.k) _ fun i=>rfl,Q1b (Qcc m (Qd9 m (Qak m)) x.k) _ fun i=>rfl]
 obtain ⟨l,hl⟩:∃ l,Qd9 m (Qak m)=l:=⟨_,rfl⟩
 rw [hl] at hln hhas hprs hll hlc hod ⊢
 rw [show 0 + Int.toNat (x.k:Int)=x.k by omega]
 have hal:List.filter (Qdd m (m.val (l.getD x.k 0) 0)) (Qbf m l x.k)=Qa5 m l x.k:=rfl
 rw [hal]
 obtain ⟨k,xc,xd⟩:=x
 dsimp only at hk hlc hod hll hal ⊢
 have hA:=Qsq m l k
 have hO8:=Qua m l k (by omega)
 refine Qag (fun e=>?_) fun e=>?_
 · have hkn:k<(Qak m).length:=by have:=of_decide_eq_true e; omega
   have hid:m.has (l.getD k 0)=true:=hhas _ (by
     rw [List.getD_eq_getElem?_getD,List.getElem?_eq_getElem (by omega)]
     exact List.getElem_mem _)
   have hin:∀ z,z∈Qa5 m l k→m.has z=true:=fun z hz=>hhas z (Qwc k (by omega) (List.mem_filter.1 hz).1)
   obtain ⟨id,hidd⟩:∃ id,l.getD k 0=id:=⟨_,rfl⟩
   rw [hidd] at hid
   have out0:Qcc m l k++Qeb m (l.getD k 0) (Qa5 m l k) 0=Qcc m l k:=by simp [Qeb]
   refine ⟨⟨by omega,by omega⟩,⟨fun i _=>trivial,rfl,by omega,hlc⟩,⟨⟨k,0,xd⟩,⟨⟨Nat.zero_le _,by simp only [out0]; exact hod⟩,rfl⟩,⟨rfl,by simp only [out0]⟩,by simp only [out0],Nat.le_refl _,fun i _=>by simp only [out0]⟩,fun y ⟨⟨hj,hod'⟩,hrel⟩=>?_⟩
   obtain ⟨yk,j,yd⟩:=y
   dsimp only at hj hod' hrel ⊢
   obtain rfl:yk=k:=by
     injection hrel with h1
     injection h1 with _ h2
     omega
   have hJ:=Qv0 m (l.getD yk 0) (Qa5 m l yk) j
   have hLO:(Qcc m l yk++Qeb m (l.getD yk 0) (Qa5 m l yk) j).length≤80:=by
     rw [List.length_append]; omega
   refine Qag (fun e1=>?_) fun e1=>?_
   · have hjL:j<(Qa5 m l yk).length:=by have:=of_decide_eq_true e1; omega
     rw [show 0 + Int.toNat (j:Int)=j by omega]
     obtain ⟨z,hz⟩:∃ z,(Qa5 m l yk).getD j 0=z:=⟨_,rfl⟩
     have hzh:m.has z=true:=hin z (by
       rw [← hz,List.getD_eq_getElem?_getD,List.getElem?_eq_getElem hjL]
       exact List.getElem_mem _)
     have hws:IntKind.i64.wrap ((j:Int) + 1)=((j + 1:Nat):Int):=Qc2 (by omega)
     have hst:=Q1v (m:=m) (id:=l.getD yk 0) hjL hz
     rw [hz]
     refine ⟨⟨by omega,by omega⟩,⟨hB z hzh,by rw [hidd]; exact hB id hid⟩,Qag (fun e2=>?_) fun e2=>?_⟩
     · have e2:Qgx m z (l.getD yk 0)=true:=e2
       rw [if_pos e2] at hst
       obtain ⟨O,hO⟩:∃ O,Qcc m l yk++Qeb m (l.getD yk 0) (Qa5 m l yk) j=O:=⟨_,rfl⟩
       have hO':Qcc m l yk++Qeb m (l.getD yk 0) (Qa5 m l yk) (j + 1)=O++[(min (l.getD yk 0) z,max (l.getD yk 0) z)]:=by rw [hst,← List.append_assoc,hO]
       rw [hO] at hLO ⊢
       refine ⟨⟨by omega,by omega,fun _ _=>trivial⟩,fun c1=>⟨⟨yk,j + 1,O.length + 1 + c1⟩,⟨⟨⟨hjL,?_⟩,rfl⟩,⟨by simp only [hws],?_⟩,?_,Nat.le_refl _,fun i hi=>?_⟩,?_⟩⟩
       · simp only [hO',List.length_append,List.length_cons,List.length_nil]; omega
       · simp only [hO',List.length_append,List.length_cons,List.length_nil]
       · simp only [hO',List.length_append,List.length_cons,List.length_nil]
       · simp only [hO'] at hi ⊢
         rw [List.length_append] at hi
         rw [Q3v (by simpa using hi),Nat.zero_add]
         cases hb:Nat.blt i O.length <;> rfl
       · simp only; omega
     · have e2:Qgx m z (l.getD yk 0)=false:=e2
       rw [e2] at hst
       have hst:Qeb m (l.getD yk 0) (Qa5 m l yk) (j + 1)=Qeb m (l.getD yk 0) (Qa5 m l yk) j:=by rw [hst]; simp
       refine ⟨⟨yk,j + 1,yd⟩,⟨⟨⟨hjL,?_⟩,rfl⟩,⟨by simp only [hws],?_⟩,?_,Nat.le_refl _,fun i hi=>?_⟩,?_⟩
       · simp only [hst]; exact hod'
       · simp only [hst]
       · simp only [hst]
       · simp only [hst]
       · simp only; omega
   · obtain rfl:j=(Qa5 m l yk).length:=by have:=of_decide_eq_false e1; omega
     have hws:IntKind.i64.wrap ((yk:Int) + 1)=((yk + 1:Nat):Int):=Qc2 (by omega)
     have hlv:Qbf m l (yk + 1)=Qa5 m l yk++[l.getD yk 0]:=rfl
     refine ⟨⟨by omega,by omega,fun _ _=>trivial⟩,fun c1=>⟨⟨yk + 1,(Qa5 m l yk).length + 1 + c1,yd⟩,⟨⟨hkn,?_,hod'⟩,⟨by simp only [hws],?_,rfl⟩,⟨rfl,Nat.le_refl _,rfl⟩,⟨rfl,Nat.le_refl _,rfl⟩,⟨rfl,Nat.le_refl _,rfl,fun _=>rfl,fun _ _ _=>rfl⟩,⟨?_,Nat.le_refl _,fun i hi=>?_⟩,rfl,Nat.le_refl _,fun i hi=>rfl⟩,?_⟩⟩
     · simp only [hlv,List.length_append,List.length_cons,List.length_nil]; omega
     · simp only [hlv,List.length_append,List.length_cons,List.length_nil]
     · simp only [hlv,List.length_append,List.length_cons,List.length_nil]
     · simp only [hlv] at hi ⊢
       rw [List.length_append] at hi
       rw [Q3v (by simpa using hi),Nat.zero_add]
       cases hb:Nat.blt i (Qa5 m l yk).length <;> rfl
     · simp only; omega
 · obtain rfl:k=(Qak m).length:=by have:=of_decide_eq_false e; omega
   rw [← hprs]
   have hpl:(Qa9 m).length=(Qcc m l (Qak m).length).length:=by rw [hprs]; exact Qpl _
   refine ⟨⟨fun i _=>trivial,rfl,by omega⟩,xd - (Qa9 m).length,?_,⟨rfl,Nat.le_refl _,rfl⟩,⟨rfl,Nat.le_refl _,rfl,fun _=>rfl,fun _ _ _=>rfl⟩,hpl.symm,by omega,fun i _=>rfl⟩
   rw [hpl,show (Qcc m l (Qak m).length).length + (xd - (Qcc m l (Qak m).length).length)=xd by omega]
theorem Qya:Qbv Tryz.prog 16 Q0w:=Qb0 hm Za3 Tryz.func16 (Λ:=fun _ bs=>match bs with | [_,D]=>(match D.sp with | some m=>Zk1 m (Qd9 m (Qak m)) (Qak m).length | none=>Qay) | _=>Qay) fun args bs e hs hp=>by
 unfold Q0w at hs
 split at hs <;> try (cases hs; done)
 have h0:=hs
 obtain ⟨m,rfl,h1⟩:=Qg4 hs
 match bs,h1 with
 | [B,D],h1 =>
   have hD:D.sp=some m:=h1.2.1.sp
   refine ⟨_,h1,?_⟩
   simp only [hD]
   exact Q6z m _ hp.1 hp.2
end Go.Proofs.YthkihlpeaidlnaaGreat
end
section
namespace Go.Proofs.YthkihlpeaidlnaaGreat
open Go.RowKit Go.SE Go.Sort
def byX (m:MapC) (l:List Int):Prop:=l.Pairwise fun a b=>m.val a 0≤m.val b 0
theorem Qts (m:MapC) (l:List Int):byX m (Qd9 m l):=by
 have tr:∀ a b c:Int,(!(ltOf (cmX m) b a))=true→(!(ltOf (cmX m) c b))=true→(!(ltOf (cmX m) c a))=true:=fun a b c h1 h2=>by
   simp only [ltX,Bool.not_eq_true',decide_eq_false_iff_not] at *; omega
 have to:∀ a b:Int,((!(ltOf (cmX m) b a))||(!(ltOf (cmX m) a b)))=true:=fun a b=>by
   simp only [ltX,Bool.or_eq_true,Bool.not_eq_true',decide_eq_false_iff_not]; omega
 refine (List.pairwise_mergeSort (le:=fun x y=>!(ltOf (cmX m) y x)) tr to l).imp fun {a b} h=>?_
 simp only [ltX,Bool.not_eq_true',decide_eq_false_iff_not] at h; omega
theorem Q2b {m:MapC} {i k:Int} (h:Qgx m i k=true):m.val k 0≤m.val i 2:=by
 unfold Qgx Qgy at h
 rw [Bool.and_eq_true,decide_eq_true_eq] at h
 have:=h.1
 omega
theorem Qr7 (m:MapC) (i k:Int):Qgx m i k=Qgx m k i:=by
 unfold Qgx Qgy
 rw [Int.max_comm,Int.min_comm (m.val i 2),Int.max_comm (m.val i 1),Int.min_comm (m.val i 3)]
theorem Qqa {m:MapC} {l:List Int} (hs:byX m l):∀ k,k≤l.length→∀ z,z∈Qbf m l k→∃ i,i<k∧l.getD i 0=z
 | 0,_,z,h=>by cases h
 | k + 1,hk,z,h=>by
   simp only [Qbf,List.mem_append,List.mem_filter,List.mem_singleton] at h
   rcases h with ⟨h,_⟩ | rfl
   · obtain ⟨i,hi,e⟩:=Qqa hs k (by omega) z h
     exact ⟨i,by omega,e⟩
   · exact ⟨k,by omega,rfl⟩
theorem Zj1 {m:MapC} {l:List Int} (hs:byX m l) {i j:Nat} (hij:i≤j) (hj:j<l.length):m.val (l.getD i 0) 0≤m.val (l.getD j 0) 0:=by
 rcases Nat.lt_or_ge i j with h | h
 · have:=List.pairwise_iff_getElem.1 hs i j (by omega) hj h
   rw [List.getD_eq_getElem?_getD,List.getD_eq_getElem?_getD,List.getElem?_eq_getElem hj,List.getElem?_eq_getElem (by omega)]
   exact this
 · obtain rfl:i=j:=by omega
   exact Int.le_refl _
theorem Q2l {m:MapC} {l:List Int} (hs:byX m l) {i:Nat}:∀ k,i<k→k≤l.length→(∀ t,i<t→t<k→m.val (l.getD t 0) 0≤m.val (l.getD i 0) 2)→l.getD i 0∈Qbf m l k
 | 0,h,_,_=>absurd h (Nat.not_lt_zero _)
 | k + 1,h,hk,hx=>by
   simp only [Qbf,List.mem_append,List.mem_filter,List.mem_singleton]
   rcases Nat.lt_or_ge i k with hik | hik
   · refine .inl ⟨Q2l hs k hik (by omega) fun t h1 h2=>hx t h1 (by omega),?_⟩
     have:=hx k hik (by omega)
     unfold Qdd
     simp only [Bool.not_eq_true',decide_eq_false_iff_not]; omega
   · obtain rfl:i=k:=by omega
     exact .inr rfl
theorem Q8d {m:MapC} {l:List Int} (hs:byX m l) {i k:Nat} (hik:i<k) (hk:k<l.length) (h:Qgx m (l.getD i 0) (l.getD k 0)=true):l.getD i 0∈Qa5 m l k:=by
 have h2:=Q2b h
 refine List.mem_filter.2 ⟨Q2l hs k hik (by omega) fun t h1 h3=>?_,?_⟩
 · have:=Zj1 hs (show t≤k by omega) hk
   omega
 · unfold Qdd
   simp only [Bool.not_eq_true',decide_eq_false_iff_not]; omega
theorem outJ_mem {m:MapC} {id:Int} {L:List Int} {p:Int×Int}:p∈Qeb m id L L.length↔∃ z,z∈L∧Qgx m z id=true∧p=(min id z,max id z):=by
 unfold Qeb
 rw [List.take_length]
 simp only [List.mem_map,List.mem_filter]
 constructor
 · rintro ⟨z,⟨h1,h2⟩,rfl⟩; exact ⟨z,h1,h2,rfl⟩
 · rintro ⟨z,h1,h2,rfl⟩; exact ⟨z,⟨h1,h2⟩,rfl⟩
theorem Qt9 {m:MapC} {l:List Int} (hs:byX m l) {p:Int×Int}:∀ k,k≤l.length→(p∈Qcc m l k↔∃ i j,i<j∧j<k∧Qgx m (l.getD i 0) (l.getD j 0)=true∧p=(min (l.getD j 0) (l.getD i 0),max (l.getD j 0) (l.getD i 0)))
 | 0,_=>⟨fun h=>(by cases h),fun ⟨i,j,_,h,_⟩=>absurd h (Nat.not_lt_zero _)⟩
 | k + 1,hk=>by
   simp only [Qcc,List.mem_append]
   rw [Qt9 hs k (by omega),outJ_mem]
   constructor
   · rintro (⟨i,j,h1,h2,h3⟩ | ⟨z,hz,h2,rfl⟩)
     · exact ⟨i,j,h1,by omega,h3⟩
     · obtain ⟨i,hi,rfl⟩:=Qqa hs k (by omega) z (List.mem_filter.1 hz).1
       exact ⟨i,k,hi,by omega,h2,rfl⟩
   · rintro ⟨i,j,h1,h2,h3,rfl⟩
     rcases Nat.lt_or_ge j k with h | h
     · exact .inl ⟨i,j,h1,h,h3,rfl⟩
     · obtain rfl:j=k:=by omega
       exact .inr ⟨_,Q8d hs h1 (by omega) h3,h3,rfl⟩
theorem Zi5 {a b c d:Int} (h:(min a b,max a b)=(min c d,max c d)):(a=c∧b=d)∨(a=d∧b=c):=by
 have h1:=congrArg Prod.fst h
 have h2:=congrArg Prod.snd h
 simp only at h1 h2
 omega
theorem Q66 {l:List Int} (hn:l.Nodup) {i j:Nat} (hi:i<l.length) (hj:j<l.length) (h:l.getD i 0=l.getD j 0):i=j:=by
 rw [List.getD_eq_getElem?_getD,List.getD_eq_getElem?_getD,List.getElem?_eq_getElem hi,List.getElem?_eq_getElem hj] at h
 exact (List.getElem_inj hn).1 h
theorem Q2m {m:MapC} {l:List Int} (hs:byX m l) (hn:l.Nodup):∀ k,k≤l.length→(Qbf m l k).Nodup
 | 0,_=>List.nodup_nil
 | k + 1,hk=>by
   simp only [Qbf]
   refine List.nodup_append.2 ⟨(Q2m hs hn k (by omega)).filter _,by simp,fun a ha b hb e=>?_⟩
   obtain rfl:=List.mem_singleton.1 hb
   subst e
   obtain ⟨i,hi,e⟩:=Qqa hs k (by omega) _ (List.mem_filter.1 ha).1
   have:=Q66 hn (by omega) (by omega) e
   omega
theorem Q9u {m:MapC} {l:List Int} (hs:byX m l) (hn:l.Nodup):∀ k,k≤l.length→(Qcc m l k).Nodup
 | 0,_=>List.nodup_nil
 | k + 1,hk=>by
   simp only [Qcc]
   refine List.nodup_append.2 ⟨Q9u hs hn k (by omega),?_,fun p hp p' hp' e=>?_⟩
   · unfold Qeb
     rw [List.take_length]
     refine List.pairwise_map.2 ((((Q2m hs hn k (by omega)).filter _).filter _).imp fun {z z'} hne e=>hne ?_)
     rcases Zi5 e with ⟨_,h⟩ | ⟨h1,h2⟩ <;> omega
   · subst e
     obtain ⟨i,j,h1,h2,_,rfl⟩:=(Qt9 hs k (by omega)).1 hp
     obtain ⟨z,hz,_,e⟩:=outJ_mem.1 hp'
     rcases Zi5 e with ⟨h3,_⟩ | ⟨_,h3⟩
     · have:=Q66 hn (by omega) (by omega) h3; omega
     · have:=Q66 hn (by omega) (by omega) h3; omega
def Qkp (m:MapC):List (Int×Int):=([0,1,2,3,4,5,6,7]:List Int).flatMap fun i=>(([0,1,2,3,4,5,6,7]:List Int).filter fun k=>decide (i<k)&&m.has i&&m.has k&&Qgx m i k).map fun k=>(i,k)
theorem Qj2 {m:MapC} (hP:Quo m) {p:Int×Int}:p∈Qkp m↔p.1<p.2∧m.has p.1=true∧m.has p.2=true∧Qgx m p.1 p.2=true:=by
 obtain ⟨a,b⟩:=p
 unfold Qkp
 simp only [List.mem_flatMap,List.mem_map,List.mem_filter,Bool.and_eq_true,decide_eq_true_eq,Prod.mk.injEq]
 constructor
 · rintro ⟨i,_,k,⟨_,⟨⟨h1,h2⟩,h3⟩,h4⟩,rfl,rfl⟩; exact ⟨h1,h2,h3,h4⟩
 · rintro ⟨h1,h2,h3,h4⟩
   have g1:=hP.1 a h2
   have g2:=hP.1 b h3
   refine ⟨a,?_,b,⟨?_,⟨⟨h1,h2⟩,h3⟩,h4⟩,rfl,rfl⟩
   · simp only [List.mem_cons,List.not_mem_nil,or_false]; omega
   · simp only [List.mem_cons,List.not_mem_nil,or_false]; omega
def Qys (a b:Int×Int):Prop:=a.1<b.1∨(a.1=b.1∧a.2<b.2)
theorem Qgh (m:MapC):(Qkp m).Pairwise Qys:=by
 have h8:([0,1,2,3,4,5,6,7]:List Int).Pairwise (·<·):=by decide
 unfold Qkp
 refine List.pairwise_flatMap.2 ⟨fun i _=>List.pairwise_map.2 ((h8.filter _).imp fun h=>.inr ⟨rfl,h⟩),h8.imp fun {i j} hij x hx y hy=>?_⟩
 obtain ⟨_,_,rfl⟩:=List.mem_map.1 hx
 obtain ⟨_,_,rfl⟩:=List.mem_map.1 hy
 exact .inl hij
theorem Qpz {m:MapC} (hP:Quo m):Qa9 m=Qkp m:=by
 obtain ⟨l,hl⟩:∃ l,Qd9 m (Qak m)=l:=⟨_,rfl⟩
 have hs:byX m l:=hl ▸ Qts m _
 have hpm:l.Perm (Qak m):=hl ▸ List.mergeSort_perm _ _
 have hidn:(Qak m).Nodup:=(Qhg m).imp fun h=>by omega
 have hn:l.Nodup:=hpm.nodup_iff.2 hidn
 have hln:(Qak m).length=l.length:=hpm.length_eq.symm
 have hmem:∀ z,z∈l↔m.has z=true:=fun z=>hpm.mem_iff.trans (Qmy hP z)
 have hnd:(Qcc m l l.length).Nodup:=Q9u hs hn _ (Nat.le_refl _)
 have hpo:(Qa9 m).Perm (Qcc m l l.length):=by
   unfold Qa9
   rw [hl,hln]
   exact List.mergeSort_perm _ _
 have hlen:Qa9 m=Qs9 (Qcc m l l.length):=by unfold Qa9; rw [hl,hln]
 have get:∀ z,z∈l→∃ i,i<l.length∧l.getD i 0=z:=fun z hz=>by
   obtain ⟨i,hi,e⟩:=List.getElem_of_mem hz
   exact ⟨i,hi,by rw [List.getD_eq_getElem?_getD,List.getElem?_eq_getElem hi]; exact e⟩
 have at_mem:∀ i,i<l.length→l.getD i 0∈l:=fun i hi=>by
   rw [List.getD_eq_getElem?_getD,List.getElem?_eq_getElem hi]; exact List.getElem_mem _
 have hm2:∀ p,p∈Qa9 m↔p∈Qkp m:=fun p=>by
   rw [hpo.mem_iff,Qt9 hs _ (Nat.le_refl _),Qj2 hP]
   constructor
   · rintro ⟨i,j,h1,h2,h3,rfl⟩
     have hi:=(hmem _).1 (at_mem i (by omega))
     have hj:=(hmem _).1 (at_mem j h2)
     have hne:l.getD i 0≠l.getD j 0:=fun e=>by have:=Q66 hn (by omega) h2 e; omega
     rcases Int.lt_or_gt_of_ne hne with h | h
     · rw [show min (l.getD j 0) (l.getD i 0)=l.getD i 0 by omega,show max (l.getD j 0) (l.getD i 0)=l.getD j 0 by omega]
       exact ⟨h,hi,hj,h3⟩
     · rw [show min (l.getD j 0) (l.getD i 0)=l.getD j 0 by omega,show max (l.getD j 0) (l.getD i 0)=l.getD i 0 by omega]
       exact ⟨h,hj,hi,by rw [Qr7]; exact h3⟩
   · rintro ⟨h1,h2,h3,h4⟩
     obtain ⟨i,hi,e1⟩:=get _ ((hmem _).2 h2)
     obtain ⟨j,hj,e2⟩:=get _ ((hmem _).2 h3)
     rcases Nat.lt_trichotomy i j with h | h | h
     · refine ⟨i,j,h,hj,by rw [e1,e2]; exact h4,?_⟩
       rw [e1,e2]
       exact Prod.ext (by simp only; omega) (by simp only; omega)
     · subst h; rw [e1] at e2; omega
     · refine ⟨j,i,h,hi,by rw [e1,e2,Qr7]; exact h4,?_⟩
       rw [e1,e2]
       exact Prod.ext (by simp only; omega) (by simp only; omega)
 have hndS:(Qkp m).Nodup:=(Qgh m).imp fun {a b} h e=>by subst e; unfold Qys at h; omega
 have hperm:(Qa9 m).Perm (Qkp m):=(List.perm_ext_iff_of_nodup (hpo.nodup_iff.2 hnd) hndS).2 hm2
 have tr:∀ a b c:Int×Int,(!(ltOf cmP b a))=true→(!(ltOf cmP c b))=true→(!(ltOf cmP c a))=true:=fun a b c h1 h2=>by
   simp only [ltP,Bool.not_eq_true',decide_eq_false_iff_not] at *; omega
 have to:∀ a b:Int×Int,((!(ltOf cmP b a))||(!(ltOf cmP a b)))=true:=fun a b=>by
   simp only [ltP,Bool.or_eq_true,Bool.not_eq_true',decide_eq_false_iff_not]; omega
 refine List.Perm.eq_of_pairwise (le:=fun a b=>(!(ltOf cmP b a))=true) (fun a b _ _ h1 h2=>?_) ?_ ((Qgh m).imp fun {a b} h=>?_) hperm
 · exact totP a b (by simpa using h2) (by simpa using h1)
 · rw [hlen]; exact List.pairwise_mergeSort tr to _
 · unfold Qys at h
   simp only [ltP,Bool.not_eq_true',decide_eq_false_iff_not]; omega
end Go.Proofs.YthkihlpeaidlnaaGreat
end
section
set_option maxHeartbeats 2000000
namespace Go.Proofs.YthkihlpeaidlnaaGreat
open Go.RowKit Go.Shelf Go.SE
attribute [local go_sem] Oper.semAt_some
theorem Q27 (l Bs b off len:Nat) (g:Nat→Int×Int) (hlen:len≤1099511627776) (J:Nat→World→Prop) (Jx:World→Prop)
   (hC:∀ k W,J k W→(∃ a cap,W.cell? ⟨Bs,0,none⟩=some (.slice a len cap)∧(0<len→a=some ⟨b,off,none⟩))∧∀ j,j<len→W.cell? ⟨b,off + j*2,none⟩=some (.int .i64 (g j).1)∧W.cell? ⟨b,off + j*2 + 1,none⟩=some (.int .i64 (g j).2))
   (hY:∀ k W,J k W→k<len→YieldAt Fence.wide 0 Tryz.prog l #[.agg #[.int .i64 (g k).1,.int .i64 (g k).2],.agg #[.int .i64 (g ((k + 1) % len)).1,.int .i64 (g ((k + 1) % len)).2]] W fun e W' =>
     (e=.returned (.bool true)∧J (k + 1) W')∨(e=.returned (.bool false)∧Jx W'))
   (hB:∀ k W W',J k W→Below W.heap.size W W'→J k W') (W:World) (h0:J 0 W) :
   CallsIn Fence.wide 1 Tryz.prog 206 #[.func (.yield l) #[] #[],.pointer (some ⟨Bs,0,none⟩)] W fun e W'=>(∃ v,e=.returned v)∧(J len W'∨Jx W'):=by
 refine callsIn_of_wp Tryz.func206 rfl trivial ?_ rfl
 simp only [Tryz.ntmps206,List.size_toArray,List.length_cons,List.length_nil,Nat.reduceAdd,Nat.reduceSub,Array.replicate_succ,Array.replicate_zero,List.push_toArray,List.append_toArray,List.nil_append,List.cons_append]
 obtain ⟨a,cap,hc0,ha⟩:=(hC 0 W h0).1
 gi_wp2
 gi_loopw [14] (fun i wr=>∃ k:Nat,k≤len∧i=.int .i64 k∧J k wr) (fun i _=>len - (RowKit.intOf i).toNat)
 case atStart=>exact ⟨0,Nat.zero_le _,rfl,h0⟩
 case round =>
   obtain ⟨k,hk,rfl,hJs⟩:=hrel
   obtain ⟨⟨a',cap',hcb,ha'⟩,hcs⟩:=hC k wr hJs
   by_cases hlt:k<len
   · obtain rfl:=ha (by omega)
     obtain rfl:=ha' (by omega)
     clear ha ha'
     obtain ⟨c0,c0'⟩:=hcs k hlt
     have fk:(k:Int)<(len:Int):=by omega
     have fk':¬ (len:Int)≤(k:Int):=by omega
     have hW:∀ W',Below wr.heap.size wr W'→(∃ cap,W'.cell? ⟨Bs,0,none⟩=some (.slice (some ⟨b,off,none⟩) len cap))∧∀ j,j<len→W'.cell? ⟨b,off + j*2,none⟩=some (.int .i64 (g j).1)∧W'.cell? ⟨b,off + j*2 + 1,none⟩=some (.int .i64 (g j).2):=fun W' hb=>by
       obtain ⟨⟨a',cap1,q1,q2⟩,q3⟩:=hC k W' (hB k wr W' hJs hb)
       obtain rfl:=q2 (by omega)
       exact ⟨⟨cap1,q1⟩,q3⟩
     have b1:=(Below.refl wr.heap.size wr).alloc (Nat.le_refl _) (.cells #[.int .i64 (g k).1,.int .i64 (g k).2] 32)
     obtain ⟨⟨cap2,d0⟩,d1⟩:=hW _ b1
     obtain ⟨e0,e0'⟩:=d1 0 (by omega)
     simp only [Nat.zero_mul,Nat.add_zero] at e0 e0'
     have b2:=b1.alloc b1.size (.cells #[.int .i64 (g 0).1,.int .i64 (g 0).2] 32)
     obtain ⟨⟨cap3,f0⟩,f1⟩:=hW _ b2
     clear d1
     by_cases h1:k + 1<len
     · have h1':(k + 1) % len=k + 1:=Nat.mod_eq_of_lt h1
       obtain ⟨g0,g0'⟩:=f1 (k + 1) h1
       have h2:(k:Int)<(len:Int) - 1:=by omega
       clear f1
       gi_wp2
       obtain ⟨fn,tmps,assign,body,hy,hR⟩:=hY k _ (hB k wr _ hJs (((Below.refl wr.heap.size wr).alloc (Nat.le_refl _) (.cells #[.int .i64 (g k).1,.int .i64 (g k).2] 32)).alloc (by show wr.heap.size≤(wr.heap.push _).size; simp) (.cells #[.int .i64 (g (k + 1)).1,.int .i64 (g (k + 1)).2] 32))) hlt
       rw [h1'] at hy
       rw [hy,Oper.uponIn_round]
       refine ⟨fun _=>Nat.le_refl _,hR.mono ?_⟩
       rintro e W3 (⟨rfl,hJ⟩ | ⟨rfl,hX⟩)
       · gi_wp2
         exact ⟨⟨k + 1,by omega,by simp,hJ⟩,by (try simp only [RowKit.intOf]); omega⟩
       · gi_wp2
         refine bodyPost_ret (results_none rfl _ _ _) rfl ?_
         exact ⟨⟨_,rfl⟩,.inr hX⟩
     · have h1':(k + 1) % len=0:=by rw [show k + 1=len by omega,Nat.mod_self]
       have h2:¬ (k:Int)<(len:Int) - 1:=by omega
       clear f1
       gi_wp2
       obtain ⟨fn,tmps,assign,body,hy,hR⟩:=hY k _ (hB k wr _ hJs (((Below.refl wr.heap.size wr).alloc (Nat.le_refl _) (.cells #[.int .i64 (g k).1,.int .i64 (g k).2] 32)).alloc (by show wr.heap.size≤(wr.heap.push _).size; simp) (.cells #[.int .i64 (g 0).1,.int .i64 (g 0).2] 32))) hlt
       rw [h1'] at hy
       rw [hy,Oper.uponIn_round]
       refine ⟨fun _=>Nat.le_refl _,hR.mono ?_⟩
       rintro e W3 (⟨rfl,hJ⟩ | ⟨rfl,hX⟩)
       · gi_wp2
         exact ⟨⟨k + 1,by omega,by simp,hJ⟩,by (try simp only [RowKit.intOf]); omega⟩
       · gi_wp2
         refine bodyPost_ret (results_none rfl _ _ _) rfl ?_
         exact ⟨⟨_,rfl⟩,.inr hX⟩
   · obtain rfl:k=len:=by omega
     gi_wp2
     go_end0
     exact ⟨⟨_,rfl⟩,.inl hJs⟩
def Qqn (caps:List SV) (h:Qbo):Option (Prop×Nat×Nat×(Nat→List SV)×List Nat) :=
 match caps with
 | [.vp kb 0]=>match h kb with
   | some bb=>match bb.row 0 with
     | [.sl k s i n cap]=>match h k with
       | some b=>bif !bb.off&&!b.off&&bb.whole&&Nat.beq bb.size 1&&Nat.beq bb.n 1&&Nat.beq b.size 2&&Nat.beq s 2 then
           some ((n≤1099511627776∧i + n≤b.n∧∀ j,j<n→b.row (i + j)=[.v (.int .i64 (gi (b.row (i + j))).1),.v (.int .i64 (gi (b.row (i + j))).2)]),n,2,
             fun j=>[.agg [.v (.int .i64 (gi (b.row (i + j))).1),.v (.int .i64 (gi (b.row (i + j))).2)],.agg [.v (.int .i64 (gi (b.row (i + (j + 1) % n))).1),.v (.int .i64 (gi (b.row (i + (j + 1) % n))).2)]],[kb,k])
         else none
       | none=>none
     | _=>none
   | none=>none
 | _=>none
theorem Qut:Zns Tryz.prog 206 Qqn:=by
 intro caps h p N m item ks hr hp δ w lb hl hh
 unfold Qqn at hr
 split at hr
 case h_2=>cases hr
 rename_i kb
 split at hr
 case h_2=>cases hr
 rename_i bb hbb
 split at hr
 case h_2=>cases hr
 rename_i k s i n cap hrow
 split at hr
 case h_2=>cases hr
 rename_i b hb
 cases hc:(!bb.off&&!b.off&&bb.whole&&Nat.beq bb.size 1&&Nat.beq bb.n 1&&Nat.beq b.size 2&&Nat.beq s 2) with
 | false=>rw [hc] at hr; cases hr
 | true =>
   rw [hc] at hr
   simp only [cond_true,Option.some.injEq,Prod.mk.injEq] at hr
   obtain ⟨rfl,rfl,rfl,rfl,rfl⟩:=hr
   simp only [Bool.and_eq_true,Bool.not_eq_true',Nat.beq_eq] at hc
   obtain ⟨⟨⟨⟨⟨⟨d1,d2⟩,hw⟩,z1⟩,z2⟩,z3⟩,rfl⟩:=hc
   obtain ⟨d1,s1⟩:=Blk.off_false d1
   obtain ⟨d2,s2⟩:=Blk.off_false d2
   obtain ⟨hn,hin,hrows⟩:=hp
   refine ⟨fun args w=>rfl,fun j=>#[.agg #[.int .i64 (gi (b.row (i + j))).1,.int .i64 (gi (b.row (i + j))).2],.agg #[.int .i64 (gi (b.row (i + (j + 1) % n))).1,.int .i64 (gi (b.row (i + (j + 1) % n))).2]],fun j hj=>⟨?_,rfl⟩,?_⟩
   · simp [Qaw,Qah]
   · obtain ⟨q,hq,hqn,rfl⟩:∃ q,δ kb=some q∧0<q.n∧lb=[.pointer (some ⟨q.r,q.o + 0,none⟩)]:=by
       match lb,hl with
       | [r],hl =>
         simp only [Qaw,Qah,and_true] at hl
         obtain ⟨q,h1,h2,rfl⟩:=hl
         exact ⟨q,h1,h2,rfl⟩
       | [],hl=>simp [Qaw] at hl
       | _ :: _ :: _,hl=>simp [Qaw] at hl
     obtain ⟨q2,hq2,hlive2⟩:=hh.blk k b hb
     obtain ⟨q1,hq1,hlive1⟩:=hh.blk kb bb hbb
     rw [hq] at hq1; cases hq1
     have hno:q.no=false:=by
       cases e:q.no with
       | false=>rfl
       | true=>have:=((hlive1 d1).no e).1; omega
     have ho:q.o=0:=by
       obtain ⟨c,e,fz,_,_,_,_,_,h7,_⟩:=Qap s1 ((hlive1 d1).rep hno)
       exact (h7 hw).1
     have hCk:∀ W,Zkc δ h [kb,k] W→(∃ a cap',W.cell? ⟨q.r,0,none⟩=some (.slice a n cap')∧(0<n→a=some ⟨q2.r,q2.o + i*2,none⟩))∧∀ j,j<n→W.cell? ⟨q2.r,q2.o + i*2 + j*2,none⟩=some (.int .i64 (gi (b.row (i + j))).1)∧W.cell? ⟨q2.r,q2.o + i*2 + j*2 + 1,none⟩=some (.int .i64 (gi (b.row (i + j))).2):=by
       rintro W ⟨δ',hδ,hK⟩
       have L1:=hK kb (by simp) bb q hbb hq d1
       have L2:=hK k (by simp) b q2 hb hq2 d2
       constructor
       · obtain ⟨c,e,fz,hc,_,_,_,_,_,h8⟩:=Qap s1 (L1.rep hno)
         obtain ⟨_,h9⟩:=h8 0 (by omega)
         obtain ⟨r,hr,hv⟩:=h9 0 (.sl k 2 i n cap) (by rw [hrow]; rfl)
         rw [ho] at hr
         simp only [Nat.zero_mul,Nat.add_zero] at hr
         simp only [Qah] at hv
         obtain ⟨p',hp',_,_,hv⟩:=hv
         have:=hδ _ _ hq2
         rw [hp'] at this; cases this
         rcases hv with ⟨_,c',_,rfl⟩ | ⟨e0,e1,a,rfl⟩
         · exact ⟨_,c',by rw [Qch hc,hr],fun _=>rfl⟩
         · subst e0
           exact ⟨a,0,by rw [Qch hc,hr],fun h=>absurd h (by omega)⟩
       · intro j hj
         have hno2:q2.no=false:=by
           cases e:q2.no with
           | false=>rfl
           | true=>have:=(L2.no e).1; omega
         obtain ⟨c,e,fz,hc,_,_,_,_,_,h8⟩:=Qap s2 (L2.rep hno2)
         obtain ⟨_,h9⟩:=h8 (i + j) (by omega)
         obtain ⟨r0,hr0,hv0⟩:=h9 0 _ (by rw [hrows j hj]; rfl)
         obtain ⟨r1,hr1,hv1⟩:=h9 1 _ (by rw [hrows j hj]; rfl)
         simp only [Qah] at hv0 hv1
         rw [z3] at hr0 hr1
         constructor
         · rw [Qch hc,show q2.o + i*2 + j*2=q2.o + (i + j)*2 + 0 by omega,hr0,hv0]
         · rw [Qch hc,show q2.o + i*2 + j*2 + 1=q2.o + (i + j)*2 + 1 by omega,hr1,hv1]
     intro l J Jx W hbW hJB hJxB hJK hY h0 n'
     have hh:=callsIn_wide.1 (Q27 l q.r q2.r (q2.o + i*2) n (fun j=>gi (b.row (i + j))) hn J Jx (fun k W hk=>hCk W (hJK k W hk)) (fun k W hk hlt=>hY k W 0 hk hlt) (fun k W W' hk hB=>hJB k W W' hk hB) W h0)
     rw [ho]
     exact callsIn_wide.2 hh
noncomputable def Qgn:It:=⟨Tryz.prog,206,Qqn,Qut⟩
end Go.Proofs.YthkihlpeaidlnaaGreat
end
section
namespace Go.Proofs.YthkihlpeaidlnaaGreat
open Go.SE Go.RowKit
def plgB (n cap:Nat):Blk:=Qct 203 [.sl 0 2 0 n cap]
def Q96 (n cap:Nat):Eff:=.det none (.fn 206 [.vp 1000 0]) [(1000,plgB n cap)]
def Qvp (args:List SV) (bs:List Blk):Option Eff:=match args,bs with
 | [.agg [.sl 0 2 0 n cap]],[b]=>bif !b.rw&&!b.off&&Nat.beq b.size 2 then some (Q96 n cap) else none
 | _,_=>none
theorem Zb6 (el n cap n' ext:Nat) (lo li fl wh:Bool) (row:Nat→List SV):(Qcf Tryz.prog Qbi Qay Tryz.f117 [.agg [.sl 0 2 0 n cap]] (Qaf [roS el lo li fl wh n' ext row]) 64 (fun y h'=>Qgb [roS el lo li fl wh n' ext row] (Q96 n cap) y h'))=(((206=206)∧((SV.vp 64 0)=(SV.vp 64 0)))∧(((1:Nat)=1)∧(((1:Nat)≤1)∧((SV.sl 0 2 0 n cap)=(SV.sl 0 2 0 n cap))))):=by kernel_rfl
def Zfq:Qbz:=Qai (Qai Qbi 117 (Qcz false Qvp)) 205 (Qao Zl9)
def spF (n:Nat) (row:Nat→List SV):Prop:=∀ i,i<n→row i=[.v (.int .i64 (gi (row i)).1),.v (.int .i64 (gi (row i)).2)]∧P21 (gi (row i)).1∧P21 (gi (row i)).2
def Zle:Qbz:=Qai Zfq 104 (Qfc Q06)
noncomputable def Zap (n:Nat):Nat→Option LoopSpec:=Qdv (Qq1 Qay 0 Qgn Nat (fun k=>k≤n) (fun k=>k) [(72,fun _=>Qor),(152,fun k=>Qct 3 [.v (.int .i64 k)])]) Tryz.f183 2 Nat (fun i=>i≤n) (fun i=>n - i) [(23,fun i=>.v (.int .i64 i))] [(72,fun _=>Qor)]
def Qrb (n:Nat) (g:Nat→Int×Int):Prop:=∀ k i,k<n→i<n→i≠k→i≠(k + 1) % n→0<Qga (g k) (g ((k + 1) % n)) (g i)
def Zmt:List SV→List Ro→Option (Option Prop×SV)
 | [.sl 0 2 0 n _],[⟨2,n',row⟩]=>some (some (n'=n∧(3≤n∧n<1099511627776)∧spF n row∧Qrb n (fun i=>gi (row i))),.v (.bool true))
 | _,_=>none
@[reducible] noncomputable def Qif :=(((1:Nat)=1)∧(((1:Nat)≤1)∧(∀ i:Nat,(((i:Nat)<1)→([(SV.v (.bool false))]=[(SV.v (.bool false))])))))
theorem Zlv (n n' cap:Nat) (g:Nat→Int×Int):(Qcf Tryz.prog Zle (Zap n) Tryz.f183 [.sl 0 2 0 n cap] (Qbl [⟨2,n',Qbw g⟩]) 64 (fun y _=>y=.v (.bool true))) =
(sel (decide ((↑n:Int)<3)) ((yF false)=(yF true)) (((∀ i:Nat,(((i:Nat)<n)→(([(yI (Prod.fst (g (0 + i)))),(yI (Prod.snd (g (0 + i))))]=[(yI (Prod.fst (gi [yI (Prod.fst (g (0 + i))),yI (Prod.snd (g (0 + i)))]))),(yI (Prod.snd (gi [yI (Prod.fst (g (0 + i))),yI (Prod.snd (g (0 + i)))])))])∧((P21 (Prod.fst (gi [yI (Prod.fst (g (0 + i))),yI (Prod.snd (g (0 + i)))])))∧(P21 (Prod.snd (gi [yI (Prod.fst (g (0 + i))),yI (Prod.snd (g (0 + i)))])))))))∧(((n:Nat)=n)∧((n:Nat)<1099511627776)))∧(((It.P Qgn=Tryz.prog)∧(((n:Nat)≤1099511627776)∧((((0 + n):Nat)≤(Ro.n {s:=2,n:=n',row:=fun i=>[yI (Prod.fst (g i)),yI (Prod.snd (g i))]}))∧(∀ j:Nat,(((j:Nat)<n)→([(yI (Prod.fst (g (0 + j)))),(yI (Prod.snd (g (0 + j))))]=[(yI (Prod.fst (gi [yI (Prod.fst (g (0 + j))),yI (Prod.snd (g (0 + j)))]))),(yI (Prod.snd (gi [yI (Prod.fst (g (0 + j))),yI (Prod.snd (g (0 + j)))])))]))))))∧((∃ x:Nat,(((x:Nat)=0)∧((Nat.le x n)∧(True∧((Qif)∧(((1:Nat)=1)∧(((1:Nat)≤1)∧(∀ i:Nat,(((i:Nat)<1)→([(yI 0)]=[(yI ((↑x:Int)))]))))))))))∧((∀ x:Nat,((Nat.le x n)→(((x:Nat)<n)→((∃ x_1:Nat,((Nat.le x_1 n)∧(((yI 0)=(yI ((↑x_1:Int))))∧(Qif))))∧(∀ x_1:Nat,((Nat.le x_1 n)→(sel (decide ((↑x_1:Int)<(↑n:Int))) ((((0:Int)≤((↑x_1:Int)))∧((((↑x_1:Int)):Int)<((↑n:Int))))∧(sel ((↑x_1:Int) != (↑x:Int)) (((((↑n:Int)):Int)≠0)∧(sel ((↑x_1:Int) != Int.tmod (IntKind.wrap IntKind.i64 ((↑x:Int) + 1)) (↑n:Int)) ((((P21 (Prod.fst (gi [yI (Prod.fst (g (0 + x))),yI (Prod.snd (g (0 + x)))])))∧(P21 (Prod.snd (gi [yI (Prod.fst (g (0 + x))),yI (Prod.snd (g (0 + x)))]))))∧(((P21 (Prod.fst (gi [yI (Prod.fst (g (0 + (x + 1) % n))),yI (Prod.snd (g (0 + (x + 1) % n)))])))∧(P21 (Prod.snd (gi [yI (Prod.fst (g (0 + (x + 1) % n))),yI (Prod.snd (g (0 + (x + 1) % n)))]))))∧((P21 (Prod.fst (g (0 + Int.toNat (↑x_1:Int)))))∧(P21 (Prod.snd (g (0 + Int.toNat (↑x_1:Int))))))))∧(sel (decide (Qga (Prod.fst (gi [yI (Prod.fst (g (0 + x))),yI (Prod.snd (g (0 + x)))]),Prod.snd (gi [yI (Prod.fst (g (0 + x))),yI (Prod.snd (g (0 + x)))])) (Prod.fst (gi [yI (Prod.fst (g (0 + (x + 1) % n))),yI (Prod.snd (g (0 + (x + 1) % n)))]),Prod.snd (gi [yI (Prod.fst (g (0 + (x + 1) % n))),yI (Prod.snd (g (0 + (x + 1) % n)))])) (Prod.fst (g (0 + Int.toNat (↑x_1:Int))),Prod.snd (g (0 + Int.toNat (↑x_1:Int))))≤0)) ((yF false)=(yF true)) (∃ x':Nat,(((Nat.le x' n)∧(((yI (IntKind.wrap IntKind.i64 ((↑x_1:Int) + 1)))=(yI ((↑x':Int))))∧(Qif)))∧(((n - x'):Nat)<(n - x_1)))))) (∃ x':Nat,(((Nat.le x' n)∧(((yI (IntKind.wrap IntKind.i64 ((↑x_1:Int) + 1)))=(yI ((↑x':Int))))∧(Qif)))∧(((n - x'):Nat)<(n - x_1)))))) (∃ x':Nat,(((Nat.le x' n)∧(((yI (IntKind.wrap IntKind.i64 ((↑x_1:Int) + 1)))=(yI ((↑x':Int))))∧(Qif)))∧(((n - x'):Nat)<(n - x_1)))))) (∃ x':Nat,(((x':Nat)=(x + 1))∧((Nat.le x' n)∧(True∧((Qif)∧(((1:Nat)=1)∧(((1:Nat)≤1)∧(∀ i:Nat,(((i:Nat)<1)→([(yI (IntKind.wrap IntKind.i64 ((↑x:Int) + 1)))]=[(yI ((↑x':Int)))])))))))))))))))))∧(∀ x:Nat,((Nat.le x n)→(((x:Nat)=n)→((yF true)=(yF true)))))))))):=by kernel_rfl
theorem Qo7:Qbv Tryz.prog 117 Qvp:=Qb0 hm Qam Tryz.func117 (Λ:=fun _ _=>Qay) fun args bs e hs hp=>by
 unfold Qvp at hs
 split at hs <;> try (cases hs; done)
 rename_i n cap b
 obtain ⟨el,sz,rw,lo,li,fl,n',row,ext,de,wh,sp⟩:=b
 simp only [Blk.off] at hs
 cases hc:(!rw&&!(de||sp.isSome)&&Nat.beq sz 2) with
 | false=>simp only [hc,cond_false] at hs; cases hs
 | true =>
   simp only [hc,cond_true,Option.some.injEq] at hs
   subst hs
   simp only [Bool.and_eq_true,Bool.not_eq_true',Nat.beq_eq,Bool.or_eq_false_iff] at hc
   obtain ⟨⟨rfl,rfl,hsp⟩,rfl⟩:=hc
   obtain rfl:sp=none:=by cases sp with | none=>rfl | some _=>cases hsp
   refine ⟨[roS el lo li fl wh n' ext row],⟨BlkSame.refl _,trivial⟩,?_⟩
   refine Eq.mpr (Zb6 el n cap n' ext lo li fl wh row) ?_
   exact ⟨⟨rfl,rfl⟩,rfl,Nat.le_refl _,rfl⟩
theorem Qtg:∀ f g,Zfq f=some g→g.ok Tryz.prog f:=Qad (Qad Qam (Qc4 Tryz.func117 (by kernel_rfl) (by kernel_rfl) Qo7)) (Qas Tryz.func205 (by kernel_rfl) (by kernel_rfl) Q8j)
theorem Zbd:∀ f g,Zle f=some g→g.ok Tryz.prog f:=Qad Qtg (Qfj Tryz.func104 (by kernel_rfl) (by kernel_rfl) Qnl)
theorem Zjm {n cap:Nat} {g:Nat→Int×Int} (h3:3≤n) (hn:n<1099511627776) (hg:∀ i,i<n→P21 (g i).1∧P21 (g i).2) (h:Qrb n g):Qcf Tryz.prog Zle (Zap n) Tryz.f183 [.sl 0 2 0 n cap] (Qbl [⟨2,n,Qbw g⟩]) 64 (fun y _=>y=.v (.bool true)):=by
 have h_vc:=Zlv n n cap g
 repeat (first | unfold Qif at h_vc)
 refine Eq.mpr h_vc (sF (decide_eq_false (by omega)) ?_)
 simp only [gi,Nat.zero_add]
 refine ⟨⟨fun i hi=>⟨trivial,hg i hi⟩,trivial,hn⟩,⟨rfl,by omega,Nat.le_refl _,fun _ _=>trivial⟩,⟨0,rfl,Nat.zero_le _,trivial,⟨trivial,Nat.le_refl _,fun _ _=>trivial⟩,trivial,Nat.le_refl _,fun _ _=>rfl⟩,fun k _ hk=>?_,fun _ _ _=>trivial⟩
 have l1:(k + 1) % n<n:=Nat.mod_lt _ (by omega)
 refine ⟨⟨0,Nat.zero_le _,rfl,trivial,Nat.le_refl _,fun _ _=>trivial⟩,fun i hi=>?_⟩
 have ew:i<n→IntKind.i64.wrap ((i:Int) + 1)=((i + 1:Nat):Int):=fun h=>by rw [Qaj ⟨by omega,by omega⟩]; rfl
 have em:(IntKind.i64.wrap ((k:Int) + 1)).tmod (n:Int)=(((k + 1) % n:Nat):Int):=by
   rw [Qaj ⟨by omega,by omega⟩,Int.tmod_eq_emod_of_nonneg (by omega),Int.natCast_emod]; rfl
 refine Qag (fun hlt=>?_) fun hge=>?_
 · have hlt:i<n:=by simpa using hlt
   have next:∃ x':Nat,(x'.le n∧SV.v (.int .i64 (IntKind.i64.wrap ((i:Int) + 1)))=SV.v (.int .i64 (x':Int))∧True∧1≤1∧∀ j:Nat,j<1→True)∧n - x'<n - i:=⟨i + 1,⟨hlt,by rw [ew hlt],trivial,Nat.le_refl _,fun _ _=>trivial⟩,by omega⟩
   refine ⟨⟨by omega,by omega⟩,Qag (fun h4=>⟨by omega,Qag (fun h5=>?_) fun h5=>next⟩) fun h4=>next⟩
   rw [em] at h5
   have n1:i≠k:=fun e=>by rw [e] at h4; simp at h4
   have n2:i≠(k + 1) % n:=fun e=>by rw [← e] at h5; simp at h5
   have ht:=h k i hk hlt n1 n2
   rw [Int.toNat_natCast]
   refine ⟨⟨hg k hk,hg _ l1,hg i hlt⟩,sF (decide_eq_false ?_) next⟩
   show ¬ Qga (g k) (g ((k + 1) % n)) (g i)≤0
   omega
 · exact ⟨k + 1,rfl,hk,trivial,⟨trivial,Nat.le_refl _,fun _ _=>trivial⟩,trivial,Nat.le_refl _,fun _ _=>by rw [Qaj ⟨by omega,by omega⟩]; rfl⟩
theorem Q82:Qc7 Tryz.prog 183 Zmt:=Qcq hm Zbd Tryz.func183 (Λ:=fun args _=>match args with | [.sl 0 2 0 n _]=>Zap n | _=>Qay) fun args bs p x h hp=>by
 unfold Zmt at h
 split at h <;> try (cases h; done)
 rename_i n c n' row
 cases h
 obtain ⟨rfl,⟨h3,hn⟩,h0,h1⟩:=hp _ rfl
 exact ⟨rfl,[⟨2,n',Qbw fun i=>gi (row i)⟩],⟨⟨rfl,rfl,fun i hi=>(h0 i hi).1⟩,trivial⟩,Zjm h3 hn (fun i hi=>(h0 i hi).2) h1⟩
def dskP (c:Int×Int) (r:Int):Prop:=(P21 c.1∧P21 c.2)∧(1≤r∧r≤1048576)∧(P21 (c.1 - r)∧P21 (c.2 - r))∧P21 (c.1 + r)∧P21 (c.2 + r)
def Qpw (c:Int×Int) (n:Nat) (g:Nat→Int×Int):Prop:=(P21 c.1∧P21 c.2)∧(3≤n∧n≤8)∧(∀ i,i<n→P21 (g i).1∧P21 (g i).2)∧Qrb n g
def Qhj (k:Int) (c:Int×Int) (r:Int) (n:Nat) (g:Nat→Int×Int):Prop:=(k=1∧n=0∧dskP c r)∨(k=2∧r=0∧Qpw c n g)
def Qih (n:Nat) (row:Nat→List SV):Prop:=∀ i,i<n→row i=[.v (.int .i64 (gi (row i)).1),.v (.int .i64 (gi (row i)).2)]
noncomputable def Qza:Qbz:=Qai (Qai (Qai (Qai Qbi 104 (Qfc Q06)) 182 (Qao Qvo)) 42 (Qao Qmd)) 183 (Qfc Zmt)
def Zde:List SV→List Ro→Option (Option Prop×SV)
 | [.agg [.v (.int .i64 k),.v (.int .i64 a),.v (.int .i64 b),.v (.int .i64 r),.sl 0 2 0 n _]],[⟨2,n',row⟩]=>some (some (n'=n∧Qih n row∧Qhj k (a,b) r n (fun i=>gi (row i))),iV 0)
 | _,_=>none
theorem Zhu (c:Int×Int) (r:Int) (n' cap:Nat) (g:Nat→Int×Int):(Qcf Tryz.prog Qza Qay Tryz.f105 [fmS 1 c r (.sl 0 2 0 0 cap)] (Qbl [⟨2,n',Qbw g⟩]) 64 (fun y _=>y=iV 0)) =
(((∀ i:Nat,(((i:Nat)<1)→(([(yI (Prod.fst c)),(yI (Prod.snd c))]=[(yI (Prod.fst (gi [yI (Prod.fst c),yI (Prod.snd c)]))),(yI (Prod.snd (gi [yI (Prod.fst c),yI (Prod.snd c)])))])∧((P21 (Prod.fst (gi [yI (Prod.fst c),yI (Prod.snd c)])))∧(P21 (Prod.snd (gi [yI (Prod.fst c),yI (Prod.snd c)])))))))∧(((1:Nat)=1)∧((1:Nat)<1099511627776)))∧(((∀ i:Nat,(((i:Nat)<0)→(([(yI (Prod.fst (g (0 + i)))),(yI (Prod.snd (g (0 + i))))]=[(yI (Prod.fst (gi [yI (Prod.fst (g (0 + i))),yI (Prod.snd (g (0 + i)))]))),(yI (Prod.snd (gi [yI (Prod.fst (g (0 + i))),yI (Prod.snd (g (0 + i)))])))])∧((P21 (Prod.fst (gi [yI (Prod.fst (g (0 + i))),yI (Prod.snd (g (0 + i)))])))∧(P21 (Prod.snd (gi [yI (Prod.fst (g (0 + i))),yI (Prod.snd (g (0 + i)))])))))))∧(((0:Nat)=0)∧((0:Nat)<1099511627776)))∧(sel (decide (r > 0)) (sel (decide (r > 2097152)) ((yI 3)=(yI 0)) (((P21 (Prod.fst c))∧((P21 (Prod.snd c))∧(P21 r)))∧((((P21 (Prod.fst c - r))∧(P21 (Prod.snd c - r)))∧(((P21 (Prod.fst c + r))∧(P21 (Prod.snd c + r)))∧((((Prod.fst c - r):Int)≤(Prod.fst c + r))∧(((Prod.snd c - r):Int)≤(Prod.snd c + r)))))∧(sel (decide (r<1)) ((yI 5)=(yI 0)) ((yI 0)=(yI 0)))))) (sel (decide (r<1)) ((yI 5)=(yI 0)) ((yI 0)=(yI 0)))))):=by kernel_rfl
theorem Zht (c:Int×Int) (n n' cap:Nat) (g:Nat→Int×Int):(Qcf Tryz.prog Qza Qay Tryz.f105 [fmS 2 c 0 (.sl 0 2 0 n cap)] (Qbl [⟨2,n',Qbw g⟩]) 64 (fun y _=>y=iV 0)) =
(((∀ i:Nat,(((i:Nat)<1)→(([(yI (Prod.fst c)),(yI (Prod.snd c))]=[(yI (Prod.fst (gi [yI (Prod.fst c),yI (Prod.snd c)]))),(yI (Prod.snd (gi [yI (Prod.fst c),yI (Prod.snd c)])))])∧((P21 (Prod.fst (gi [yI (Prod.fst c),yI (Prod.snd c)])))∧(P21 (Prod.snd (gi [yI (Prod.fst c),yI (Prod.snd c)])))))))∧(((1:Nat)=1)∧((1:Nat)<1099511627776)))∧(((∀ i:Nat,(((i:Nat)<n)→(([(yI (Prod.fst (g (0 + i)))),(yI (Prod.snd (g (0 + i))))]=[(yI (Prod.fst (gi [yI (Prod.fst (g (0 + i))),yI (Prod.snd (g (0 + i)))]))),(yI (Prod.snd (gi [yI (Prod.fst (g (0 + i))),yI (Prod.snd (g (0 + i)))])))])∧((P21 (Prod.fst (gi [yI (Prod.fst (g (0 + i))),yI (Prod.snd (g (0 + i)))])))∧(P21 (Prod.snd (gi [yI (Prod.fst (g (0 + i))),yI (Prod.snd (g (0 + i)))])))))))∧(((n:Nat)=n)∧((n:Nat)<1099511627776)))∧(sel (decide ((↑n:Int) > 8)) ((yI 5)=(yI 0)) ((((n:Nat)=n)∧((((3:Nat)≤n)∧((n:Nat)<1099511627776))∧((spF n fun y=>[yI (Prod.fst (g (0 + y))),yI (Prod.snd (g (0 + y)))])∧(Qrb n fun i=>gi [yI (Prod.fst (g (0 + i))),yI (Prod.snd (g (0 + i)))]))))∧((yI 0)=(yI 0)))))):=by kernel_rfl
noncomputable def Zbb:Qbz:=Qai Qbi 105 (Qfc Zde)
def Zky (q:Prop) (k:Int) (c:Int×Int) (r:Int) (n cap:Nat):Eff:=bif k==1 then .det (some q) (.v (.iface 201 (.agg #[.int .i64 c.1,.int .i64 c.2,.int .i64 r]))) [] else .det (some q) (.ifc 203 (.agg [.sl 0 2 0 n cap])) []
def Zkp (args:List SV) (bs:List Blk):Option Eff:=match args,bs with
 | [.agg [.v (.int .i64 k),.v (.int .i64 a),.v (.int .i64 b),.v (.int .i64 r),.sl 0 2 0 n cap]],[B]=>bif okB B then some (Zky (Qcu n B∧Qhj k (a,b) r n (Qc1 B)) k (a,b) r n cap) else none
 | _,_=>none
theorem Zhj (c:Int×Int) (r:Int) (cap:Nat) (B:Blk) (g:Nat→Int×Int) (q:Prop):(Qcf Tryz.prog Zbb Qay Tryz.f43 [fmS 1 c r (.sl 0 2 0 0 cap)] (Qaf [rdB B 0 g]) 64 (fun y h'=>Qgb [rdB B 0 g] (Zky q 1 c r 0 cap) y h'))=((((0:Nat)=0)∧((Qih 0 fun y=>[yI (Prod.fst (g (0 + y))),yI (Prod.snd (g (0 + y)))])∧(Qhj 1 (Prod.fst c,Prod.snd c) r 0 fun i=>gi [yI (Prod.fst (g (0 + i))),yI (Prod.snd (g (0 + i)))])))∧(((SV.v (Value.iface 201 (Value.agg #[.int .i64 (Prod.fst c),.int .i64 (Prod.snd c),.int .i64 r])))=(SV.v (Value.iface 201 (Value.agg #[.int .i64 (Prod.fst c),.int .i64 (Prod.snd c),.int .i64 r]))))∧True)):=by kernel_rfl
theorem Zhi (c:Int×Int) (n cap:Nat) (B:Blk) (g:Nat→Int×Int) (q:Prop):(Qcf Tryz.prog Zbb Qay Tryz.f43 [fmS 2 c 0 (.sl 0 2 0 n cap)] (Qaf [rdB B n g]) 64 (fun y h'=>Qgb [rdB B n g] (Zky q 2 c 0 n cap) y h'))=((((n:Nat)=n)∧((Qih n fun y=>[yI (Prod.fst (g (0 + y))),yI (Prod.snd (g (0 + y)))])∧(Qhj 2 (Prod.fst c,Prod.snd c) 0 n fun i=>gi [yI (Prod.fst (g (0 + i))),yI (Prod.snd (g (0 + i)))])))∧(((203=203)∧((SV.sl 0 2 0 n cap)=(SV.sl 0 2 0 n cap)))∧True)):=by kernel_rfl
theorem P21.i64 {x:Int} (h:P21 x):I64 x:=⟨by have:=h.1; omega,by have:=h.2; omega⟩
theorem gz (g:Nat→Int×Int):(fun i=>gi [SV.v (.int .i64 (g (0 + i)).1),SV.v (.int .i64 (g (0 + i)).2)])=g:=funext fun i=>by
 show g (0 + i)=g i
 rw [Nat.zero_add]
theorem Qk2 {n:Nat} {g:Nat→Int×Int} (hg:∀ i,i<n→P21 (g i).1∧P21 (g i).2):spF n fun y=>[SV.v (.int .i64 (g (0 + y)).1),SV.v (.int .i64 (g (0 + y)).2)]:=fun i hi=>⟨rfl,by
 show P21 (g (0 + i)).1∧P21 (g (0 + i)).2
 rw [Nat.zero_add]; exact hg i hi⟩
theorem Q5o:∀ f g,Qza f=some g→g.ok Tryz.prog f:=Qad (Qad (Qad (Qad Qam (Qfj Tryz.func104 (by kernel_rfl) (by kernel_rfl) Qnl)) (Qas Tryz.func182 (by kernel_rfl) (by kernel_rfl) Qo6)) (Qas Tryz.func42 (by kernel_rfl) (by kernel_rfl) Qis)) (Qfj Tryz.func183 (by kernel_rfl) (by kernel_rfl) Q82)
theorem Zfg {c:Int×Int} {r:Int} {n' cap:Nat} {g:Nat→Int×Int} (h:dskP c r):Qcf Tryz.prog Qza Qay Tryz.f105 [fmS 1 c r (.sl 0 2 0 0 cap)] (Qbl [⟨2,n',Qbw g⟩]) 64 (fun y _=>y=iV 0):=by
 obtain ⟨⟨c1,c2⟩,⟨r1,r2⟩,⟨l1,l2⟩,u1,u2⟩:=h
 exact Eq.mpr (Zhu c r n' cap g) ⟨⟨fun i hi=>⟨rfl,c1,c2⟩,rfl,by decide⟩,⟨fun i hi=>absurd hi (Nat.not_lt_zero _),rfl,by decide⟩,sT (decide_eq_true (by omega)) (sF (decide_eq_false (by omega)) ⟨⟨c1,c2,by omega,by omega⟩,⟨⟨l1,l2⟩,⟨u1,u2⟩,by omega,by omega⟩,sF (decide_eq_false (by omega)) rfl⟩)⟩
theorem Zff {c:Int×Int} {n n' cap:Nat} {g:Nat→Int×Int} (h:Qpw c n g):Qcf Tryz.prog Qza Qay Tryz.f105 [fmS 2 c 0 (.sl 0 2 0 n cap)] (Qbl [⟨2,n',Qbw g⟩]) 64 (fun y _=>y=iV 0):=by
 obtain ⟨⟨c1,c2⟩,⟨h3,h8⟩,hg,hc⟩:=h
 refine Eq.mpr (Zht c n n' cap g) ⟨⟨fun i hi=>⟨rfl,c1,c2⟩,rfl,by decide⟩,⟨Qk2 hg,rfl,by omega⟩,sF (decide_eq_false (by omega)) ⟨⟨rfl,⟨h3,by omega⟩,Qk2 hg,?_⟩,rfl⟩⟩
 rw [gz]; exact hc
theorem Q44:Qc7 Tryz.prog 105 Zde:=Qcq hm Q5o Tryz.func105 (Λ:=fun _ _=>Qay) fun args bs p x h hp=>by
 unfold Zde at h
 split at h <;> try (cases h; done)
 rename_i k a b r n c n' row
 cases h
 obtain ⟨rfl,h0,hf⟩:=hp _ rfl
 refine ⟨rfl,[⟨2,n',Qbw fun i=>gi (row i)⟩],⟨⟨rfl,rfl,fun i hi=>h0 i hi⟩,trivial⟩,?_⟩
 rcases hf with ⟨rfl,rfl,hd⟩ | ⟨rfl,rfl,hd⟩
 · exact Zfg (c:=(a,b)) hd
 · exact Zff (c:=(a,b)) hd
theorem Q5n:∀ f g,Zbb f=some g→g.ok Tryz.prog f:=Qad Qam (Qfj Tryz.func105 (by kernel_rfl) (by kernel_rfl) Q44)
theorem Qw4:Qbv Tryz.prog 43 Zkp:=Qb0 hm Q5n Tryz.func43 (Λ:=fun _ _=>Qay) fun args bs e hs hp=>by
 unfold Zkp at hs
 split at hs <;> try (cases hs; done)
 rename_i k a b r n cap B
 obtain ⟨hB,he⟩:=Qq0 hs
 subst he
 have hq:Qcu n B∧Qhj k (a,b) r n (Qc1 B):=by
   unfold Zky at hp
   cases hk:(k==1) with
   | true=>rw [hk,cond_true] at hp; exact hp _ rfl
   | false=>rw [hk,cond_false] at hp; exact hp _ rfl
 obtain ⟨hpre,hf⟩:=hq
 rcases hf with ⟨rfl,rfl,hd⟩ | ⟨rfl,rfl,hd⟩
 · refine ⟨[rdB B 0 (Qc1 B)],⟨Qju hB hpre,trivial⟩,Eq.mpr (Zhj (a,b) r cap B (Qc1 B) _) ⟨⟨rfl,fun i hi=>absurd hi (Nat.not_lt_zero _),?_⟩,rfl,trivial⟩⟩
   rw [gz]; exact Or.inl ⟨rfl,rfl,hd⟩
 · refine ⟨[rdB B n (Qc1 B)],⟨Qju hB hpre,trivial⟩,Eq.mpr (Zhi (a,b) n cap B (Qc1 B) _) ⟨⟨rfl,fun i hi=>rfl,?_⟩,⟨rfl,rfl⟩,trivial⟩⟩
   rw [gz]; exact Or.inr ⟨rfl,rfl,hd⟩
theorem dskP.r21 {c:Int×Int} {r:Int} (h:dskP c r):P21 r:=⟨by have:=h.2.1.1; omega,by have:=h.2.1.2; omega⟩
end Go.Proofs.YthkihlpeaidlnaaGreat
end
section
namespace Go.Proofs.YthkihlpeaidlnaaGreat
open Go.RowKit Go.SE
structure BxI where
 a:Int
 b:Int
 c:Int
 d:Int
def mnI (f:Nat→Int):Nat→Int
 | 0=>0
 | 1=>f 0
 | k + 2=>min (mnI f (k + 1)) (f (k + 1))
def mxI (f:Nat→Int):Nat→Int
 | 0=>0
 | 1=>f 0
 | k + 2=>max (mxI f (k + 1)) (f (k + 1))
def bxL (a b c d:Int):List SV:=[.v (.int .i64 a),.v (.int .i64 b),.v (.int .i64 c),.v (.int .i64 d)]
def jnB (g:Nat→BxI) (k:Nat):Blk:=Qct 45 (bxL (mnI (fun i=>(g i).a) k) (mnI (fun i=>(g i).b) k) (mxI (fun i=>(g i).c) k) (mxI (fun i=>(g i).d) k))
noncomputable def Qyx (n:Nat) (g:Nat→BxI):Nat→Option LoopSpec:=Qo3 (Qo3 (Qdv Qay Tryz.f351 0 Nat (fun k=>k≤n) (fun k=>n - k) [(8,fun k=>.v (.int .i64 (k:Nat)))] [(64,fun _=>Qct 45 (bxL 0 0 0 0)),(72,fun k=>jnB g k)]) 9 [(11,fun _=>[72])]) 10 [(11,fun _=>[72])]
@[reducible] noncomputable def Qlc :=(((1:Nat)=1)∧(((1:Nat)≤1)∧(∀ i:Nat,(((i:Nat)<1)→([(SV.v (.int .i64 0)),(SV.v (.int .i64 0)),(SV.v (.int .i64 0)),(SV.v (.int .i64 0))]=[(SV.v (.int .i64 0)),(SV.v (.int .i64 0)),(SV.v (.int .i64 0)),(SV.v (.int .i64 0))])))))
theorem Zhg (n n' c:Nat) (g:Nat→BxI) (R:SV→Prop):(Qcf Tryz.prog Zkh (Qyx n g) Tryz.f351 [.sl 0 4 0 n c] (Qbl [⟨4,n',fun i=>bxL (g i).a (g i).b (g i).c (g i).d⟩]) 64 (fun y _=>R y)) =
((∃ x:Nat,((Nat.le x n)∧(((yI 0)=(yI ((↑x:Int))))∧((Qlc)∧(((1:Nat)=1)∧(((1:Nat)≤1)∧(∀ i:Nat,(((i:Nat)<1)→([(yI 0),(yI 0),(yI 0),(yI 0)]=[(yI (mnI (fun i=>BxI.a (g i)) x)),(yI (mnI (fun i=>BxI.b (g i)) x)),(yI (mxI (fun i=>BxI.c (g i)) x)),(yI (mxI (fun i=>BxI.d (g i)) x))])))))))))∧(∀ x:Nat,((Nat.le x n)→(sel (decide ((↑x:Int)<(↑n:Int))) ((((0:Int)≤((↑x:Int)))∧((((↑x:Int)):Int)<((↑n:Int))))∧((((P21 (BxI.a (g (0 + Int.toNat (↑x:Int)))))∧(P21 (BxI.b (g (0 + Int.toNat (↑x:Int))))))∧(((P21 (BxI.c (g (0 + Int.toNat (↑x:Int)))))∧(P21 (BxI.d (g (0 + Int.toNat (↑x:Int))))))∧((((BxI.a (g (0 + Int.toNat (↑x:Int)))):Int)≤(BxI.c (g (0 + Int.toNat (↑x:Int)))))∧(((BxI.b (g (0 + Int.toNat (↑x:Int)))):Int)≤(BxI.d (g (0 + Int.toNat (↑x:Int))))))))∧(sel ((↑x:Int)==0) (∃ x':Nat,(((Nat.le x' n)∧(((yI (IntKind.wrap IntKind.i64 ((↑x:Int) + 1)))=(yI ((↑x':Int))))∧((Qlc)∧(((1:Nat)=1)∧(((1:Nat)≤1)∧(∀ i:Nat,(((i:Nat)<1)→([(yI (min (BxI.a (g (0 + Int.toNat (↑x:Int)))) (BxI.a (g (0 + Int.toNat (↑x:Int)))))),(yI (min (BxI.b (g (0 + Int.toNat (↑x:Int)))) (BxI.b (g (0 + Int.toNat (↑x:Int)))))),(yI (max (BxI.c (g (0 + Int.toNat (↑x:Int)))) (BxI.c (g (0 + Int.toNat (↑x:Int)))))),(yI (max (BxI.d (g (0 + Int.toNat (↑x:Int)))) (BxI.d (g (0 + Int.toNat (↑x:Int))))))]=[(yI (mnI (fun i=>BxI.a (g i)) x')),(yI (mnI (fun i=>BxI.b (g i)) x')),(yI (mxI (fun i=>BxI.c (g i)) x')),(yI (mxI (fun i=>BxI.d (g i)) x'))]))))))))∧(((n - x'):Nat)<(n - x)))) (∃ x':Nat,(((Nat.le x' n)∧(((yI (IntKind.wrap IntKind.i64 ((↑x:Int) + 1)))=(yI ((↑x':Int))))∧((Qlc)∧(((1:Nat)=1)∧(((1:Nat)≤1)∧(∀ i:Nat,(((i:Nat)<1)→([(yI (min (mnI (fun i=>BxI.a (g i)) x) (BxI.a (g (0 + Int.toNat (↑x:Int)))))),(yI (min (mnI (fun i=>BxI.b (g i)) x) (BxI.b (g (0 + Int.toNat (↑x:Int)))))),(yI (max (mxI (fun i=>BxI.c (g i)) x) (BxI.c (g (0 + Int.toNat (↑x:Int)))))),(yI (max (mxI (fun i=>BxI.d (g i)) x) (BxI.d (g (0 + Int.toNat (↑x:Int))))))]=[(yI (mnI (fun i=>BxI.a (g i)) x')),(yI (mnI (fun i=>BxI.b (g i)) x')),(yI (mxI (fun i=>BxI.c (g i)) x')),(yI (mxI (fun i=>BxI.d (g i)) x'))]))))))))∧(((n - x'):Nat)<(n - x))))))) (R (SV.agg [(yI (mnI (fun i=>BxI.a (g i)) x)),(yI (mnI (fun i=>BxI.b (g i)) x)),(yI (mxI (fun i=>BxI.c (g i)) x)),(yI (mxI (fun i=>BxI.d (g i)) x))])))))):=by kernel_rfl
def bxG (r:List SV):BxI:=match r with
 | [.v (.int _ a),.v (.int _ b),.v (.int _ c),.v (.int _ d)]=>⟨a,b,c,d⟩
 | _=>⟨0,0,0,0⟩
def bxR (r:List SV):Prop:=match r with
 | [.v (.int .i64 a),.v (.int .i64 b),.v (.int .i64 c),.v (.int .i64 d)]=>bxP a b c d
 | _=>False
def Zjj (n:Nat) (g:Nat→BxI):SV:=.agg (bxL (mnI (fun i=>(g i).a) n) (mnI (fun i=>(g i).b) n) (mxI (fun i=>(g i).c) n) (mxI (fun i=>(g i).d) n))
def Zc6:List SV→List Ro→Option (Option Prop×SV)
 | [.sl 0 4 0 n _],[⟨4,n',row⟩]=>some (some (n'=n∧n≤60∧∀ i,i<n→bxR (row i)),Zjj n fun i=>bxG (row i))
 | _,_=>none
theorem Q3q {r:List SV} (h:bxR r):r=bxL (bxG r).a (bxG r).b (bxG r).c (bxG r).d∧bxP (bxG r).a (bxG r).b (bxG r).c (bxG r).d:=by
 unfold bxR at h
 split at h
 · exact ⟨rfl,h⟩
 · cases h
theorem Zi4 (f:Nat→Int) {k:Nat} (h:k≠0):mnI f (k + 1)=min (mnI f k) (f k):=by
 match k,h with
 | k + 1,_=>rfl
theorem Zi0 (f:Nat→Int) {k:Nat} (h:k≠0):mxI f (k + 1)=max (mxI f k) (f k):=by
 match k,h with
 | k + 1,_=>rfl
theorem Zee {n n' c:Nat} {g:Nat→BxI} (hn:n≤60) (hg:∀ i,i<n→bxP (g i).a (g i).b (g i).c (g i).d):Qcf Tryz.prog Zkh (Qyx n g) Tryz.f351 [.sl 0 4 0 n c] (Qbl [⟨4,n',fun i=>bxL (g i).a (g i).b (g i).c (g i).d⟩]) 64 (fun y _=>y=Zjj n g):=by
 rw [Zhg]
 repeat (first | unfold Qlc)
 refine ⟨⟨0,Nat.zero_le _,rfl,⟨rfl,Nat.le_refl _,fun _ _=>rfl⟩,rfl,Nat.le_refl _,fun _ _=>rfl⟩,fun x hx=>Qag (fun e=>?_) fun e=>?_⟩
 · have hxn:x<n:=by have:=of_decide_eq_true e; omega
   have hws:IntKind.i64.wrap ((x:Int) + 1)=((x + 1:Nat):Int):=Qc2 (by omega)
   rw [show 0 + Int.toNat (x:Int)=x by omega]
   refine ⟨⟨by omega,by omega⟩,hg x hxn,Qag (fun e0=>?_) fun e0=>?_⟩
   · obtain rfl:x=0:=by have:=eq_of_beq e0; omega
     refine ⟨1,⟨hxn,by rw [hws],⟨rfl,Nat.le_refl _,fun _ _=>rfl⟩,rfl,Nat.le_refl _,fun _ _=>?_⟩,by omega⟩
     rw [Int.min_self,Int.min_self,Int.max_self,Int.max_self]; rfl
   · have hx0:x≠0:=fun h=>by subst h; exact absurd e0 (by decide)
     refine ⟨x + 1,⟨hxn,by rw [hws],⟨rfl,Nat.le_refl _,fun _ _=>rfl⟩,rfl,Nat.le_refl _,fun _ _=>?_⟩,by omega⟩
     rw [Zi4 _ hx0,Zi4 _ hx0,Zi0 _ hx0,Zi0 _ hx0]
 · obtain rfl:x=n:=by have:=of_decide_eq_false e; have hx:x≤n:=hx; omega
   rfl
theorem Q4v:Qc7 Tryz.prog 351 Zc6:=Qcq hm Qy5 Tryz.func351 (Λ:=fun args bs=>match args,bs with | [.sl 0 4 0 n _],[⟨4,_,row⟩]=>Qyx n (fun i=>bxG (row i)) | _,_=>Qay) fun args bs p x h hp=>by
 unfold Zc6 at h
 split at h <;> try (cases h; done)
 rename_i n c n' row
 cases h
 obtain ⟨rfl,hn,hg⟩:=hp _ rfl
 refine ⟨rfl,[⟨4,n',fun i=>bxL (bxG (row i)).a (bxG (row i)).b (bxG (row i)).c (bxG (row i)).d⟩],⟨⟨rfl,rfl,fun i hi=>(Q3q (hg i hi)).1⟩,trivial⟩,Zee hn fun i hi=>(Q3q (hg i hi)).2⟩
noncomputable def Zki:Qbz:=Qai (Qai Qbi 182 (Qao Qvo)) 351 (Qfc Zc6)
def Zc9:List SV→Option (Option Prop×SV)
 | [.agg [.v (.int .i64 a),.v (.int .i64 b),.v (.int .i64 r)]]=>some (some (P21 a∧P21 b∧P21 r),pS4 (a - r) (b - r) (a + r) (b + r))
 | _=>none
theorem Zhn (a b r:Int) (R:SV→Prop):(Qbe Tryz.prog Zki Qay Tryz.f346 [.agg [.v (.int .i64 a),.v (.int .i64 b),.v (.int .i64 r)]] R)=(((P21 a)∧((P21 b)∧(P21 r)))∧(R (SV.agg [(yI (a - r)),(yI (b - r)),(yI (a + r)),(yI (b + r))]))):=by kernel_rfl
def bxsB (n:Nat) (g:Nat→Int×Int) (k:Nat):Blk:={elem:=45,size:=4,rw:=true,lock:=false,lit:=false,flat:=true,n,row:=fun i=>bxL (bop (Nat.blt i k) (g i).1 0) (bop (Nat.blt i k) (g i).2 0) (bop (Nat.blt i k) (g i).1 0) (bop (Nat.blt i k) (g i).2 0)}
noncomputable def Qyw (n:Nat) (g:Nat→Int×Int):Nat→Option LoopSpec:=Qdv Qay Tryz.f349 0 Nat (fun k=>k≤n) (fun k=>n - k) [(13,fun k=>.v (.int .i64 (k:Nat)))] [(104,fun k=>bxsB n g k),(72,fun _=>Qct 45 (bxL 0 0 0 0))]
theorem Zg5 (n n' c:Nat) (g:Nat→Int×Int) (R:SV→Prop):(Qcf Tryz.prog Zki (Qyw n g) Tryz.f349 [.agg [.sl 0 2 0 n c]] (Qbl [⟨2,n',Qbw g⟩]) 64 (fun y _=>R y)) =
((((0:Int)≤((↑n:Int)))∧(((((↑n:Int)):Int)≤((↑n:Int)))∧(((32*(↑n:Int)):Int)≤140737488355328)))∧((∃ x:Nat,((Nat.le x n)∧(((yI 0)=(yI ((↑x:Int))))∧(((((Int.toNat (↑n:Int)):Nat)=n)∧(((n:Nat)≤(Int.toNat (↑n:Int)))∧(∀ i:Nat,(((i:Nat)<n)→([(yI 0),(yI 0),(yI 0),(yI 0)]=[(yI (bop (Nat.blt i x) (Prod.fst (g i)) 0)),(yI (bop (Nat.blt i x) (Prod.snd (g i)) 0)),(yI (bop (Nat.blt i x) (Prod.fst (g i)) 0)),(yI (bop (Nat.blt i x) (Prod.snd (g i)) 0))])))))∧(((1:Nat)=1)∧(((1:Nat)≤1)∧(∀ i:Nat,(((i:Nat)<1)→([(yI 0),(yI 0),(yI 0),(yI 0)]=[(yI 0),(yI 0),(yI 0),(yI 0)])))))))))∧(∀ x:Nat,((Nat.le x n)→(sel (decide ((↑x:Int)<(↑n:Int))) ((((0:Int)≤((↑x:Int)))∧((((↑x:Int)):Int)<((↑n:Int))))∧(((P21 (Prod.fst (g (0 + Int.toNat (↑x:Int)))))∧((P21 (Prod.snd (g (0 + Int.toNat (↑x:Int)))))∧(P21 0)))∧((((0:Int)≤((↑x:Int)))∧((((↑x:Int)):Int)<((↑(Int.toNat (↑n:Int)):Int))))∧(∃ x':Nat,(((Nat.le x' n)∧(((yI (IntKind.wrap IntKind.i64 ((↑x:Int) + 1)))=(yI ((↑x':Int))))∧((((n:Nat)=n)∧(((n:Nat)≤n)∧(∀ i:Nat,(((i:Nat)<n)→([(yI (bop (Nat.beq i (0 + Int.toNat (↑x:Int))) (Prod.fst (g (0 + Int.toNat (↑x:Int))) - 0) (bop (Nat.blt i x) (Prod.fst (g i)) 0))),(yI (bop (Nat.beq i (0 + Int.toNat (↑x:Int))) (Prod.snd (g (0 + Int.toNat (↑x:Int))) - 0) (bop (Nat.blt i x) (Prod.snd (g i)) 0))),(yI (bop (Nat.beq i (0 + Int.toNat (↑x:Int))) (Prod.fst (g (0 + Int.toNat (↑x:Int))) + 0) (bop (Nat.blt i x) (Prod.fst (g i)) 0))),(yI (bop (Nat.beq i (0 + Int.toNat (↑x:Int))) (Prod.snd (g (0 + Int.toNat (↑x:Int))) + 0) (bop (Nat.blt i x) (Prod.snd (g i)) 0)))]=[(yI (bop (Nat.blt i x') (Prod.fst (g i)) 0)),(yI (bop (Nat.blt i x') (Prod.snd (g i)) 0)),(yI (bop (Nat.blt i x') (Prod.fst (g i)) 0)),(yI (bop (Nat.blt i x') (Prod.snd (g i)) 0))])))))∧(((1:Nat)=1)∧(((1:Nat)≤1)∧(∀ i:Nat,(((i:Nat)<1)→([(yI 0),(yI 0),(yI 0),(yI 0)]=[(yI 0),(yI 0),(yI 0),(yI 0)]))))))))∧(((n - x'):Nat)<(n - x))))))) (((((Int.toNat (↑n:Int)):Nat)=(Int.toNat (↑n:Int)))∧((((Int.toNat (↑n:Int)):Nat)≤60)∧(∀ i:Nat,(((i:Nat)<(Int.toNat (↑n:Int)))→(bxR [yI (bop (Nat.blt (0 + i) x) (Prod.fst (g (0 + i))) 0),yI (bop (Nat.blt (0 + i) x) (Prod.snd (g (0 + i))) 0),yI (bop (Nat.blt (0 + i) x) (Prod.fst (g (0 + i))) 0),yI (bop (Nat.blt (0 + i) x) (Prod.snd (g (0 + i))) 0)])))))∧(R (SV.agg [(yI (mnI (fun i=>BxI.a (bxG [yI (bop (Nat.blt (0 + i) x) (Prod.fst (g (0 + i))) 0),yI (bop (Nat.blt (0 + i) x) (Prod.snd (g (0 + i))) 0),yI (bop (Nat.blt (0 + i) x) (Prod.fst (g (0 + i))) 0),yI (bop (Nat.blt (0 + i) x) (Prod.snd (g (0 + i))) 0)])) (Int.toNat (↑n:Int)))),(yI (mnI (fun i=>BxI.b (bxG [yI (bop (Nat.blt (0 + i) x) (Prod.fst (g (0 + i))) 0),yI (bop (Nat.blt (0 + i) x) (Prod.snd (g (0 + i))) 0),yI (bop (Nat.blt (0 + i) x) (Prod.fst (g (0 + i))) 0),yI (bop (Nat.blt (0 + i) x) (Prod.snd (g (0 + i))) 0)])) (Int.toNat (↑n:Int)))),(yI (mxI (fun i=>BxI.c (bxG [yI (bop (Nat.blt (0 + i) x) (Prod.fst (g (0 + i))) 0),yI (bop (Nat.blt (0 + i) x) (Prod.snd (g (0 + i))) 0),yI (bop (Nat.blt (0 + i) x) (Prod.fst (g (0 + i))) 0),yI (bop (Nat.blt (0 + i) x) (Prod.snd (g (0 + i))) 0)])) (Int.toNat (↑n:Int)))),(yI (mxI (fun i=>BxI.d (bxG [yI (bop (Nat.blt (0 + i) x) (Prod.fst (g (0 + i))) 0),yI (bop (Nat.blt (0 + i) x) (Prod.snd (g (0 + i))) 0),yI (bop (Nat.blt (0 + i) x) (Prod.fst (g (0 + i))) 0),yI (bop (Nat.blt (0 + i) x) (Prod.snd (g (0 + i))) 0)])) (Int.toNat (↑n:Int))))])))))))):=by kernel_rfl
def Zdr (n:Nat) (g:Nat→Int×Int):SV:=pS4 (mnI (fun i=>(g i).1) n) (mnI (fun i=>(g i).2) n) (mxI (fun i=>(g i).1) n) (mxI (fun i=>(g i).2) n)
def Zcx:List SV→List Ro→Option (Option Prop×SV)
 | [.agg [.sl 0 2 0 n _]],[⟨2,n',row⟩]=>some (some (n'=n∧n≤60∧spF n row),Zdr n fun i=>gi (row i))
 | _,_=>none
theorem Qms {f f':Nat→Int}:∀ n,(∀ i,i<n→f i=f' i)→mnI f n=mnI f' n
 | 0,_=>rfl
 | 1,h=>h 0 (by omega)
 | n + 2,h=>by
   show min (mnI f (n + 1)) (f (n + 1))=min (mnI f' (n + 1)) (f' (n + 1))
   rw [Qms (n + 1) fun i hi=>h i (by omega),h (n + 1) (by omega)]
theorem Qmo {f f':Nat→Int}:∀ n,(∀ i,i<n→f i=f' i)→mxI f n=mxI f' n
 | 0,_=>rfl
 | 1,h=>h 0 (by omega)
 | n + 2,h=>by
   show max (mxI f (n + 1)) (f (n + 1))=max (mxI f' (n + 1)) (f' (n + 1))
   rw [Qmo (n + 1) fun i hi=>h i (by omega),h (n + 1) (by omega)]
theorem Qy7:∀ f g,Zki f=some g→g.ok Tryz.prog f:=Qad (Qad Qam (Qas Tryz.func182 (by kernel_rfl) (by kernel_rfl) Qo6)) (Qfj Tryz.func351 (by kernel_rfl) (by kernel_rfl) Q4v)
theorem Q4y:Qaq Tryz.prog 346 Zc9:=Qax hm Qy7 Tryz.func346 (Λ:=fun _=>Qay) fun args p x h hp=>by
 unfold Zc9 at h
 split at h <;> try (cases h; done)
 rename_i a b r
 cases h
 exact ⟨rfl,rfl,Eq.mpr (Zhn a b r _) ⟨hp _ rfl,rfl⟩⟩
theorem Qw0 (i x:Nat) (f:Nat→Int):bop (Nat.beq i x) (f x) (bop (Nat.blt i x) (f i) 0)=bop (Nat.blt i (x + 1)) (f i) 0:=by
 rcases Nat.lt_trichotomy i x with h | h | h
 · have h1:Nat.beq i x=false:=Qbc (by omega)
   have h2:Nat.blt i x=true:=by simpa using h
   have h3:Nat.blt i (x + 1)=true:=by simp only [Nat.blt_eq]; omega
   rw [h1,h2,h3]; rfl
 · subst h
   have h1:Nat.beq i i=true:=by simp
   have h3:Nat.blt i (i + 1)=true:=by simp only [Nat.blt_eq]; omega
   rw [h1,h3]; rfl
 · have h1:Nat.beq i x=false:=Qbc (by omega)
   have h2:Nat.blt i x=false:=by rw [Bool.eq_false_iff]; simp only [ne_eq,Nat.blt_eq]; omega
   have h3:Nat.blt i (x + 1)=false:=by rw [Bool.eq_false_iff]; simp only [ne_eq,Nat.blt_eq]; omega
   rw [h1,h2,h3]; rfl
theorem Zdt {n n' c:Nat} {g:Nat→Int×Int} (hn:n≤60) (hg:∀ i,i<n→P21 (g i).1∧P21 (g i).2):Qcf Tryz.prog Zki (Qyw n g) Tryz.f349 [.agg [.sl 0 2 0 n c]] (Qbl [⟨2,n',Qbw g⟩]) 64 (fun y _=>y=Zdr n g):=by
 rw [Zg5]
 refine ⟨⟨by omega,Int.le_refl _,by omega⟩,⟨0,Nat.zero_le _,rfl,⟨Int.toNat_natCast n,by omega,fun _ _=>rfl⟩,rfl,Nat.le_refl _,fun _ _=>rfl⟩,fun x hx=>Qag (fun e=>?_) fun e=>?_⟩
 · have hxn:x<n:=by have:=of_decide_eq_true e; omega
   have hws:IntKind.i64.wrap ((x:Int) + 1)=((x + 1:Nat):Int):=Qc2 (by omega)
   rw [show 0 + Int.toNat (x:Int)=x by omega,Int.toNat_natCast]
   refine ⟨⟨by omega,by omega⟩,⟨(hg x hxn).1,(hg x hxn).2,by unfold P21; omega⟩,⟨by omega,by omega⟩,x + 1,⟨hxn,by rw [hws],⟨rfl,Nat.le_refl _,fun i hi=>?_⟩,rfl,Nat.le_refl _,fun _ _=>rfl⟩,by omega⟩
   simp only [Int.sub_zero,Int.add_zero,Qw0 i x fun i=>(g i).1,Qw0 i x fun i=>(g i).2]
 · obtain rfl:x=n:=by have:=of_decide_eq_false e; have hx:x≤n:=hx; omega
   have hb:∀ i,i<x→Nat.blt (0 + i) x=true:=fun i hi=>by simp only [Nat.blt_eq]; omega
   rw [Int.toNat_natCast]
   refine ⟨⟨rfl,hn,fun i hi=>?_⟩,?_⟩
   · rw [hb i hi,Nat.zero_add]
     exact ⟨hg i hi,hg i hi,Int.le_refl _,Int.le_refl _⟩
   · have e1:∀ i,i<x→bop (Nat.blt (0 + i) x) (g (0 + i)).1 0=(g i).1:=fun i hi=>by rw [hb i hi,Nat.zero_add]; rfl
     have e2:∀ i,i<x→bop (Nat.blt (0 + i) x) (g (0 + i)).2 0=(g i).2:=fun i hi=>by rw [hb i hi,Nat.zero_add]; rfl
     unfold Zdr pS4
     rw [← Qms x e1,← Qms x e2,← Qmo x e1,← Qmo x e2]
     rfl
theorem Q4k:Qc7 Tryz.prog 349 Zcx:=Qcq hm Qy7 Tryz.func349 (Λ:=fun args bs=>match args,bs with | [.agg [.sl 0 2 0 n _]],[⟨2,_,row⟩]=>Qyw n (fun i=>gi (row i)) | _,_=>Qay) fun args bs p x h hp=>by
 unfold Zcx at h
 split at h <;> try (cases h; done)
 rename_i n c n' row
 cases h
 obtain ⟨rfl,hn,h0⟩:=hp _ rfl
 exact ⟨rfl,[⟨2,n',Qbw fun i=>gi (row i)⟩],⟨⟨rfl,rfl,fun i hi=>(h0 i hi).1⟩,trivial⟩,Zdt hn (fun i hi=>(h0 i hi).2)⟩
noncomputable def Qzd:Qbz:=Qai (Qai (Qai Qbi 43 (Qcz false Zkp)) 346 (Qao Zc9)) 349 (Qfc Zcx)
theorem Zhw (c:Int×Int) (r:Int) (n' cap:Nat) (g:Nat→Int×Int) (R:SV→Prop):(Qcf Tryz.prog Qzd Qay Tryz.f10 [fmS 1 c r (.sl 0 2 0 0 cap)] (Qbl [⟨2,n',Qbw g⟩]) 64 (fun y _=>R y))=(((Qcu 0 (Qa1 (Ro.blk {s:=2,n:=n',row:=fun i=>[yI (Prod.fst (g i)),yI (Prod.snd (g i))]}) 2 0 0))∧(Qhj 1 (Prod.fst c,Prod.snd c) r 0 (Qc1 (Qa1 (Ro.blk {s:=2,n:=n',row:=fun i=>[yI (Prod.fst (g i)),yI (Prod.snd (g i))]}) 2 0 0))))∧(((P21 (Prod.fst (Prod.fst c,Prod.snd c)))∧((P21 (Prod.snd (Prod.fst c,Prod.snd c)))∧(P21 r)))∧(R (SV.agg [(yI (Prod.fst (Prod.fst c,Prod.snd c) - r)),(yI (Prod.snd (Prod.fst c,Prod.snd c) - r)),(yI (Prod.fst (Prod.fst c,Prod.snd c) + r)),(yI (Prod.snd (Prod.fst c,Prod.snd c) + r))])))):=by kernel_rfl
theorem Zhv (c:Int×Int) (n n' cap:Nat) (g:Nat→Int×Int) (R:SV→Prop):(Qcf Tryz.prog Qzd Qay Tryz.f10 [fmS 2 c 0 (.sl 0 2 0 n cap)] (Qbl [⟨2,n',Qbw g⟩]) 64 (fun y _=>R y))=(((Qcu n (Qa1 (Ro.blk {s:=2,n:=n',row:=fun i=>[yI (Prod.fst (g i)),yI (Prod.snd (g i))]}) 2 0 n))∧(Qhj 2 (Prod.fst c,Prod.snd c) 0 n (Qc1 (Qa1 (Ro.blk {s:=2,n:=n',row:=fun i=>[yI (Prod.fst (g i)),yI (Prod.snd (g i))]}) 2 0 n))))∧((((n:Nat)=n)∧(((n:Nat)≤60)∧(spF n fun y=>[yI (Prod.fst (g (0 + y))),yI (Prod.snd (g (0 + y)))])))∧(R (SV.agg [(yI (mnI (fun i=>Prod.fst (gi [yI (Prod.fst (g (0 + i))),yI (Prod.snd (g (0 + i)))])) n)),(yI (mnI (fun i=>Prod.snd (gi [yI (Prod.fst (g (0 + i))),yI (Prod.snd (g (0 + i)))])) n)),(yI (mxI (fun i=>Prod.fst (gi [yI (Prod.fst (g (0 + i))),yI (Prod.snd (g (0 + i)))])) n)),(yI (mxI (fun i=>Prod.snd (gi [yI (Prod.fst (g (0 + i))),yI (Prod.snd (g (0 + i)))])) n))])))):=by kernel_rfl
def fbx (k:Int) (c:Int×Int) (r:Int) (n:Nat) (g:Nat→Int×Int):BxI:=bif k==1 then ⟨c.1 - r,c.2 - r,c.1 + r,c.2 + r⟩ else ⟨mnI (fun i=>(g i).1) n,mnI (fun i=>(g i).2) n,mxI (fun i=>(g i).1) n,mxI (fun i=>(g i).2) n⟩
def bxS (b:BxI):SV:=pS4 b.a b.b b.c b.d
def Q9n:List SV→List Ro→Option (Option Prop×SV)
 | [.agg [.v (.int .i64 k),.v (.int .i64 a),.v (.int .i64 b),.v (.int .i64 r),.sl 0 2 0 n _]],[⟨2,n',row⟩]=>some (some (n'=n∧Qih n row∧Qhj k (a,b) r n (fun i=>gi (row i))),bxS (fbx k (a,b) r n fun i=>gi (row i)))
 | _,_=>none
theorem Q5p:∀ f g,Qzd f=some g→g.ok Tryz.prog f:=Qad (Qad (Qad Qam (Qc4 Tryz.func43 (by kernel_rfl) (by kernel_rfl) Qw4)) (Qas Tryz.func346 (by kernel_rfl) (by kernel_rfl) Q4y)) (Qfj Tryz.func349 (by kernel_rfl) (by kernel_rfl) Q4k)
theorem Zfj {c:Int×Int} {r:Int} {n' cap:Nat} {g:Nat→Int×Int} (h:dskP c r):Qcf Tryz.prog Qzd Qay Tryz.f10 [fmS 1 c r (.sl 0 2 0 0 cap)] (Qbl [⟨2,n',Qbw g⟩]) 64 (fun y _=>y=bxS (fbx 1 c r 0 g)) :=
 Eq.mpr (Zhw c r n' cap g _) ⟨⟨Qla (by decide) (fun i hi=>absurd hi (Nat.not_lt_zero _)),Or.inl ⟨rfl,rfl,h⟩⟩,⟨h.1.1,h.1.2,h.r21⟩,rfl⟩
theorem Zfi {c:Int×Int} {n n' cap:Nat} {g:Nat→Int×Int} (h:Qpw c n g):Qcf Tryz.prog Qzd Qay Tryz.f10 [fmS 2 c 0 (.sl 0 2 0 n cap)] (Qbl [⟨2,n',Qbw g⟩]) 64 (fun y _=>y=bxS (fbx 2 c 0 n g)):=by
 have h8:=h.2.1
 refine Eq.mpr (Zhv c n n' cap g _) ⟨⟨Qla (by omega) (fun i hi=>⟨(h.2.2.1 i hi).1.i64,(h.2.2.1 i hi).2.i64⟩),?_⟩,⟨rfl,by omega,Qk2 h.2.2.1⟩,?_⟩
 · rw [Qzj]; exact Or.inr ⟨rfl,rfl,h⟩
 · simp only [Nat.zero_add]
   rfl
theorem Qyq:Qc7 Tryz.prog 10 Q9n:=Qcq hm Q5p Tryz.func10 (Λ:=fun _ _=>Qay) fun args bs p x h hp=>by
 unfold Q9n at h
 split at h <;> try (cases h; done)
 rename_i k a b r n c n' row
 cases h
 obtain ⟨rfl,h0,hf⟩:=hp _ rfl
 refine ⟨rfl,[⟨2,n',Qbw fun i=>gi (row i)⟩],⟨⟨rfl,rfl,fun i hi=>h0 i hi⟩,trivial⟩,?_⟩
 rcases hf with ⟨rfl,rfl,hd⟩ | ⟨rfl,rfl,hd⟩
 · exact Zfj (c:=(a,b)) hd
 · exact Zfi (c:=(a,b)) hd
noncomputable def ΓFa:Qbz:=Qai Zlc 208 (Qao Q0y)
@[reducible] noncomputable def Qdk (p:Int×Int) (q:Int×Int):=(Prod.fst (Qbq (Prod.fst p,Prod.snd p) (Prod.fst q,Prod.snd q)),Prod.snd (Qbq (Prod.fst p,Prod.snd p) (Prod.fst q,Prod.snd q)))
@[reducible] noncomputable def Qfk (p:Int×Int) (c:Int×Int):=(Prod.fst (Qbq (Prod.fst p,Prod.snd p) (Prod.fst c,Prod.snd c)),Prod.snd (Qbq (Prod.fst p,Prod.snd p) (Prod.fst c,Prod.snd c)))
@[reducible] noncomputable def Qle (p:Int×Int) (c:Int×Int):=((P22 (Prod.fst (Qbq (Prod.fst p,Prod.snd p) (Prod.fst c,Prod.snd c))))∧(P22 (Prod.snd (Qbq (Prod.fst p,Prod.snd p) (Prod.fst c,Prod.snd c)))))
@[reducible] noncomputable def Qld (p:Int×Int) (q:Int×Int):=((P22 (Prod.fst (Qbq (Prod.fst p,Prod.snd p) (Prod.fst q,Prod.snd q))))∧(P22 (Prod.snd (Qbq (Prod.fst p,Prod.snd p) (Prod.fst q,Prod.snd q)))))
theorem Zhk (p q c:Int×Int) (r:Int) (R:SV→Prop):(Qbe Tryz.prog ΓFa Qay Tryz.f118 [pS2 p,pS2 q,pS2 c,iV r] R) =
((((P21 (Prod.fst p))∧(P21 (Prod.snd p)))∧((P21 (Prod.fst q))∧(P21 (Prod.snd q))))∧((((P21 (Prod.fst p))∧(P21 (Prod.snd p)))∧((P21 (Prod.fst c))∧(P21 (Prod.snd c))))∧((((P21 (Prod.fst q))∧(P21 (Prod.snd q)))∧((P21 (Prod.fst c))∧(P21 (Prod.snd c))))∧(((Qle p c)∧(Qld p q))∧(((Qld p q)∧(Qld p q))∧(sel (decide (Qgo (Qfk p c) (Qdk p q)≤0)) (((Qle p c)∧(Qle p c))∧(R (yF (decide (Qgo (Qfk p c) (Qfk p c) > IntKind.wrap IntKind.i64 (r*r)))))) (sel (decide (Qgo (Qfk p c) (Qdk p q) ≥ Qgo (Qdk p q) (Qdk p q))) ((((P22 (Prod.fst (Qbq (Prod.fst q,Prod.snd q) (Prod.fst c,Prod.snd c))))∧(P22 (Prod.snd (Qbq (Prod.fst q,Prod.snd q) (Prod.fst c,Prod.snd c)))))∧((P22 (Prod.fst (Qbq (Prod.fst q,Prod.snd q) (Prod.fst c,Prod.snd c))))∧(P22 (Prod.snd (Qbq (Prod.fst q,Prod.snd q) (Prod.fst c,Prod.snd c))))))∧(R (yF (decide (Qgo (Prod.fst (Qbq (Prod.fst q,Prod.snd q) (Prod.fst c,Prod.snd c)),Prod.snd (Qbq (Prod.fst q,Prod.snd q) (Prod.fst c,Prod.snd c))) (Prod.fst (Qbq (Prod.fst q,Prod.snd q) (Prod.fst c,Prod.snd c)),Prod.snd (Qbq (Prod.fst q,Prod.snd q) (Prod.fst c,Prod.snd c))) > IntKind.wrap IntKind.i64 (r*r)))))) (((Qld p q)∧(Qle p c))∧((((I64 (Qbx (Qdk p q) (Qfk p c)))∧(I64 (Qbx (Qdk p q) (Qfk p c))))∧((I64 (IntKind.wrap IntKind.i64 (r*r)))∧(I64 (Qgo (Qdk p q) (Qdk p q)))))∧(R (yF (decide (Qb7 (Qbx (Qdk p q) (Qfk p c)*Qbx (Qdk p q) (Qfk p c)) (IntKind.wrap IntKind.i64 (r*r)*Qgo (Qdk p q) (Qdk p q)) > 0))))))))))))):=by kernel_rfl
def Qwn (p q c:Int×Int) (r:Int):Bool :=
 bif decide (Qgo (Qbq p c) (Qbq p q)≤0) then decide (Qgo (Qbq p c) (Qbq p c) > r*r)
 else bif decide (Qgo (Qbq p c) (Qbq p q) ≥ Qgo (Qbq p q) (Qbq p q)) then decide (Qgo (Qbq q c) (Qbq q c) > r*r)
 else decide (Qb7 (Qbx (Qbq p q) (Qbq p c)*Qbx (Qbq p q) (Qbq p c)) (r*r*Qgo (Qbq p q) (Qbq p q)) > 0)
def Zc8:List SV→Option (Option Prop×SV)
 | [.agg [.v (.int .i64 a),.v (.int .i64 b)],.agg [.v (.int .i64 c),.v (.int .i64 d)],.agg [.v (.int .i64 e),.v (.int .i64 f)],.v (.int .i64 r)]=>some (some ((P21 a∧P21 b)∧(P21 c∧P21 d)∧(P21 e∧P21 f)∧P21 r),bV (Qwn (a,b) (c,d) (e,f) r))
 | _=>none
theorem Zbc:∀ f g,ΓFa f=some g→g.ok Tryz.prog f:=Qad Qy6 (Qas Tryz.func208 (by kernel_rfl) (by kernel_rfl) Qyc)
theorem sq21 {r:Int} (h:P21 r):0≤r*r∧r*r≤4398046511104:=by
 obtain ⟨h1,h2⟩:=h
 refine ⟨?_,?_⟩
 · rcases Int.le_total 0 r with h0 | h0
   · exact Int.mul_nonneg h0 h0
   · exact Int.mul_nonneg_of_nonpos_of_nonpos h0 h0
 · have h3:=Int.mul_nonneg (a:=2097152 - r) (b:=2097152 + r) (by omega) (by omega)
   rw [Int.mul_add,Int.sub_mul,Int.sub_mul] at h3
   generalize r*r=x at *
   omega
theorem Zkr {a b:Int} (ha:P22 a) (hb:P22 b):-17592186044416≤a*b∧a*b≤17592186044416:=by
 obtain ⟨a1,a2⟩:=ha
 obtain ⟨b1,b2⟩:=hb
 have h1:=Int.mul_nonneg (a:=4194304 - a) (b:=4194304 - b) (by omega) (by omega)
 have h2:=Int.mul_nonneg (a:=4194304 + a) (b:=4194304 + b) (by omega) (by omega)
 have h3:=Int.mul_nonneg (a:=4194304 - a) (b:=4194304 + b) (by omega) (by omega)
 have h4:=Int.mul_nonneg (a:=4194304 + a) (b:=4194304 - b) (by omega) (by omega)
 rw [Int.mul_add,Int.sub_mul,Int.sub_mul] at h3
 rw [Int.mul_sub,Int.add_mul,Int.add_mul] at h4
 rw [Int.mul_sub,Int.sub_mul,Int.sub_mul] at h1
 rw [Int.mul_add,Int.add_mul,Int.add_mul] at h2
 generalize a*b=x at *
 omega
theorem Q4x:Qaq Tryz.prog 118 Zc8:=Qax hm Zbc Tryz.func118 (Λ:=fun _=>Qay) fun args p x h hp=>by
 unfold Zc8 at h
 split at h <;> try (cases h; done)
 rename_i a b c d e f r
 cases h
 obtain ⟨hP,hQ,hC,hr⟩:=hp _ rfl
 have w1:=Qnz hP.1 hP.2 hC.1 hC.2
 have w2:=Qnz hP.1 hP.2 hQ.1 hQ.2
 have w3:=Qnz hQ.1 hQ.2 hC.1 hC.2
 have hrr:=sq21 hr
 have hw:IntKind.i64.wrap (r*r)=r*r:=Qaj ⟨by omega,by omega⟩
 have c1:=Zkr w2.1 w1.2
 have c2:=Zkr w2.2 w1.1
 have e1:=Zkr w2.1 w2.1
 have e2:=Zkr w2.2 w2.2
 refine ⟨rfl,rfl,Eq.mpr (Zhk (a,b) (c,d) (e,f) r _) ⟨⟨hP,hQ⟩,⟨hP,hC⟩,⟨hQ,hC⟩,⟨w1,w2⟩,⟨w2,w2⟩,Qag (fun g=>⟨⟨w1,w1⟩,?_⟩) fun g=>Qag (fun g2=>⟨⟨w3,w3⟩,?_⟩) fun g2=>⟨⟨w2,w1⟩,⟨⟨?_,?_⟩,?_,?_⟩,?_⟩⟩⟩
 · rw [hw]
   unfold Qwn
   have g:decide (Qgo (Qbq (a,b) (e,f)) (Qbq (a,b) (c,d))≤0)=true:=g
   rw [g]; rfl
 · rw [hw]
   unfold Qwn
   have g:decide (Qgo (Qbq (a,b) (e,f)) (Qbq (a,b) (c,d))≤0)=false:=g
   have g2:decide (Qgo (Qbq (a,b) (e,f)) (Qbq (a,b) (c,d)) ≥ Qgo (Qbq (a,b) (c,d)) (Qbq (a,b) (c,d)))=true:=g2
   rw [g,g2]; rfl
 · show I64 (Qbx (Qbq (a,b) (c,d)) (Qbq (a,b) (e,f)))
   unfold Qbx I64; omega
 · show I64 (Qbx (Qbq (a,b) (c,d)) (Qbq (a,b) (e,f)))
   unfold Qbx I64; omega
 · rw [hw]; unfold I64; omega
 · show I64 (Qgo (Qbq (a,b) (c,d)) (Qbq (a,b) (c,d)))
   unfold Qgo I64; omega
 · rw [hw]
   unfold Qwn
   have g:decide (Qgo (Qbq (a,b) (e,f)) (Qbq (a,b) (c,d))≤0)=false:=g
   have g2:decide (Qgo (Qbq (a,b) (e,f)) (Qbq (a,b) (c,d)) ≥ Qgo (Qbq (a,b) (c,d)) (Qbq (a,b) (c,d)))=false:=g2
   rw [g,g2]; rfl
theorem Qr5 {a b:Int} (ha:0≤a) (hb:b≤0):a*b≤0:=Int.mul_nonpos_of_nonneg_of_nonpos ha hb
theorem Q9x {a b:Int} (ha:a≤0) (hb:0≤b):a*b≤0:=Int.mul_nonpos_of_nonpos_of_nonneg ha hb
theorem Qxd (a:Int):0≤a*a:=by
 rcases Int.le_total 0 a with h | h
 · exact Int.mul_nonneg h h
 · exact Int.mul_nonneg_of_nonpos_of_nonpos h h
theorem Qz2 (r s d:Int×Int):Qbx r s*d.1=Qbx d s*r.1 + Qbx r d*s.1:=by unfold Qbx; grind
theorem Qls (a b:Int×Int):Qbx a b=-Qbx b a:=by unfold Qbx; grind
theorem Zfa {e1 e2 f1 f2:Int×Int} (a1:0≤e1.1) (a2:e2.1≤0) (ac:0<Qbx e1 e2) (b1:0≤f1.1) (b2:f2.1≤0) (bc:0<Qbx f1 f2) (h:0≤Qbx e1 f1) :
   0≤Qbx f1 e2∧(0<Qbx f1 e2∨(f1.1=0∧0<f1.2)):=by
 rcases Int.lt_or_le 0 (Qbx f1 e2) with g | g
 · exact ⟨by omega,.inl g⟩
 · have h1:=Qz2 e1 e2 f1
   have h2:=Q9x g a1
   have h3:=Qr5 h a2
   have h4:f1.1=0:=by
     rcases Int.lt_or_le 0 f1.1 with k | k
     · have:=Int.mul_pos ac k; omega
     · omega
   have h5:0<f1.2:=by
     rcases Int.lt_or_le 0 f1.2 with k | k
     · exact k
     · have h6:Qbx f1 f2=-(f1.2*f2.1):=by unfold Qbx; rw [h4]; grind
       have:=Int.mul_nonneg_of_nonpos_of_nonpos k b2
       omega
   refine ⟨?_,.inr ⟨h4,h5⟩⟩
   have h6:Qbx f1 e2=-(f1.2*e2.1):=by unfold Qbx; rw [h4]; grind
   have:=Qr5 (Int.le_of_lt h5) a2
   omega
theorem Q3e {r s d:Int×Int} (a1:0≤r.1) (a2:s.1≤0) (h:0<Qbx r s∨(r.1=0∧0<r.2)) (hd:0<d.1):Qbx r d<0∨Qbx s d<0:=by
 rcases Int.lt_or_le (Qbx r d) 0 with g | g
 · exact .inl g
 rcases Int.lt_or_le (Qbx s d) 0 with g2 | g2
 · exact .inr g2
 exfalso
 rcases h with h | ⟨h1,h2⟩
 · have h1:=Qz2 r s d
   have h2:=Int.mul_pos h hd
   have h3:=Qls d s
   have h4:=Q9x (show Qbx d s≤0 by omega) a1
   have h5:=Qr5 g a2
   omega
 · have h6:Qbx r d=-(r.2*d.1):=by unfold Qbx; rw [h1]; grind
   have:=Int.mul_pos h2 hd
   omega
theorem Qp4 (f:Nat→Int):∀ n,0<n→∃ a,a<n∧∀ i,i<n→f i≤f a
 | 0,h=>absurd h (Nat.not_lt_zero _)
 | 1, _ => ⟨0, Nat.one_pos, fun i hi => by obtain rfl:i=0:=by omega
                                           exact Int.le_refl _⟩
 | n + 2,_=>by
   obtain ⟨a,ha,h⟩:=Qp4 f (n + 1) (Nat.succ_pos _)
   rcases Int.le_total (f (n + 1)) (f a) with g | g
   · refine ⟨a,by omega,fun i hi=>?_⟩
     rcases Nat.lt_or_ge i (n + 1) with k | k
     · exact h i k
     · obtain rfl:i=n + 1:=by omega
       exact g
   · refine ⟨n + 1,by omega,fun i hi=>?_⟩
     rcases Nat.lt_or_ge i (n + 1) with k | k
     · exact Int.le_trans (h i k) g
     · obtain rfl:i=n + 1:=by omega
       exact Int.le_refl _
structure Tip (n:Nat) (g:Nat→Int×Int) (a b:Nat):Prop where
 ha:a<n
 hb:b<n
 hs:(b + 1) % n=a
 c:0<Qbx (Qbq (g b) (g a)) (Qbq (g a) (g ((a + 1) % n)))
 in1:∀ i,i<n→0≤Qbx (Qbq (g b) (g a)) (Qbq (g a) (g i))
 in2:∀ i,i<n→0≤Qbx (Qbq (g a) (g ((a + 1) % n))) (Qbq (g a) (g i))
theorem Qz0 (p q x:Int×Int):Qga p q x=Qbx (Qbq p q) (Qbq q x):=by unfold Qga Qbx Qbq; grind
theorem Q7t (a:Int×Int):Qbx a a=0:=by unfold Qbx; grind
theorem Q7u (p q:Int×Int):Qbx (Qbq p q) (Qbq q p)=0:=by unfold Qbx Qbq; grind
theorem Qws (u p:Int×Int):Qbx u (Qbq p p)=0:=by unfold Qbx Qbq; grind
theorem Qz1 {n:Nat} {g:Nat→Int×Int} (h3:3≤n) (hc:Qrb n g) {a:Nat} (ha:a<n):∃ b,Tip n g a b:=by
 have h1:(a + n - 1) % n<n:=Nat.mod_lt _ (by omega)
 obtain ⟨b,hbd⟩:∃ b,(a + n - 1) % n=b:=⟨_,rfl⟩
 rw [hbd] at h1
 have hb:b=if a=0 then n - 1 else a - 1:=by
   rw [← hbd]
   by_cases h:a=0
   · rw [if_pos h,h,Nat.zero_add,Nat.mod_eq_of_lt (by omega)]
   · rw [if_neg h,show a + n - 1=(a - 1) + n by omega,Nat.add_mod_right,Nat.mod_eq_of_lt (by omega)]
 have hs:(b + 1) % n=a:=by
   by_cases h:a=0
   · rw [hb,if_pos h,show n - 1 + 1=n by omega,Nat.mod_self,h]
   · rw [hb,if_neg h,show a - 1 + 1=a by omega,Nat.mod_eq_of_lt ha]
 obtain ⟨d,hd⟩:∃ d,(a + 1) % n=d:=⟨_,rfl⟩
 have hd':d=if a + 1=n then 0 else a + 1:=by
   rw [← hd]
   by_cases h:a + 1=n
   · rw [if_pos h,h,Nat.mod_self]
   · rw [if_neg h,Nat.mod_eq_of_lt (by omega)]
 have hdn:d<n:=by rw [hd']; split <;> omega
 have hab:b≠a:=by rw [hb]; split <;> omega
 have had:d≠a:=by rw [hd']; split <;> omega
 have hbd:d≠b:=by rw [hd',hb]; split <;> split <;> omega
 refine ⟨b,ha,h1,hs,?_,fun i hi=>?_,fun i hi=>?_⟩
 · have:=hc b d h1 hdn hbd (by rw [hs]; exact had)
   rw [hs,Qz0] at this
   rw [hd]; exact this
 · by_cases e1:i=b
   · subst e1; rw [Q7u]; exact Int.le_refl _
   by_cases e2:i=a
   · subst e2; rw [Qws]; exact Int.le_refl _
   have:=hc b i h1 hi e1 (by rw [hs]; exact e2)
   rw [hs,Qz0] at this
   exact Int.le_of_lt this
 · rw [hd]
   by_cases e1:i=a
   · subst e1; rw [Qws]; exact Int.le_refl _
   by_cases e2:i=d
   · subst e2; rw [Q7t]; exact Int.le_refl _
   have:=hc a i ha hi e1 (by rw [hd]; exact e2)
   rw [hd] at this
   exact Int.le_of_lt this
def Qwv (n:Nat) (g:Nat→Int×Int) (n2:Nat) (h:Nat→Int×Int):Prop:=∃ k,k<n∧∀ i,i<n2→Qga (g k) (g ((k + 1) % n)) (h i)<0
def Qyr (p:Int×Int):Int×Int:=(-p.1,-p.2)
theorem Ze2 (a b:Int×Int):Qbx (Qyr a) (Qyr b)=Qbx a b:=by unfold Qbx Qyr; grind
theorem Qun {f1 f2 e v:Int×Int} (hc:0<Qbx f1 f2) (h1:0≤Qbx e f2) (h2:0≤Qbx f1 e) (g1:Qbx f1 v≤0) (g2:Qbx f2 v≤0):Qbx e v≤0:=by
 have k:Qbx f1 f2*Qbx e v=Qbx e f2*Qbx f1 v + Qbx f1 e*Qbx f2 v:=by unfold Qbx; grind
 have k1:=Qr5 h1 g1
 have k2:=Qr5 h2 g2
 rcases Int.lt_or_le 0 (Qbx e v) with h | h
 · have:=Int.mul_pos hc h; omega
 · exact h
theorem Qox (a b:Int×Int):Qbx (Qyr a) b=-Qbx a b:=by unfold Qbx Qyr; grind
theorem Qwt (a b:Int×Int):Qbx a (Qyr b)=-Qbx a b:=by unfold Qbx Qyr; grind
theorem Qqs (e p q x:Int×Int):Qbx e (Qbq p x)=Qbx e (Qbq q x) + Qbx e (Qbq p q):=by unfold Qbx Qbq; grind
theorem Qtk (p q:Int×Int):Qbq p q=Qyr (Qbq q p):=by unfold Qbq Qyr; simp only [Prod.mk.injEq]; omega
theorem Zl7 {n n2:Nat} {g h:Nat→Int×Int} (hn:3≤n) (hn2:3≤n2) (hg:Qrb n g) (hh:Qrb n2 h) (hx:∀ i j,i<n→j<n2→(g i).1<(h j).1):Qwv n g n2 h∨Qwv n2 h n g:=by
 obtain ⟨a,ha,hma⟩:=Qp4 (fun i=>(g i).1) n (by omega)
 obtain ⟨c,hc,hmc⟩:=Qp4 (fun i=>-(h i).1) n2 (by omega)
 obtain ⟨b,A⟩:=Qz1 hn hg ha
 obtain ⟨d,B⟩:=Qz1 hn2 hh hc
 have hna:(a + 1) % n<n:=Nat.mod_lt _ (by omega)
 have hnc:(c + 1) % n2<n2:=Nat.mod_lt _ (by omega)
 obtain ⟨e1,he1⟩:∃ e,Qbq (g b) (g a)=e:=⟨_,rfl⟩
 obtain ⟨e2,he2⟩:∃ e,Qbq (g a) (g ((a + 1) % n))=e:=⟨_,rfl⟩
 obtain ⟨f1,hf1⟩:∃ e,Qbq (h c) (h d)=e:=⟨_,rfl⟩
 obtain ⟨f2,hf2⟩:∃ e,Qbq (h ((c + 1) % n2)) (h c)=e:=⟨_,rfl⟩
 have k1:Qbq (h d) (h c)=Qyr f1:=by rw [← hf1]; exact Qtk _ _
 have k2:Qbq (h c) (h ((c + 1) % n2))=Qyr f2:=by rw [← hf2]; exact Qtk _ _
 have a1:0≤e1.1:=by
   have:=hma b A.hb
   rw [← he1]; unfold Qbq; simp only at this ⊢; omega
 have a2:e2.1≤0:=by
   have:=hma _ hna
   rw [← he2]; unfold Qbq; simp only at this ⊢; omega
 have b1:0≤f1.1:=by
   have:=hmc d B.hb
   rw [← hf1]; unfold Qbq; simp only at this ⊢; omega
 have b2:f2.1≤0:=by
   have:=hmc _ hnc
   rw [← hf2]; unfold Qbq; simp only at this ⊢; omega
 have ac:0<Qbx e1 e2:=by have:=A.c; rw [he1,he2] at this; exact this
 have bc:0<Qbx f1 f2:=by have:=B.c; rw [k1,k2,Ze2] at this; exact this
 have i1:∀ i,i<n→0≤Qbx e1 (Qbq (g a) (g i)):=by have:=A.in1; rw [he1] at this; exact this
 have i2:∀ i,i<n→0≤Qbx e2 (Qbq (g a) (g i)):=by have:=A.in2; rw [he2] at this; exact this
 have j1:∀ i,i<n2→Qbx f1 (Qbq (h c) (h i))≤0:=fun i hi=>by
   have:=B.in1 i hi; rw [k1,Qox] at this; omega
 have j2:∀ i,i<n2→Qbx f2 (Qbq (h c) (h i))≤0:=fun i hi=>by
   have:=B.in2 i hi; rw [k2,Qox] at this; omega
 obtain ⟨D,hD⟩:∃ D,Qbq (g a) (h c)=D:=⟨_,rfl⟩
 have hD1:0<D.1:=by have:=hx a c ha hc; rw [← hD]; unfold Qbq; simp only; omega
 -- an edge of the first polygon
 have byE1:0≤Qbx e1 f2→0≤Qbx f1 e1→Qbx e1 D<0→Qwv n g n2 h:=fun q1 q2 q3=>⟨b,A.hb,fun i hi=>by
   rw [A.hs,Qz0,he1,Qqs e1 (g a) (h c),hD]
   have:=Qun bc q1 q2 (j1 i hi) (j2 i hi)
   omega⟩
 have byE2:0≤Qbx e2 f2→0≤Qbx f1 e2→Qbx e2 D<0→Qwv n g n2 h:=fun q1 q2 q3=>⟨a,ha,fun i hi=>by
   show Qbx (Qbq (g a) (g ((a + 1) % n))) (Qbq (g a) (h i))<0
   rw [he2,Qqs e2 (g a) (h c),hD]
   have:=Qun bc q1 q2 (j1 i hi) (j2 i hi)
   omega⟩
 have inA:∀ f,0≤Qbx f e2→0≤Qbx e1 f→∀ i,i<n→0≤Qbx f (Qbq (g a) (g i)):=fun f q1 q2 i hi=>by
   have:=Qun (e:=f) (v:=Qyr (Qbq (g a) (g i))) ac q1 q2 (by rw [Qwt]; have:=i1 i hi; omega) (by rw [Qwt]; have:=i2 i hi; omega)
   rw [Qwt] at this; omega
 have hDr:∀ f:Int×Int,Qbx f (Qbq (h c) (g a))=-Qbx f D:=fun f=>by rw [Qtk,hD,Qwt]
 have byF1:0≤Qbx f1 e2→0≤Qbx e1 f1→Qbx f1 D<0→Qwv n2 h n g:=fun q1 q2 q3=>⟨d,B.hb,fun i hi=>by
   rw [B.hs,Qz0,k1,Qqs _ (h c) (g a),Qox,Qox,hDr]
   have:=inA f1 q1 q2 i hi
   omega⟩
 have byF2:0≤Qbx f2 e2→0≤Qbx e1 f2→Qbx f2 D<0→Qwv n2 h n g:=fun q1 q2 q3=>⟨c,hc,fun i hi=>by
   show Qbx (Qbq (h c) (h ((c + 1) % n2))) (Qbq (h c) (g i))<0
   rw [k2,Qqs _ (h c) (g a),Qox,Qox,hDr]
   have:=inA f2 q1 q2 i hi
   omega⟩
 have mir:∀ {u1 u2 v1 v2:Int×Int},0≤u1.1→u2.1≤0→0<Qbx u1 u2→0≤v1.1→v2.1≤0→0<Qbx v1 v2→0≤Qbx v2 u2→0≤Qbx u1 v2:=fun {u1 u2 v1 v2} p1 p2 p3 p4 p5 p6 p7=>by
   have m:∀ a b:Int×Int,Qbx (-a.1,a.2) (-b.1,b.2)=Qbx b a:=fun a b=>by unfold Qbx; grind
   have:=(Zfa (e1:=(-u2.1,u2.2)) (e2:=(-u1.1,u1.2)) (f1:=(-v2.1,v2.2)) (f2:=(-v1.1,v1.2)) (by simp only; omega) (by simp only; omega) (by rw [m]; exact p3) (by simp only; omega) (by simp only; omega) (by rw [m]; exact p6) (by rw [m]; exact p7)).1
   rwa [m] at this
 rcases Int.le_total 0 (Qbx e1 f1) with cI | cI
 · obtain ⟨P1,P2⟩:=Zfa a1 a2 ac b1 b2 bc cI
   rcases Int.le_total 0 (Qbx f2 e2) with cIII | cIII
   · rcases Q3e b1 b2 (.inl bc) hD1 with g | g
     · exact .inr (byF1 P1 cI g)
     · exact .inr (byF2 cIII (mir a1 a2 ac b1 b2 bc cIII) g)
   · rcases Q3e b1 a2 P2 hD1 with g | g
     · exact .inr (byF1 P1 cI g)
     · exact .inl (byE2 (by rw [Qls]; omega) P1 g)
 · have cI':0≤Qbx f1 e1:=by rw [Qls]; omega
   obtain ⟨P1,P2⟩:=Zfa b1 b2 bc a1 a2 ac cI'
   rcases Int.le_total 0 (Qbx f2 e2) with cIII | cIII
   · rcases Q3e a1 b2 P2 hD1 with g | g
     · exact .inl (byE1 P1 cI' g)
     · exact .inr (byF2 cIII P1 g)
   · have cIV:0≤Qbx e2 f2:=by rw [Qls]; omega
     rcases Q3e a1 a2 (.inl ac) hD1 with g | g
     · exact .inl (byE1 P1 cI' g)
     · exact .inl (byE2 cIV (mir b1 b2 bc a1 a2 ac cIV) g)
theorem Zku {n:Nat} {g:Nat→Int×Int} {p:Int×Int} (hn:3≤n) (hg:Qrb n g) (hx:∀ i,i<n→(g i).1<p.1):∃ k,k<n∧Qga (g k) (g ((k + 1) % n)) p<0:=by
 obtain ⟨a,ha,hma⟩:=Qp4 (fun i=>(g i).1) n (by omega)
 obtain ⟨b,A⟩:=Qz1 hn hg ha
 have hna:(a + 1) % n<n:=Nat.mod_lt _ (by omega)
 have a1:0≤(Qbq (g b) (g a)).1:=by
   have:=hma b A.hb
   unfold Qbq; simp only at this ⊢; omega
 have a2:(Qbq (g a) (g ((a + 1) % n))).1≤0:=by
   have:=hma _ hna
   unfold Qbq; simp only at this ⊢; omega
 have hD1:0<(Qbq (g a) p).1:=by have:=hx a ha; unfold Qbq; simp only; omega
 rcases Q3e a1 a2 (.inl A.c) hD1 with q | q
 · exact ⟨b,A.hb,by rw [A.hs,Qz0]; exact q⟩
 · exact ⟨a,ha,q⟩
def Qf3 (p:Int×Int):Int×Int:=(p.2,-p.1)
theorem Q3d (a b:Int×Int):Qbx (Qf3 a) (Qf3 b)=Qbx a b:=by unfold Qbx Qf3; grind
theorem Zey (a b:Int×Int):Qgo (Qf3 a) (Qf3 b)=Qgo a b:=by unfold Qgo Qf3; grind
theorem Qtj (a b:Int×Int):Qbq (Qf3 a) (Qf3 b)=Qf3 (Qbq a b):=Prod.ext (by unfold Qbq Qf3; rfl) (by unfold Qbq Qf3; show -b.1 - -a.1=-(b.1 - a.1); omega)
theorem Qtm (a b c:Int×Int):Qga (Qf3 a) (Qf3 b) (Qf3 c)=Qga a b c:=by unfold Qga; rw [Qtj,Qtj,Q3d]
theorem Qm6 {n:Nat} {g:Nat→Int×Int} (h:Qrb n g):Qrb n fun i=>Qf3 (g i):=fun k i h1 h2 h3 h4=>by rw [Qtm]; exact h k i h1 h2 h3 h4
theorem Q3h {n n2:Nat} {g h:Nat→Int×Int} (q:Qwv n (fun i=>Qf3 (g i)) n2 fun i=>Qf3 (h i)):Qwv n g n2 h:=by
 obtain ⟨k,hk,q⟩:=q
 exact ⟨k,hk,fun i hi=>by have:=q i hi; rwa [Qtm] at this⟩
theorem sepY {n n2:Nat} {g h:Nat→Int×Int} (hn:3≤n) (hn2:3≤n2) (hg:Qrb n g) (hh:Qrb n2 h) (hx:∀ i j,i<n→j<n2→(g i).2<(h j).2):Qwv n g n2 h∨Qwv n2 h n g:=by
 rcases Zl7 hn hn2 (Qm6 hg) (Qm6 hh) (fun i j hi hj=>hx i j hi hj) with q | q
 · exact .inl (Q3h q)
 · exact .inr (Q3h q)
theorem sep {n n2:Nat} {g h:Nat→Int×Int} (hn:3≤n) (hn2:3≤n2) (hg:Qrb n g) (hh:Qrb n2 h)
   (hx:(∀ i j,i<n→j<n2→(g i).1<(h j).1)∨(∀ i j,i<n→j<n2→(h j).1<(g i).1)∨(∀ i j,i<n→j<n2→(g i).2<(h j).2)∨(∀ i j,i<n→j<n2→(h j).2<(g i).2)):Qwv n g n2 h∨Qwv n2 h n g:=by
 rcases hx with hx | hx | hx | hx
 · exact Zl7 hn hn2 hg hh hx
 · exact (Zl7 hn2 hn hh hg fun i j hi hj=>hx j i hj hi).symm
 · exact sepY hn hn2 hg hh hx
 · exact (sepY hn2 hn hh hg fun i j hi hj=>hx j i hj hi).symm
theorem Qj3 {n:Nat} {g:Nat→Int×Int} {p:Int×Int} (q:∃ k,k<n∧Qga (Qf3 (g k)) (Qf3 (g ((k + 1) % n))) (Qf3 p)<0):∃ k,k<n∧Qga (g k) (g ((k + 1) % n)) p<0:=by
 obtain ⟨k,hk,q⟩:=q
 exact ⟨k,hk,by rwa [Qtm] at q⟩
theorem outP {n:Nat} {g:Nat→Int×Int} {p:Int×Int} (hn:3≤n) (hg:Qrb n g)
   (hx:(∀ i,i<n→(g i).1<p.1)∨(∀ i,i<n→p.1<(g i).1)∨(∀ i,i<n→(g i).2<p.2)∨(∀ i,i<n→p.2<(g i).2)):∃ k,k<n∧Qga (g k) (g ((k + 1) % n)) p<0:=by
 have h1:=Qm6 hg
 have h2:=Qm6 h1
 have h3:=Qm6 h2
 rcases hx with hx | hx | hx | hx
 · exact Zku hn hg hx
 · refine Qj3 (Qj3 (g:=fun i=>Qf3 (g i)) (Zku (g:=fun i=>Qf3 (Qf3 (g i))) hn h2 fun i hi=>?_))
   have:=hx i hi
   simp only [Qf3]; omega
 · exact Qj3 (Zku (g:=fun i=>Qf3 (g i)) hn h1 fun i hi=>hx i hi)
 · refine Qj3 (Qj3 (g:=fun i=>Qf3 (g i)) (Qj3 (g:=fun i=>Qf3 (Qf3 (g i))) (Zku (g:=fun i=>Qf3 (Qf3 (Qf3 (g i)))) hn h3 fun i hi=>?_)))
   have:=hx i hi
   simp only [Qf3]; omega
theorem Qvj {a r:Int} (hr:0≤r) (h:r<a):r*r<a*a:=by
 have h1:=Int.mul_le_mul (show r≤a by omega) (show r≤a by omega) hr (by omega)
 have h2:(r + 1)*(r + 1)≤a*a:=Int.mul_le_mul (by omega) (by omega) (by omega) (by omega)
 rw [Int.add_mul,Int.mul_add] at h2
 omega
theorem Zju {a b:Int} (h:b<a):Qb7 a b > 0:=by
 unfold Qb7
 simp only [show ¬ a<b by omega,show ¬ a=b by omega,if_false] <;> first | decide | omega
theorem Zkz {p q c:Int×Int} {r:Int} (hr:0≤r) (h1:p.1 + r<c.1) (h2:q.1 + r<c.1):Qwn p q c r=true:=by
 obtain ⟨m,hm⟩:∃ m,Qbq p c=m:=⟨_,rfl⟩
 obtain ⟨e,he⟩:∃ e,Qbq p q=e:=⟨_,rfl⟩
 obtain ⟨w,hw⟩:∃ w,Qbq q c=w:=⟨_,rfl⟩
 have m1:r<m.1:=by rw [← hm]; unfold Qbq; simp only; omega
 have w1:r<w.1:=by rw [← hw]; unfold Qbq; simp only; omega
 have wm:w.1=m.1 - e.1:=by rw [← hw,← hm,← he]; unfold Qbq; simp only; omega
 unfold Qwn
 rw [hm,he,hw]
 cases g1:decide (Qgo m e≤0) with
 | true =>
   rw [cond_true]
   refine decide_eq_true ?_
   have:=Qvj hr m1
   have:=Qxd m.2
   unfold Qgo; omega
 | false =>
   rw [cond_false]
   have g1:=of_decide_eq_false g1
   cases g2:decide (Qgo m e ≥ Qgo e e) with
   | true =>
     rw [cond_true]
     refine decide_eq_true ?_
     have:=Qvj hr w1
     have:=Qxd w.2
     unfold Qgo; omega
   | false =>
     rw [cond_false]
     have g2:=of_decide_eq_false g2
     refine decide_eq_true (Zju ?_)
     obtain ⟨A,hA⟩:∃ A,Qgo m e=A:=⟨_,rfl⟩
     obtain ⟨E,hE⟩:∃ E,Qgo e e=E:=⟨_,rfl⟩
     obtain ⟨C,hC⟩:∃ C,Qbx e m=C:=⟨_,rfl⟩
     rw [hA] at g1 g2
     rw [hE] at g2 ⊢
     rw [hC]
     have k1:E*(C*C)=(E*m.1 - A*e.1)*(E*m.1 - A*e.1) + (E*m.2 - A*e.2)*(E*m.2 - A*e.2):=by
       rw [← hA,← hE,← hC]; unfold Qgo Qbx; grind
     have k2:E*m.1 - A*e.1=(E - A)*m.1 + A*w.1:=by rw [wm]; grind
     have k3:(E - A)*(r + 1)≤(E - A)*m.1:=Int.mul_le_mul_of_nonneg_left (by omega) (by omega)
     have k4:A*(r + 1)≤A*w.1:=Int.mul_le_mul_of_nonneg_left (by omega) (by omega)
     have k5:(E - A)*(r + 1) + A*(r + 1)=E*(r + 1):=by grind
     obtain ⟨T,hT⟩:∃ T,E*m.1 - A*e.1=T:=⟨_,rfl⟩
     have k6:0≤E*(r + 1):=Int.mul_nonneg (by omega) (by omega)
     have k7:E*(r + 1)≤T:=by omega
     have k8:E*(r + 1)*(E*(r + 1))≤T*T:=Int.mul_le_mul k7 k7 k6 (by omega)
     have k9:E*(E*((r + 1)*(r + 1)))≤E*(C*C):=by
       have:=Qxd (E*m.2 - A*e.2)
       rw [hT] at k1
       have k10:E*(r + 1)*(E*(r + 1))=E*(E*((r + 1)*(r + 1))):=by grind
       omega
     have k10:=Int.le_of_mul_le_mul_left k9 (show 0<E by omega)
     have k11:r*r*E<E*((r + 1)*(r + 1)):=by
       have:E*((r + 1)*(r + 1))=r*r*E + E*(2*r + 1):=by grind
       have:=Int.mul_pos (show 0<E by omega) (show 0<2*r + 1 by omega)
       omega
     omega
theorem Qka (p q c:Int×Int) (r:Int):Qwn (Qf3 p) (Qf3 q) (Qf3 c) r=Qwn p q c r:=by
 unfold Qwn
 simp only [Qtj,Q3d,Zey]
theorem farP {p q c:Int×Int} {r:Int} (hr:0≤r)
   (hx:(p.1 + r<c.1∧q.1 + r<c.1)∨(c.1 + r<p.1∧c.1 + r<q.1)∨(p.2 + r<c.2∧q.2 + r<c.2)∨(c.2 + r<p.2∧c.2 + r<q.2)):Qwn p q c r=true:=by
 rcases hx with ⟨h1,h2⟩ | ⟨h1,h2⟩ | ⟨h1,h2⟩ | ⟨h1,h2⟩
 · exact Zkz hr h1 h2
 · rw [← Qka,← Qka]
   exact Zkz hr (by simp only [Qf3]; omega) (by simp only [Qf3]; omega)
 · rw [← Qka]
   exact Zkz hr (by simp only [Qf3]; omega) (by simp only [Qf3]; omega)
 · rw [← Qka,← Qka,← Qka]
   exact Zkz hr (by simp only [Qf3]; omega) (by simp only [Qf3]; omega)
theorem Zng {a b:Int×Int} {r s:Int} (hr:0≤r) (hs:0≤s) (hx:a.1 + r<b.1 - s∨b.1 + s<a.1 - r∨a.2 + r<b.2 - s∨b.2 + s<a.2 - r):(r + s)*(r + s)<Qgo (Qbq a b) (Qbq a b):=by
 unfold Qgo Qbq
 simp only
 have n1:=Qxd (b.1 - a.1)
 have n2:=Qxd (b.2 - a.2)
 have f:∀ x:Int,r + s<x∨r + s < -x→(r + s)*(r + s)<x*x:=fun x h=>by
   rcases h with h | h
   · exact Qvj (by omega) h
   · have:=Qvj (by omega) h
     rwa [Int.neg_mul_neg] at this
 rcases hx with h | h | h | h
 · have:=f (b.1 - a.1) (.inl (by omega)); omega
 · have:=f (b.1 - a.1) (.inr (by omega)); omega
 · have:=f (b.2 - a.2) (.inl (by omega)); omega
 · have:=f (b.2 - a.2) (.inr (by omega)); omega
theorem Qi9 (f:Nat→Int):∀ n i,i<n→mnI f n≤f i
 | 0,_,h=>absurd h (Nat.not_lt_zero _)
 | 1, i, h => by obtain rfl:i=0:=by omega
                 exact Int.le_refl _
 | n + 2,i,h=>by
   show min (mnI f (n + 1)) (f (n + 1))≤f i
   rcases Nat.lt_or_ge i (n + 1) with k | k
   · have:=Qi9 f (n + 1) i k; omega
   · obtain rfl:i=n + 1:=by omega
     omega
theorem Qi8 (f:Nat→Int):∀ n i,i<n→f i≤mxI f n
 | 0,_,h=>absurd h (Nat.not_lt_zero _)
 | 1, i, h => by obtain rfl:i=0:=by omega
                 exact Int.le_refl _
 | n + 2,i,h=>by
   show f i≤max (mxI f (n + 1)) (f (n + 1))
   rcases Nat.lt_or_ge i (n + 1) with k | k
   · have:=Qi8 f (n + 1) i k; omega
   · obtain rfl:i=n + 1:=by omega
     omega
def Qhz (a b:BxI):Prop:=a.c<b.a∨b.c<a.a∨a.d<b.b∨b.d<a.b
def dBx (c:Int×Int) (r:Int):BxI:=⟨c.1 - r,c.2 - r,c.1 + r,c.2 + r⟩
def pBx (n:Nat) (g:Nat→Int×Int):BxI:=⟨mnI (fun i=>(g i).1) n,mnI (fun i=>(g i).2) n,mxI (fun i=>(g i).1) n,mxI (fun i=>(g i).2) n⟩
theorem Q77 {n n2:Nat} {g h:Nat→Int×Int} (hn:3≤n) (hn2:3≤n2) (hg:Qrb n g) (hh:Qrb n2 h) (hx:Qhz (pBx n g) (pBx n2 h)):Qwv n g n2 h∨Qwv n2 h n g:=by
 refine sep hn hn2 hg hh ?_
 have u1:=Qi8 (fun i=>(g i).1) n
 have u2:=Qi8 (fun i=>(g i).2) n
 have u3:=Qi8 (fun i=>(h i).1) n2
 have u4:=Qi8 (fun i=>(h i).2) n2
 have l1:=Qi9 (fun i=>(g i).1) n
 have l2:=Qi9 (fun i=>(g i).2) n
 have l3:=Qi9 (fun i=>(h i).1) n2
 have l4:=Qi9 (fun i=>(h i).2) n2
 unfold Qhz pBx at hx
 simp only at hx u1 u2 u3 u4 l1 l2 l3 l4
 rcases hx with hx | hx | hx | hx
 · exact .inl fun i j hi hj=>by have:=u1 i hi; have:=l3 j hj; omega
 · exact .inr (.inl fun i j hi hj=>by have:=u3 j hj; have:=l1 i hi; omega)
 · exact .inr (.inr (.inl fun i j hi hj=>by have:=u2 i hi; have:=l4 j hj; omega))
 · exact .inr (.inr (.inr fun i j hi hj=>by have:=u4 j hj; have:=l2 i hi; omega))
theorem Q78 {n:Nat} {g:Nat→Int×Int} {c:Int×Int} {r:Int} (hn:3≤n) (hg:Qrb n g) (hr:0≤r) (hx:Qhz (pBx n g) (dBx c r)):(∃ k,k<n∧Qga (g k) (g ((k + 1) % n)) c<0)∧∀ k,k<n→Qwn (g k) (g ((k + 1) % n)) c r=true:=by
 have u1:=Qi8 (fun i=>(g i).1) n
 have u2:=Qi8 (fun i=>(g i).2) n
 have l1:=Qi9 (fun i=>(g i).1) n
 have l2:=Qi9 (fun i=>(g i).2) n
 have hk:∀ k,(k + 1) % n<n:=fun k=>Nat.mod_lt _ (by omega)
 unfold Qhz pBx dBx at hx
 simp only at hx u1 u2 l1 l2
 refine ⟨outP hn hg ?_,fun k hkn=>farP hr ?_⟩
 · rcases hx with hx | hx | hx | hx
   · exact .inl fun i hi=>by have:=u1 i hi; omega
   · exact .inr (.inl fun i hi=>by have:=l1 i hi; omega)
   · exact .inr (.inr (.inl fun i hi=>by have:=u2 i hi; omega))
   · exact .inr (.inr (.inr fun i hi=>by have:=l2 i hi; omega))
 · have a1:=u1 k hkn; have a2:=u1 _ (hk k); have a3:=u2 k hkn; have a4:=u2 _ (hk k)
   have b1:=l1 k hkn; have b2:=l1 _ (hk k); have b3:=l2 k hkn; have b4:=l2 _ (hk k)
   rcases hx with hx | hx | hx | hx
   · exact .inl ⟨by omega,by omega⟩
   · exact .inr (.inl ⟨by omega,by omega⟩)
   · exact .inr (.inr (.inl ⟨by omega,by omega⟩))
   · exact .inr (.inr (.inr ⟨by omega,by omega⟩))
theorem Q7k {a b:BxI} (h:Qhz a b):Qhz b a:=by
 unfold Qhz at *
 omega
theorem Q8a {a b:Int×Int} {r s:Int} (hr:0≤r) (hs:0≤s) (hx:Qhz (dBx a r) (dBx b s)):(r + s)*(r + s)<Qgo (Qbq a b) (Qbq a b):=by
 refine Zng hr hs ?_
 unfold Qhz dBx at hx
 simp only at hx
 omega
def Q5d (n:Nat) (g:Nat→Int×Int) (n2:Nat) (h:Nat→Int×Int) (k:Nat):Bool:=(List.range n2).all fun i=>decide (Qga (g k) (g ((k + 1) % n)) (h i)<0)
def Zab (n:Nat) (g:Nat→Int×Int) (n2:Nat) (h:Nat→Int×Int):Bool:=(List.range n).any fun k=>Q5d n g n2 h k
structure ClX where
 p:Int×Int
 q:Int×Int
 i:Nat
noncomputable def Zaq (n n2:Nat) (g h:Nat→Int×Int):Nat→Option LoopSpec:=Qlw (Qq1 Qay 0 Qgn Nat (fun k=>k≤n∧∀ j,j<k→Q5d n g n2 h j=false) (fun k=>k) [(80,fun _=>Qor)]) Tryz.f119 2 ClX (fun x=>x.i≤n2∧∀ j,j<x.i→Qga x.p x.q (h j)<0) (fun s x=>Qic 11 s=pS2 x.p∧Qic 12 s=pS2 x.q) (fun x=>n2 - x.i) [(16,fun x=>.v (.int .i64 (x.i:Nat)))] [(80,fun _=>Qor)] []
@[reducible] noncomputable def Ql3 :=(((1:Nat)=1)∧(((1:Nat)≤1)∧(∀ i:Nat,(((i:Nat)<1)→([(SV.v (.bool false))]=[(SV.v (.bool false))])))))
theorem Zlw (n n2 n' n2' cap cap2:Nat) (g h:Nat→Int×Int) (R:SV→Prop):(Qcf Tryz.prog Zfq (Zaq n n2 g h) Tryz.f119 [.agg [.sl 0 2 0 n cap],.agg [.sl 1 2 0 n2 cap2]] (Qbl [⟨2,n',Qbw g⟩,⟨2,n2',Qbw h⟩]) 64 (fun y _=>R y)) =
(((It.P Qgn=Tryz.prog)∧(((n:Nat)≤1099511627776)∧((((0 + n):Nat)≤(Ro.n {s:=2,n:=n',row:=fun i=>[yI (Prod.fst (g i)),yI (Prod.snd (g i))]}))∧(∀ j:Nat,(((j:Nat)<n)→([(yI (Prod.fst (g (0 + j)))),(yI (Prod.snd (g (0 + j))))]=[(yI (Prod.fst (gi [yI (Prod.fst (g (0 + j))),yI (Prod.snd (g (0 + j)))]))),(yI (Prod.snd (gi [yI (Prod.fst (g (0 + j))),yI (Prod.snd (g (0 + j)))])))]))))))∧((∃ x:Nat,(((x:Nat)=0)∧((((x:Nat)≤n)∧(∀ j:Nat,(((j:Nat)<x)→(Q5d n g n2 h j=false))))∧(True∧(Ql3)))))∧((∀ x:Nat,((((x:Nat)≤n)∧(∀ j:Nat,(((j:Nat)<x)→(Q5d n g n2 h j=false))))→(((x:Nat)<n)→((∃ x_1:ClX,((((((ClX.i x_1):Nat)≤n2)∧(∀ j:Nat,(((j:Nat)<(ClX.i x_1))→(((Qga (ClX.p x_1) (ClX.q x_1) (h j)):Int)<0))))∧(((SV.agg [(yI (Prod.fst (gi [yI (Prod.fst (g (0 + x))),yI (Prod.snd (g (0 + x)))]))),(yI (Prod.snd (gi [yI (Prod.fst (g (0 + x))),yI (Prod.snd (g (0 + x)))])))])=(SV.agg [(yI (Prod.fst (ClX.p x_1))),(yI (Prod.snd (ClX.p x_1)))]))∧((SV.agg [(yI (Prod.fst (gi [yI (Prod.fst (g (0 + (x + 1) % n))),yI (Prod.snd (g (0 + (x + 1) % n)))]))),(yI (Prod.snd (gi [yI (Prod.fst (g (0 + (x + 1) % n))),yI (Prod.snd (g (0 + (x + 1) % n)))])))])=(SV.agg [(yI (Prod.fst (ClX.q x_1))),(yI (Prod.snd (ClX.q x_1)))]))))∧(((yI 0)=(yI ((↑(ClX.i x_1):Int))))∧(Ql3))))∧(∀ x_1:ClX,((((((ClX.i x_1):Nat)≤n2)∧(∀ j:Nat,(((j:Nat)<(ClX.i x_1))→(((Qga (ClX.p x_1) (ClX.q x_1) (h j)):Int)<0))))∧(((SV.agg [(yI (Prod.fst (gi [yI (Prod.fst (g (0 + x))),yI (Prod.snd (g (0 + x)))]))),(yI (Prod.snd (gi [yI (Prod.fst (g (0 + x))),yI (Prod.snd (g (0 + x)))])))])=(SV.agg [(yI (Prod.fst (ClX.p x_1))),(yI (Prod.snd (ClX.p x_1)))]))∧((SV.agg [(yI (Prod.fst (gi [yI (Prod.fst (g (0 + (x + 1) % n))),yI (Prod.snd (g (0 + (x + 1) % n)))]))),(yI (Prod.snd (gi [yI (Prod.fst (g (0 + (x + 1) % n))),yI (Prod.snd (g (0 + (x + 1) % n)))])))])=(SV.agg [(yI (Prod.fst (ClX.q x_1))),(yI (Prod.snd (ClX.q x_1)))]))))→(sel (decide ((↑(ClX.i x_1):Int)<(↑n2:Int))) ((((0:Int)≤((↑(ClX.i x_1):Int)))∧((((↑(ClX.i x_1):Int)):Int)<((↑n2:Int))))∧((((P21 (Prod.fst (gi [yI (Prod.fst (g (0 + x))),yI (Prod.snd (g (0 + x)))])))∧(P21 (Prod.snd (gi [yI (Prod.fst (g (0 + x))),yI (Prod.snd (g (0 + x)))]))))∧(((P21 (Prod.fst (gi [yI (Prod.fst (g (0 + (x + 1) % n))),yI (Prod.snd (g (0 + (x + 1) % n)))])))∧(P21 (Prod.snd (gi [yI (Prod.fst (g (0 + (x + 1) % n))),yI (Prod.snd (g (0 + (x + 1) % n)))]))))∧((P21 (Prod.fst (h (0 + Int.toNat (↑(ClX.i x_1):Int)))))∧(P21 (Prod.snd (h (0 + Int.toNat (↑(ClX.i x_1):Int))))))))∧(sel (decide (Qga (Prod.fst (gi [yI (Prod.fst (g (0 + x))),yI (Prod.snd (g (0 + x)))]),Prod.snd (gi [yI (Prod.fst (g (0 + x))),yI (Prod.snd (g (0 + x)))])) (Prod.fst (gi [yI (Prod.fst (g (0 + (x + 1) % n))),yI (Prod.snd (g (0 + (x + 1) % n)))]),Prod.snd (gi [yI (Prod.fst (g (0 + (x + 1) % n))),yI (Prod.snd (g (0 + (x + 1) % n)))])) (Prod.fst (h (0 + Int.toNat (↑(ClX.i x_1):Int))),Prod.snd (h (0 + Int.toNat (↑(ClX.i x_1):Int)))) ≥ 0)) (∃ x':Nat,(((x':Nat)=(x + 1))∧((((x':Nat)≤n)∧(∀ j:Nat,(((j:Nat)<x')→(Q5d n g n2 h j=false))))∧(True∧(Ql3))))) (∃ x':ClX,(((((((ClX.i x'):Nat)≤n2)∧(∀ j:Nat,(((j:Nat)<(ClX.i x'))→(((Qga (ClX.p x') (ClX.q x') (h j)):Int)<0))))∧(((SV.agg [(yI (Prod.fst (gi [yI (Prod.fst (g (0 + x))),yI (Prod.snd (g (0 + x)))]))),(yI (Prod.snd (gi [yI (Prod.fst (g (0 + x))),yI (Prod.snd (g (0 + x)))])))])=(SV.agg [(yI (Prod.fst (ClX.p x'))),(yI (Prod.snd (ClX.p x')))]))∧((SV.agg [(yI (Prod.fst (gi [yI (Prod.fst (g (0 + (x + 1) % n))),yI (Prod.snd (g (0 + (x + 1) % n)))]))),(yI (Prod.snd (gi [yI (Prod.fst (g (0 + (x + 1) % n))),yI (Prod.snd (g (0 + (x + 1) % n)))])))])=(SV.agg [(yI (Prod.fst (ClX.q x'))),(yI (Prod.snd (ClX.q x')))]))))∧(((yI (IntKind.wrap IntKind.i64 ((↑(ClX.i x_1):Int) + 1)))=(yI ((↑(ClX.i x'):Int))))∧(Ql3)))∧(((n2 - ClX.i x'):Nat)<(n2 - ClX.i x_1))))))) (R (yF true)))))))))∧(∀ x:Nat,((((x:Nat)≤n)∧(∀ j:Nat,(((j:Nat)<x)→(Q5d n g n2 h j=false))))→(((x:Nat)=n)→(R (yF false)))))))):=by kernel_rfl
def Zmu:List SV→List Ro→Option (Option Prop×SV)
 | [.agg [.sl 0 2 0 n _],.agg [.sl 1 2 0 n2 _]],[⟨2,n',row⟩,⟨2,n2',row2⟩]=>some (some ((n'=n∧n≤60∧spF n row)∧n2'=n2∧n2≤60∧spF n2 row2),.v (.bool (Zab n (fun i=>gi (row i)) n2 fun i=>gi (row2 i))))
 | _,_=>none
theorem clr1_t {n n2:Nat} {g h:Nat→Int×Int} {k:Nat}:Q5d n g n2 h k=true↔∀ i,i<n2→Qga (g k) (g ((k + 1) % n)) (h i)<0:=by
 unfold Q5d
 rw [List.all_eq_true]
 simp only [List.mem_range,decide_eq_true_eq]
theorem Q3i {n n2:Nat} {g h:Nat→Int×Int} {k:Nat} (hk:k<n) (h1:Q5d n g n2 h k=true):Zab n g n2 h=true:=by
 unfold Zab
 rw [List.any_eq_true]
 exact ⟨k,List.mem_range.2 hk,h1⟩
theorem Zjw {n n2:Nat} {g h:Nat→Int×Int} (h1:∀ k,k<n→Q5d n g n2 h k=false):Zab n g n2 h=false:=by
 unfold Zab
 rw [List.any_eq_false]
 intro k hk
 rw [h1 k (List.mem_range.1 hk)]
 exact Bool.false_ne_true
theorem Q1u {p q:Int×Int} (h:SV.agg [.v (.int .i64 p.1),.v (.int .i64 p.2)]=SV.agg [.v (.int .i64 q.1),.v (.int .i64 q.2)]):p=q:=by
 injection h with h
 injection h with h1 h2
 injection h2 with h2 _
 injection h1 with h1
 injection h2 with h2
 injection h1 with _ h1
 injection h2 with _ h2
 exact Prod.ext h1 h2
theorem Zjv {n n2 cap cap2:Nat} {g h:Nat→Int×Int} (hn:n≤60) (hn2:n2≤60) (hg:∀ i,i<n→P21 (g i).1∧P21 (g i).2) (hh:∀ i,i<n2→P21 (h i).1∧P21 (h i).2):Qcf Tryz.prog Zfq (Zaq n n2 g h) Tryz.f119 [.agg [.sl 0 2 0 n cap],.agg [.sl 1 2 0 n2 cap2]] (Qbl [⟨2,n,Qbw g⟩,⟨2,n2,Qbw h⟩]) 64 (fun y _=>y=.v (.bool (Zab n g n2 h))):=by
 refine Eq.mpr (Zlw n n2 n n2 cap cap2 g h _) ?_
 repeat (first | unfold Ql3)
 refine ?_
 simp only [gi,Nat.zero_add]
 refine ⟨⟨rfl,by omega,Nat.le_refl _,fun _ _=>trivial⟩,⟨0,rfl,⟨Nat.zero_le _,fun j hj=>absurd hj (Nat.not_lt_zero _)⟩,trivial,trivial,Nat.le_refl _,fun _ _=>trivial⟩,fun x ⟨_,hx0⟩ hx=>?_,fun x ⟨_,h1⟩ he=>?_⟩
 · have l1:(x + 1) % n<n:=Nat.mod_lt _ (by omega)
   refine ⟨⟨⟨g x,g ((x + 1) % n),0⟩,⟨⟨Nat.zero_le _,fun j hj=>absurd hj (Nat.not_lt_zero _)⟩,rfl,rfl⟩,rfl,trivial,Nat.le_refl _,fun _ _=>trivial⟩,fun y ⟨⟨hy,hy2⟩,e1,e2⟩=>?_⟩
   have e1:=Q1u e1
   have e2:=Q1u e2
   rw [← e1,← e2] at hy2
   refine Qag (fun hlt=>?_) fun hge=>?_
   · have hlt:y.i<n2:=by have:=of_decide_eq_true hlt; omega
     have ew:IntKind.i64.wrap ((y.i:Int) + 1)=((y.i + 1:Nat):Int):=by rw [Qaj ⟨by omega,by omega⟩]; rfl
     rw [Int.toNat_natCast]
     refine ⟨⟨by omega,by omega⟩,⟨hg x hx,hg _ l1,hh _ hlt⟩,Qag (fun ht=>?_) fun ht=>?_⟩
     · have ht:Qga (g x) (g ((x + 1) % n)) (h y.i) ≥ 0:=of_decide_eq_true ht
       refine ⟨x + 1,rfl,⟨hx,fun j hj=>?_⟩,trivial,trivial,Nat.le_refl _,fun _ _=>trivial⟩
       rcases Nat.lt_or_ge j x with h2 | h2
       · exact hx0 j h2
       · obtain rfl:j=x:=by omega
         rw [Bool.eq_false_iff]
         intro hc
         have:=clr1_t.1 hc _ hlt
         omega
     · have ht:¬ Qga (g x) (g ((x + 1) % n)) (h y.i) ≥ 0:=of_decide_eq_false ht
       refine ⟨⟨g x,g ((x + 1) % n),y.i + 1⟩,⟨⟨⟨hlt,fun j hj=>?_⟩,rfl,rfl⟩,by rw [ew],trivial,Nat.le_refl _,fun _ _=>trivial⟩,by simp only; omega⟩
       rcases Nat.lt_or_ge j y.i with h2 | h2
       · exact hy2 j h2
       · obtain rfl:j=y.i:=by simp only at hj; omega
         show Qga (g x) (g ((x + 1) % n)) (h y.i)<0
         omega
   · have hge:=of_decide_eq_false hge
     have hi:y.i=n2:=by omega
     rw [hi] at hy2
     rw [Q3i hx (clr1_t.2 hy2)]
 · subst he
   rw [Zjw h1]
theorem Q83:Qc7 Tryz.prog 119 Zmu:=Qcq hm Qtg Tryz.func119 (Λ:=fun args bs=>match args,bs with | [.agg [.sl 0 2 0 n _],.agg [.sl 1 2 0 n2 _]],[⟨2,_,row⟩,⟨2,_,row2⟩]=>Zaq n n2 (fun i=>gi (row i)) (fun i=>gi (row2 i)) | _,_=>Qay) fun args bs p x h hp=>by
 unfold Zmu at h
 split at h <;> try (cases h; done)
 rename_i n c n2 c2 n' row n2' row2
 cases h
 obtain ⟨⟨rfl,hn,h0⟩,rfl,hn2,h1⟩:=hp _ rfl
 exact ⟨rfl,[⟨2,n',Qbw fun i=>gi (row i)⟩,⟨2,n2',Qbw fun i=>gi (row2 i)⟩],⟨⟨rfl,rfl,fun i hi=>(h0 i hi).1⟩,⟨rfl,rfl,fun i hi=>(h1 i hi).1⟩,trivial⟩,Zjv hn hn2 (fun i hi=>(h0 i hi).2) (fun i hi=>(h1 i hi).2)⟩
noncomputable def Qtd (n:Nat) (g:Nat→Int×Int) (p:Int×Int):Nat→Option LoopSpec:=Qq1 Qay 0 Qgn Nat (fun k=>k≤n∧∀ j,j<k→0≤Qga (g j) (g ((j + 1) % n)) p) (fun k=>k) [(80,fun _=>Qor)]
def Q0x:List SV→List Ro→Option (Option Prop×SV)
 | [.agg [.sl 0 2 0 n _],.agg [.v (.int .i64 a),.v (.int .i64 b)]],[⟨2,n',row⟩]=>some (some (n'=n∧n≤60∧spF n row∧(P21 a∧P21 b)∧∃ k,k<n∧Qga (gi (row k)) (gi (row ((k + 1) % n))) (a,b)<0),.v (.bool false))
 | _,_=>none
theorem Zbw (n n' cap:Nat) (p:Int×Int) (g:Nat→Int×Int):(Qcf Tryz.prog Zfq (Qtd n g p) Tryz.f116 [.agg [.sl 0 2 0 n cap],pS2 p] (Qbl [⟨2,n',Qbw g⟩]) 64 (fun y _=>y=.v (.bool false))) =
(((It.P Qgn=Tryz.prog)∧(((n:Nat)≤1099511627776)∧((((0 + n):Nat)≤(Ro.n {s:=2,n:=n',row:=fun i=>[yI (Prod.fst (g i)),yI (Prod.snd (g i))]}))∧(∀ j:Nat,(((j:Nat)<n)→([(yI (Prod.fst (g (0 + j)))),(yI (Prod.snd (g (0 + j))))]=[(yI (Prod.fst (gi [yI (Prod.fst (g (0 + j))),yI (Prod.snd (g (0 + j)))]))),(yI (Prod.snd (gi [yI (Prod.fst (g (0 + j))),yI (Prod.snd (g (0 + j)))])))]))))))∧((∃ x:Nat,(((x:Nat)=0)∧((((x:Nat)≤n)∧(∀ j:Nat,(((j:Nat)<x)→((0:Int)≤(Qga (g j) (g ((j + 1) % n)) p)))))∧(True∧(((1:Nat)=1)∧(((1:Nat)≤1)∧(∀ i:Nat,(((i:Nat)<1)→([(yF false)]=[(yF false)])))))))))∧((∀ x:Nat,((((x:Nat)≤n)∧(∀ j:Nat,(((j:Nat)<x)→((0:Int)≤(Qga (g j) (g ((j + 1) % n)) p)))))→(((x:Nat)<n)→((((P21 (Prod.fst (gi [yI (Prod.fst (g (0 + x))),yI (Prod.snd (g (0 + x)))])))∧(P21 (Prod.snd (gi [yI (Prod.fst (g (0 + x))),yI (Prod.snd (g (0 + x)))]))))∧(((P21 (Prod.fst (gi [yI (Prod.fst (g (0 + (x + 1) % n))),yI (Prod.snd (g (0 + (x + 1) % n)))])))∧(P21 (Prod.snd (gi [yI (Prod.fst (g (0 + (x + 1) % n))),yI (Prod.snd (g (0 + (x + 1) % n)))]))))∧((P21 (Prod.fst p))∧(P21 (Prod.snd p)))))∧(sel (decide (Qga (Prod.fst (gi [yI (Prod.fst (g (0 + x))),yI (Prod.snd (g (0 + x)))]),Prod.snd (gi [yI (Prod.fst (g (0 + x))),yI (Prod.snd (g (0 + x)))])) (Prod.fst (gi [yI (Prod.fst (g (0 + (x + 1) % n))),yI (Prod.snd (g (0 + (x + 1) % n)))]),Prod.snd (gi [yI (Prod.fst (g (0 + (x + 1) % n))),yI (Prod.snd (g (0 + (x + 1) % n)))])) (Prod.fst p,Prod.snd p)<0)) ((yF false)=(yF false)) (∃ x':Nat,(((x':Nat)=(x + 1))∧((((x':Nat)≤n)∧(∀ j:Nat,(((j:Nat)<x')→((0:Int)≤(Qga (g j) (g ((j + 1) % n)) p)))))∧(True∧(((1:Nat)=1)∧(((1:Nat)≤1)∧(∀ i:Nat,(((i:Nat)<1)→([(yF false)]=[(yF false)]))))))))))))))∧(∀ x:Nat,((((x:Nat)≤n)∧(∀ j:Nat,(((j:Nat)<x)→((0:Int)≤(Qga (g j) (g ((j + 1) % n)) p)))))→(((x:Nat)=n)→((yF true)=(yF false)))))))):=by kernel_rfl
noncomputable def Zkk:Qbz:=Qai (Qai (Qai (Qai (Qai (Qai Qbi 114 (Qao Zkm)) 115 (Qao Q6k)) 116 (Qfc Q0x)) 117 (Qcz false Qvp)) 118 (Qao Zc8)) 119 (Qfc Zmu)
abbrev dsS (c:Int×Int) (r:Int):SV:=.v (.iface 201 (.agg #[.int .i64 c.1,.int .i64 c.2,.int .i64 r]))
abbrev plS (k n cap:Nat):SV:=.ifc 203 (.agg [.sl k 2 0 n cap])
noncomputable def Qyz (n:Nat):Nat→Option LoopSpec:=Qq1 Qay 3 Qgn Nat (fun k=>k≤n) (fun k=>k) [(64,fun _=>Qor)]
theorem Qzu (n n' cap:Nat) (g:Nat→Int×Int) (c:Int×Int) (r:Int):(Qcf Tryz.prog Zkk (Qyz n) Tryz.f57 [plS 0 n cap,dsS c r] (Qbl [⟨2,n',Qbw g⟩]) 64 (fun y _=>y=.v (.bool true))) =
((((n:Nat)=n)∧(((n:Nat)≤60)∧((spF n fun y=>[yI (Prod.fst (g (0 + y))),yI (Prod.snd (g (0 + y)))])∧(((P21 (Prod.fst c))∧(P21 (Prod.snd c)))∧(∃ k:Nat,(((k:Nat)<n)∧(((Qga (gi [yI (Prod.fst (g (0 + k))),yI (Prod.snd (g (0 + k)))]) (gi [yI (Prod.fst (g (0 + (k + 1) % n))),yI (Prod.snd (g (0 + (k + 1) % n)))]) (Prod.fst c,Prod.snd c)):Int)<0)))))))∧(((It.P Qgn=Tryz.prog)∧(((n:Nat)≤1099511627776)∧((((0 + n):Nat)≤(Ro.n {s:=2,n:=n',row:=fun i=>[yI (Prod.fst (g i)),yI (Prod.snd (g i))]}))∧(∀ j:Nat,(((j:Nat)<n)→([(yI (Prod.fst (g (0 + j)))),(yI (Prod.snd (g (0 + j))))]=[(yI (Prod.fst (gi [yI (Prod.fst (g (0 + j))),yI (Prod.snd (g (0 + j)))]))),(yI (Prod.snd (gi [yI (Prod.fst (g (0 + j))),yI (Prod.snd (g (0 + j)))])))]))))))∧((∃ x:Nat,(((x:Nat)=0)∧((Nat.le x n)∧(True∧(((1:Nat)=1)∧(((1:Nat)≤1)∧(∀ i:Nat,(((i:Nat)<1)→([(yF false)]=[(yF false)])))))))))∧((∀ x:Nat,((Nat.le x n)→(((x:Nat)<n)→((((P21 (Prod.fst (gi [yI (Prod.fst (g (0 + x))),yI (Prod.snd (g (0 + x)))])))∧(P21 (Prod.snd (gi [yI (Prod.fst (g (0 + x))),yI (Prod.snd (g (0 + x)))]))))∧(((P21 (Prod.fst (gi [yI (Prod.fst (g (0 + (x + 1) % n))),yI (Prod.snd (g (0 + (x + 1) % n)))])))∧(P21 (Prod.snd (gi [yI (Prod.fst (g (0 + (x + 1) % n))),yI (Prod.snd (g (0 + (x + 1) % n)))]))))∧(((P21 (Prod.fst c))∧(P21 (Prod.snd c)))∧(P21 r))))∧(sel (!Qwn (Prod.fst (gi [yI (Prod.fst (g (0 + x))),yI (Prod.snd (g (0 + x)))]),Prod.snd (gi [yI (Prod.fst (g (0 + x))),yI (Prod.snd (g (0 + x)))])) (Prod.fst (gi [yI (Prod.fst (g (0 + (x + 1) % n))),yI (Prod.snd (g (0 + (x + 1) % n)))]),Prod.snd (gi [yI (Prod.fst (g (0 + (x + 1) % n))),yI (Prod.snd (g (0 + (x + 1) % n)))])) (Prod.fst c,Prod.snd c) r) ((yF false)=(yF true)) (∃ x':Nat,(((x':Nat)=(x + 1))∧((Nat.le x' n)∧(True∧(((1:Nat)=1)∧(((1:Nat)≤1)∧(∀ i:Nat,(((i:Nat)<1)→([(yF false)]=[(yF false)]))))))))))))))∧(∀ x:Nat,((Nat.le x n)→(((x:Nat)=n)→((yF true)=(yF true))))))))):=by kernel_rfl
def dsG:SV→Option ((Int×Int)×Int)
 | .v (.iface t (.agg cs))=>bif Nat.beq t 201 then (match cs.toList with | [.int .i64 a,.int .i64 b,.int .i64 r]=>some ((a,b),r) | _=>none) else none
 | _=>none
def plG (k:Nat):SV→Option (Nat×Nat)
 | .ifc t (.agg [.sl k' 2 0 n cap])=>bif Nat.beq t 203&&Nat.beq k' k then some (n,cap) else none
 | _=>none
def Zdh:List SV→List Ro→Option (Option Prop×SV)
 | [x,y],[⟨2,n',row⟩]=>match plG 0 x,dsG y with
   | some (n,_),some (c,r)=>some (some (n'=n∧spF n row∧Qpw (0,0) n (fun i=>gi (row i))∧dskP c r∧Qhz (pBx n fun i=>gi (row i)) (dBx c r)),.v (.bool true))
   | _,_=>none
 | _,_=>none
noncomputable def Qrd:Qbz:=Qai Zkk 57 (Qfc Zdh)
theorem Zca (c d:Int×Int) (r s:Int) (R:SV→Prop):(Qcf Tryz.prog Qrd Qay Tryz.f57 [dsS c r,dsS d s] (Qbl []) 64 (fun y _=>R y))=((((P21 (Prod.fst c))∧(P21 (Prod.snd c)))∧((P21 (Prod.fst d))∧(P21 (Prod.snd d))))∧((((P22 (Prod.fst (Qbq (Prod.fst c,Prod.snd c) (Prod.fst d,Prod.snd d))))∧(P22 (Prod.snd (Qbq (Prod.fst c,Prod.snd c) (Prod.fst d,Prod.snd d)))))∧((P22 (Prod.fst (Qbq (Prod.fst c,Prod.snd c) (Prod.fst d,Prod.snd d))))∧(P22 (Prod.snd (Qbq (Prod.fst c,Prod.snd c) (Prod.fst d,Prod.snd d))))))∧(R (yF (decide (Qgo (Prod.fst (Qbq (Prod.fst c,Prod.snd c) (Prod.fst d,Prod.snd d)),Prod.snd (Qbq (Prod.fst c,Prod.snd c) (Prod.fst d,Prod.snd d))) (Prod.fst (Qbq (Prod.fst c,Prod.snd c) (Prod.fst d,Prod.snd d)),Prod.snd (Qbq (Prod.fst c,Prod.snd c) (Prod.fst d,Prod.snd d))) > IntKind.wrap IntKind.i64 (IntKind.wrap IntKind.i64 (r + s)*IntKind.wrap IntKind.i64 (r + s)))))))):=by kernel_rfl
theorem Zb8 (n n2 n' n2' cap cap2:Nat) (g h:Nat→Int×Int) (R:SV→Prop):(Qcf Tryz.prog Qrd Qay Tryz.f57 [plS 0 n cap,plS 1 n2 cap2] (Qbl [⟨2,n',Qbw g⟩,⟨2,n2',Qbw h⟩]) 64 (fun y _=>R y))=(((((n:Nat)=n)∧(((n:Nat)≤60)∧(spF n fun y=>[yI (Prod.fst (g (0 + y))),yI (Prod.snd (g (0 + y)))])))∧(((n2:Nat)=n2)∧(((n2:Nat)≤60)∧(spF n2 fun y=>[yI (Prod.fst (h (0 + y))),yI (Prod.snd (h (0 + y)))]))))∧(sel (Zab n (fun i=>gi [yI (Prod.fst (g (0 + i))),yI (Prod.snd (g (0 + i)))]) n2 fun i=>gi [yI (Prod.fst (h (0 + i))),yI (Prod.snd (h (0 + i)))]) (R (yF true)) (((((n2:Nat)=n2)∧(((n2:Nat)≤60)∧(spF n2 fun y=>[yI (Prod.fst (h (0 + y))),yI (Prod.snd (h (0 + y)))])))∧(((n:Nat)=n)∧(((n:Nat)≤60)∧(spF n fun y=>[yI (Prod.fst (g (0 + y))),yI (Prod.snd (g (0 + y)))]))))∧(R (yF (Zab n2 (fun i=>gi [yI (Prod.fst (h (0 + i))),yI (Prod.snd (h (0 + i)))]) n fun i=>gi [yI (Prod.fst (g (0 + i))),yI (Prod.snd (g (0 + i)))])))))):=by kernel_rfl
theorem Zb9 (n n' cap:Nat) (g:Nat→Int×Int) (c:Int×Int) (r:Int) (R:SV→Prop):(Qcf Tryz.prog Qrd Qay Tryz.f57 [dsS c r,plS 0 n cap] (Qbl [⟨2,n',Qbw g⟩]) 64 (fun y _=>R y))=((((n:Nat)=n)∧((spF n fun y=>[yI (Prod.fst (g (0 + y))),yI (Prod.snd (g (0 + y)))])∧((Qpw (0,0) n fun i=>gi [yI (Prod.fst (g (0 + i))),yI (Prod.snd (g (0 + i)))])∧((dskP (Prod.fst c,Prod.snd c) r)∧(Qhz (pBx n fun i=>gi [yI (Prod.fst (g (0 + i))),yI (Prod.snd (g (0 + i)))]) (dBx (Prod.fst c,Prod.snd c) r))))))∧(R (yF true))):=by kernel_rfl
theorem Q56 (n n' cap:Nat) (g:Nat→Int×Int) (c:Int×Int) (r:Int):(Qcf Tryz.prog Qrd (Qyz n) Tryz.f57 [plS 0 n cap,dsS c r] (Qbl [⟨2,n',Qbw g⟩]) 64 (fun y _=>y=.v (.bool true))) =
((((n:Nat)=n)∧(((n:Nat)≤60)∧((spF n fun y=>[yI (Prod.fst (g (0 + y))),yI (Prod.snd (g (0 + y)))])∧(((P21 (Prod.fst c))∧(P21 (Prod.snd c)))∧(∃ k:Nat,(((k:Nat)<n)∧(((Qga (gi [yI (Prod.fst (g (0 + k))),yI (Prod.snd (g (0 + k)))]) (gi [yI (Prod.fst (g (0 + (k + 1) % n))),yI (Prod.snd (g (0 + (k + 1) % n)))]) (Prod.fst c,Prod.snd c)):Int)<0)))))))∧(((It.P Qgn=Tryz.prog)∧(((n:Nat)≤1099511627776)∧((((0 + n):Nat)≤(Ro.n {s:=2,n:=n',row:=fun i=>[yI (Prod.fst (g i)),yI (Prod.snd (g i))]}))∧(∀ j:Nat,(((j:Nat)<n)→([(yI (Prod.fst (g (0 + j)))),(yI (Prod.snd (g (0 + j))))]=[(yI (Prod.fst (gi [yI (Prod.fst (g (0 + j))),yI (Prod.snd (g (0 + j)))]))),(yI (Prod.snd (gi [yI (Prod.fst (g (0 + j))),yI (Prod.snd (g (0 + j)))])))]))))))∧((∃ x:Nat,(((x:Nat)=0)∧((Nat.le x n)∧(True∧(((1:Nat)=1)∧(((1:Nat)≤1)∧(∀ i:Nat,(((i:Nat)<1)→([(yF false)]=[(yF false)])))))))))∧((∀ x:Nat,((Nat.le x n)→(((x:Nat)<n)→((((P21 (Prod.fst (gi [yI (Prod.fst (g (0 + x))),yI (Prod.snd (g (0 + x)))])))∧(P21 (Prod.snd (gi [yI (Prod.fst (g (0 + x))),yI (Prod.snd (g (0 + x)))]))))∧(((P21 (Prod.fst (gi [yI (Prod.fst (g (0 + (x + 1) % n))),yI (Prod.snd (g (0 + (x + 1) % n)))])))∧(P21 (Prod.snd (gi [yI (Prod.fst (g (0 + (x + 1) % n))),yI (Prod.snd (g (0 + (x + 1) % n)))]))))∧(((P21 (Prod.fst c))∧(P21 (Prod.snd c)))∧(P21 r))))∧(sel (!Qwn (Prod.fst (gi [yI (Prod.fst (g (0 + x))),yI (Prod.snd (g (0 + x)))]),Prod.snd (gi [yI (Prod.fst (g (0 + x))),yI (Prod.snd (g (0 + x)))])) (Prod.fst (gi [yI (Prod.fst (g (0 + (x + 1) % n))),yI (Prod.snd (g (0 + (x + 1) % n)))]),Prod.snd (gi [yI (Prod.fst (g (0 + (x + 1) % n))),yI (Prod.snd (g (0 + (x + 1) % n)))])) (Prod.fst c,Prod.snd c) r) ((yF false)=(yF true)) (∃ x':Nat,(((x':Nat)=(x + 1))∧((Nat.le x' n)∧(True∧(((1:Nat)=1)∧(((1:Nat)≤1)∧(∀ i:Nat,(((i:Nat)<1)→([(yF false)]=[(yF false)]))))))))))))))∧(∀ x:Nat,((Nat.le x n)→(((x:Nat)=n)→((yF true)=(yF true))))))))):=by kernel_rfl
def Zmx:List SV→List Ro→Option (Option Prop×SV)
 | [x,y],[]=>match dsG x,dsG y with
   | some (c,r),some (d,s)=>some (some (dskP c r∧dskP d s∧Qhz (dBx c r) (dBx d s)),.v (.bool true))
   | _,_=>none
 | [x,y],[⟨2,n',row⟩]=>match plG 0 x,dsG y with
   | some (n,_),some (c,r)=>some (some (n'=n∧spF n row∧Qpw (0,0) n (fun i=>gi (row i))∧dskP c r∧Qhz (pBx n fun i=>gi (row i)) (dBx c r)),.v (.bool true))
   | _,_=>match dsG x,plG 0 y with
     | some (c,r),some (n,_)=>some (some (n'=n∧spF n row∧Qpw (0,0) n (fun i=>gi (row i))∧dskP c r∧Qhz (pBx n fun i=>gi (row i)) (dBx c r)),.v (.bool true))
     | _,_=>none
 | [x,y],[⟨2,n',row⟩,⟨2,n2',row2⟩]=>match plG 0 x,plG 1 y with
   | some (n,_),some (n2,_)=>some (some ((n'=n∧spF n row∧Qpw (0,0) n (fun i=>gi (row i)))∧(n2'=n2∧spF n2 row2∧Qpw (0,0) n2 (fun i=>gi (row2 i)))∧Qhz (pBx n fun i=>gi (row i)) (pBx n2 fun i=>gi (row2 i))),.v (.bool true))
   | _,_=>none
 | _,_=>none
theorem Q6y {n cap:Nat} {p:Int×Int} {g:Nat→Int×Int} (hn:n≤60) (hg:∀ i,i<n→P21 (g i).1∧P21 (g i).2) (hp:P21 p.1∧P21 p.2) (h:∃ k,k<n∧Qga (g k) (g ((k + 1) % n)) p<0):Qcf Tryz.prog Zfq (Qtd n g p) Tryz.f116 [.agg [.sl 0 2 0 n cap],pS2 p] (Qbl [⟨2,n,Qbw g⟩]) 64 (fun y _=>y=.v (.bool false)):=by
 refine Eq.mpr (Zbw n n cap p g) ?_
 simp only [gi,Nat.zero_add]
 refine ⟨⟨rfl,by omega,Nat.le_refl _,fun _ _=>trivial⟩,⟨0,rfl,⟨Nat.zero_le _,fun j hj=>absurd hj (Nat.not_lt_zero _)⟩,trivial,trivial,Nat.le_refl _,fun _ _=>trivial⟩,fun x ⟨_,hx0⟩ hx=>?_,fun x ⟨_,h1⟩ he=>?_⟩
 · have l1:(x + 1) % n<n:=Nat.mod_lt _ (by omega)
   refine ⟨⟨hg x hx,hg _ l1,hp⟩,Qag (fun ht=>trivial) fun ht=>⟨x + 1,rfl,⟨hx,fun j hj=>?_⟩,trivial,trivial,Nat.le_refl _,fun _ _=>trivial⟩⟩
   have ht:¬ Qga (g x) (g ((x + 1) % n)) p<0:=of_decide_eq_false ht
   rcases Nat.lt_or_ge j x with h2 | h2
   · exact hx0 j h2
   · obtain rfl:j=x:=by omega
     omega
 · exfalso
   obtain ⟨k,hk,ht⟩:=h
   have:=h1 k (by omega)
   omega
theorem Qyb:Qc7 Tryz.prog 116 Q0x:=Qcq hm Qtg Tryz.func116 (Λ:=fun args bs=>match args,bs with | [.agg [.sl 0 2 0 n _],.agg [.v (.int .i64 a),.v (.int .i64 b)]],[⟨2,_,row⟩]=>Qtd n (fun i=>gi (row i)) (a,b) | _,_=>Qay) fun args bs p x h hp=>by
 unfold Q0x at h
 split at h <;> try (cases h; done)
 rename_i n c a b n' row
 cases h
 obtain ⟨rfl,hn,h0,h1,h2⟩:=hp _ rfl
 exact ⟨rfl,[⟨2,n',Qbw fun i=>gi (row i)⟩],⟨⟨rfl,rfl,fun i hi=>(h0 i hi).1⟩,trivial⟩,Q6y (p:=(a,b)) hn (fun i hi=>(h0 i hi).2) h1 h2⟩
theorem Qze:∀ f g,Zkk f=some g→g.ok Tryz.prog f:=Qad (Qad (Qad (Qad (Qad (Qad Qam (Qas Tryz.func114 (by kernel_rfl) (by kernel_rfl) Qw3)) (Qas Tryz.func115 (by kernel_rfl) (by kernel_rfl) Qs7)) (Qfj Tryz.func116 (by kernel_rfl) (by kernel_rfl) Qyb)) (Qc4 Tryz.func117 (by kernel_rfl) (by kernel_rfl) Qo7)) (Qas Tryz.func118 (by kernel_rfl) (by kernel_rfl) Q4x)) (Qfj Tryz.func119 (by kernel_rfl) (by kernel_rfl) Q83)
theorem Q3t {n cap:Nat} {g:Nat→Int×Int} {c:Int×Int} {r:Int} (h:Qpw (0,0) n g) (hd:dskP c r) (hx:Qhz (pBx n g) (dBx c r)) {P:Prop}
   (hP:P=(Qcf Tryz.prog Zkk (Qyz n) Tryz.f57 [plS 0 n cap,dsS c r] (Qbl [⟨2,n,Qbw g⟩]) 64 (fun y _=>y=.v (.bool true)))):P:=by
 obtain ⟨⟨k,hk,hkt⟩,hf⟩:=Q78 h.2.1.1 h.2.2.2 (by have:=hd.2.1.1; omega) hx
 have h8:=h.2.1.2
 have hg:=h.2.2.1
 rw [hP]
 refine Eq.mpr (Qzu n n cap g c r) ?_
 simp only [gi,Nat.zero_add]
 refine ⟨⟨trivial,by omega,fun i hi=>⟨rfl,hg i hi⟩,hd.1,k,hk,hkt⟩,⟨rfl,by omega,Nat.le_refl _,fun _ _=>trivial⟩,⟨0,rfl,Nat.zero_le _,trivial,trivial,Nat.le_refl _,fun _ _=>trivial⟩,fun x _ hx=>?_,fun x _ he=>trivial⟩
 have l1:(x + 1) % n<n:=Nat.mod_lt _ (by omega)
 refine ⟨⟨hg x hx,hg _ l1,hd.1,hd.r21⟩,sF ?_ ⟨x + 1,rfl,hx,trivial,trivial,Nat.le_refl _,fun _ _=>trivial⟩⟩
 have:=hf x hx
 show (!Qwn (g x) (g ((x + 1) % n)) c r)=false
 rw [this]; rfl
theorem Q76 {c d:Int×Int} {r s:Int} (h:dskP c r) (h2:dskP d s) (hx:Qhz (dBx c r) (dBx d s)):Qcf Tryz.prog Qrd Qay Tryz.f57 [dsS c r,dsS d s] (Qbl []) 64 (fun y _=>y=.v (.bool true)):=by
 have w:=Qnz h.1.1 h.1.2 h2.1.1 h2.1.2
 have hr:=h.2.1
 have hs:=h2.2.1
 have ha:=Q8a (a:=c) (b:=d) (by omega) (by omega) hx
 refine Eq.mpr (Zca c d r s _) ⟨⟨h.1,h2.1⟩,⟨w,w⟩,?_⟩
 have hb:(r + s)*(r + s)≤2097152*2097152:=Int.mul_le_mul (by omega) (by omega) (by omega) (by omega)
 have hz:=Qxd (r + s)
 rw [Qaj (n:=r + s) ⟨by omega,by omega⟩,Qaj ⟨by omega,by omega⟩,decide_eq_true (show Qgo ((Qbq (c.1,c.2) (d.1,d.2)).1,(Qbq (c.1,c.2) (d.1,d.2)).2) ((Qbq (c.1,c.2) (d.1,d.2)).1,(Qbq (c.1,c.2) (d.1,d.2)).2) > (r + s)*(r + s) from ha)]
theorem Q74 {n n2 cap cap2:Nat} {g h:Nat→Int×Int} (hg:Qpw (0,0) n g) (hh:Qpw (0,0) n2 h) (hx:Qhz (pBx n g) (pBx n2 h)):Qcf Tryz.prog Qrd Qay Tryz.f57 [plS 0 n cap,plS 1 n2 cap2] (Qbl [⟨2,n,Qbw g⟩,⟨2,n2,Qbw h⟩]) 64 (fun y _=>y=.v (.bool true)):=by
 have ha:=Q77 hg.2.1.1 hh.2.1.1 hg.2.2.2 hh.2.2.2 hx
 have h8:=hg.2.1.2
 have h9:=hh.2.1.2
 refine Eq.mpr (Zb8 n n2 n n2 cap cap2 g h _) ?_
 simp only [gz]
 refine ⟨⟨⟨trivial,by omega,Qk2 hg.2.2.1⟩,trivial,by omega,Qk2 hh.2.2.1⟩,Qag (fun _=>trivial) fun e=>⟨⟨⟨trivial,by omega,Qk2 hh.2.2.1⟩,trivial,by omega,Qk2 hg.2.2.1⟩,?_⟩⟩
 rcases ha with ⟨k,hk,ha⟩ | ⟨k,hk,ha⟩
 · rw [Q3i hk (clr1_t.2 ha)] at e; cases e
 · rw [Q3i hk (clr1_t.2 ha)]
theorem Q75 {n cap:Nat} {g:Nat→Int×Int} {c:Int×Int} {r:Int} (h:Qpw (0,0) n g) (hd:dskP c r) (hx:Qhz (pBx n g) (dBx c r)):Qcf Tryz.prog Qrd Qay Tryz.f57 [dsS c r,plS 0 n cap] (Qbl [⟨2,n,Qbw g⟩]) 64 (fun y _=>y=.v (.bool true)):=by
 refine Eq.mpr (Zb9 n n cap g c r _) ?_
 simp only [gz]
 exact ⟨⟨trivial,Qk2 h.2.2.1,h,hd,hx⟩,trivial⟩
theorem Zae {α:Type _} {b:Bool} {x:Option α} {z:α} (h:(bif b then x else none)=some z):b=true∧x=some z:=by
 cases b with
 | true=>exact ⟨rfl,h⟩
 | false=>cases h
theorem Qsm {x:SV} {c:Int×Int} {r:Int} (h:dsG x=some (c,r)):x=dsS c r:=by
 unfold dsG at h
 split at h
 · obtain ⟨h1,h2⟩:=Zae h
   rename_i t cs
   split at h2
   · rename_i l a b r' hl
     cases h2
     obtain rfl:=Nat.eq_of_beq_eq_true h1
     obtain ⟨cs⟩:=cs
     have hl:cs=[.int .i64 a,.int .i64 b,.int .i64 r]:=hl
     subst hl; rfl
   · cases h2
 · cases h
theorem Qrw {k:Nat} {x:SV} {n cap:Nat} (h:plG k x=some (n,cap)):x=plS k n cap:=by
 unfold plG at h
 split at h
 · obtain ⟨h1,h2⟩:=Zae h
   cases h2
   rw [Bool.and_eq_true] at h1
   obtain ⟨h1,h2⟩:=h1
   obtain rfl:=Nat.eq_of_beq_eq_true h1
   obtain rfl:=Nat.eq_of_beq_eq_true h2
   rfl
 · cases h
theorem Q48:Qc7 Tryz.prog 57 Zdh:=Qcq hm Qze Tryz.func57 (Λ:=fun args _=>match args with | [x,_]=>(match plG 0 x with | some (n,_)=>Qyz n | none=>Qay) | _=>Qay) fun args bs p x h hp=>by
 unfold Zdh at h
 split at h <;> try (cases h; done)
 rename_i x y n' row
 split at h <;> try (cases h; done)
 rename_i n cap c r h1 h2
 cases h
 obtain ⟨rfl,h0,h3,h4,h5⟩:=hp _ rfl
 obtain rfl:=Qrw h1
 obtain rfl:=Qsm h2
 exact ⟨rfl,[⟨2,n',Qbw fun i=>gi (row i)⟩],⟨⟨rfl,rfl,fun i hi=>(h0 i hi).1⟩,trivial⟩,Q3t h3 h4 h5 rfl⟩
theorem Q5q:∀ f g,Qrd f=some g→g.ok Tryz.prog f:=Qad Qze (Qfj Tryz.func57 (by kernel_rfl) (by kernel_rfl) Q48)
theorem Q87:Qc7 Tryz.prog 57 Zmx:=Qcq hm Q5q Tryz.func57 (Λ:=fun args _=>match args with | [x,y]=>(match dsG y with | some _=>(match plG 0 x with | some (n,_)=>Qyz n | none=>Qay) | none=>Qay) | _=>Qay) fun args bs p x h hp=>by
 unfold Zmx at h
 split at h <;> try (cases h; done)
 · rename_i x y
   split at h <;> try (cases h; done)
   rename_i c r d s h1 h2
   cases h
   obtain ⟨h3,h4,h5⟩:=hp _ rfl
   obtain rfl:=Qsm h1
   obtain rfl:=Qsm h2
   exact ⟨rfl,[],trivial,Q76 h3 h4 h5⟩
 · rename_i x y n' row
   split at h
   · rename_i n cap c r h1 h2
     cases h
     obtain ⟨rfl,h0,h3,h4,h5⟩:=hp _ rfl
     obtain rfl:=Qrw h1
     obtain rfl:=Qsm h2
     exact ⟨rfl,[⟨2,n',Qbw fun i=>gi (row i)⟩],⟨⟨rfl,rfl,fun i hi=>(h0 i hi).1⟩,trivial⟩,Q3t h3 h4 h5 ((Q56 n' n' cap (fun i=>gi (row i)) c r).trans (Qzu n' n' cap (fun i=>gi (row i)) c r).symm)⟩
   · split at h <;> try (cases h; done)
     rename_i c r n cap h1 h2
     cases h
     obtain ⟨rfl,h0,h3,h4,h5⟩:=hp _ rfl
     obtain rfl:=Qsm h1
     obtain rfl:=Qrw h2
     exact ⟨rfl,[⟨2,n',Qbw fun i=>gi (row i)⟩],⟨⟨rfl,rfl,fun i hi=>(h0 i hi).1⟩,trivial⟩,Q75 h3 h4 h5⟩
 · rename_i x y n' row n2' row2
   split at h <;> try (cases h; done)
   rename_i n cap n2 cap2 h1 h2
   cases h
   obtain ⟨⟨rfl,h0,h3⟩,⟨rfl,g0,g3⟩,h5⟩:=hp _ rfl
   obtain rfl:=Qrw h1
   obtain rfl:=Qrw h2
   exact ⟨rfl,[⟨2,n',Qbw fun i=>gi (row i)⟩,⟨2,n2',Qbw fun i=>gi (row2 i)⟩],⟨⟨rfl,rfl,fun i hi=>(h0 i hi).1⟩,⟨rfl,rfl,fun i hi=>(g0 i hi).1⟩,trivial⟩,Q74 h3 g3 h5⟩
end Go.Proofs.YthkihlpeaidlnaaGreat
end
section
namespace Go.Proofs.YthkihlpeaidlnaaGreat
open Go.SE Go.RowKit
def P42 (x:Int):Prop:=-4398046511104<x∧x<4398046511104
theorem P42.i {x:Int} (h:P42 x):I64 x:=by obtain ⟨_,_⟩:=h; exact ⟨by omega,by omega⟩
def Zd1 (r:VB):Prop:=r.x.f=false∧r.y.f=false∧(-8589934592≤r.x.v∧r.x.v≤8589934592)∧(-8589934592≤r.y.v∧r.y.v≤8589934592)∧Q3n r=0
def P33 (x:Int):Prop:=-8589934592≤x∧x≤8589934592
def P41 (x:Int):Prop:=-2199023255552≤x∧x≤2199023255552
theorem P33.sd {x:Int} (h:P33 x):Sd x:=by obtain ⟨_,_⟩:=h; exact ⟨by omega,by omega⟩
theorem P41.sd {x:Int} (h:P41 x):Sd x:=by obtain ⟨_,_⟩:=h; exact ⟨by omega,by omega⟩
theorem Zjl {p q:Int} (hp:P33 p) (hq:P33 q):(Qq8 ⟨p,false⟩ ⟨p,false⟩ ⟨q,false⟩ ⟨q,false⟩).v=(p*p + q*q) / 4294967296:=by
 have m1:=Qen (p:=p) (q:=p) (P:=8589934592) (Q:=8589934592) (by decide) hp.1 hp.2 hp.1 hp.2
 have m2:=Qen (p:=q) (q:=q) (P:=8589934592) (Q:=8589934592) (by decide) hq.1 hq.2 hq.1 hq.2
 have n1:=Qcj p
 have n2:=Qcj q
 show Qbb (Qwp (Qaa p) (Qaa p) (Qaa q) (Qaa q))=_
 rw [hp.sd.self,hq.sd.self]
 unfold Qwp
 rw [Int.tdiv_eq_ediv_of_nonneg (by omega),Qff ⟨by omega,by omega⟩]
theorem Zd2 {p q:Int} (hp:P33 p) (hq:P33 q):Zaf ⟨⟨p,false⟩,⟨q,false⟩⟩=false:=by
 show (Qa8 p false||Qa8 q false)=false
 rw [hp.sd.flag,hq.sd.flag]; rfl
theorem Zjz {p q:Int} (hp:P33 p) (hq:P33 q) (l:18446462598732840960≤p*p + q*q) (u:p*p + q*q≤18447025548686262272):Q3n ⟨⟨p,false⟩,⟨q,false⟩⟩=0:=by
 have hd:=Zjl hp hq
 unfold Q3n
 rw [Zd2 hp hq,cond_false,hd,decide_eq_false (by omega),decide_eq_false (by omega)]; rfl
theorem Zj7 {a:NB} (hf:a.f=false) (ha:Sd a.v):Zd1 (Q8c a):=by
 have e1:=Qmc a
 have e2:=Qqt a
 rw [ha.flag,hf] at e1 e2
 have b1:=Qtw a
 have b2:-4294967296≤(Qjm a).v∧(Qjm a).v≤4294967296:=Qtw _
 have c:=Qn4 a
 have f1:(Qh7 a).f=false:=by rw [e1]
 have f2:(Qjm a).f=false:=by rw [e2]
 have g1:Qh7 a=⟨(Qh7 a).v,false⟩:=by rw [← f1]
 have g2:Qjm a=⟨(Qjm a).v,false⟩:=by rw [← f2]
 refine ⟨f2,f1,⟨by show _≤(Qjm a).v; omega,by show (Qjm a).v≤_; omega⟩,⟨by show _≤(Qh7 a).v; omega,by show (Qh7 a).v≤_; omega⟩,?_⟩
 show Q3n ⟨Qjm a,Qh7 a⟩=0
 rw [g1,g2]
 exact Zjz ⟨by omega,by omega⟩ ⟨by omega,by omega⟩ (by omega) (by omega)
def P38 (x:Int):Prop:=-274877906944<x∧x<274877906944
theorem P38.i {x:Int} (h:P38 x):I64 x:=by obtain ⟨_,_⟩:=h; exact ⟨by omega,by omega⟩
theorem Q5s (es:List Ent) (b n c k:Nat) (g:Nat→Int×Int):Qc1 (Qa1 (Go.SE.Qra es b (spB n c g)) 2 0 k)=g:=funext fun i=>by
 show gi [SV.v (.int .i64 (g (0 + i)).1),SV.v (.int .i64 (g (0 + i)).2)]=g i
 rw [Nat.zero_add]; rfl
theorem Q6u {es:List Ent} {b n c:Nat} {g:Nat→Int×Int} (hn:n<1099511627776) (hg:∀ i,i<n→I64 (g i).1∧I64 (g i).2):Qcu n (Qa1 (Go.SE.Qra es b (spB n c g)) 2 0 n):=Qti hn hg fun _=>rfl
theorem Qjb (m:MD):(ksS m=Q3a (ksX m.a m.a)∧ksN m=0)∨(ksS m=boxS (ksX m.a m.a) (ksX m.a m.b)∧ksN m=0)∨(ksS m=Qxj∧ksN m=3∧ksG m=G3 (ksM m.a m.a) (ksM m.a m.b))∨(ksS m=Qxj∧ksN m=5∧ksG m=G5 (ksM m.a m.a) (ksM m.a m.b) (ksM m.a m.a / 2))∨(ksS m=Qxj∧ksN m=8∧ksG m=G8 (ksM m.a m.a) (ksM m.a m.a / 2)):=by
 unfold ksS ksN ksG
 cases h0:m.k % 5==0 with
 | true=>exact Or.inl ⟨rfl,rfl⟩
 | false =>
   cases h1:m.k % 5==1 with
   | true=>exact Or.inr (Or.inl ⟨rfl,rfl⟩)
   | false =>
     cases h2:m.k % 5==2 with
     | true=>exact Or.inr (Or.inr (Or.inl ⟨rfl,rfl,rfl⟩))
     | false =>
       cases h3:m.k % 5==3 with
       | true=>exact Or.inr (Or.inr (Or.inr (Or.inl ⟨rfl,rfl,rfl⟩)))
       | false=>exact Or.inr (Or.inr (Or.inr (Or.inr ⟨rfl,rfl,rfl⟩)))
theorem Qwf (a x:Int):64≤ksM a x∧ksM a x≤4096:=by
 have:=Qod (ksB a) x
 unfold ksM ksX; omega
theorem Qr9 (a x:Int):16≤ksX a x∧ksX a x≤4096:=Qod (ksB a) x
theorem Zlj (s:ShB) (n:Nat) (g:Nat→Int×Int) {d:Int} (h:1≤d∧d≤1000):Zlh 0 s n g d=bif s.k==1 then Q5t s.r d else Qtl (Qne (Qb2 0 s n) (Qfx s g) (Qb2 0 s n)) (Q19 (Qb2 0 s n) (Qfx s g) (Qb2 0 s n)) d:=by
 unfold Zlh; rw [Zbj h]; rfl
def Qsa (m:MD):Prop:=Qxf (ksS m)∧Qgv (ksS m) (ksN m) (ksG m)=0∧(∀ d,1≤d∧d≤1000→PW (Zlh 0 (ksS m) (ksN m) (ksG m) d))∧ksN m≤8∧Qb2 0 (ksS m) (ksN m)≤8∧∀ i,i<ksN m→I64 (ksG m i).1∧I64 (ksG m i).2
theorem z_i:I64 0:=⟨by decide,by decide⟩
theorem s_i {x:Int} (h:-9223372036854775808≤x∧x≤9223372036854775807):I64 x:=⟨by omega,by omega⟩
theorem q_i {x:Int} (h:Q12 x):I64 x:=by
 obtain ⟨_,_⟩:=h
 exact ⟨by omega,by omega⟩
theorem Qmj {m:MD} {n:Nat} {g:Nat→Int×Int} (e1:ksS m=Qxj) (e2:ksN m=n) (e3:ksG m=g) (h3:3≤n) (h8:n≤8) (hp:∀ i,i<n→Qit (g i)=true∧Q12 (g i).1∧Q12 (g i).2) (hc:Qfg n g=true) (hx:∀ i,i<n→64≤Qae (g i) (g ((i + 1) % n))):Qsa m:=by
 unfold Qsa
 rw [e1,e2,e3]
 refine ⟨⟨⟨s_i (by show _≤(3:Int)∧(3:Int)≤_; omega),z_i⟩,z_i,z_i⟩,chkP h3 h8 (fun i hi=>(hp i hi).1) hc,fun d hd=>?_,h8,h8,fun i hi=>⟨q_i (hp i hi).2.1,q_i (hp i hi).2.2⟩⟩
 rw [Zlj Qxj n g hd]
 show PW (Qtl (Qne n g n) (Q19 n g n) d)
 exact Zig (by omega) h8 (fun i hi=>(hp i hi).2) hx hd
theorem Quk (m:MD):Qsa m:=by
 have hA:=Qr9 m.a m.a
 have hB:=Qr9 m.a m.b
 have hK:=Qwf m.a m.a
 have hH:=Qwf m.a m.b
 have hh:2*(ksM m.a m.a / 2)≤ksM m.a m.a∧ksM m.a m.a≤2*(ksM m.a m.a / 2) + 1:=by omega
 rcases Qjb m with ⟨e1,e2⟩ | ⟨e1,e2⟩ | ⟨e1,e2,e3⟩ | ⟨e1,e2,e3⟩ | ⟨e1,e2,e3⟩
 · unfold Qsa
   rw [e1,e2]
   refine ⟨⟨⟨s_i (by show _≤(1:Int)∧(1:Int)≤_; omega),s_i (by show _≤ksX m.a m.a∧ksX m.a m.a≤_; omega)⟩,z_i,z_i⟩,Q7z hA,fun d hd=>?_,by omega,Nat.zero_le _,fun i hi=>absurd hi (Nat.not_lt_zero _)⟩
   rw [Zlj _ _ _ hd]
   exact Zdo hA hd
 · unfold Qsa
   rw [e1,e2]
   refine ⟨⟨⟨s_i (by show _≤(2:Int)∧(2:Int)≤_; omega),z_i⟩,s_i (by show _≤ksX m.a m.a∧ksX m.a m.a≤_; omega),s_i (by show _≤ksX m.a m.b∧ksX m.a m.b≤_; omega)⟩,Q70 hA hB,fun d hd=>?_,by omega,by show 4≤8; omega,fun i hi=>absurd hi (Nat.not_lt_zero _)⟩
   rw [Zlj _ _ _ hd]
   show PW (Qtl (Qne 4 (Zad (ksX m.a m.a) (ksX m.a m.b)) 4) (Q19 4 (Zad (ksX m.a m.a) (ksX m.a m.b)) 4) d)
   rw [Q73,Zfh]
   generalize ksX m.a m.a=w at *
   generalize ksX m.a m.b=h at *
   have ml:∀ {a b c d:Int},a≤b→c≤d→0≤c→0≤b→a*c≤b*d:=fun h1 h2 h3 h4=>Int.mul_le_mul h1 h2 h3 h4
   have a1:16*16≤w*h:=ml hA.1 hB.1 (by omega) (by omega)
   have a2:w*h≤4096*4096:=ml hA.2 hB.2 (by omega) (by omega)
   have b1:16*16≤w*w:=ml hA.1 hA.1 (by omega) (by omega)
   have b2:w*w≤4096*4096:=ml hA.2 hA.2 (by omega) (by omega)
   have c1:16*16≤h*h:=ml hB.1 hB.1 (by omega) (by omega)
   have c2:h*h≤4096*4096:=ml hB.2 hB.2 (by omega) (by omega)
   generalize w*h=P at *
   have d1:512*4096≤2*P*(8*(w*w + h*h)):=ml (by omega) (by omega) (by omega) (by omega)
   have d2:2*P*(8*(w*w + h*h))≤33554432*268435456:=ml (by omega) (by omega) (by omega) (by omega)
   exact Q1l ⟨by omega,by omega⟩ ⟨by omega,by omega⟩ hd
 · exact Qmj e1 e2 e3 (by omega) (by omega) (Zil hK hH) (Ze9 hK hH) (Zjp hK hH)
 · exact Qmj e1 e2 e3 (by omega) (by omega) (Zik hK hH hh) (Ze8 hK hH hh) (Zjo hK hH hh)
 · exact Qmj e1 e2 e3 (by omega) (by omega) (Zij hK hh) (Ze7 hK hh) (Zjn hK hh)
theorem Q9o (m:MD):Zd1 (Qq5 m):=Zj7 rfl (by
 have:=Qhd m.w (s:=8) (m:=34359738368) (by rfl) (by decide)
 exact ⟨by omega,by omega⟩)
theorem Zm0 {r:VB} (h:Zd1 r):I64 r.x.v∧I64 r.y.v:=by
 obtain ⟨_,_,⟨_,_⟩,⟨_,_⟩,_⟩:=h
 exact ⟨⟨by omega,by omega⟩,⟨by omega,by omega⟩⟩
end Go.Proofs.YthkihlpeaidlnaaGreat
end
section
namespace Go.Proofs.YthkihlpeaidlnaaGreat
open Go.SE
theorem Q1p {s a d A D T:Int} (hs:0≤s) (hT:0≤T) (ha:-(s*T)≤a - s*A∧a - s*A≤s*T) (hd:-(s*T)≤d - s*D∧d - s*D≤s*T):-(s*s*(T*(Qab A + Qab D) + T*T))≤a*d - s*s*(A*D)∧a*d - s*s*(A*D)≤s*s*(T*(Qab A + Qab D) + T*T):=by
 have iA:-Qab A≤A∧A≤Qab A:=by unfold Qab; split <;> omega
 have iD:-Qab D≤D∧D≤Qab D:=by unfold Qab; split <;> omega
 have nA:=Qbn A
 have nD:=Qbn D
 generalize Qab A=a' at *
 generalize Qab D=d' at *
 have sA:=Qen (p:=s) (q:=A) (P:=s) (Q:=a') hs (by omega) (Int.le_refl _) iA.1 iA.2
 have sD:=Qen (p:=s) (q:=D) (P:=s) (Q:=d') hs (by omega) (Int.le_refl _) iD.1 iD.2
 have nsA:=Int.mul_nonneg hs nA
 have nsD:=Int.mul_nonneg hs nD
 have nsT:=Int.mul_nonneg hs hT
 have t1:=Qen (p:=s*A) (q:=d - s*D) (P:=s*a') (Q:=s*T) nsA sA.1 sA.2 hd.1 hd.2
 have t2:=Qen (p:=a - s*A) (q:=s*D) (P:=s*T) (Q:=s*d') nsT ha.1 ha.2 sD.1 sD.2
 have t3:=Qen (p:=a - s*A) (q:=d - s*D) (P:=s*T) (Q:=s*T) nsT ha.1 ha.2 hd.1 hd.2
 have e:a*d - s*s*(A*D)=s*A*(d - s*D) + (a - s*A)*(s*D) + (a - s*A)*(d - s*D):=by grind
 have e2:s*s*(T*(a' + d') + T*T)=s*a'*(s*T) + s*T*(s*d') + s*T*(s*T):=by grind
 rw [e,e2]
 omega
theorem Zjq {s a b c d A B C D T:Int} (hs:0≤s) (hT:0≤T) (ha:-(s*T)≤a - s*A∧a - s*A≤s*T) (hb:-(s*T)≤b - s*B∧b - s*B≤s*T) (hc:-(s*T)≤c - s*C∧c - s*C≤s*T) (hd:-(s*T)≤d - s*D∧d - s*D≤s*T) :
   s*s*(A*D - B*C - T*(Qab A + Qab B + Qab C + Qab D) - 2*(T*T))≤a*d - b*c:=by
 have x:=Q1p hs hT ha hd
 have y:=Q1p hs hT hb hc
 have e:s*s*(A*D - B*C - T*(Qab A + Qab B + Qab C + Qab D) - 2*(T*T))=s*s*(A*D) - s*s*(B*C) - s*s*(T*(Qab A + Qab D) + T*T) - s*s*(T*(Qab B + Qab C) + T*T):=by grind
 rw [e]
 omega
end Go.Proofs.YthkihlpeaidlnaaGreat
end
