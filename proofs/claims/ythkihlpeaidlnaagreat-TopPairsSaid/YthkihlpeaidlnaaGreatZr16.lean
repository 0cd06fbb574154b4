/-
 What the proof uses, part 16.
-/
import Derived.Shelf.SortM.SortNone
import Derived.Test.YthkihlpeaidlnaaGreatZr15
set_option maxRecDepth 100000
set_option linter.unusedSimpArgs false
set_option linter.unusedVariables false

section
namespace Go.Proofs.YthkihlpeaidlnaaGreat
open Go.RowKit Go.Shelf Go.SE Go.Maps
open Go.WideElems (Fit rd rg)
def Qak (m:MapC):List Int:=[0,1,2,3,4,5,6,7].filter fun k=>m.has k
def Quo (m:MapC):Prop:=(∀ k,m.has k=true→0≤k∧k<8)∧m.cnt≤8
def inB (n c:Nat) (l:List Int):Blk:={elem:=3,size:=1,rw:=true,lock:=false,lit:=false,flat:=true,n,row:=fun i=>[.v (.int .i64 (l.getD i 0))],ext:=n + c}
def srtE (B D:Blk) (m:MapC):Eff:=.nd (Quo m) Nat 0 (fun c=>.sl 1000 1 0 (Qak m).length ((Qak m).length + c)) fun c=>[(0,B),(1,D),(1000,inB (Qak m).length c (Qak m))]
def Zma (args:List SV) (bs:List Blk):Option Eff:=match args,bs with
 | [.fn 186 [.vp 0 0]],[B,D]=>match B.row 0,D.sp with
   | [.mp 1],some m=>bif B.whole&&Nat.beq B.size 1&&Nat.beq B.n 1&&!B.off&&!D.dead&&Nat.beq D.size 4&&B.rw&&D.rw then some (srtE B D m) else none
   | _,_=>none
 | _,_=>none
section
variable {P:Program} {δ:Dict} {h:Qbo} {w w':World}
theorem Q6a {n:Nat} {nb:Blk} {q:Go.SE.Loc} (hr:HRep δ h w) (hb:Below w.heap.size w w') (hn:h n=none) (hd:δ n=none) (hq:q.no=false→w.heap.size≤q.r) (hlive:∀ δ',δ.le δ'→Live δ' nb w' q) :
   ∃ δ',Upd δ h w δ' [(n,nb)] w'∧δ' n=some q:=by
 refine ⟨⟨fun k=>if k=n then some q else δ k,δ.fz⟩,?_,by simp⟩
 have hle:δ.le (⟨fun k=>if k=n then some q else δ k,δ.fz⟩:Dict):=⟨fun k p hk=>by
   have:k≠n:=fun e=>by subst e; rw [hd] at hk; cases hk
   simp [this,hk],fun _ hq=>hq⟩
 have cls:∀ k r,Qc9 (⟨fun k=>if k=n then some q else δ k,δ.fz⟩:Dict) (Qb3 h [(n,nb)]) k r→(k=n∧w.heap.size≤r)∨(k≠n∧Qc9 δ h k r∧r<w.heap.size):=fun k r ⟨b',p,h1,h2,h3,h4,h5⟩=>by
   simp only at h3
   by_cases hk:k=n
   · subst hk
     rw [if_pos rfl] at h3
     cases h3
     exact .inl ⟨rfl,h5 ▸ hq h4⟩
   · rw [if_neg hk] at h3
     have he:Nat.beq k n=false:=Qbc hk
     simp only [Qb3,Qew,he,cond_false] at h1
     have hl:Qc9 δ h k r:=⟨b',p,h1,h2,h3,h4,h5⟩
     exact .inr ⟨hk,hl,Qdq hr hl⟩
 refine ⟨hle,⟨fun k b' hk=>?_,fun k1 k2 r b1 q1 q2 q3 q4=>?_,fun z hz=>⟨Fz.at_same (hr.fz z hz).1 (hb.block z.r (Fz.at_lt (hr.fz z hz).1)),fun k b' hk hbr hl=>?_⟩⟩,fun k h0 h1=>?_,fun k p h0 h1 hno=>?_,WRel.of_below hb,fun z hz=>.inl hz⟩
 · by_cases e:k=n
   · subst e
     have e1:Qb3 h [(k,nb)] k=some nb:=by simp [Qb3,Qew]
     rw [e1] at hk; cases hk
     exact ⟨q,by simp,fun _=>hlive _ hle⟩
   · have he:Nat.beq k n=false:=Qbc e
     simp only [Qb3,Qew,he,cond_false] at hk
     obtain ⟨p,d1,d2⟩:=hr.blk k b' hk
     exact ⟨p,by simp [e,d1],fun hdd=>(d2 hdd).mono hle fun hno=>hb.block p.r (Qcw ((d2 hdd).rep hno))⟩
 · rcases cls _ _ q1 with ⟨e1,g1⟩ | ⟨e1,g1,g1'⟩ <;> rcases cls _ _ q2 with ⟨e2,g2⟩ | ⟨e2,g2,g2'⟩
   · rw [e1,e2]
   · omega
   · omega
   · have he:Nat.beq k1 n=false:=Qbc e1
     simp only [Qb3,Qew,he,cond_false] at q3
     exact hr.inj k1 k2 r b1 g1 g2 q3 q4
 · rcases cls _ _ hl with ⟨e1,g1⟩ | ⟨e1,g1,g1'⟩
   · have:=Fz.at_lt (hr.fz z hz).1; omega
   · have he:Nat.beq k n=false:=Qbc e1
     simp only [Qb3,Qew,he,cond_false] at hk
     exact (hr.fz z hz).2 k b' hk hbr g1
 · simp only at h1
   by_cases e:k=n
   · subst e; simp [Qac]
   · rw [if_neg e] at h1; exact absurd h0 h1
 · simp only at h1
   by_cases e:k=n
   · subst e
     rw [if_pos rfl] at h1; cases h1
     exact .inl (hq hno)
   · rw [if_neg e,h0] at h1; cases h1
theorem Q2v {k:Nat} {b:Blk} (hk:h k=some b):Qew h k b=h:=by
 funext x
 unfold Qew
 cases e:Nat.beq x k with
 | true=>rw [Nat.eq_of_beq_eq_true e,hk]; rfl
 | false=>rfl
theorem Qd1 {δ':Dict} {k:Nat} {b:Blk} {u:List (Nat×Blk)} (hu:Upd δ h w δ' u w') (hk:h k=some b):Upd δ h w δ' ((k,b) :: u) w':=by
 refine ⟨hu.le,?_,fun x h0 h1=>?_,hu.place,hu.wrel,hu.fzp⟩
 · show HRep δ' (Qb3 (Qew h k b) u) w'
   rw [Q2v hk]
   exact hu.rep
 · simp only [Qac,hu.fresh x h0 h1,Bool.or_true]
end
def R0:Value→Option (DataW Unit×List MemPlace):=fun _=>some (.nil,[])
def Q5a (x:MapEntry):Int:=match x.key with | .int _ a=>a | _=>0
theorem Zdv {sz:Nat} {m:MapC} {es:Array MapEntry} {clock b:Nat} {w:World} (hm:MapRep sz m es clock) (hw:w.heap[b]?=some (.map es clock)) (hn:m.cnt≤8) :
   ∃ D0:DataW Unit,w.ownsMap Tryz.prog 3 R0 b es.size D0∧Maps.size D0=m.cnt∧(intKeys D0).Perm (es.toList.map Q5a):=by
 have hk:∀ x∈es.toList,x.key=.int .i64 (Q5a x):=fun x hx=>by
   obtain ⟨k,e⟩:=hm.key x hx
   unfold Q5a; rw [e]
 have hrd:∀ x∈es.toList,rd Tryz.prog 3 R0 x=some (.int .i64 (Q5a x),.nil):=fun x hx=>by
   unfold rd
   rw [hk x hx,Maps.keyOf_int_mk Tryz.underlying3 (hm.wf x hx _ (hk x hx))]
   rfl
 have hrg:∀ x∈es.toList,rg Tryz.prog 3 R0 x=(.int .i64 (Q5a x),.nil):=fun x hx=>by
   unfold rg; rw [hrd x hx]; rfl
 refine ⟨_,⟨es,clock,hw,⟨?_,⟨hm.born,?_,?_⟩,fun x hx=>⟨_,hrd x hx⟩⟩,Nat.le_refl _,rfl⟩,?_,?_⟩
 · rw [hm.cnt]; unfold maxLen; omega
 · exact List.pairwise_map.2 hm.apart
 · exact List.pairwise_map.2 hm.one
 · rw [Maps.size_eq,length_sorted,List.length_map]
   simpa using hm.cnt
 · show List.Perm (List.map _ _) _
   refine (List.Perm.map _ (Go.WideShapes.sorted_perm _)).trans ?_
   rw [List.map_map]
   refine List.Perm.of_eq (List.map_congr_left fun x hx=>?_)
   show Go.intOf (rg Tryz.prog 3 R0 x).1=Q5a x
   rw [hrg x hx]; rfl
theorem Qmy {m:MapC} (h:Quo m) (k:Int):k∈Qak m↔m.has k=true:=by
 unfold Qak
 rw [List.mem_filter]
 refine ⟨fun h=>h.2,fun hk=>⟨?_,hk⟩⟩
 obtain ⟨h1,h2⟩:=h.1 k hk
 simp only [List.mem_cons,List.not_mem_nil,or_false]
 omega
theorem Qhg (m:MapC):(Qak m).Pairwise (·<·):=List.Pairwise.filter _ (by decide)
theorem Q7h {sz:Nat} {m:MapC} {es:Array MapEntry} {clock:Nat} (hm:MapRep sz m es clock) (h:Quo m):(es.toList.map Q5a).Perm (Qak m):=by
 have hk:∀ x∈es.toList,x.key=.int .i64 (Q5a x):=fun x hx=>by
   obtain ⟨k,e⟩:=hm.key x hx
   unfold Q5a; rw [e]
 refine (List.perm_ext_iff_of_nodup ?_ ((Qhg m).imp fun h=>by omega)).2 fun k=>?_
 · refine List.pairwise_map.2 (hm.one.imp_of_mem fun {x y} hx hy hne e=>hne ?_)
   rw [hk x hx,hk y hy,e]
 · rw [Qmy h,hm.has,List.mem_map]
   constructor
   · rintro ⟨x,hx,rfl⟩; exact ⟨x,hx,hk x hx⟩
   · rintro ⟨x,hx,e⟩
     refine ⟨x,hx,?_⟩
     unfold Q5a; rw [e]
theorem Q7g {ss:List Int} {m:MapC} (h:ss.Perm (Qak m)):ss.mergeSort (fun x y=>decide (x≤y))=Qak m:=by
 show ss.mergeSort leI=_
 rw [mergeSort_of_perm_i h]
 exact List.mergeSort_of_pairwise ((Qhg m).imp fun h=>by simp only [leI,decide_eq_true_eq]; omega)
theorem Q6g (m:Nat):AnyZI.SortsIn Tryz.prog Qmb Fence.wide m :=
 ⟨fun blk off cap ss W hH hblk hsz=>callsIn_wide.2 (AnyM.slices_Sort_int Zh9 blk off cap ss W hH hblk hsz),
  fun p cap W=>callsIn_wide.2 (AnyM.slices_Sort_int_none Zh9 p cap W)⟩
theorem Q36 {m:MapC} (hP:Quo m) {X b:Nat} {w:World} (hX:w.cell? ⟨X,0,none⟩=some (.map (some b))) {es:Array MapEntry} {clock:Nat} (hb:w.heap[b]?=some (.map es clock)) (hm:MapRep 4 m es clock) :
   Calls Tryz.prog 106 #[.func (.func 186) #[] #[.pointer (some ⟨X,0,none⟩)]] w fun e w'=>∃ v,e=.returned v ∧
     w'.ownsRow w.heap.size 3 1 v (Qak m).length ((Qak m).map encZ)∧Below w.heap.size w w':=by
 refine (callsIn_wide (n:=6)).1 ?_
 obtain ⟨D0,hown,hsz,hpm⟩:=Zdv hm hb hP.2
 have hXs:X<w.heap.size:=by
   rcases Nat.lt_or_ge X w.heap.size with h' | h'
   · exact h'
   · simp [World.cell?,Array.getElem?_eq_none h'] at hX
 have hseq:SeqGives Fence.wide 3 Tryz.prog 186 #[.pointer (some ⟨X,0,none⟩)] encZ (fun ss=>ss.Perm (intKeys D0)) (Maps.size D0) w :=
   AnyZI.keys_gives (ρ:=Qsb) {Zm8 with} Fence.wide _ trivial rfl (by omega) X b es.size D0 w hXs hX hown
 have cS:=AnyZI.sorted_in Zcl Fence.wide 6 trivial trivial trivial trivial rfl (by omega) (Q6g _) (enters_of Tryz.func185 (by kernel_rfl) rfl) 186 #[.pointer (some ⟨X,0,none⟩)] trivial (enters_of Tryz.func186 (by kernel_rfl) rfl) _ _ (by rw [hsz]; have:=hP.2; unfold maxLen; omega) (by rw [hsz]; have:=hP.2; omega) w hseq
 change CallsIn _ _ Tryz.prog 106 _ _ _ at cS
 refine cS.mono ?_
 rintro e w' ⟨v,ss,rfl,hS,hrow,_,hbl⟩
 have hp:ss.Perm (Qak m):=(hS.trans hpm).trans (Q7h hm hP)
 rw [Q7g hp,hp.length_eq] at hrow
 exact ⟨v,rfl,hrow,hbl⟩
theorem Q7e {δ:Dict} {l:List Int} {w:World} {v:Value} {base:Nat} (h:w.ownsRow base 3 1 v l.length (l.map encZ)) :
   ∃ (q:Go.SE.Loc) (c:Nat),(q.no=false→base≤q.r)∧(∀ δ':Dict,Live δ' (inB l.length c l) w q)∧∀ δ':Dict,δ' 1000=some q→Qah δ' (.sl 1000 1 0 l.length (l.length + c)) v:=by
 obtain ⟨_,h | ⟨g,cap,cur,rfl,hbs,hg,hc,_,hsz,htk⟩⟩:=h
 · obtain ⟨rfl,h0⟩:=h
   refine ⟨⟨0,1,0,0,true,false⟩,0,fun h=>(by cases h),fun δ'=>Live.mk rfl (by rw [h0]; rfl) (fun _=>⟨h0,by show l.length + 0=0; omega⟩) (fun h=>by cases h) (fun h=>by cases h),fun δ' hd=>?_⟩
   simp only [Qah]
   exact ⟨_,hd,rfl,by rw [h0]; exact Nat.le_refl _,.inr ⟨h0,.inl (by omega),none,rfl⟩⟩
 · refine ⟨⟨g,1,0,l.length,false,false⟩,cap - l.length,fun _=>hbs,fun δ'=>Live.mk rfl rfl (fun h=>by cases h) (fun _=>Qbt rfl ⟨cur,3,(0,0),hg,fun _=>.inl rfl,fun _ i _=>rfl,fun _=>rfl,?_,(fun h=>by cases h),fun i hi=>⟨rfl,fun j x hx=>?_⟩⟩) (fun h=>by cases h),fun δ' hd=>?_⟩
   · show 0 + (l.length + (cap - l.length))*1≤cur.size
     rw [hsz]; omega
   · have hi:i<l.length:=hi
     match j,hx with
     | 0,hx =>
       have hx:some (SV.v (.int .i64 (l.getD i 0)))=some x:=hx
       cases hx
       refine ⟨_,?_,rfl⟩
       have:=congrArg (·[i]?) htk
       simp only [Nat.mul_one] at this
       rw [List.getElem?_take_of_lt hi,Array.getElem?_toList] at this
       show cur[0 + i*1 + 0]?=_
       rw [show 0 + i*1 + 0=i by omega,this]
       simp [hi]
     | j + 1,hx=>simp [inB] at hx
   · simp only [Qah]
     exact ⟨_,hd,rfl,by show 0 + l.length≤l.length; omega,.inl ⟨rfl,cap,.inl (by omega),by rfl⟩⟩
end Go.Proofs.YthkihlpeaidlnaaGreat
end
section
namespace Go.Proofs.YthkihlpeaidlnaaGreat
open Go.RowKit Go.SE
def kyE (m:MapC):Eff:=.det none (.fn 186 [.vp 1000 0]) [(0,mpB m),(1000,Qct 106 [.mp 0])]
def sKy (args:List SV) (bs:List Blk):Option Eff:=match args,bs with
 | [.mp 0],[D]=>match D.row 0,D.sp with
   | [],some m=>bif Nat.beq D.elem 0&&Nat.beq D.size 4&&D.rw&&!D.dead&&D.flat&&!D.whole&&Nat.beq D.n 1&&Nat.beq D.ext 1 then some (kyE m) else none
   | _,_=>none
 | _,_=>none
theorem vcKy (m:MapC):(Qcf Tryz.prog Qbi Qay Tryz.f107 [.mp 0] (Qaf [mpB m]) 64 (fun y h'=>Qgb [mpB m] (kyE m) y h'))=(((186=186)∧((SV.vp 64 0)=(SV.vp 64 0)))∧((((1:Nat)=1)∧(((1:Nat)≤1)∧((((MapC.cnt m):Nat)=(MapC.cnt m))∧((∀ k:Int,(MapC.has m k=MapC.has m k))∧(∀ k:Int,(∀ i:Nat,(((i:Nat)<4)→(((MapC.val m k i):Int)=(MapC.val m k i)))))))))∧(((1:Nat)=1)∧(((1:Nat)≤1)∧((SV.mp 0)=(SV.mp 0)))))):=by kernel_rfl
noncomputable def ΓId:Qbz:=Qai (Qai Qy3 107 (Qcz true sKy)) 106 (Qcz true Zma)
def idsE (q:Prop) (m:MapC):Eff:=.nd q Nat 0 (fun c=>.sl 1000 1 0 (Qak m).length ((Qak m).length + c)) fun c=>[(0,swB),(1,mpB m),(1000,inB (Qak m).length c (Qak m))]
def Zmn (args:List SV) (bs:List Blk):Option Eff:=match args with
 | [.vp 0 0]=>swK bs fun m=>idsE (Quo m) m
 | _=>none
theorem Zls (m:MapC) (q:Prop):(Qcf Tryz.prog ΓId Qay Tryz.f46 [.vp 0 0] (Qaf [swB,mpB m]) 64 (fun y h'=>Qgb [swB,mpB m] (idsE q m) y h'))=((Quo m)∧(∀ c:Nat,(∃ c_1:Nat,(((SV.sl 136 1 0 (List.length (Qak m)) (List.length (Qak m) + c))=(SV.sl 136 1 0 (List.length (Qak m)) (List.length (Qak m) + c_1)))∧((((1:Nat)=1)∧(((1:Nat)≤1)∧((SV.mp 1)=(SV.mp 1))))∧((((1:Nat)=1)∧(((1:Nat)≤1)∧((((MapC.cnt m):Nat)=(MapC.cnt m))∧((∀ k:Int,(MapC.has m k=MapC.has m k))∧(∀ k:Int,(∀ i:Nat,(((i:Nat)<4)→(((MapC.val m k i):Int)=(MapC.val m k i)))))))))∧((((List.length (Qak m)):Nat)=(List.length (Qak m)))∧((((List.length (Qak m) + c_1):Nat)≤(List.length (Qak m) + c))∧(∀ i:Nat,(((i:Nat)<(List.length (Qak m)))→([(yI (List.getD (Qak m) i 0))]=[(yI (List.getD (Qak m) i 0))]))))))))))):=by kernel_rfl
theorem Q8n:Qbv Tryz.prog 106 Zma:=fun args bs e hs hask δ w vals ha hr ht hl=>by
 unfold Zma at hs
 split at hs <;> try (cases hs; done)
 rename_i B D
 split at hs <;> try (cases hs; done)
 rename_i m hB hD
 obtain ⟨hc,rfl⟩:=Qer hs
 simp only [Bool.and_eq_true,Bool.not_eq_true',Nat.beq_eq] at hc
 obtain ⟨⟨⟨⟨⟨⟨⟨a1,a2⟩,a3⟩,a4⟩,a5⟩,a6⟩,a7⟩,a8⟩:=hc
 obtain ⟨a4,asp⟩:=Blk.off_false a4
 have hP:Quo m:=hask
 match vals,ha with
 | [v],ha =>
   simp only [Qaw,Qah,and_true] at ha
   obtain ⟨xs,rfl,hxs⟩:=ha
   match xs,hxs with
   | [x],hxs =>
     simp only [Qaw,Qah,and_true] at hxs
     obtain ⟨p,hp,hpn,rfl⟩:=hxs
     obtain ⟨p',d1,d2⟩:=hr.blk 0 B rfl
     rw [hp] at d1; cases d1
     have hlv:=d2 a4
     have hno:=hlv.notNo hpn
     obtain ⟨c,el,fz,hcell,_,_,_,_,hwh,hrow⟩:=Qap asp (hlv.rep hno)
     obtain ⟨ho,_⟩:=hwh a1
     obtain ⟨_,hr0⟩:=hrow 0 (by omega)
     obtain ⟨r,hr1,hr2⟩:=hr0 0 (.mp 1) (by rw [hB]; rfl)
     rw [ho,a2] at hr1
     obtain ⟨pm,es,clock,e1,e2,e3,rfl,e5,e6⟩:=Qhx (m:=m) hr (show Qk5 (Qaf [B,D]) 1=some (D,m) by
       unfold Qk5
       rw [show Qaf [B,D] 1=some D from rfl]
       simp only [hD,a5,cond_false]) hr2
     rw [a6] at e6
     have hX:w.cell? ⟨p.r,0,none⟩=some (.map (some pm.r)):=by rw [Qch hcell]; exact hr1
     rw [show p.o + 0=0 by omega]
     refine (Q36 hP hX e5 e6).mono fun ed w' ⟨v,h1,h2,h3⟩=>?_
     obtain ⟨q,cp,g1,g2,g3⟩:=Q7e (δ:=δ) h2
     obtain ⟨δ',u1,u2⟩:=Q6a (n:=1000) (nb:=inB (Qak m).length cp (Qak m)) hr h3 rfl (ht 1000 rfl) g1 fun δ' _=>g2 δ'
     refine ⟨v,_,_,δ',h1,⟨cp,rfl,rfl⟩,?_,g3 δ' u2,Qd1 (Qd1 u1 (show Qaf [B,D] 1=some D from rfl)) (show Qaf [B,D] 0=some B from rfl)⟩
     simp [Qg0,Qc8,Qd7,Qac,a4,a5,a7,a8,inB]
theorem Zfp:Qbv Tryz.prog 107 sKy:=Qb0 hm Qam Tryz.func107 (Λ:=fun _ _=>Qay) fun args bs e hs hp=>by
 unfold sKy at hs
 split at hs <;> try (cases hs; done)
 rename_i D
 split at hs <;> try (cases hs; done)
 rename_i m hD hm
 obtain ⟨hc,rfl⟩:=Qer hs
 simp only [Bool.and_eq_true,Bool.not_eq_true',Nat.beq_eq] at hc
 obtain ⟨⟨⟨⟨⟨⟨⟨b1,b2⟩,b3⟩,b4⟩,b5⟩,b6⟩,b7⟩,b8⟩:=hc
 refine ⟨[mpB m],⟨⟨b2,b3,b5,b7,b8,b4,b1,b6,fun i hi=>?_,hm⟩,trivial⟩,?_⟩
 · obtain rfl:i=0:=by omega
   exact hD
 · rw [vcKy]
   exact ⟨⟨rfl,rfl⟩,⟨rfl,Nat.le_refl _,rfl,fun _=>rfl,fun _ _ _=>rfl⟩,rfl,Nat.le_refl _,rfl⟩
theorem Za6:∀ f g,ΓId f=some g→g.ok Tryz.prog f:=Qad (Qad Qk9 (Qc4 Tryz.func107 (by kernel_rfl) (by kernel_rfl) Zfp)) (Qc4 Tryz.func106 (by kernel_rfl) (by kernel_rfl) Q8n)
theorem Q8x:Qbv Tryz.prog 46 Zmn:=Qb0 hm Za6 Tryz.func46 (Λ:=fun _ _=>Qay) fun args bs e hs hp=>by
 unfold Zmn at hs
 split at hs <;> try (cases hs; done)
 obtain ⟨m,rfl,h1⟩:=Qg4 hs
 refine ⟨_,h1,?_⟩
 rw [Zls]
 exact ⟨hp,fun c=>⟨c,rfl,⟨rfl,Nat.le_refl _,rfl⟩,⟨rfl,Nat.le_refl _,rfl,fun _=>rfl,fun _ _ _=>rfl⟩,rfl,Nat.le_refl _,fun _ _=>rfl⟩⟩
end Go.Proofs.YthkihlpeaidlnaaGreat
end
