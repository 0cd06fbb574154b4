/-
 What the proof uses, part 14.
-/
import Derived.Deep.Slices
import Derived.Deep.Fields
import Derived.Test.YthkihlpeaidlnaaGreatZr13
set_option maxRecDepth 100000
set_option linter.unusedSimpArgs false
set_option linter.unusedVariables false

section
namespace Go.Proofs.YthkihlpeaidlnaaGreat
open Go.ChangeShapes Go.WideShapes Go.ChangeAt Go.RowKit Go.SE Go.Deep
section
variable {H:Type} {enc:TypeId×Value→H}
def Qxq (ls:List SE.Loc):Dict:=⟨fun k=>ls[k]?,fun _=>False⟩
theorem Q7c {W:World} {ls:List SE.Loc} {bs:List Ro} (h:∀ (k:Nat) (b:Ro),bs[k]?=some b→∃ l,ls[k]?=some l∧Live (Qxq ls) b.blk W l):HRep (Qxq ls) (Qaf (bs.map Ro.blk)) W:=by
 refine ⟨fun k b' hk=>?_,fun k k' r b' h1 h2 hk hrw=>?_,fun q hq=>hq.elim⟩
 · simp only [Qaf,List.getElem?_map] at hk
   cases hb:bs[k]? with
   | none=>rw [hb] at hk; cases hk
   | some b =>
     rw [hb] at hk
     cases hk
     obtain ⟨l,h1,h2⟩:=h k b hb
     exact ⟨l,h1,fun _=>h2⟩
 · simp only [Qaf,List.getElem?_map] at hk
   cases hb:bs[k]? with
   | none=>rw [hb] at hk; cases hk
   | some b=>rw [hb] at hk; cases hk; cases hrw
theorem Qvs:∀ bs:List Ro,Q6n (bs.map Ro.blk)=some bs
 | []=>rfl
 | b :: bs=>by
   simp only [List.map_cons,Q6n,Qvs bs]
   rfl
theorem Q6m {f:FuncId} {spec:List SV→List Ro→Option (Option Prop×SV)} (h:Qc7 Tryz.prog f spec) {args:List SV} {vs:List Value} {ls:List SE.Loc} {bs:List Ro} {W:World} (ha:Qaw (Qxq ls) args vs)
   (hl:∀ (k:Nat) (b:Ro),bs[k]?=some b→∃ l,ls[k]?=some l∧Live (Qxq ls) b.blk W l) (hn:ls.length=bs.length) (hb:bs.length≤1000) {p:Prop} (hs:spec args bs=some (some p,.v (.bool true))) (hp:p) :
   Calls Tryz.prog f vs.toArray W fun e W'=>e=.returned (.bool true)∧Below W.heap.size W W':=by
 have hs':Qrr spec args (bs.map Ro.blk)=some (.det (some p) (.v (.bool true)) []):=by
   unfold Qrr
   rw [Qvs]
   show (match spec args bs with | some (p,x)=>some (Eff.det p x []) | none=>none)=_
   rw [hs]
 refine (h _ _ _ hs' (fun q hq=>by cases hq; exact hp) (Qxq ls) W vs ha (Q7c hl) (fun k hk=>?_) (by simpa using hb)).mono fun e W' ⟨r,x,u,δ',h1,h2,_,h4,h5⟩=>?_
 · simp only [Qaf,List.getElem?_map,Option.map_eq_none_iff,List.getElem?_eq_none_iff] at hk
   simp only [Qxq,List.getElem?_eq_none_iff]
   omega
 · obtain ⟨rfl,rfl⟩:=h2
   simp only [Qah] at h4
   subst h4
   refine ⟨h1,h5.wrel.os,h5.wrel.tape,h5.wrel.output,h5.wrel.size,fun k hk=>h5.wrel.block k hk ?_⟩
   rintro ⟨k',b,hb,hrw,_⟩
   simp only [Qaf,List.getElem?_map] at hb
   cases hb':bs[k']? with
   | none=>rw [hb'] at hb; cases hb
   | some b=>rw [hb'] at hb; cases hb; cases hrw
theorem Q3o {W:World} {a:Addr} {v:Value} (h:W.cell? a=some v):a.spot=none∧∃ c e fz,W.heap[a.block]?=some (.cells c e fz)∧c[a.off]?=some v:=by
 unfold World.cell? at h
 split at h
 · rename_i c e fz hc
   split at h
   · cases h
   · rename_i hs
     exact ⟨by simpa using hs,c,e,fz,hc,h⟩
 · cases h
theorem Qlv (g o n:Nat):(⟨g,o,none⟩:Addr).add n=⟨g,o + n,none⟩:=by
 unfold Addr.add
 split
 · rename_i h; subst h; rfl
 · rfl
theorem Qkq:∀ xs:List Value,Qan (xs.map SV.v)=true
 | []=>rfl
 | x :: xs=>by simp only [List.map_cons,Qan,Qbr,Qkq xs,Bool.and_self]
theorem Qrp {W:World} {ts te:TypeId} {k fuel:Nat} {cs:List Value} {y:DataW H×List MemPlace} (hk:0<k) (hu:Tryz.prog.underlying ts=some (.slice te)) (hc:Tryz.prog.cellsOf te=k) {Q:List Value→Prop}
   (hQ:∀ fuel cs y,DataW.trod enc Tryz.prog W 0 (fun _=>true) true fuel te cs=some y→Q cs) (h:DataW.trod enc Tryz.prog W 0 (fun _=>true) true fuel ts cs=some y) :
   ∃ (n c:Nat) (row:Nat→List SV) (l:SE.Loc) (v:Value),cs=[v]∧(∀ δ kk,δ kk=some l→Qah δ (.sl kk k 0 n c) v∧Live δ (Ro.blk ⟨k,n,row⟩) W l)∧∀ i,i<n→∃ xs,row i=xs.map SV.v∧Q xs:=by
 have nil:∀ v,v=Value.slice none 0 0→∀ δ kk,δ kk=some (⟨0,k,0,0,true,false⟩:SE.Loc)→Qah δ (.sl kk k 0 0 0) v∧Live δ (Ro.blk ⟨k,0,fun _=>[]⟩) W ⟨0,k,0,0,true,false⟩:=by
   rintro v rfl δ kk hd
   simp only [Qah]
   exact ⟨⟨_,hd,rfl,Nat.le_refl _,(.inr ⟨trivial,.inl trivial,_,rfl⟩)⟩,⟨rfl,rfl,fun _=>⟨rfl,rfl⟩,(fun hh=>by cases hh),fun hh=>by cases hh⟩⟩
 rcases open_slice hu h with ⟨h1,_⟩ | ⟨a,len,cap,m,n,D,Pl,h1,_,hle,_,hm,_,hi⟩
 · exact ⟨0,0,fun _=>[],⟨0,k,0,0,true,false⟩,_,h1,nil _ rfl,fun i hi=>absurd hi (Nat.not_lt_zero _)⟩
 · rw [if_pos rfl] at hm
   subst hm
   rw [hc] at hi
   rcases Nat.eq_zero_or_pos m with h0 | h0
   · subst h0
     obtain rfl:len=0:=by omega
     refine ⟨0,0,fun _=>[],⟨0,k,0,0,true,false⟩,_,h1,?_,fun i hi=>absurd hi (Nat.not_lt_zero _)⟩
     intro δ kk hd
     simp only [Qah]
     exact ⟨⟨_,hd,rfl,Nat.le_refl _,(.inr ⟨trivial,.inl trivial,_,rfl⟩)⟩,⟨rfl,rfl,fun _=>⟨rfl,rfl⟩,(fun hh=>by cases hh),fun hh=>by cases hh⟩⟩
   · have cells:∀ i,i<m→∃ xs:List Value,xs.length=k∧Q xs∧∀ j,j<k→W.cell? ((a.add (i*k)).add j)=xs[j]?:=by
       intro i him
       obtain ⟨cs',h1,h2⟩:=hi i him
       obtain ⟨_,hlen,hc⟩:=World.cells?_some h1
       exact ⟨cs',hlen,hQ _ _ _ h2,hc⟩
     obtain ⟨xs0,hl0,_,k0⟩:=cells 0 h0
     have k0:=k0 0 hk
     rw [List.getElem?_eq_getElem (by omega)] at k0
     obtain ⟨g,o,sp⟩:=a
     obtain ⟨hs,c,e,fz,hh,ho⟩:=Q3o k0
     obtain rfl:sp=none:=by cases sp with | none=>rfl | some q=>simp [Addr.add] at hs
     rw [Qlv,Qlv] at hh ho
     have hh:W.heap[g]?=some (.cells c e fz):=hh
     have ho:c[o + 0*k + 0]?=some xs0[0]:=ho
     have at1:∀ i,i<m→∃ xs:List Value,xs.length=k∧Q xs∧∀ j,j<k→c[o + i*k + j]?=xs[j]?:=by
       intro i him
       obtain ⟨xs,hl,hq,g0⟩:=cells i him
       refine ⟨xs,hl,hq,fun j hj=>?_⟩
       have g0:=g0 j hj
       rw [List.getElem?_eq_getElem (by omega)] at g0 ⊢
       rw [Qlv,Qlv] at g0
       obtain ⟨_,c',e',fz',hh',ho'⟩:=Q3o g0
       have hh':W.heap[g]?=some (.cells c' e' fz'):=hh'
       rw [hh] at hh'
       cases hh'
       exact ho'
     have hsz:o≤c.size:=by
       have:=(Array.getElem?_eq_some_iff.1 ho).1
       omega
     let row:Nat→List SV:=fun i=>((List.range k).map fun j=>(c[o + i*k + j]?).getD undef).map SV.v
     have hrow:∀ i,i<m→∃ xs:List Value,xs.length=k∧Q xs∧row i=xs.map SV.v∧∀ j,j<k→c[o + i*k + j]?=xs[j]?:=by
       intro i him
       obtain ⟨xs,hl,hq,g0⟩:=at1 i him
       refine ⟨xs,hl,hq,?_,g0⟩
       show ((List.range k).map fun j=>(c[o + i*k + j]?).getD undef).map SV.v=_
       congr 1
       apply List.ext_getElem
       · simp [hl]
       · intro j h1 h2
         simp only [List.length_map,List.length_range] at h1
         simp only [List.getElem_map,List.getElem_range,g0 j h1]
         rw [List.getElem?_eq_getElem h2]; rfl
     refine ⟨len,m,row,⟨g,k,o,len,false,false⟩,_,h1,fun δ kk hd=>⟨?_,?_⟩,fun i hi=>?_⟩
     · simp only [Qah]
       exact ⟨_,hd,rfl,by show 0 + len≤len; omega,.inl ⟨rfl,_,.inl rfl,by simp⟩⟩
     · refine ⟨rfl,rfl,(fun hh=>by cases hh),fun _=>Qbt rfl ⟨c,e,fz,hh,(fun hh=>by cases hh),(fun _ i hi=>?_),(fun hh=>absurd rfl hh),by show o + 0*k≤c.size; omega,(fun hh=>by cases hh),fun i hi=>?_⟩,fun hh=>by cases hh⟩
       · exact Qkq _
       · obtain ⟨xs,hl,hq,hr,g0⟩:=hrow i (Nat.lt_of_lt_of_le hi hle)
         refine ⟨?_,fun j y hj=>?_⟩
         · show (row i).length=k
           rw [hr,List.length_map,hl]
         · have hj:(row i)[j]?=some y:=hj
           rw [hr,List.getElem?_map] at hj
           cases hx:xs[j]? with
           | none=>rw [hx] at hj; cases hj
           | some x =>
             rw [hx] at hj
             cases hj
             have hjk:j<k:=by
               have:=(List.getElem?_eq_some_iff.1 hx).1
               omega
             exact ⟨x,by show c[o + i*k + j]?=_; rw [g0 j hjk,hx],by simp only [Qah]⟩
     · obtain ⟨xs,hl,hq,hr,g0⟩:=hrow i (Nat.lt_of_lt_of_le hi hle)
       exact ⟨xs,hr,hq⟩
theorem Qxo {W:World} {base:Nat} {sp:Nat→Bool} {hd:Bool} {fuel:Nat} {cs:List Value} {y:DataW H×List MemPlace} (h:DataW.trod enc Tryz.prog W base sp hd fuel 38 cs=some y) :
   ∃ (a b c d e f:Int),cs=[.int .i64 a,.int .i64 b,.int .i64 c,.int .i64 d,.int .i64 e,.int .i64 f]∧I64 a∧I64 b∧I64 c∧I64 d∧I64 e∧I64 f:=by
 obtain ⟨xs,m,_,_,hl,hlen,hf⟩:=DataW.trod_struct Tryz.underlying38 h
 match xs,hlen with
 | [y0,y1,y2,y3,y4,y5],_ =>
   have h0:=hf 0 _ rfl
   have h1:=hf 1 _ rfl
   have h2:=hf 2 _ rfl
   have h3:=hf 3 _ rfl
   have h4:=hf 4 _ rfl
   have h5:=hf 5 _ rfl
   obtain ⟨a,g0,_,w0⟩:=DataW.trod_int (k:=.i64) (by kernel_rfl) h0
   obtain ⟨b,g1,_,w1⟩:=DataW.trod_int (k:=.i64) (by kernel_rfl) h1
   obtain ⟨c,g2,_,w2⟩:=DataW.trod_int (k:=.i64) (by kernel_rfl) h2
   obtain ⟨d,g3,_,w3⟩:=DataW.trod_int (k:=.i64) (by kernel_rfl) h3
   obtain ⟨e,g4,_,w4⟩:=DataW.trod_int (k:=.i64) (by kernel_rfl) h4
   obtain ⟨f,g5,_,w5⟩:=DataW.trod_int (k:=.i64) (by kernel_rfl) h5
   have e0:(Tryz.prog.cellsOf 2)=1:=by kernel_rfl
   have e3:(Tryz.prog.cellsOf 3)=1:=by kernel_rfl
   have e6:(Tryz.prog.cellsOf 38)=6:=by kernel_rfl
   rw [e6] at hl
   have g0:(cs.drop 0).take (Tryz.prog.cellsOf 3)=[.int .i64 a]:=g0
   have g1:(cs.drop 1).take (Tryz.prog.cellsOf 3)=[.int .i64 b]:=g1
   have g2:(cs.drop 2).take (Tryz.prog.cellsOf 3)=[.int .i64 c]:=g2
   have g3:(cs.drop 3).take (Tryz.prog.cellsOf 2)=[.int .i64 d]:=g3
   have g4:(cs.drop 4).take (Tryz.prog.cellsOf 2)=[.int .i64 e]:=g4
   have g5:(cs.drop 5).take (Tryz.prog.cellsOf 2)=[.int .i64 f]:=g5
   rw [e3] at g0 g1 g2
   rw [e0] at g3 g4 g5
   clear h0 h1 h2 h3 h4 h5 hf
   match cs,hl,g0,g1,g2,g3,g4,g5 with
   | [x0,x1,x2,x3,x4,x5],_,g0,g1,g2,g3,g4,g5 =>
     simp at g0 g1 g2 g3 g4 g5
     subst g0 g1 g2 g3 g4 g5
     exact ⟨a,b,c,d,e,f,rfl,Ql2 w0,Ql2 w1,Ql2 w2,Ql2 w3,Ql2 w4,Ql2 w5⟩
theorem Qxn {W:World} {b0:Nat} {r:Reach} {v:Value} {d:DataW H} {p:List MemPlace} (hv:Value.okWide Tryz.prog W r b0 22 v) (h:DataW.Trod enc Tryz.prog W 0 (fun _=>true) true 22 v d p) :
   ∃ (n c:Nat) (row:Nat→List SV) (l:SE.Loc),(∀ δ kk,δ kk=some l→Qah δ (.sl kk 6 0 n c) v∧Live δ (Ro.blk ⟨6,n,row⟩) W l)∧∀ i,i<n→∃ m:MD,row i=mdL m∧mdI m:=by
 obtain ⟨a0,len,cap,rfl⟩:=okWide_slice Tryz.underlying22 hv
 obtain ⟨fuel,hf⟩:=h
 obtain ⟨n,c,row,l,v,h1,h2,h3⟩:=Qrp (k:=6) (Q:=fun cs=>∃ (a b c d e f:Int),cs=[.int .i64 a,.int .i64 b,.int .i64 c,.int .i64 d,.int .i64 e,.int .i64 f]∧I64 a∧I64 b∧I64 c∧I64 d∧I64 e∧I64 f) (by omega) Tryz.underlying22 (by kernel_rfl) (fun fuel cs y h=>Qxo h) hf
 simp only [Value.cells,List.cons.injEq,and_true] at h1
 subst h1
 refine ⟨n,c,row,l,h2,fun i hi=>?_⟩
 obtain ⟨xs,hr,k,a,b,x,y,w,rfl,h4⟩:=h3 i hi
 exact ⟨⟨k,a,b,x,y,w⟩,hr,h4⟩
theorem Q2o {W:World} {b0:Nat} {r:Reach} {v:Value} {d:DataW H} {p:List MemPlace} (hv:Value.okWide Tryz.prog W r b0 23 v) (h:DataW.Trod enc Tryz.prog W 0 (fun _=>true) true 23 v d p) :
   ∃ (n c:Nat) (row:Nat→List SV) (l:SE.Loc),(∀ δ kk,δ kk=some l→Qah δ (.sl kk 1 0 n c) v∧Live δ (Ro.blk ⟨1,n,row⟩) W l)∧∀ i,i<n→∃ a:Int,row i=[.v (.int .i64 a)]∧I64 a:=by
 obtain ⟨a0,len,cap,rfl⟩:=okWide_slice Tryz.underlying23 hv
 obtain ⟨fuel,hf⟩:=h
 obtain ⟨n,c,row,l,v,h1,h2,h3⟩:=Qrp (k:=1) (Q:=fun cs=>∃ a:Int,cs=[.int .i64 a]∧I64 a) (by omega) Tryz.underlying23 (by kernel_rfl) (fun fuel cs y h=>by
   obtain ⟨a,h2,_,wa⟩:=DataW.trod_int (k:=.i64) (by kernel_rfl) h
   exact ⟨a,h2,Ql2 wa⟩) hf
 simp only [Value.cells,List.cons.injEq,and_true] at h1
 subst h1
 refine ⟨n,c,row,l,h2,fun i hi=>?_⟩
 obtain ⟨xs,hr,a,rfl,h4⟩:=h3 i hi
 exact ⟨a,hr,h4⟩
end
end Go.Proofs.YthkihlpeaidlnaaGreat
end
section
namespace Go.Proofs.YthkihlpeaidlnaaGreat
open Go.SE Go.RowKit
abbrev qI (n:Int):SV:=.v (.int .i64 n)
def slB (a:Int) (n c:Nat):Blk:=Qct 113 [.v (.int .u64 a),.sl 1 1 0 n c]
def gnB (n:Nat) (g:Nat→Int):Blk:={elem:=3,size:=1,rw:=true,lock:=false,lit:=false,flat:=true,n,row:=fun i=>[.v (.int .i64 (g i))]}
def i1 (r:List SV):Int:=match r with | [.v (.int .i64 v)]=>v | _=>0
def Zna (r:List SV):Prop:=match r with | [.v (.int .i64 v)]=>I64 v | _=>False
def slP (a:Int) (n:Nat) (D:Blk):Prop:=(0≤a∧a<18446744073709551616)∧n≤64∧D.n=n∧D.ext=n∧∀ i,i<n→Zna (D.row i)
def slK (bs:List Blk) (k:Int→Nat→Nat→(Nat→Int)→Prop→Eff):Option Eff:=match bs with
 | [B,D]=>match B.row 0 with
   | [.v (.int .u64 a),.sl 1 1 0 n c]=>bif (Nat.beq B.elem 113&&Nat.beq B.size 2&&B.rw&&!B.off&&Nat.beq B.n 1&&Nat.beq B.ext 1&&B.whole&&!B.flat)&&(Nat.beq D.elem 3&&Nat.beq D.size 1&&D.rw&&!D.off&&D.flat&&!D.whole) then
       some (k a n c (fun i=>i1 (D.row i)) (slP a n D))
     else none
   | _=>none
 | _=>none
def slU (a:Int) (n c:Nat) (g:Nat→Int):List (Nat×Blk):=[(0,slB a n c),(1,gnB n g)]
def onA (a i:Int):Bool:=bits .and .u64 (a / 2 ^ min (IntKind.u64.wrap i).toNat 64) 1==1
def mkA (a i:Int):Int:=bits .or .u64 a (IntKind.u64.wrap (1*2 ^ min (IntKind.u64.wrap i).toNat 64))
def clA (a i:Int):Int:=bits .andNot .u64 a (IntKind.u64.wrap (1*2 ^ min (IntKind.u64.wrap i).toNat 64))
def Zmj (args:List SV) (bs:List Blk):Option Eff:=match args with
 | [.vp 0 0,.v (.int .i64 i)]=>slK bs fun a n c g p=>.det (some p) (.v (.bool (onA a i))) (slU a n c g)
 | _=>none
def Zml (args:List SV) (bs:List Blk):Option Eff:=match args with
 | [.vp 0 0,.v (.int .i64 i)]=>slK bs fun a n c g p=>.det (some p) (.tup []) (slU (mkA a i) n c g)
 | _=>none
def Zmv (args:List SV) (bs:List Blk):Option Eff:=match args with
 | [.vp 0 0,.v (.int .i64 i)]=>slK bs fun a n c g p=>.det (some p) (.tup []) (slU (clA a i) n c g)
 | _=>none
theorem Zlq (a i:Int) (n c:Nat) (g:Nat→Int) (q:Prop):(Qcf Tryz.prog Qbi Qay Tryz.f39 [.vp 0 0,qI i] (Qaf [slB a n c,gnB n g]) 64 (fun y h'=>Qgb [slB a n c,gnB n g] (.det (some q) (.v (.bool (onA a i))) (slU a n c g)) y h'))=(((0:Int)≤(IntKind.wrap IntKind.u64 i))∧(((yF (bits BinOp.and IntKind.u64 (a / 2 ^ min (Int.toNat (IntKind.wrap IntKind.u64 i)) 64) 1==1))=(yF (onA a i)))∧((((1:Nat)=1)∧(((1:Nat)≤1)∧(((SV.v (.int .u64 a))=(SV.v (.int .u64 a)))∧((SV.sl 1 1 0 n c)=(SV.sl 1 1 0 n c)))))∧(((n:Nat)=n)∧(((n:Nat)≤n)∧(∀ i_1:Nat,(((i_1:Nat)<n)→([(yI (g i_1))]=[(yI (g i_1))])))))))):=by kernel_rfl
theorem Zlr (a i:Int) (n c:Nat) (g:Nat→Int) (q:Prop):(Qcf Tryz.prog Qbi Qay Tryz.f40 [.vp 0 0,qI i] (Qaf [slB a n c,gnB n g]) 64 (fun y h'=>Qgb [slB a n c,gnB n g] (.det (some q) (.tup []) (slU (mkA a i) n c g)) y h'))=(((0:Int)≤(IntKind.wrap IntKind.u64 i))∧(True∧((((1:Nat)=1)∧(((1:Nat)≤1)∧(((SV.v (.int .u64 (bits BinOp.or IntKind.u64 a (IntKind.wrap IntKind.u64 (1*2 ^ min (Int.toNat (IntKind.wrap IntKind.u64 i)) 64)))))=(SV.v (.int .u64 (mkA a i))))∧((SV.sl 1 1 0 n c)=(SV.sl 1 1 0 n c)))))∧(((n:Nat)=n)∧(((n:Nat)≤n)∧(∀ i_1:Nat,(((i_1:Nat)<n)→([(yI (g i_1))]=[(yI (g i_1))])))))))):=by kernel_rfl
theorem Zlx (a i:Int) (n c:Nat) (g:Nat→Int) (q:Prop):(Qcf Tryz.prog Qbi Qay Tryz.f45 [.vp 0 0,qI i] (Qaf [slB a n c,gnB n g]) 64 (fun y h'=>Qgb [slB a n c,gnB n g] (.det (some q) (.tup []) (slU (clA a i) n c g)) y h'))=(((0:Int)≤(IntKind.wrap IntKind.u64 i))∧(True∧((((1:Nat)=1)∧(((1:Nat)≤1)∧(((SV.v (.int .u64 (bits BinOp.andNot IntKind.u64 a (IntKind.wrap IntKind.u64 (1*2 ^ min (Int.toNat (IntKind.wrap IntKind.u64 i)) 64)))))=(SV.v (.int .u64 (clA a i))))∧((SV.sl 1 1 0 n c)=(SV.sl 1 1 0 n c)))))∧(((n:Nat)=n)∧(((n:Nat)≤n)∧(∀ i_1:Nat,(((i_1:Nat)<n)→([(yI (g i_1))]=[(yI (g i_1))])))))))):=by kernel_rfl
def Qg1 (a:Int):Int :=
 let x1:=IntKind.u64.wrap (bits .and .u64 (a / 2) 6148914691236517205 + bits .and .u64 a 6148914691236517205)
 let x2:=IntKind.u64.wrap (bits .and .u64 (x1 / 4) 3689348814741910323 + bits .and .u64 x1 3689348814741910323)
 let x3:=bits .and .u64 (IntKind.u64.wrap (x2 / 16 + x2)) 1085102592571150095
 let x4:=IntKind.u64.wrap (x3 + x3 / 256)
 let x5:=IntKind.u64.wrap (x4 + x4 / 65536)
 let x6:=IntKind.u64.wrap (x5 + x5 / 4294967296)
 bits .and .i64 (IntKind.i64.wrap x6) 127
def Zcz:List SV→Option (Option Prop×SV)
 | [.v (.int .u64 a)]=>some (none,.v (.int .i64 (Qg1 a)))
 | _=>none
@[reducible] noncomputable def Qph (a:Int):=(IntKind.wrap IntKind.u64 (IntKind.wrap IntKind.u64 (bits BinOp.and IntKind.u64 (IntKind.wrap IntKind.u64 (bits BinOp.and IntKind.u64 (a / 2) 6148914691236517205 + bits BinOp.and IntKind.u64 a 6148914691236517205) / 4) 3689348814741910323 + bits BinOp.and IntKind.u64 (IntKind.wrap IntKind.u64 (bits BinOp.and IntKind.u64 (a / 2) 6148914691236517205 + bits BinOp.and IntKind.u64 a 6148914691236517205)) 3689348814741910323) / 16 + IntKind.wrap IntKind.u64 (bits BinOp.and IntKind.u64 (IntKind.wrap IntKind.u64 (bits BinOp.and IntKind.u64 (a / 2) 6148914691236517205 + bits BinOp.and IntKind.u64 a 6148914691236517205) / 4) 3689348814741910323 + bits BinOp.and IntKind.u64 (IntKind.wrap IntKind.u64 (bits BinOp.and IntKind.u64 (a / 2) 6148914691236517205 + bits BinOp.and IntKind.u64 a 6148914691236517205)) 3689348814741910323)))
@[reducible] noncomputable def Qiy (a:Int):=(bits BinOp.and IntKind.u64 (Qph a) 1085102592571150095 + bits BinOp.and IntKind.u64 (Qph a) 1085102592571150095 / 256)
theorem Zg7 (a:Int) (R:SV→Prop):(Qbe Tryz.prog Qbi Qay Tryz.f120 [.v (.int .u64 a)] R) =
(R (yI (bits BinOp.and IntKind.i64 (IntKind.wrap IntKind.i64 (IntKind.wrap IntKind.u64 (IntKind.wrap IntKind.u64 (IntKind.wrap IntKind.u64 (Qiy a) + IntKind.wrap IntKind.u64 (Qiy a) / 65536) + IntKind.wrap IntKind.u64 (IntKind.wrap IntKind.u64 (Qiy a) + IntKind.wrap IntKind.u64 (Qiy a) / 65536) / 4294967296))) 127))):=by kernel_rfl
noncomputable def Zgd:Qbz:=Qai Qbi 120 (Qao Zcz)
def Zdc (args:List SV) (bs:List Blk):Option Eff:=match args with
 | [.vp 0 0]=>slK bs fun a n c g p=>.det (some p) (.v (.int .i64 (Qg1 a))) (slU a n c g)
 | _=>none
theorem Zhp (a:Int) (n c:Nat) (g:Nat→Int) (q:Prop):(Qcf Tryz.prog Zgd Qay Tryz.f58 [.vp 0 0] (Qaf [slB a n c,gnB n g]) 64 (fun y h'=>Qgb [slB a n c,gnB n g] (.det (some q) (.v (.int .i64 (Qg1 a))) (slU a n c g)) y h'))=(((yI (Qg1 a))=(yI (Qg1 a)))∧((((1:Nat)=1)∧(((1:Nat)≤1)∧(((SV.v (.int .u64 a))=(SV.v (.int .u64 a)))∧((SV.sl 1 1 0 n c)=(SV.sl 1 1 0 n c)))))∧(((n:Nat)=n)∧(((n:Nat)≤n)∧(∀ i:Nat,(((i:Nat)<n)→([(yI (g i))]=[(yI (g i))]))))))):=by kernel_rfl
def Zc1 (args:List SV) (bs:List Blk):Option Eff:=match args with
 | [.vp 0 0]=>slK bs fun a n c g p=>.det (some p) (.v (.bool ((n:Int)==0))) (slU a n c g)
 | _=>none
theorem Zg9 (a:Int) (n c:Nat) (g:Nat→Int) (q:Prop):(Qcf Tryz.prog Qbi Qay Tryz.f38 [.vp 0 0] (Qaf [slB a n c,gnB n g]) 64 (fun y h'=>Qgb [slB a n c,gnB n g] (.det (some q) (.v (.bool ((n:Int)==0))) (slU a n c g)) y h'))=(((yF ((↑n:Int)==0))=(yF ((↑n:Int)==0)))∧((((1:Nat)=1)∧(((1:Nat)≤1)∧(((SV.v (.int .u64 a))=(SV.v (.int .u64 a)))∧((SV.sl 1 1 0 n c)=(SV.sl 1 1 0 n c)))))∧(((n:Nat)=n)∧(((n:Nat)≤n)∧(∀ i:Nat,(((i:Nat)<n)→([(yI (g i))]=[(yI (g i))]))))))):=by kernel_rfl
theorem Qer {α:Type _} {b:Bool} {x y:α} (h:(bif b then some x else none)=some y):b=true∧x=y:=by
 cases b with
 | true=>exact ⟨rfl,Option.some.inj h⟩
 | false=>cases h
theorem Qzy (i:Int):0≤IntKind.wrap IntKind.u64 i:=by rw [Qdj]; exact Int.emod_nonneg _ (by omega)
theorem Qlo {r:List SV} (h:Zna r):r=[.v (.int .i64 (i1 r))]∧I64 (i1 r):=by
 unfold Zna at h
 split at h
 · exact ⟨rfl,h⟩
 · cases h
theorem Qgf {bs:List Blk} {k:Int→Nat→Nat→(Nat→Int)→Prop→Eff} {e:Eff} (h:slK bs k=some e):∃ a n c g p,e=k a n c g p∧(p→Qdn bs [slB a n c,gnB n g]∧(0≤a∧a<18446744073709551616)∧n≤64∧∀ i,i<n→I64 (g i)):=by
 unfold slK at h
 split at h <;> try (cases h; done)
 rename_i B D
 split at h <;> try (cases h; done)
 rename_i a n c hB
 obtain ⟨hc,e⟩:=Qer h
 subst e
 refine ⟨a,n,c,_,_,rfl,fun hp=>?_⟩
 simp only [Bool.and_eq_true,Bool.not_eq_true',Nat.beq_eq] at hc
 obtain ⟨⟨⟨⟨⟨⟨⟨⟨a1,a2⟩,a3⟩,a4⟩,a5⟩,a6⟩,a7⟩,a8⟩,⟨⟨⟨⟨b1,b2⟩,b3⟩,b4⟩,b5⟩,b6⟩:=hc
 obtain ⟨a4,a9⟩:=Blk.off_false a4
 obtain ⟨b4,b7⟩:=Blk.off_false b4
 obtain ⟨p1,p2,p3,p4,p5⟩:=hp
 refine ⟨⟨⟨a2,a3,a8,a5,a6,a4,a1,a7,fun i hi=>?_,a9⟩,⟨b2,b3,b5,p3,p4,b4,b1,b6,fun i hi=>(Qlo (p5 i (by omega))).1,b7⟩,trivial⟩,p1,p2,fun i hi=>(Qlo (p5 i hi)).2⟩
 obtain rfl:i=0:=by omega
 exact hB
theorem Zl6 {bs:List Blk} {k:Int→Nat→Nat→(Nat→Int)→Prop→Eff} {e:Eff} (h:slK bs k=some e):∃ B D a n c p,bs=[B,D]∧B.row 0=[.v (.int .u64 a),.sl 1 1 0 n c]∧e=k a n c (fun i=>i1 (D.row i)) p∧(p→Qdn bs [slB a n c,gnB n fun i=>i1 (D.row i)]∧(0≤a∧a<18446744073709551616)∧n≤64∧∀ i,i<n→I64 (i1 (D.row i))):=by
 have h0:=h
 unfold slK at h
 split at h <;> try (cases h; done)
 rename_i B D
 split at h <;> try (cases h; done)
 rename_i a n c hB
 obtain ⟨hc,e⟩:=Qer h
 subst e
 refine ⟨B,D,a,n,c,_,rfl,hB,rfl,fun hp=>?_⟩
 simp only [Bool.and_eq_true,Bool.not_eq_true',Nat.beq_eq] at hc
 obtain ⟨⟨⟨⟨⟨⟨⟨⟨a1,a2⟩,a3⟩,a4⟩,a5⟩,a6⟩,a7⟩,a8⟩,⟨⟨⟨⟨b1,b2⟩,b3⟩,b4⟩,b5⟩,b6⟩:=hc
 obtain ⟨a4,a9⟩:=Blk.off_false a4
 obtain ⟨b4,b7⟩:=Blk.off_false b4
 obtain ⟨p1,p2,p3,p4,p5⟩:=hp
 refine ⟨⟨⟨a2,a3,a8,a5,a6,a4,a1,a7,fun i hi=>?_,a9⟩,⟨b2,b3,b5,p3,p4,b4,b1,b6,fun i hi=>(Qlo (p5 i (by omega))).1,b7⟩,trivial⟩,p1,p2,fun i hi=>(Qlo (p5 i hi)).2⟩
 obtain rfl:i=0:=by omega
 exact hB
theorem Q8u:Qbv Tryz.prog 39 Zmj:=Qb0 hm Qam Tryz.func39 (Λ:=fun _ _=>Qay) fun args bs e hs hp=>by
 unfold Zmj at hs
 split at hs <;> try (cases hs; done)
 rename_i i
 obtain ⟨a,n,c,g,p,rfl,h⟩:=Qgf hs
 obtain ⟨h1,_⟩:=h (hp _ rfl)
 exact ⟨_,h1,Eq.mpr (Zlq a i n c g p) ⟨Qzy i,rfl,⟨rfl,Nat.le_refl _,rfl,rfl⟩,rfl,Nat.le_refl _,fun _ _=>rfl⟩⟩
theorem Q8v:Qbv Tryz.prog 40 Zml:=Qb0 hm Qam Tryz.func40 (Λ:=fun _ _=>Qay) fun args bs e hs hp=>by
 unfold Zml at hs
 split at hs <;> try (cases hs; done)
 rename_i i
 obtain ⟨a,n,c,g,p,rfl,h⟩:=Qgf hs
 obtain ⟨h1,_⟩:=h (hp _ rfl)
 exact ⟨_,h1,Eq.mpr (Zlr a i n c g p) ⟨Qzy i,trivial,⟨rfl,Nat.le_refl _,rfl,rfl⟩,rfl,Nat.le_refl _,fun _ _=>rfl⟩⟩
theorem Q84:Qbv Tryz.prog 45 Zmv:=Qb0 hm Qam Tryz.func45 (Λ:=fun _ _=>Qay) fun args bs e hs hp=>by
 unfold Zmv at hs
 split at hs <;> try (cases hs; done)
 rename_i i
 obtain ⟨a,n,c,g,p,rfl,h⟩:=Qgf hs
 obtain ⟨h1,_⟩:=h (hp _ rfl)
 exact ⟨_,h1,Eq.mpr (Zlx a i n c g p) ⟨Qzy i,trivial,⟨rfl,Nat.le_refl _,rfl,rfl⟩,rfl,Nat.le_refl _,fun _ _=>rfl⟩⟩
theorem Q4m:Qaq Tryz.prog 120 Zcz:=Qax hm Qam Tryz.func120 (Λ:=fun _=>Qay) fun args p x h _=>by
 unfold Zcz at h
 split at h <;> try (cases h; done)
 cases h
 refine ⟨rfl,rfl,?_⟩
 rw [Zg7]
 repeat (first | unfold Qiy | unfold Qph)
 rfl
theorem Q5l:∀ f g,Zgd f=some g→g.ok Tryz.prog f:=Qad Qam (Qas Tryz.func120 (by kernel_rfl) (by kernel_rfl) Q4m)
theorem Q40:Qbv Tryz.prog 58 Zdc:=Qb0 hm Q5l Tryz.func58 (Λ:=fun _ _=>Qay) fun args bs e hs hp=>by
 unfold Zdc at hs
 split at hs <;> try (cases hs; done)
 obtain ⟨a,n,c,g,p,rfl,h⟩:=Qgf hs
 obtain ⟨h1,_⟩:=h (hp _ rfl)
 refine ⟨_,h1,?_⟩
 rw [Zhp]
 exact ⟨rfl,⟨rfl,Nat.le_refl _,rfl,rfl⟩,rfl,Nat.le_refl _,fun _ _=>rfl⟩
theorem Q4o:Qbv Tryz.prog 38 Zc1:=Qb0 hm Qam Tryz.func38 (Λ:=fun _ _=>Qay) fun args bs e hs hp=>by
 unfold Zc1 at hs
 split at hs <;> try (cases hs; done)
 obtain ⟨a,n,c,g,p,rfl,h⟩:=Qgf hs
 obtain ⟨h1,_⟩:=h (hp _ rfl)
 refine ⟨_,h1,?_⟩
 rw [Zg9]
 exact ⟨rfl,⟨rfl,Nat.le_refl _,rfl,rfl⟩,rfl,Nat.le_refl _,fun _ _=>rfl⟩
noncomputable def Zge:Qbz:=Qai (Qai (Qai (Qai (Qai Qbi 39 (Qcz true Zmj)) 40 (Qcz true Zml)) 45 (Qcz true Zmv)) 58 (Qcz true Zdc)) 38 (Qcz true Zc1)
def tkP (a:Int) (g:Nat→Int) (j:Nat):Bool:=!onA a j&&decide (g j<2147483647)
def Qom (p:Nat→Bool):Nat→Nat→Nat
 | _,0=>0
 | i,k + 1=>bif p i then i else Qom p (i + 1) k
def Zei (g:Nat→Int) (k:Nat):Nat→Int:=fun i=>bop (Nat.beq i k) (IntKind.i64.wrap (g k + 1)) (g i)
abbrev hdS (s g:Int):SV:=.agg [.v (.int .i64 s),.v (.int .i64 g)]
def tkE (q:Prop) (a:Int) (n c:Nat) (g:Nat→Int) (k:Nat):Eff:=.det (some q) (.tup [hdS k (IntKind.i64.wrap (g k + 1)),.v (.int .i64 0)]) (slU (mkA a k) n c (Zei g k))
def Zcq (args:List SV) (bs:List Blk):Option Eff:=match args with
 | [.vp 0 0]=>slK bs fun a n c g p=>tkE (p∧0<n∧tkP a g (Qom (tkP a g) 0 n)=true∧(∀ j,j<Qom (tkP a g) 0 n→tkP a g j=false)∧Qom (tkP a g) 0 n<n) a n c g (Qom (tkP a g) 0 n)
 | _=>none
noncomputable def Q9a (a:Int) (n c:Nat) (g:Nat→Int):Nat→Option LoopSpec:=Qdv Qay Tryz.f8 0 Nat (fun k=>k≤n∧∀ j,j<k→tkP a g j=false) (fun k=>n - k) [(14,fun k=>.v (.int .i64 (k:Nat)))] [(0,fun _=>slB a n c),(1,fun _=>gnB n g),(64,fun _=>Qct 40 [.v (.int .i64 0),.v (.int .i64 0)])]
@[reducible] noncomputable def Qlb (a:Int) (n:Nat) (c:Nat) (g:Nat→Int):=((((1:Nat)=1)∧(((1:Nat)≤1)∧(((SV.v (.int .u64 a))=(SV.v (.int .u64 a)))∧((SV.sl 1 1 0 n c)=(SV.sl 1 1 0 n c)))))∧((((n:Nat)=n)∧(((n:Nat)≤n)∧(∀ i:Nat,(((i:Nat)<n)→([(SV.v (.int .i64 (g i)))]=[(SV.v (.int .i64 (g i)))])))))∧(((1:Nat)=1)∧(((1:Nat)≤1)∧(∀ i:Nat,(((i:Nat)<1)→([(SV.v (.int .i64 0)),(SV.v (.int .i64 0))]=[(SV.v (.int .i64 0)),(SV.v (.int .i64 0))])))))))
@[reducible] noncomputable def Qpd (a:Int) (n:Nat) (c:Nat) (k0:Nat) (g:Nat→Int):=((((1:Nat)=1)∧(((1:Nat)≤1)∧(((SV.v (.int .u64 a))=(SV.v (.int .u64 (mkA a (↑k0:Int)))))∧((SV.sl 1 1 0 n c)=(SV.sl 1 1 0 n c)))))∧(((n:Nat)=n)∧(((n:Nat)≤n)∧(∀ i:Nat,(((i:Nat)<n)→([(SV.v (.int .i64 (g i)))]=[(SV.v (.int .i64 (Zei g k0 i)))]))))))
theorem Zgl (a:Int) (n c k0:Nat) (g:Nat→Int) (q:Prop):(Qcf Tryz.prog Zge (Q9a a n c g) Tryz.f8 [.vp 0 0] (Qaf [slB a n c,gnB n g]) 64 (fun y h'=>Qgb [slB a n c,gnB n g] (tkE q a n c g k0) y h')) =
((slP a n {elem:=3,size:=1,rw:=true,lock:=false,lit:=false,flat:=true,n:=n,row:=fun i=>[yI (g i)]})∧(sel ((↑n:Int)==0) (((((yI 0)=(yI ((↑k0:Int))))∧((yI 0)=(yI (IntKind.wrap IntKind.i64 (g k0 + 1)))))∧((yI 1)=(yI 0)))∧(Qpd a n c k0 g)) ((∃ x:Nat,((((x:Nat)≤n)∧(∀ j:Nat,(((j:Nat)<x)→(tkP a g j=false))))∧(((yI 0)=(yI ((↑x:Int))))∧(Qlb a n c g))))∧(∀ x:Nat,((((x:Nat)≤n)∧(∀ j:Nat,(((j:Nat)<x)→(tkP a g j=false))))→(sel (decide ((↑x:Int)<(↑n:Int))) ((((0:Int)≤((↑x:Int)))∧((((↑x:Int)):Int)<((↑n:Int))))∧((slP a n {elem:=3,size:=1,rw:=true,lock:=false,lit:=false,flat:=true,n:=n,row:=fun i=>[yI (g i)]})∧(sel (!onA a (↑x:Int)) (sel (decide (g (0 + Int.toNat (↑x:Int))<2147483647)) ((slP a n {elem:=3,size:=1,rw:=true,lock:=false,lit:=false,flat:=true,n:=n,row:=fun i=>[yI ((fun i=>g i) i)]})∧((((0:Int)≤((↑x:Int)))∧((((↑x:Int)):Int)<((↑n:Int))))∧((((0:Int)≤((↑x:Int)))∧((((↑x:Int)):Int)<((↑n:Int))))∧(((((yI ((↑x:Int)))=(yI ((↑k0:Int))))∧((yI (IntKind.wrap IntKind.i64 (g (0 + Int.toNat (↑x:Int)) + 1)))=(yI (IntKind.wrap IntKind.i64 (g k0 + 1)))))∧((yI 0)=(yI 0)))∧((((1:Nat)=1)∧(((1:Nat)≤1)∧(((SV.v (.int .u64 (mkA a (↑x:Int))))=(SV.v (.int .u64 (mkA a (↑k0:Int)))))∧((SV.sl 1 1 0 n c)=(SV.sl 1 1 0 n c)))))∧(((n:Nat)=n)∧(((n:Nat)≤n)∧(∀ i:Nat,(((i:Nat)<n)→([(yI (bop (Nat.beq i (0 + Int.toNat (↑x:Int))) (IntKind.wrap IntKind.i64 (g (0 + Int.toNat (↑x:Int)) + 1)) (g i)))]=[(yI (Zei g k0 i))])))))))))) (∃ x':Nat,(((((x':Nat)≤n)∧(∀ j:Nat,(((j:Nat)<x')→(tkP a g j=false))))∧(((yI (IntKind.wrap IntKind.i64 ((↑x:Int) + 1)))=(yI ((↑x':Int))))∧(Qlb a n c g)))∧(((n - x'):Nat)<(n - x))))) (∃ x':Nat,(((((x':Nat)≤n)∧(∀ j:Nat,(((j:Nat)<x')→(tkP a g j=false))))∧(((yI (IntKind.wrap IntKind.i64 ((↑x:Int) + 1)))=(yI ((↑x':Int))))∧(Qlb a n c g)))∧(((n - x'):Nat)<(n - x))))))) (((((yI 0)=(yI ((↑k0:Int))))∧((yI 0)=(yI (IntKind.wrap IntKind.i64 (g k0 + 1)))))∧((yI 10)=(yI 0)))∧(Qpd a n c k0 g)))))))):=by kernel_rfl
def sAt (args:List SV) (bs:List Blk):Option Eff:=match args with
 | [.vp 0 0,.v (.int .i64 s)]=>slK bs fun a n c g p=>.det (some (p∧0≤s∧s<n)) (.tup [hdS (bif onA a s then s else 0) (bif onA a s then g s.toNat else 0),.v (.bool (onA a s))]) (slU a n c g)
 | _=>none
@[reducible] noncomputable def Qrg (a:Int) (s:Int) (n:Nat) (c:Nat) (g:Nat→Int):=(((((SV.v (.int .i64 0))=(SV.v (.int .i64 (bif onA a s then s else 0))))∧((SV.v (.int .i64 0))=(SV.v (.int .i64 (bif onA a s then g (Int.toNat s) else 0)))))∧((SV.v (.bool false))=(SV.v (.bool (onA a s)))))∧((((1:Nat)=1)∧(((1:Nat)≤1)∧(((SV.v (.int .u64 a))=(SV.v (.int .u64 a)))∧((SV.sl 1 1 0 n c)=(SV.sl 1 1 0 n c)))))∧(((n:Nat)=n)∧(((n:Nat)≤n)∧(∀ i:Nat,(((i:Nat)<n)→([(SV.v (.int .i64 (g i)))]=[(SV.v (.int .i64 (g i)))])))))))
theorem vcAt (a s:Int) (n c:Nat) (g:Nat→Int) (q:Prop):(Qcf Tryz.prog Zge Qay Tryz.f12 [.vp 0 0,qI s] (Qaf [slB a n c,gnB n g]) 64 (fun y h'=>Qgb [slB a n c,gnB n g] (.det (some q) (.tup [hdS (bif onA a s then s else 0) (bif onA a s then g s.toNat else 0),.v (.bool (onA a s))]) (slU a n c g)) y h')) =
((slP a n {elem:=3,size:=1,rw:=true,lock:=false,lit:=false,flat:=true,n:=n,row:=fun i=>[yI (g i)]})∧(sel ((↑n:Int)==0) (Qrg a s n c g) (sel (decide (s<0)) (Qrg a s n c g) (sel (decide (s ≥ (↑n:Int))) (Qrg a s n c g) ((slP a n {elem:=3,size:=1,rw:=true,lock:=false,lit:=false,flat:=true,n:=n,row:=fun i=>[yI ((fun i=>g i) i)]})∧(sel (!onA a s) (Qrg a s n c g) ((((0:Int)≤s)∧((s:Int)<((↑n:Int))))∧(((((yI s)=(yI (bif onA a s then s else 0)))∧((yI (g (0 + Int.toNat s)))=(yI (bif onA a s then g (Int.toNat s) else 0))))∧((yF true)=(yF (onA a s))))∧((((1:Nat)=1)∧(((1:Nat)≤1)∧(((SV.v (.int .u64 a))=(SV.v (.int .u64 a)))∧((SV.sl 1 1 0 n c)=(SV.sl 1 1 0 n c)))))∧(((n:Nat)=n)∧(((n:Nat)≤n)∧(∀ i:Nat,(((i:Nat)<n)→([(yI (g i))]=[(yI (g i))])))))))))))))):=by kernel_rfl
noncomputable def Zaz:Qbz:=Qai Zge 12 (Qcz true sAt)
def Q2y (a:Int) (g:Nat→Int) (s k:Int):Bool:=onA a s&&(g s.toNat==k)
def Zmo (args:List SV) (bs:List Blk):Option Eff:=match args with
 | [.vp 0 0,.agg [.v (.int .i64 s),.v (.int .i64 k)]]=>slK bs fun a n c g p=>.det (some (p∧0≤s∧s<n)) (.v (.bool (Q2y a g s k))) (slU a n c g)
 | _=>none
theorem Zlt (a s k:Int) (n c:Nat) (g:Nat→Int) (q:Prop):(Qcf Tryz.prog Zaz Qay Tryz.f44 [.vp 0 0,hdS s k] (Qaf [slB a n c,gnB n g]) 64 (fun y h'=>Qgb [slB a n c,gnB n g] (.det (some q) (.v (.bool (Q2y a g s k))) (slU a n c g)) y h'))=(((slP a n {elem:=3,size:=1,rw:=true,lock:=false,lit:=false,flat:=true,n:=n,row:=fun i=>[yI (g i)]})∧(((0:Int)≤s)∧((s:Int)<((↑n:Int)))))∧(sel (onA a s) (((yF ((bif onA a s then s else 0)==s&&(bif onA a s then g (Int.toNat s) else 0)==k))=(yF (Q2y a g s k)))∧((((1:Nat)=1)∧(((1:Nat)≤1)∧(((SV.v (.int .u64 a))=(SV.v (.int .u64 a)))∧((SV.sl 1 1 0 n c)=(SV.sl 1 1 0 n c)))))∧(((n:Nat)=n)∧(((n:Nat)≤n)∧(∀ i:Nat,(((i:Nat)<n)→([(yI (g i))]=[(yI (g i))]))))))) (((yF false)=(yF (Q2y a g s k)))∧((((1:Nat)=1)∧(((1:Nat)≤1)∧(((SV.v (.int .u64 a))=(SV.v (.int .u64 a)))∧((SV.sl 1 1 0 n c)=(SV.sl 1 1 0 n c)))))∧(((n:Nat)=n)∧(((n:Nat)≤n)∧(∀ i:Nat,(((i:Nat)<n)→([(yI (g i))]=[(yI (g i))]))))))))):=by kernel_rfl
noncomputable def Zgc:Qbz:=Qai Zaz 44 (Qcz true Zmo)
def Zc7 (args:List SV) (bs:List Blk):Option Eff:=match args with
 | [.vp 0 0,.agg [.v (.int .i64 s),.v (.int .i64 k)]]=>slK bs fun a n c g p=>.det (some (p∧(0≤s∧s<n)∧0<n∧Q2y a g s k=true)) (.v (.int .i64 0)) (slU (clA a s) n c g)
 | _=>none
theorem Zhh (a s k:Int) (n c:Nat) (g:Nat→Int) (q:Prop):(Qcf Tryz.prog Zgc Qay Tryz.f13 [.vp 0 0,hdS s k] (Qaf [slB a n c,gnB n g]) 64 (fun y h'=>Qgb [slB a n c,gnB n g] (.det (some q) (.v (.int .i64 0)) (slU (clA a s) n c g)) y h')) =
((slP a n {elem:=3,size:=1,rw:=true,lock:=false,lit:=false,flat:=true,n:=n,row:=fun i=>[yI (g i)]})∧(sel ((↑n:Int)==0) (((yI 1)=(yI 0))∧((((1:Nat)=1)∧(((1:Nat)≤1)∧(((SV.v (.int .u64 a))=(SV.v (.int .u64 (clA a s))))∧((SV.sl 1 1 0 n c)=(SV.sl 1 1 0 n c)))))∧(((n:Nat)=n)∧(((n:Nat)≤n)∧(∀ i:Nat,(((i:Nat)<n)→([(yI (g i))]=[(yI (g i))]))))))) (((slP a n {elem:=3,size:=1,rw:=true,lock:=false,lit:=false,flat:=true,n:=n,row:=fun i=>[yI ((fun i=>g i) i)]})∧(((0:Int)≤s)∧((s:Int)<((↑n:Int)))))∧(sel (!Q2y a (fun i=>g i) s k) (((yI 9)=(yI 0))∧((((1:Nat)=1)∧(((1:Nat)≤1)∧(((SV.v (.int .u64 a))=(SV.v (.int .u64 (clA a s))))∧((SV.sl 1 1 0 n c)=(SV.sl 1 1 0 n c)))))∧(((n:Nat)=n)∧(((n:Nat)≤n)∧(∀ i:Nat,(((i:Nat)<n)→([(yI (g i))]=[(yI (g i))]))))))) ((slP a n {elem:=3,size:=1,rw:=true,lock:=false,lit:=false,flat:=true,n:=n,row:=fun i=>[yI ((fun i=>g i) i)]})∧(((yI 0)=(yI 0))∧((((1:Nat)=1)∧(((1:Nat)≤1)∧(((SV.v (.int .u64 (clA a s)))=(SV.v (.int .u64 (clA a s))))∧((SV.sl 1 1 0 n c)=(SV.sl 1 1 0 n c)))))∧(((n:Nat)=n)∧(((n:Nat)≤n)∧(∀ i:Nat,(((i:Nat)<n)→([(yI (g i))]=[(yI (g i))])))))))))))):=by kernel_rfl
def Zc5 (args:List SV) (bs:List Blk):Option Eff:=match args with
 | [.vp 0 0]=>slK bs fun a n c g p=>.det (some (p∧0<n)) (.v (.int .i64 (Qg1 a))) (slU a n c g)
 | _=>none
theorem Zhf (a:Int) (n c:Nat) (g:Nat→Int) (q:Prop):(Qcf Tryz.prog Zge Qay Tryz.f19 [.vp 0 0] (Qaf [slB a n c,gnB n g]) 64 (fun y h'=>Qgb [slB a n c,gnB n g] (.det (some q) (.v (.int .i64 (Qg1 a))) (slU a n c g)) y h'))=((slP a n {elem:=3,size:=1,rw:=true,lock:=false,lit:=false,flat:=true,n:=n,row:=fun i=>[yI (g i)]})∧(sel ((↑n:Int)==0) (((yI 0)=(yI (Qg1 a)))∧((((1:Nat)=1)∧(((1:Nat)≤1)∧(((SV.v (.int .u64 a))=(SV.v (.int .u64 a)))∧((SV.sl 1 1 0 n c)=(SV.sl 1 1 0 n c)))))∧(((n:Nat)=n)∧(((n:Nat)≤n)∧(∀ i:Nat,(((i:Nat)<n)→([(yI (g i))]=[(yI (g i))]))))))) ((slP a n {elem:=3,size:=1,rw:=true,lock:=false,lit:=false,flat:=true,n:=n,row:=fun i=>[yI ((fun i=>g i) i)]})∧(((yI (Qg1 a))=(yI (Qg1 a)))∧((((1:Nat)=1)∧(((1:Nat)≤1)∧(((SV.v (.int .u64 a))=(SV.v (.int .u64 a)))∧((SV.sl 1 1 0 n c)=(SV.sl 1 1 0 n c)))))∧(((n:Nat)=n)∧(((n:Nat)≤n)∧(∀ i:Nat,(((i:Nat)<n)→([(yI (g i))]=[(yI (g i))])))))))))):=by kernel_rfl
def nslE (q:Prop) (n:Nat):Eff:=.det (some q) (.tup [.vp 1000 0,.v (.int .i64 0)]) [(1000,Qct 113 [.v (.int .u64 0),.sl 1001 1 0 n n]),(1001,gnB n fun _=>0)]
def Q00 (args:List SV) (bs:List Blk):Option Eff:=match args,bs with
 | [.v (.int .i64 m)],[]=>some (nslE (1≤m∧m≤64) m.toNat)
 | _,_=>none
theorem Zbz (m:Int) (q:Prop):(Qcf Tryz.prog Qbi Qay Tryz.f6 [qI m] (Qaf []) 64 (fun y h'=>Qgb [] (nslE q m.toNat) y h'))=(sel (decide (m<1)) ((False∧((yI 3)=(yI 0)))∧((((1:Nat)=0)∧(((1:Nat)=0)∧False))∧False)) (sel (decide (m > 64)) ((False∧((yI 3)=(yI 0)))∧((((1:Nat)=0)∧(((1:Nat)=0)∧False))∧False)) ((((0:Int)≤m)∧(((m:Int)≤m)∧(((8*m):Int)≤140737488355328)))∧((((SV.vp 168 0)=(SV.vp 168 0))∧((yI 0)=(yI 0)))∧((((1:Nat)=1)∧(((1:Nat)≤1)∧(((SV.v (.int .u64 0))=(SV.v (.int .u64 0)))∧((SV.sl 152 1 0 (Int.toNat m) (Int.toNat m))=(SV.sl 152 1 0 (Int.toNat m) (Int.toNat m))))))∧((((Int.toNat m):Nat)=(Int.toNat m))∧((((Int.toNat m):Nat)≤(Int.toNat m))∧(∀ i:Nat,(((i:Nat)<(Int.toNat m))→([(yI 0)]=[(yI 0)])))))))))):=by kernel_rfl
theorem Qo9:∀ f g,Zge f=some g→g.ok Tryz.prog f:=Qad (Qad (Qad (Qad (Qad Qam (Qc4 Tryz.func39 (by kernel_rfl) (by kernel_rfl) Q8u)) (Qc4 Tryz.func40 (by kernel_rfl) (by kernel_rfl) Q8v)) (Qc4 Tryz.func45 (by kernel_rfl) (by kernel_rfl) Q84)) (Qc4 Tryz.func58 (by kernel_rfl) (by kernel_rfl) Q40)) (Qc4 Tryz.func38 (by kernel_rfl) (by kernel_rfl) Q4o)
theorem Qgu {a:Int} {n:Nat} {g:Nat→Int} (ha:0≤a∧a<18446744073709551616) (hn:n≤64) (hg:∀ i,i<n→I64 (g i)):slP a n (gnB n g):=⟨ha,hn,rfl,rfl,fun i hi=>hg i hi⟩
theorem Qc2 {k:Nat} (h:k<64):IntKind.i64.wrap ((k:Int) + 1)=((k + 1:Nat):Int):=by
 rw [Qaj ⟨by omega,by omega⟩]; omega
theorem Zcf {a:Int} {g:Nat→Int} {x:Nat} (h0:∀ j,j<x→tkP a g j=false) (hx:tkP a g x=false):∀ j,j<x + 1→tkP a g j=false:=fun j hj=>by
 rcases Nat.lt_or_ge j x with h | h
 · exact h0 j h
 · rwa [show j=x by omega]
theorem Zce {a:Int} {g:Nat→Int} {x k:Nat} (h0:∀ j,j<x→tkP a g j=false) (hx:tkP a g x=true) (h1:∀ j,j<k→tkP a g j=false) (hk:tkP a g k=true):x=k:=by
 rcases Nat.lt_trichotomy x k with h | h | h
 · rw [h1 x h] at hx; cases hx
 · exact h
 · rw [h0 k h] at hk; cases hk
theorem Q35:Qbv Tryz.prog 8 Zcq:=Qb0 hm Qo9 Tryz.func8 (Λ:=fun args bs=>match bs with | [B,D]=>(match B.row 0 with | [.v (.int .u64 a),.sl 1 1 0 n c]=>Q9a a n c (fun i=>i1 (D.row i)) | _=>Qay) | _=>Qay) fun args bs e hs hp=>by
 unfold Zcq at hs
 split at hs <;> try (cases hs; done)
 obtain ⟨B,D,a,n,c,p,rfl,hB,rfl,h⟩:=Zl6 hs
 obtain ⟨hpp,hn0,hk,hbel,hlt⟩:=hp _ rfl
 obtain ⟨h1,h2,h3,h4⟩:=h hpp
 refine ⟨_,h1,?_⟩
 clear h1 hs h hp
 simp only [hB]
 have h4:∀ i,i<n→I64 ((fun i=>i1 (D.row i)) i):=h4
 generalize (fun i=>i1 (D.row i))=g at *
 generalize Qom (tkP a g) 0 n=k0 at *
 rw [Zgl]
 repeat (first | unfold Qpd | unfold Qlb)
 refine ⟨Qgu h2 h3 h4,Qag (fun e=>?_) fun _=>⟨⟨0,⟨Nat.zero_le _,fun j hj=>absurd hj (Nat.not_lt_zero _)⟩,rfl,⟨rfl,Nat.le_refl _,rfl,rfl⟩,⟨rfl,Nat.le_refl _,fun _ _=>rfl⟩,rfl,Nat.le_refl _,fun _ _=>rfl⟩,fun x ⟨hx,hx0⟩=>Qag (fun e=>?_) fun e=>?_⟩⟩
 · have:=eq_of_beq e; omega
 · have hxn:=of_decide_eq_true e
   have hxn:x<n:=by omega
   have hws:IntKind.i64.wrap ((x:Int) + 1)=((x + 1:Nat):Int):=Qc2 (by omega)
   have hz:0 + Int.toNat (x:Int)=x:=by omega
   have hnext:tkP a g x=false→∃ x':Nat,((x'≤n∧∀ j:Nat,j<x'→tkP a g j=false)∧SV.v (Value.int .i64 (IntKind.i64.wrap ((x:Int) + 1)))=SV.v (Value.int .i64 (x':Int))∧(1=1∧1≤1∧SV.v (Value.int .u64 a)=SV.v (Value.int .u64 a)∧SV.sl 1 1 0 n c=SV.sl 1 1 0 n c)∧(n=n∧n≤n∧∀ i:Nat,i<n→[SV.v (Value.int .i64 (g i))]=[SV.v (Value.int .i64 (g i))])∧1=1∧1≤1∧∀ i:Nat,i<1→[SV.v (Value.int .i64 0),SV.v (Value.int .i64 0)]=[SV.v (Value.int .i64 0),SV.v (Value.int .i64 0)])∧n - x'<n - x:=fun ht=>by
     refine ⟨x + 1,⟨⟨hxn,Zcf hx0 ht⟩,by rw [hws],⟨rfl,Nat.le_refl _,rfl,rfl⟩,⟨rfl,Nat.le_refl _,fun _ _=>rfl⟩,rfl,Nat.le_refl _,fun _ _=>rfl⟩,by omega⟩
   refine ⟨⟨by omega,by omega⟩,Qgu h2 h3 h4,Qag (fun e1=>?_) fun e1=>?_⟩
   · have e1:onA a x=false:=by simpa using e1
     refine Qag (fun e2=>?_) fun e2=>?_
     · rw [hz] at e2
       have ht:tkP a g x=true:=by unfold tkP; rw [e1,e2]; rfl
       obtain rfl:=Zce hx0 ht hbel hk
       refine ⟨Qgu h2 h3 h4,⟨by omega,by omega⟩,⟨by omega,by omega⟩,⟨⟨rfl,by rw [hz]⟩,rfl⟩,⟨rfl,Nat.le_refl _,rfl,rfl⟩,rfl,Nat.le_refl _,fun i hi=>?_⟩
       rw [hz]; rfl
     · rw [hz] at e2
       exact hnext (by unfold tkP; rw [e1,e2]; rfl)
   · have e1:onA a x=true:=by simpa using e1
     exact hnext (by unfold tkP; rw [e1]; rfl)
 · have hxn:=of_decide_eq_false e
   have:=hx0 k0 (by omega)
   rw [hk] at this; cases this
theorem Q47:Qbv Tryz.prog 12 sAt:=Qb0 hm Qo9 Tryz.func12 (Λ:=fun _ _=>Qay) fun args bs e hs hp=>by
 unfold sAt at hs
 split at hs <;> try (cases hs; done)
 rename_i s
 obtain ⟨a,n,c,g,p,rfl,h⟩:=Qgf hs
 obtain ⟨hpp,hs0,hsn⟩:=hp _ rfl
 obtain ⟨h1,h2,h3,h4⟩:=h hpp
 refine ⟨_,h1,?_⟩
 rw [vcAt]
 repeat (first | unfold Qrg)
 refine ⟨Qgu h2 h3 h4,Qag (fun e=>?_) fun _=>Qag (fun e=>?_) fun _=>Qag (fun e=>?_) fun _=>⟨Qgu h2 h3 h4,Qag (fun e=>?_) fun e=>?_⟩⟩
 · have:=eq_of_beq e; omega
 · have:=of_decide_eq_true e; omega
 · have:=of_decide_eq_true e; omega
 · have e:onA a s=false:=by simpa using e
   rw [e]
   exact ⟨⟨⟨rfl,rfl⟩,rfl⟩,⟨rfl,Nat.le_refl _,rfl,rfl⟩,rfl,Nat.le_refl _,fun _ _=>rfl⟩
 · have e:onA a s=true:=by simpa using e
   rw [e]
   exact ⟨⟨hs0,hsn⟩,⟨⟨rfl,by rw [Nat.zero_add]; rfl⟩,rfl⟩,⟨rfl,Nat.le_refl _,rfl,rfl⟩,rfl,Nat.le_refl _,fun _ _=>rfl⟩
theorem Qva:∀ f g,Zaz f=some g→g.ok Tryz.prog f:=Qad Qo9 (Qc4 Tryz.func12 (by kernel_rfl) (by kernel_rfl) Q47)
theorem Q8y:Qbv Tryz.prog 44 Zmo:=Qb0 hm Qva Tryz.func44 (Λ:=fun _ _=>Qay) fun args bs e hs hp=>by
 unfold Zmo at hs
 split at hs <;> try (cases hs; done)
 rename_i s k
 obtain ⟨a,n,c,g,p,rfl,h⟩:=Qgf hs
 obtain ⟨hpp,hs0,hsn⟩:=hp _ rfl
 obtain ⟨h1,h2,h3,h4⟩:=h hpp
 refine ⟨_,h1,?_⟩
 rw [Zlt]
 refine ⟨⟨Qgu h2 h3 h4,hs0,hsn⟩,Qag (fun e=>?_) fun e=>?_⟩
 · refine ⟨?_,⟨rfl,Nat.le_refl _,rfl,rfl⟩,rfl,Nat.le_refl _,fun _ _=>rfl⟩
   unfold Q2y
   simp only [e,cond_true,Bool.true_and,beq_self_eq_true]
 · refine ⟨?_,⟨rfl,Nat.le_refl _,rfl,rfl⟩,rfl,Nat.le_refl _,fun _ _=>rfl⟩
   unfold Q2y
   simp only [e,Bool.false_and]
theorem Q5k:∀ f g,Zgc f=some g→g.ok Tryz.prog f:=Qad Qva (Qc4 Tryz.func44 (by kernel_rfl) (by kernel_rfl) Q8y)
theorem Q4w:Qbv Tryz.prog 13 Zc7:=Qb0 hm Q5k Tryz.func13 (Λ:=fun _ _=>Qay) fun args bs e hs hp=>by
 unfold Zc7 at hs
 split at hs <;> try (cases hs; done)
 rename_i s k
 obtain ⟨a,n,c,g,p,rfl,h⟩:=Qgf hs
 obtain ⟨hpp,⟨hs0,hsn⟩,hn0,hh⟩:=hp _ rfl
 obtain ⟨h1,h2,h3,h4⟩:=h hpp
 refine ⟨_,h1,?_⟩
 rw [Zhh]
 refine ⟨Qgu h2 h3 h4,Qag (fun e=>?_) fun _=>⟨⟨Qgu h2 h3 h4,hs0,hsn⟩,Qag (fun e=>?_) fun _=>⟨Qgu h2 h3 h4,rfl,⟨rfl,Nat.le_refl _,rfl,rfl⟩,rfl,Nat.le_refl _,fun _ _=>rfl⟩⟩⟩
 · have:=eq_of_beq e; omega
 · rw [show (fun i=>g i)=g from rfl,hh] at e; cases e
theorem Q4u:Qbv Tryz.prog 19 Zc5:=Qb0 hm Qo9 Tryz.func19 (Λ:=fun _ _=>Qay) fun args bs e hs hp=>by
 unfold Zc5 at hs
 split at hs <;> try (cases hs; done)
 obtain ⟨a,n,c,g,p,rfl,h⟩:=Qgf hs
 obtain ⟨hpp,hn0⟩:=hp _ rfl
 obtain ⟨h1,h2,h3,h4⟩:=h hpp
 refine ⟨_,h1,?_⟩
 rw [Zhf]
 refine ⟨Qgu h2 h3 h4,Qag (fun e=>?_) fun _=>⟨Qgu h2 h3 h4,rfl,⟨rfl,Nat.le_refl _,rfl,rfl⟩,rfl,Nat.le_refl _,fun _ _=>rfl⟩⟩
 have:=eq_of_beq e; omega
theorem Qye:Qbv Tryz.prog 6 Q00:=Qb0 hm Qam Tryz.func6 (Λ:=fun _ _=>Qay) fun args bs e hs hp=>by
 unfold Q00 at hs
 split at hs <;> try (cases hs; done)
 rename_i m
 cases hs
 obtain ⟨h1,h2⟩:=hp _ rfl
 refine ⟨[],trivial,?_⟩
 rw [Zbz]
 refine Qag (fun e=>?_) fun _=>Qag (fun e=>?_) fun _=>⟨⟨by omega,Int.le_refl _,by omega⟩,⟨rfl,rfl⟩,⟨rfl,Nat.le_refl _,rfl,rfl⟩,rfl,Nat.le_refl _,fun _ _=>rfl⟩
 · have:=of_decide_eq_true e; omega
 · have:=of_decide_eq_true e; omega
def P21 (x:Int):Prop:=-2097152≤x∧x≤2097152
def P22 (x:Int):Prop:=-4194304≤x∧x≤4194304
def Qbq (a b:Int×Int):Int×Int:=(b.1 - a.1,b.2 - a.2)
def Qbx (a b:Int×Int):Int:=a.1*b.2 - a.2*b.1
def Qgo (a b:Int×Int):Int:=a.1*b.1 + a.2*b.2
def Qga (a b c:Int×Int):Int:=Qbx (Qbq a b) (Qbq a c)
def Zkm:List SV→Option (Option Prop×SV)
 | [.agg [.v (.int .i64 a),.v (.int .i64 b)],.agg [.v (.int .i64 c),.v (.int .i64 d)]]=>some (some ((P21 a∧P21 b)∧P21 c∧P21 d),pS2 (Qbq (a,b) (c,d)))
 | _=>none
theorem Zlk (a b:Int×Int) (R:SV→Prop):(Qbe Tryz.prog Qbi Qay Tryz.f114 [pS2 a,pS2 b] R)=(R (SV.agg [(yI (IntKind.wrap IntKind.i64 (Prod.fst b - Prod.fst a))),(yI (IntKind.wrap IntKind.i64 (Prod.snd b - Prod.snd a)))])):=by kernel_rfl
def Zda:List SV→Option (Option Prop×SV)
 | [.agg [.v (.int .i64 a),.v (.int .i64 b)],.agg [.v (.int .i64 c),.v (.int .i64 d)]]=>some (some ((P22 a∧P22 b)∧P22 c∧P22 d),iV (Qbx (a,b) (c,d)))
 | _=>none
theorem Zho (a b:Int×Int) (R:SV→Prop):(Qbe Tryz.prog Qbi Qay Tryz.f207 [pS2 a,pS2 b] R)=(R (yI (IntKind.wrap IntKind.i64 (IntKind.wrap IntKind.i64 (Prod.fst a*Prod.snd b) - IntKind.wrap IntKind.i64 (Prod.snd a*Prod.fst b))))):=by kernel_rfl
def Q6k:List SV→Option (Option Prop×SV)
 | [.agg [.v (.int .i64 a),.v (.int .i64 b)],.agg [.v (.int .i64 c),.v (.int .i64 d)]]=>some (some ((P22 a∧P22 b)∧P22 c∧P22 d),iV (Qgo (a,b) (c,d)))
 | _=>none
theorem Zhm (a b:Int×Int) (R:SV→Prop):(Qbe Tryz.prog Qbi Qay Tryz.f115 [pS2 a,pS2 b] R)=(R (yI (IntKind.wrap IntKind.i64 (IntKind.wrap IntKind.i64 (Prod.fst a*Prod.fst b) + IntKind.wrap IntKind.i64 (Prod.snd a*Prod.snd b))))):=by kernel_rfl
def Zlc:Qbz:=Qai (Qai (Qai Qbi 114 (Qao Zkm)) 207 (Qao Zda)) 115 (Qao Q6k)
def Zl9:List SV→Option (Option Prop×SV)
 | [.agg [.v (.int .i64 a),.v (.int .i64 b)],.agg [.v (.int .i64 c),.v (.int .i64 d)],.agg [.v (.int .i64 e),.v (.int .i64 f)]]=>some (some ((P21 a∧P21 b)∧(P21 c∧P21 d)∧P21 e∧P21 f),iV (Qga (a,b) (c,d) (e,f)))
 | _=>none
theorem Zll (a b c:Int×Int) (R:SV→Prop):(Qbe Tryz.prog Zlc Qay Tryz.f205 [pS2 a,pS2 b,pS2 c] R)=((((P21 (Prod.fst a))∧(P21 (Prod.snd a)))∧((P21 (Prod.fst b))∧(P21 (Prod.snd b))))∧((((P21 (Prod.fst a))∧(P21 (Prod.snd a)))∧((P21 (Prod.fst c))∧(P21 (Prod.snd c))))∧((((P22 (Prod.fst (Qbq (Prod.fst a,Prod.snd a) (Prod.fst b,Prod.snd b))))∧(P22 (Prod.snd (Qbq (Prod.fst a,Prod.snd a) (Prod.fst b,Prod.snd b)))))∧((P22 (Prod.fst (Qbq (Prod.fst a,Prod.snd a) (Prod.fst c,Prod.snd c))))∧(P22 (Prod.snd (Qbq (Prod.fst a,Prod.snd a) (Prod.fst c,Prod.snd c))))))∧(R (yI (Qbx (Prod.fst (Qbq (Prod.fst a,Prod.snd a) (Prod.fst b,Prod.snd b)),Prod.snd (Qbq (Prod.fst a,Prod.snd a) (Prod.fst b,Prod.snd b))) (Prod.fst (Qbq (Prod.fst a,Prod.snd a) (Prod.fst c,Prod.snd c)),Prod.snd (Qbq (Prod.fst a,Prod.snd a) (Prod.fst c,Prod.snd c))))))))):=by kernel_rfl
def Q06:List SV→List Ro→Option (Option Prop×SV)
 | [.sl 0 2 0 n _],[⟨2,n',row⟩]=>some (some ((∀ i,i<n→row i=[.v (.int .i64 (gi (row i)).1),.v (.int .i64 (gi (row i)).2)]∧P21 (gi (row i)).1∧P21 (gi (row i)).2)∧n'=n∧n<1099511627776),.v (.bool true))
 | _,_=>none
noncomputable def Qyy (n:Nat):Nat→Option LoopSpec:=Qdv Qay Tryz.f104 0 Nat (fun k=>k≤n) (fun k=>n - k) [(7,fun k=>.v (.int .i64 k))] []
theorem Zhl (n n' c:Nat) (g:Nat→Int×Int) (R:SV→Prop):(Qcf Tryz.prog Qbi (Qyy n) Tryz.f104 [.sl 0 2 0 n c] (Qbl [⟨2,n',fun i=>[.v (.int .i64 (g i).1),.v (.int .i64 (g i).2)]⟩]) 64 (fun y _=>R y))=((∃ x:Nat,((Nat.le x n)∧(((yI 0)=(yI ((↑x:Int))))∧True)))∧(∀ x:Nat,((Nat.le x n)→(sel (decide ((↑x:Int)<(↑n:Int))) ((((0:Int)≤((↑x:Int)))∧((((↑x:Int)):Int)<((↑n:Int))))∧(sel (decide (max (max (max (Prod.fst (g (0 + Int.toNat (↑x:Int)))) (IntKind.wrap IntKind.i64 (0 - Prod.fst (g (0 + Int.toNat (↑x:Int)))))) (Prod.snd (g (0 + Int.toNat (↑x:Int))))) (IntKind.wrap IntKind.i64 (0 - Prod.snd (g (0 + Int.toNat (↑x:Int))))) > 2097152)) (R (yF false)) (sel (decide (Prod.fst (g (0 + Int.toNat (↑x:Int))) < -2097152)) (R (yF false)) (sel (decide (Prod.snd (g (0 + Int.toNat (↑x:Int))) < -2097152)) (R (yF false)) (∃ x':Nat,(((Nat.le x' n)∧(((yI (IntKind.wrap IntKind.i64 ((↑x:Int) + 1)))=(yI ((↑x':Int))))∧True))∧(((n - x'):Nat)<(n - x)))))))) (R (yF true)))))):=by kernel_rfl
theorem Qw3:Qaq Tryz.prog 114 Zkm:=Qax hm Qam Tryz.func114 (Λ:=fun _=>Qay) fun args p x h hp=>by
 unfold Zkm at h
 split at h <;> try (cases h; done)
 rename_i a b c d
 cases h
 obtain ⟨⟨⟨_,_⟩,_,_⟩,⟨_,_⟩,_,_⟩:=hp _ rfl
 refine ⟨rfl,rfl,Eq.mpr (Zlk (a,b) (c,d) _) ?_⟩
 rw [Qaj ⟨by omega,by omega⟩,Qaj ⟨by omega,by omega⟩]
 rfl
theorem Qv6 {a b:Int} (ha:P22 a) (hb:P22 b):-17592186044416≤a*b∧a*b≤17592186044416:=by
 obtain ⟨a1,a2⟩:=ha
 obtain ⟨b1,b2⟩:=hb
 have h1:(a.natAbs*b.natAbs)≤4194304*4194304:=Nat.mul_le_mul (by omega) (by omega)
 have h2:(a*b).natAbs=a.natAbs*b.natAbs:=Int.natAbs_mul a b
 omega
theorem Q4z:Qaq Tryz.prog 207 Zda:=Qax hm Qam Tryz.func207 (Λ:=fun _=>Qay) fun args p x h hp=>by
 unfold Zda at h
 split at h <;> try (cases h; done)
 rename_i a b c d
 cases h
 obtain ⟨⟨h1,h2⟩,h3,h4⟩:=hp _ rfl
 have m1:=Qv6 h1 h4
 have m2:=Qv6 h2 h3
 refine ⟨rfl,rfl,Eq.mpr (Zho (a,b) (c,d) _) ?_⟩
 rw [Qaj (n:=a*d) ⟨by omega,by omega⟩,Qaj (n:=b*c) ⟨by omega,by omega⟩,Qaj ⟨by show _≤a*d - b*c; omega,by show a*d - b*c<_; omega⟩]
 rfl
theorem Qs7:Qaq Tryz.prog 115 Q6k:=Qax hm Qam Tryz.func115 (Λ:=fun _=>Qay) fun args p x h hp=>by
 unfold Q6k at h
 split at h <;> try (cases h; done)
 rename_i a b c d
 cases h
 obtain ⟨⟨h1,h2⟩,h3,h4⟩:=hp _ rfl
 have m1:=Qv6 h1 h3
 have m2:=Qv6 h2 h4
 refine ⟨rfl,rfl,Eq.mpr (Zhm (a,b) (c,d) _) ?_⟩
 rw [Qaj (n:=a*c) ⟨by omega,by omega⟩,Qaj (n:=b*d) ⟨by omega,by omega⟩,Qaj ⟨by show _≤a*c + b*d; omega,by show a*c + b*d<_; omega⟩]
 rfl
theorem Qy6:∀ f g,Zlc f=some g→g.ok Tryz.prog f:=Qad (Qad (Qad Qam (Qas Tryz.func114 (by kernel_rfl) (by kernel_rfl) Qw3)) (Qas Tryz.func207 (by kernel_rfl) (by kernel_rfl) Q4z)) (Qas Tryz.func115 (by kernel_rfl) (by kernel_rfl) Qs7)
theorem Qnz {a b c d:Int} (h1:P21 a) (h2:P21 b) (h3:P21 c) (h4:P21 d):P22 (Qbq (a,b) (c,d)).1∧P22 (Qbq (a,b) (c,d)).2:=by
 obtain ⟨_,_⟩:=h1
 obtain ⟨_,_⟩:=h2
 obtain ⟨_,_⟩:=h3
 obtain ⟨_,_⟩:=h4
 exact ⟨⟨by show _≤c - a; omega,by show c - a≤_; omega⟩,⟨by show _≤d - b; omega,by show d - b≤_; omega⟩⟩
theorem Q8j:Qaq Tryz.prog 205 Zl9:=Qax hm Qy6 Tryz.func205 (Λ:=fun _=>Qay) fun args p x h hp=>by
 unfold Zl9 at h
 split at h <;> try (cases h; done)
 rename_i a b c d e f
 cases h
 obtain ⟨⟨h1,h2⟩,⟨h3,h4⟩,h5,h6⟩:=hp _ rfl
 exact ⟨rfl,rfl,Eq.mpr (Zll (a,b) (c,d) (e,f) _) ⟨⟨⟨h1,h2⟩,h3,h4⟩,⟨⟨h1,h2⟩,h5,h6⟩,⟨Qnz h1 h2 h3 h4,Qnz h1 h2 h5 h6⟩,rfl⟩⟩
theorem Zev {n c:Nat} {g:Nat→Int×Int} (hn:n<1099511627776) (hg:∀ i,i<n→P21 (g i).1∧P21 (g i).2):Qcf Tryz.prog Qbi (Qyy n) Tryz.f104 [.sl 0 2 0 n c] (Qbl [⟨2,n,fun i=>[.v (.int .i64 (g i).1),.v (.int .i64 (g i).2)]⟩]) 64 (fun y _=>y=.v (.bool true)):=by
 refine Eq.mpr (Zhl n n c g _) ?_
 refine ⟨⟨0,Nat.zero_le _,rfl,trivial⟩,fun x hx=>Qag (fun hlt=>?_) fun hge=>rfl⟩
 have hlt:=of_decide_eq_true hlt
 have hx':x<n:=by omega
 obtain ⟨⟨a1,a2⟩,b1,b2⟩:=hg x hx'
 rw [Int.toNat_natCast,Nat.zero_add]
 refine ⟨⟨by omega,hlt⟩,sF (decide_eq_false ?_) (sF (decide_eq_false (by omega)) (sF (decide_eq_false (by omega)) ⟨x + 1,⟨hx',Qck (by rw [Qaj ⟨by omega,by omega⟩]; rfl),trivial⟩,by omega⟩))⟩
 rw [Qaj ⟨by omega,by omega⟩,Qaj ⟨by omega,by omega⟩]
 omega
theorem Qnl:Qc7 Tryz.prog 104 Q06:=Qcq hm Qam Tryz.func104 (Λ:=fun args _=>match args with | [.sl 0 2 0 n _]=>Qyy n | _=>Qay) fun args bs p x h hp=>by
 unfold Q06 at h
 split at h <;> try (cases h; done)
 rename_i n c n' row
 cases h
 obtain ⟨h0,rfl,hn⟩:=hp _ rfl
 exact ⟨rfl,[⟨2,n',fun i=>[.v (.int .i64 (gi (row i)).1),.v (.int .i64 (gi (row i)).2)]⟩],⟨⟨rfl,rfl,fun i hi=>(h0 i hi).1⟩,trivial⟩,Zev hn fun i hi=>(h0 i hi).2⟩
def pS4 (a b c d:Int):SV:=.agg [.v (.int .i64 a),.v (.int .i64 b),.v (.int .i64 c),.v (.int .i64 d)]
def Qvo:List SV→Option (Option Prop×SV)
 | [.agg [.v (.int .i64 a),.v (.int .i64 b)],.v (.int .i64 r)]=>some (some (P21 a∧P21 b∧P21 r),pS4 (a - r) (b - r) (a + r) (b + r))
 | _=>none
theorem Zb3 (a:Int×Int) (r:Int) (R:SV→Prop):(Qbe Tryz.prog Qbi Qay Tryz.f182 [pS2 a,iV r] R)=(R (SV.agg [(yI (IntKind.wrap IntKind.i64 (Prod.fst a - r))),(yI (IntKind.wrap IntKind.i64 (Prod.snd a - r))),(yI (IntKind.wrap IntKind.i64 (Prod.fst a + r))),(yI (IntKind.wrap IntKind.i64 (Prod.snd a + r)))])):=by kernel_rfl
def Qmd:List SV→Option (Option Prop×SV)
 | [.agg [.v (.int .i64 a),.v (.int .i64 b),.v (.int .i64 c),.v (.int .i64 d)]]=>some (some ((P21 a∧P21 b)∧(P21 c∧P21 d)∧a≤c∧b≤d),iV 0)
 | _=>none
noncomputable def ΓCB:Qbz:=Qai Qbi 104 (Qfc Q06)
noncomputable def Qu9:Nat→Option LoopSpec:=Qo3 Qay 1 [(12,fun nx=>[nx + 80]),(13,fun nx=>[nx + 88])]
theorem Q51 (a b c d:Int) (R:SV→Prop):(Qbe Tryz.prog ΓCB Qu9 Tryz.f42 [pS4 a b c d] R)=(((∀ i:Nat,(((i:Nat)<2)→(([(yI (bop (Nat.beq (0 + i) 0) a c)),(yI (bop (Nat.beq (0 + i) 0) b d))]=[(yI (Prod.fst (gi [yI (bop (Nat.beq (0 + i) 0) a c),yI (bop (Nat.beq (0 + i) 0) b d)]))),(yI (Prod.snd (gi [yI (bop (Nat.beq (0 + i) 0) a c),yI (bop (Nat.beq (0 + i) 0) b d)])))])∧((P21 (Prod.fst (gi [yI (bop (Nat.beq (0 + i) 0) a c),yI (bop (Nat.beq (0 + i) 0) b d)])))∧(P21 (Prod.snd (gi [yI (bop (Nat.beq (0 + i) 0) a c),yI (bop (Nat.beq (0 + i) 0) b d)])))))))∧(((2:Nat)=2)∧((2:Nat)<1099511627776)))∧(sel (decide (a > c)) (R (yI 5)) (sel (decide (b > d)) (R (yI 5)) (R (yI 0))))):=by kernel_rfl
theorem Qo6:Qaq Tryz.prog 182 Qvo:=Qax hm Qam Tryz.func182 (Λ:=fun _=>Qay) fun args p x h hp=>by
 unfold Qvo at h
 split at h <;> try (cases h; done)
 rename_i a b r
 cases h
 obtain ⟨⟨_,_⟩,⟨_,_⟩,_,_⟩:=hp _ rfl
 refine ⟨rfl,rfl,Eq.mpr (Zb3 (a,b) r _) ?_⟩
 rw [Qaj ⟨by omega,by omega⟩,Qaj ⟨by omega,by omega⟩,Qaj ⟨by omega,by omega⟩,Qaj ⟨by omega,by omega⟩]
 rfl
theorem Zbe:∀ f g,ΓCB f=some g→g.ok Tryz.prog f:=Qad Qam (Qfj Tryz.func104 (by kernel_rfl) (by kernel_rfl) Qnl)
theorem Qis:Qaq Tryz.prog 42 Qmd:=Qax hm Zbe Tryz.func42 (Λ:=fun _=>Qu9) fun args p x h hp=>by
 unfold Qmd at h
 split at h <;> try (cases h; done)
 rename_i a b c d
 cases h
 obtain ⟨⟨h1,h2⟩,⟨h3,h4⟩,h5,h6⟩:=hp _ rfl
 refine ⟨rfl,rfl,Eq.mpr (Q51 a b c d _) ⟨⟨fun i hi=>?_,rfl,by decide⟩,sF (decide_eq_false (by omega)) (sF (decide_eq_false (by omega)) rfl)⟩⟩
 have:i=0∨i=1:=by omega
 rcases this with rfl | rfl
 · exact ⟨rfl,h1,h2⟩
 · exact ⟨rfl,h3,h4⟩
def swB:Blk:=Qct 108 [.mp 1]
def mpB (m:MapC):Blk:={elem:=0,size:=4,rw:=true,lock:=false,lit:=false,flat:=true,n:=1,row:=fun _=>[],sp:=some m}
def swK (bs:List Blk) (k:MapC→Eff):Option Eff:=match bs with
 | [B,D]=>match B.row 0,D.row 0,D.sp with
   | [.mp 1],[],some m=>bif (Nat.beq B.elem 108&&Nat.beq B.size 1&&B.rw&&!B.off&&Nat.beq B.n 1&&Nat.beq B.ext 1&&B.whole&&!B.flat)&&(Nat.beq D.elem 0&&Nat.beq D.size 4&&D.rw&&!D.dead&&D.flat&&!D.whole&&Nat.beq D.n 1&&Nat.beq D.ext 1) then some (k m) else none
   | _,_,_=>none
 | _=>none
def swU (m:MapC):List (Nat×Blk):=[(0,swB),(1,mpB m)]
def m0:MapC:=⟨0,fun _=>false,fun _ _=>0⟩
def idP (i:Int):Prop:=0≤i∧i≤2147483647
def bxP (a b c d:Int):Prop:=(P21 a∧P21 b)∧(P21 c∧P21 d)∧a≤c∧b≤d
def nswE:Eff:=.det none (.vp 1000 0) [(1000,Qct 108 [.mp 1001]),(1001,mpB m0)]
def Q0z (args:List SV) (bs:List Blk):Option Eff:=match args,bs with
 | [],[]=>some nswE
 | _,_=>none
theorem Zby:(Qcf Tryz.prog Qbi Qay Tryz.f5 [] (Qaf []) 64 (fun y h'=>Qgb [] nswE y h'))=(((SV.vp 88 0)=(SV.vp 88 0))∧((((1:Nat)=1)∧(((1:Nat)≤1)∧((SV.mp 72)=(SV.mp 72))))∧(((1:Nat)=1)∧(((1:Nat)≤1)∧(((0:Nat)=0)∧((∀ k:Int,(false=false))∧(∀ k:Int,(∀ i:Nat,(((i:Nat)<4)→(((MapC.val {cnt:=0,has:=fun x=>false,val:=fun x x_1=>0} k i):Int)=(MapC.val m0 k i))))))))))):=by kernel_rfl
def Zc0 (args:List SV) (bs:List Blk):Option Eff:=match args with
 | [.vp 0 0]=>swK bs fun m=>.det none (.v (.bool false)) (swU m)
 | _=>none
theorem Zg8 (m:MapC):(Qcf Tryz.prog Qbi Qay Tryz.f59 [.vp 0 0] (Qaf [swB,mpB m]) 64 (fun y h'=>Qgb [swB,mpB m] (.det none (.v (.bool false)) (swU m)) y h'))=(((yF false)=(yF false))∧((((1:Nat)=1)∧(((1:Nat)≤1)∧((SV.mp 1)=(SV.mp 1))))∧(((1:Nat)=1)∧(((1:Nat)≤1)∧((((MapC.cnt m):Nat)=(MapC.cnt m))∧((∀ k:Int,(MapC.has m k=MapC.has m k))∧(∀ k:Int,(∀ i:Nat,(((i:Nat)<4)→(((MapC.val m k i):Int)=(MapC.val m k i))))))))))):=by kernel_rfl
noncomputable def Qy3:Qbz:=Qai Qbi 59 (Qcz true Zc0)
def Zdd (args:List SV) (bs:List Blk):Option Eff:=match args with
 | [.vp 0 0,.v (.int .i64 i)]=>swK bs fun m=>.det (some (idP i)) (.v (.int .i64 0)) (swU m)
 | _=>none
theorem Zhs (i:Int) (m:MapC) (q:Prop):(Qcf Tryz.prog Qy3 Qay Tryz.f41 [.vp 0 0,qI i] (Qaf [swB,mpB m]) 64 (fun y h'=>Qgb [swB,mpB m] (.det (some q) (.v (.int .i64 0)) (swU m)) y h'))=(sel (decide (i<0)) (((yI 3)=(yI 0))∧((((1:Nat)=1)∧(((1:Nat)≤1)∧((SV.mp 1)=(SV.mp 1))))∧(((1:Nat)=1)∧(((1:Nat)≤1)∧((((MapC.cnt m):Nat)=(MapC.cnt m))∧((∀ k:Int,(MapC.has m k=MapC.has m k))∧(∀ k:Int,(∀ i_1:Nat,(((i_1:Nat)<4)→(((MapC.val m k i_1):Int)=(MapC.val m k i_1))))))))))) (sel (decide (i > 2147483647)) (((yI 3)=(yI 0))∧((((1:Nat)=1)∧(((1:Nat)≤1)∧((SV.mp 1)=(SV.mp 1))))∧(((1:Nat)=1)∧(((1:Nat)≤1)∧((((MapC.cnt m):Nat)=(MapC.cnt m))∧((∀ k:Int,(MapC.has m k=MapC.has m k))∧(∀ k:Int,(∀ i_1:Nat,(((i_1:Nat)<4)→(((MapC.val m k i_1):Int)=(MapC.val m k i_1))))))))))) (((yI 0)=(yI 0))∧((((1:Nat)=1)∧(((1:Nat)≤1)∧((SV.mp 1)=(SV.mp 1))))∧(((1:Nat)=1)∧(((1:Nat)≤1)∧((((MapC.cnt m):Nat)=(MapC.cnt m))∧((∀ k:Int,(MapC.has m k=MapC.has m k))∧(∀ k:Int,(∀ i_1:Nat,(((i_1:Nat)<4)→(((MapC.val m k i_1):Int)=(MapC.val m k i_1))))))))))))):=by kernel_rfl
noncomputable def Zkg:Qbz:=Qai (Qai Qy3 41 (Qcz true Zdd)) 42 (Qao Qmd)
def Zkq (q:Prop) (i a b c d:Int) (m:MapC):Eff:=.det (some q) (.v (.int .i64 0)) (swU (m.put i [a,b,c,d]))
def Zcu (args:List SV) (bs:List Blk):Option Eff:=match args with
 | [.vp 0 0,.v (.int .i64 i),.agg [.v (.int .i64 a),.v (.int .i64 b),.v (.int .i64 c),.v (.int .i64 d)]]=>swK bs fun m=>Zkq (idP i∧bxP a b c d∧m.has i=false∧m.cnt<256) i a b c d m
 | _=>none
@[reducible] noncomputable def Qpg (i:Int) (a:Int) (b:Int) (c:Int) (d:Int) (m:MapC):=((((1:Nat)=1)∧(((1:Nat)≤1)∧((SV.mp 1)=(SV.mp 1))))∧(((1:Nat)=1)∧(((1:Nat)≤1)∧((((MapC.cnt m):Nat)=(MapC.cnt (MapC.put m i [a,b,c,d])))∧((∀ k:Int,(MapC.has m k=MapC.has (MapC.put m i [a,b,c,d]) k))∧(∀ k:Int,(∀ i_1:Nat,(((i_1:Nat)<4)→(((MapC.val m k i_1):Int)=(MapC.val (MapC.put m i [a,b,c,d]) k i_1))))))))))
theorem Zg2 (i a b c d:Int) (m:MapC) (q:Prop):(Qcf Tryz.prog Zkg Qay Tryz.f9 [.vp 0 0,qI i,pS4 a b c d] (Qaf [swB,mpB m]) 64 (fun y h'=>Qgb [swB,mpB m] (Zkq q i a b c d m) y h')) =
((idP i)∧((((P21 a)∧(P21 b))∧(((P21 c)∧(P21 d))∧(((a:Int)≤c)∧((b:Int)≤d))))∧(sel (MapC.has m i) (((yI 11)=(yI 0))∧(Qpg i a b c d m)) (sel (decide ((↑(MapC.cnt m):Int) ≥ 256)) (((yI 10)=(yI 0))∧(Qpg i a b c d m)) (((((-9223372036854775808):Int)≤i)∧((i:Int)≤9223372036854775807))∧(((yI 0)=(yI 0))∧((((1:Nat)=1)∧(((1:Nat)≤1)∧((SV.mp 1)=(SV.mp 1))))∧(((1:Nat)=1)∧(((1:Nat)≤1)∧((((MapC.cnt (MapC.put m i [a,b,c,d])):Nat)=(MapC.cnt (MapC.put m i [a,b,c,d])))∧((∀ k:Int,(MapC.has (MapC.put m i [a,b,c,d]) k=MapC.has (MapC.put m i [a,b,c,d]) k))∧(∀ k:Int,(∀ i_1:Nat,(((i_1:Nat)<4)→(((MapC.val (MapC.put m i [a,b,c,d]) k i_1):Int)=(MapC.val (MapC.put m i [a,b,c,d]) k i_1)))))))))))))))):=by kernel_rfl
def Q02 (args:List SV) (bs:List Blk):Option Eff:=match args with
 | [.vp 0 0,.v (.int .i64 i),.agg [.v (.int .i64 a),.v (.int .i64 b),.v (.int .i64 c),.v (.int .i64 d)]]=>swK bs fun m=>Zkq (idP i∧bxP a b c d∧m.has i=true) i a b c d m
 | _=>none
theorem Zb1 (i a b c d:Int) (m:MapC) (q:Prop):(Qcf Tryz.prog Zkg Qay Tryz.f15 [.vp 0 0,qI i,pS4 a b c d] (Qaf [swB,mpB m]) 64 (fun y h'=>Qgb [swB,mpB m] (Zkq q i a b c d m) y h'))=((idP i)∧((((P21 a)∧(P21 b))∧(((P21 c)∧(P21 d))∧(((a:Int)≤c)∧((b:Int)≤d))))∧(sel (!MapC.has m i) (((yI 9)=(yI 0))∧((((1:Nat)=1)∧(((1:Nat)≤1)∧((SV.mp 1)=(SV.mp 1))))∧(((1:Nat)=1)∧(((1:Nat)≤1)∧((((MapC.cnt m):Nat)=(MapC.cnt (MapC.put m i [a,b,c,d])))∧((∀ k:Int,(MapC.has m k=MapC.has (MapC.put m i [a,b,c,d]) k))∧(∀ k:Int,(∀ i_1:Nat,(((i_1:Nat)<4)→(((MapC.val m k i_1):Int)=(MapC.val (MapC.put m i [a,b,c,d]) k i_1))))))))))) (((((-9223372036854775808):Int)≤i)∧((i:Int)≤9223372036854775807))∧(((yI 0)=(yI 0))∧((((1:Nat)=1)∧(((1:Nat)≤1)∧((SV.mp 1)=(SV.mp 1))))∧(((1:Nat)=1)∧(((1:Nat)≤1)∧((((MapC.cnt (MapC.put m i [a,b,c,d])):Nat)=(MapC.cnt (MapC.put m i [a,b,c,d])))∧((∀ k:Int,(MapC.has (MapC.put m i [a,b,c,d]) k=MapC.has (MapC.put m i [a,b,c,d]) k))∧(∀ k:Int,(∀ i_1:Nat,(((i_1:Nat)<4)→(((MapC.val (MapC.put m i [a,b,c,d]) k i_1):Int)=(MapC.val (MapC.put m i [a,b,c,d]) k i_1))))))))))))))):=by kernel_rfl
def Q07 (args:List SV) (bs:List Blk):Option Eff:=match args with
 | [.vp 0 0,.v (.int .i64 i)]=>swK bs fun m=>.det (some (idP i∧m.has i=true)) (.v (.int .i64 0)) (swU (m.cut i))
 | _=>none
theorem Zb7 (i:Int) (m:MapC) (q:Prop):(Qcf Tryz.prog Zkg Qay Tryz.f14 [.vp 0 0,qI i] (Qaf [swB,mpB m]) 64 (fun y h'=>Qgb [swB,mpB m] (.det (some q) (.v (.int .i64 0)) (swU (m.cut i))) y h'))=((idP i)∧(sel (!MapC.has m i) (((yI 9)=(yI 0))∧((((1:Nat)=1)∧(((1:Nat)≤1)∧((SV.mp 1)=(SV.mp 1))))∧(((1:Nat)=1)∧(((1:Nat)≤1)∧((((MapC.cnt m):Nat)=(MapC.cnt (MapC.cut m i)))∧((∀ k:Int,(MapC.has m k=MapC.has (MapC.cut m i) k))∧(∀ k:Int,(∀ i_1:Nat,(((i_1:Nat)<4)→(((MapC.val m k i_1):Int)=(MapC.val (MapC.cut m i) k i_1))))))))))) (((yI 0)=(yI 0))∧((((1:Nat)=1)∧(((1:Nat)≤1)∧((SV.mp 1)=(SV.mp 1))))∧(((1:Nat)=1)∧(((1:Nat)≤1)∧((((MapC.cnt (MapC.cut m i)):Nat)=(MapC.cnt (MapC.cut m i)))∧((∀ k:Int,(MapC.has (MapC.cut m i) k=MapC.has (MapC.cut m i) k))∧(∀ k:Int,(∀ i_1:Nat,(((i_1:Nat)<4)→(((MapC.val (MapC.cut m i) k i_1):Int)=(MapC.val (MapC.cut m i) k i_1))))))))))))):=by kernel_rfl
def Zc4 (args:List SV) (bs:List Blk):Option Eff:=match args with
 | [.vp 0 0]=>swK bs fun m=>.det none (.v (.int .i64 (m.cnt:Nat))) (swU m)
 | _=>none
theorem Zhe (m:MapC):(Qcf Tryz.prog Qy3 Qay Tryz.f20 [.vp 0 0] (Qaf [swB,mpB m]) 64 (fun y h'=>Qgb [swB,mpB m] (.det none (.v (.int .i64 (m.cnt:Nat))) (swU m)) y h'))=(((yI ((↑(MapC.cnt m):Int)))=(yI ((↑(MapC.cnt m):Int))))∧((((1:Nat)=1)∧(((1:Nat)≤1)∧((SV.mp 1)=(SV.mp 1))))∧(((1:Nat)=1)∧(((1:Nat)≤1)∧((((MapC.cnt m):Nat)=(MapC.cnt m))∧((∀ k:Int,(MapC.has m k=MapC.has m k))∧(∀ k:Int,(∀ i:Nat,(((i:Nat)<4)→(((MapC.val m k i):Int)=(MapC.val m k i))))))))))):=by kernel_rfl
theorem Qg4 {bs:List Blk} {k:MapC→Eff} {e:Eff} (h:swK bs k=some e):∃ m,e=k m∧Qdn bs [swB,mpB m]:=by
 unfold swK at h
 split at h <;> try (cases h; done)
 rename_i B D
 split at h <;> try (cases h; done)
 rename_i m hB hD hm
 obtain ⟨hc,e⟩:=Qer h
 subst e
 simp only [Bool.and_eq_true,Bool.not_eq_true',Nat.beq_eq] at hc
 obtain ⟨⟨⟨⟨⟨⟨⟨⟨a1,a2⟩,a3⟩,a4⟩,a5⟩,a6⟩,a7⟩,a8⟩,⟨⟨⟨⟨⟨⟨b1,b2⟩,b3⟩,b4⟩,b5⟩,b6⟩,b7⟩,b8⟩:=hc
 obtain ⟨a4,a9⟩:=Blk.off_false a4
 refine ⟨m,rfl,⟨a2,a3,a8,a5,a6,a4,a1,a7,fun i hi=>?_,a9⟩,⟨b2,b3,b5,b7,b8,b4,b1,b6,fun i hi=>?_,hm⟩,trivial⟩
 · obtain rfl:i=0:=by omega
   exact hB
 · obtain rfl:i=0:=by omega
   exact hD
theorem Qyd:Qbv Tryz.prog 5 Q0z:=Qb0 hm Qam Tryz.func5 (Λ:=fun _ _=>Qay) fun args bs e hs hp=>by
 unfold Q0z at hs
 split at hs <;> try (cases hs; done)
 cases hs
 refine ⟨[],trivial,?_⟩
 rw [Zby]
 exact ⟨rfl,⟨⟨rfl,Nat.le_refl _,rfl⟩,rfl,Nat.le_refl _,rfl,fun _=>rfl,fun _ _ _=>rfl⟩⟩
theorem Q4n:Qbv Tryz.prog 59 Zc0:=Qb0 hm Qam Tryz.func59 (Λ:=fun _ _=>Qay) fun args bs e hs hp=>by
 unfold Zc0 at hs
 split at hs <;> try (cases hs; done)
 obtain ⟨m,rfl,h1⟩:=Qg4 hs
 refine ⟨_,h1,?_⟩
 rw [Zg8]
 exact ⟨rfl,⟨⟨rfl,Nat.le_refl _,rfl⟩,rfl,Nat.le_refl _,rfl,fun _=>rfl,fun _ _ _=>rfl⟩⟩
theorem Qk9:∀ f g,Qy3 f=some g→g.ok Tryz.prog f:=Qad Qam (Qc4 Tryz.func59 (by kernel_rfl) (by kernel_rfl) Q4n)
theorem Q43:Qbv Tryz.prog 41 Zdd:=Qb0 hm Qk9 Tryz.func41 (Λ:=fun _ _=>Qay) fun args bs e hs hp=>by
 unfold Zdd at hs
 split at hs <;> try (cases hs; done)
 rename_i i
 obtain ⟨m,rfl,h1⟩:=Qg4 hs
 obtain ⟨q1,q2⟩:=hp _ rfl
 refine ⟨_,h1,?_⟩
 rw [Zhs]
 exact Qag (fun e=>absurd (of_decide_eq_true e) (by omega)) fun _=>Qag (fun e=>absurd (of_decide_eq_true e) (by omega)) fun _=>⟨rfl,⟨⟨rfl,Nat.le_refl _,rfl⟩,rfl,Nat.le_refl _,rfl,fun _=>rfl,fun _ _ _=>rfl⟩⟩
theorem Qtf:∀ f g,Zkg f=some g→g.ok Tryz.prog f:=Qad (Qad Qk9 (Qc4 Tryz.func41 (by kernel_rfl) (by kernel_rfl) Q43)) (Qas Tryz.func42 (by kernel_rfl) (by kernel_rfl) Qis)
theorem Q4h:Qbv Tryz.prog 9 Zcu:=Qb0 hm Qtf Tryz.func9 (Λ:=fun _ _=>Qay) fun args bs e hs hp=>by
 unfold Zcu at hs
 split at hs <;> try (cases hs; done)
 rename_i i a b c d
 obtain ⟨m,rfl,h1⟩:=Qg4 hs
 obtain ⟨q1,q2,q3,q4⟩:=hp _ rfl
 refine ⟨_,h1,?_⟩
 refine Eq.mpr (Zg2 i a b c d m _) ?_
 repeat (first | unfold Qpg)
 refine ?_
 exact ⟨q1,q2,Qag (fun e=>by rw [q3] at e; cases e) fun _=>Qag (fun e=>absurd (of_decide_eq_true e) (by omega)) fun _=>⟨⟨by have:=q1.1; omega,by have:=q1.2; omega⟩,rfl,⟨⟨rfl,Nat.le_refl _,rfl⟩,rfl,Nat.le_refl _,rfl,fun _=>rfl,fun _ _ _=>rfl⟩⟩⟩
theorem Qyi:Qbv Tryz.prog 15 Q02:=Qb0 hm Qtf Tryz.func15 (Λ:=fun _ _=>Qay) fun args bs e hs hp=>by
 unfold Q02 at hs
 split at hs <;> try (cases hs; done)
 rename_i i a b c d
 obtain ⟨m,rfl,h1⟩:=Qg4 hs
 obtain ⟨q1,q2,q3⟩:=hp _ rfl
 refine ⟨_,h1,?_⟩
 refine Eq.mpr (Zb1 i a b c d m _) ?_
 exact ⟨q1,q2,Qag (fun e=>by rw [q3] at e; cases e) fun _=>⟨⟨by have:=q1.1; omega,by have:=q1.2; omega⟩,rfl,⟨⟨rfl,Nat.le_refl _,rfl⟩,rfl,Nat.le_refl _,rfl,fun _=>rfl,fun _ _ _=>rfl⟩⟩⟩
theorem Qyn:Qbv Tryz.prog 14 Q07:=Qb0 hm Qtf Tryz.func14 (Λ:=fun _ _=>Qay) fun args bs e hs hp=>by
 unfold Q07 at hs
 split at hs <;> try (cases hs; done)
 rename_i i
 obtain ⟨m,rfl,h1⟩:=Qg4 hs
 obtain ⟨q1,q3⟩:=hp _ rfl
 refine ⟨_,h1,?_⟩
 rw [Zb7]
 exact ⟨q1,Qag (fun e=>by rw [q3] at e; cases e) fun _=>⟨rfl,⟨⟨rfl,Nat.le_refl _,rfl⟩,rfl,Nat.le_refl _,rfl,fun _=>rfl,fun _ _ _=>rfl⟩⟩⟩
theorem Q4t:Qbv Tryz.prog 20 Zc4:=Qb0 hm Qk9 Tryz.func20 (Λ:=fun _ _=>Qay) fun args bs e hs hp=>by
 unfold Zc4 at hs
 split at hs <;> try (cases hs; done)
 obtain ⟨m,rfl,h1⟩:=Qg4 hs
 refine ⟨_,h1,?_⟩
 rw [Zhe]
 exact ⟨rfl,⟨⟨rfl,Nat.le_refl _,rfl⟩,rfl,Nat.le_refl _,rfl,fun _=>rfl,fun _ _ _=>rfl⟩⟩
end Go.Proofs.YthkihlpeaidlnaaGreat
end
