/-
 What the proof uses, part 11.
-/
import Derived.Test.YthkihlpeaidlnaaGreatRows
import Derived.ProofKit
import Derived.Test.YthkihlpeaidlnaaGreatZr10
set_option maxRecDepth 100000
set_option linter.unusedSimpArgs false
set_option linter.unusedVariables false

section
namespace Go.Proofs.YthkihlpeaidlnaaGreat
open Go.ChangeShapes Go.WideShapes Go.ChangeAt Go.RowKit
theorem Tryz.own:ownKnob Tryz.prog.godebug=none:=by kernel_rfl
theorem Tryz.laidOut:laidOutB Tryz.prog=true:=by kernel_rfl
section
variable {H:Type} {enc:TypeId×Value→H}
theorem Qiz {P:Program} (hl:laidOutB P=true) {W W':World} (hb:Below W.heap.size W W') :
   ∀ {ts:List TypeId} {vs:List Value} {ds:List (DataW H)} {ps:List MemPlace},(∀ t∈ts,P.readableRec t=true∧t<P.types.size)→DataW.TrodAll enc P W 0 (fun _=>true) true ts vs ds ps →
     (∀ x∈ps,x.block<W.heap.size)→DataW.TrodAll enc P W' 0 (fun b=>decide (b<W.heap.size)) true ts vs ds ps
 | [],[],[],_,_,h,_=>h
 | [],[],_ :: _,_,_,h,_=>h.elim
 | [],_ :: _,_,_,_,h,_=>h.elim
 | _ :: _,[],_,_,_,h,_=>h.elim
 | _ :: _,_ :: _,[],_,_,h,_=>h.elim
 | t :: ts,v :: vs,d :: ds,ps,ht,h,hlt=>by
   obtain ⟨p,q,h1,h2,rfl⟩:=h
   have hd:=ht t (List.mem_cons_self ..)
   exact ⟨p,q,Below.trod hl hd.1 hd.2 h1 hb fun x hx=>hlt x (List.mem_append_left _ hx),Qiz hl hb (fun t' h'=>ht t' (List.mem_cons_of_mem _ h')) h2 fun x hx=>hlt x (List.mem_append_right _ hx),rfl⟩
theorem Ql5 {P:Program} {W:World} {b:Nat} {sp:Nat→Bool} {hd:Bool}:∀ {ts:List TypeId} {vs:List Value} {ds:List (DataW H)} {ps:List MemPlace},DataW.TrodAll enc P W b sp hd ts vs ds ps→ds.length=ts.length
 | [],[],[],_,_=>rfl
 | [],[],_ :: _,_,h=>h.elim
 | [],_ :: _,_,_,h=>h.elim
 | _ :: _,[],_,_,h=>h.elim
 | _ :: _,_ :: _,[],_,h=>h.elim
 | _ :: _,_ :: _,_ :: _,_,⟨_,_,_,h2,_⟩=>by simp [Ql5 h2]
theorem Q2n {f:FuncId} {fn:Func} {s:ChangeSpec} {apart fresh handsOn:Bool} (hn:s.vars=[]) (hr:fn.resultTypes=#[4])
   (hts:(fn.params.toList.all fun t=>Tryz.prog.readableRec t&&decide (t<Tryz.prog.types.size))=true)
   (hspec:∀ ds:List (DataW H),ds.length=fn.params.size→s.fn H ds={results:=[.lit (.bool true)],args:=ds})
   (hc:∀ (W:World) (base:Nat) (args:Array Value) (ds:List (DataW H)) (ps:List MemPlace),(∀ (j:Nat) t v,fn.params[j]?=some t→args[j]?=some v→Value.okWide Tryz.prog W .any base t v) →
     DataW.TrodAll enc Tryz.prog W 0 (fun _=>true) true fn.params.toList args.toList ds ps→Calls Tryz.prog f args W fun e W'=>e=.returned (.bool true)∧Below W.heap.size W W')
   (W:World) (base:Nat) (args:Array Value) (ds gs:List (DataW H)) (before:List MemPlace)
   (hval:∀ (j:Nat) t v,fn.params[j]?=some t→args[j]?=some v→Value.okWide Tryz.prog W .any base t v)
   (hW:DataW.Whole enc Tryz.prog fn.params.toList s.vars apart W args.toList ds gs before) :
   Calls Tryz.prog f args W fun e W'=>∃ v,e=.returned v∧s.post enc Tryz.prog fn apart fresh handsOn false W args v W':=by
 have hW':=hW
 obtain ⟨p,q,hA,hV,rfl,hfz,hnd⟩:=hW
 rw [hn] at hV
 obtain ⟨rfl,rfl⟩:=trodVars_none hV
 have hlen:ds.length=fn.params.size:=by rw [Ql5 hA,Array.length_toList]
 have hlt:∀ x∈p,x.block<W.heap.size:=fun x hx=>by simpa using hW'.lt x (by simpa using hx)
 refine (hc W base args ds p hval hA).mono fun e W' ⟨he,hb⟩=>⟨.bool true,he,ds,[],p++[],[],p,[],hW',?_,?_,?_,hb.frame _,fun h=>by cases h⟩
 · rw [hr,List.append_nil,hspec ds hlen]
   exact trodAll_mk1 (shut_bool Tryz.underlying4 true)
 · rw [List.append_nil,hspec ds hlen]
   refine Qiz Tryz.laidOut hb (fun t ht=>?_) hA hlt
   have:=List.all_eq_true.1 hts t ht
   simp only [Bool.and_eq_true,decide_eq_true_eq] at this
   exact this
 · rw [hn,List.append_nil,hspec ds hlen]
   exact rfl
theorem Ql2 {n:Int} (hw:(Lit.int .i64 n).wf=true):I64 n:=by
 simp only [Lit.wf,Bool.and_eq_true,decide_eq_true_eq] at hw
 have e1:IntKind.i64.min=-9223372036854775808:=by kernel_rfl
 have e2:IntKind.i64.max=9223372036854775807:=by kernel_rfl
 rw [e1,e2] at hw
 exact ⟨by omega,by omega⟩
end
end Go.Proofs.YthkihlpeaidlnaaGreat
end
section
namespace Go.Proofs.YthkihlpeaidlnaaGreat
open Go.SE Go.RowKit
theorem hm:Tryz.prog.follows .mixedOrders=true:=by kernel_rfl
theorem Qsk {f : FuncId} {fn : Func} {e : Array Value → Sem Value} (hf : Tryz.prog.funcs[f]? = some fn) (hname : (fn.name == "runtime.NumGoroutine") = false) (hb : fn.body.isNone = true) (hn : Extern.findNext fn = none) (he : Extern.find fn = some e)
   {spec:List SV→Option (Option Prop×SV)} (hs:∀ args p x,spec args=some (p,x)→(∀ q,p=some q→q)→Qf5 args=true∧Qea x=true∧∀ w,(e (Qjn args).toArray).run Tryz.prog w=.ok (Q59 x) w):(Qao spec).ok Tryz.prog f:=by
 intro args h base ef hef δ w vals ha hr hp _
 simp only [Qao] at hef
 cases hsp:spec args with
 | none=>rw [hsp] at hef; cases hef
 | some px =>
   obtain ⟨p,x⟩:=px
   rw [hsp] at hef
   cases hef
   obtain ⟨h1,h2,h3⟩:=hs args p x hsp hp
   have hv:=(Qd0 _ _ h1).1 ha
   subst hv
   rw [run_callFunc_extern hf hname hb hn he,h3 w]
   exact ⟨x,[],δ,⟨rfl,rfl⟩,(Qe8 _ _ h2).2 rfl,Upd.same hr⟩
def Q09:List SV→Option (Option Prop×SV)
 | [.v (.int .u64 x),.v (.int .u64 y),.v (.int .u64 c)]=>some (some (U64 x∧U64 y∧0≤c∧c≤1),.tup [.v (.int .u64 ((x + y + c) % 18446744073709551616)),.v (.int .u64 ((x + y + c) / 18446744073709551616))])
 | _=>none
def Q0p:List SV→Option (Option Prop×SV)
 | [.v (.int .u64 x),.v (.int .u64 y),.v (.int .u64 b)]=>some (some (U64 x∧U64 y∧0≤b∧b≤1),.tup [.v (.int .u64 ((x - y - b) % 18446744073709551616)),.v (.int .u64 (bor x (y + b)))])
 | _=>none
theorem Q89:(Qao Q09).ok Tryz.prog 285:=by
 refine Qsk Tryz.func285 (by kernel_rfl) (by kernel_rfl) (by kernel_rfl) (e:=add64Entry) (by kernel_rfl) ?_
 intro args p x h hp
 unfold Q09 at h
 split at h
 · cases h
   obtain ⟨h1,h2,h3,h4⟩:=hp _ rfl
   exact ⟨rfl,rfl,fun w=>run_add64 _ _ _ h1.1 h2.1 h3 h4 w⟩
 · cases h
def Qjo:Array Value→Sem Value:=fun args=>do
 let (x, y, b) ← Extern.MathBitsCarry.three "Sub64" args
 pure (Extern.MathBitsCarry.pair ((x + Extern.MathBitsCarry.m64 - y - b) % Extern.MathBitsCarry.m64) (if x<y + b then 1 else 0))
theorem Q1a {P:Program} (x y b:Int) (hx:U64 x) (hy:U64 y) (hb0:0≤b) (hb:b≤1) (w:World) :
   (Qjo #[.int .u64 x,.int .u64 y,.int .u64 b]).run P w=.ok (.tuple #[.int .u64 ((x - y - b) % 18446744073709551616),.int .u64 (bor x (y + b))]) w:=by
 have key:∀ k:Nat,k≤1→(Qjo #[.int .u64 x,.int .u64 y,.int .u64 (k:Int)]).run P w =
     .ok (Extern.MathBitsCarry.pair ((x.toNat + Extern.MathBitsCarry.m64 - y.toNat - k) % Extern.MathBitsCarry.m64) (if x.toNat<y.toNat + k then 1 else 0)) w:=by
   intro k hk
   have:k=0∨k=1:=by omega
   rcases this with rfl | rfl <;> rfl
 obtain ⟨k,rfl⟩:=Int.eq_ofNat_of_zero_le hb0
 rw [key k (by omega)]
 obtain ⟨hx0,hx1⟩:=hx
 obtain ⟨hy0,hy1⟩:=hy
 obtain ⟨X,rfl⟩:=Int.eq_ofNat_of_zero_le hx0
 obtain ⟨Y,rfl⟩:=Int.eq_ofNat_of_zero_le hy0
 simp only [Extern.MathBitsCarry.pair,Extern.MathBitsCarry.m64,Int.toNat_natCast,bor]
 have e1:(Int.ofNat ((X + 2 ^ 64 - Y - k) % 2 ^ 64))=((X:Int) - Y - k) % 18446744073709551616:=by
   show (((X + 2 ^ 64 - Y - k) % 2 ^ 64:Nat):Int)=_
   omega
 have e2:Int.ofNat (if X<Y + k then 1 else 0)=if (X:Int)<Y + k then 1 else 0:=by
   by_cases h:X<Y + k
   · rw [if_pos h,if_pos (by omega)]; rfl
   · rw [if_neg h,if_neg (by omega)]; rfl
 rw [e1,e2]
theorem Q8l:(Qao Q0p).ok Tryz.prog 287:=by
 refine Qsk Tryz.func287 (by kernel_rfl) (by kernel_rfl) (by kernel_rfl) (e:=Qjo) (by kernel_rfl) ?_
 intro args p x h hp
 unfold Q0p at h
 split at h
 · cases h
   obtain ⟨h1,h2,h3,h4⟩:=hp _ rfl
   exact ⟨rfl,rfl,fun w=>Q1a _ _ _ h1 h2 h3 h4 w⟩
 · cases h
def Zfs (k:IntKind):List SV→Option (Option Prop×SV)
 | [.v (.int k' _)]=>if k'=k then some (none,.v (.bool false)) else none
 | _=>none
def Zft (k:IntKind):List SV→Option (Option Prop×SV)
 | [.v (.int k1 x),.v (.int k2 y)]=>if k1=k∧k2=k then some (none,.v (.int .i64 (Qb7 x y))) else none
 | _=>none
def Γ1:Qbz:=Qai (Qai Qbi 285 (Qao Q09)) 287 (Qao Q0p)
def Γ2:Qbz:=Qai (Qai Γ1 110 (Qao (Zfs .i64))) 327 (Qao (Zfs .u64))
def Γ3:Qbz:=Qai (Qai Γ2 50 (Qao (Zft .i64))) 320 (Qao (Zft .u64))
def Qay:Nat→Option LoopSpec:=fun _=>none
theorem Zhb (x:Int) (R:SV→Prop):(Qbe Tryz.prog Qbi Qay Tryz.f110 [.v (.int .i64 x)] R)=(R (SV.v (.bool (x != x)))):=by kernel_rfl
theorem Zha (x:Int) (R:SV→Prop):(Qbe Tryz.prog Qbi Qay Tryz.f327 [.v (.int .u64 x)] R)=(R (SV.v (.bool (x != x)))):=by kernel_rfl
theorem Zhr (x y:Int) (R:SV→Prop):(Qbe Tryz.prog Γ2 Qay Tryz.f50 [.v (.int .i64 x),.v (.int .i64 y)] R)=(sel (decide (x<y)) (R (SV.v (.int .i64 (-1)))) (sel (decide (x > y)) (R (SV.v (.int .i64 1))) (R (SV.v (.int .i64 0))))):=by kernel_rfl
theorem Zhq (x y:Int) (R:SV→Prop):(Qbe Tryz.prog Γ2 Qay Tryz.f320 [.v (.int .u64 x),.v (.int .u64 y)] R)=(sel (decide (x<y)) (R (SV.v (.int .i64 (-1)))) (sel (decide (x > y)) (R (SV.v (.int .i64 1))) (R (SV.v (.int .i64 0))))):=by kernel_rfl
theorem Zgj:∀ f g,Γ1 f=some g→g.ok Tryz.prog f:=Qad (Qad Qam Q89) Q8l
theorem Q4q:Qaq Tryz.prog 110 (Zfs .i64):=Qax hm Qam Tryz.func110 (Λ:=fun _=>Qay) fun args p x h _=>by
 unfold Zfs at h
 split at h <;> try (cases h; done)
 split at h <;> try (cases h; done)
 rename_i k' v hk
 subst hk
 cases h
 refine ⟨rfl,rfl,?_⟩
 rw [Zhb]
 simp
theorem Q4p:Qaq Tryz.prog 327 (Zfs .u64):=Qax hm Qam Tryz.func327 (Λ:=fun _=>Qay) fun args p x h _=>by
 unfold Zfs at h
 split at h <;> try (cases h; done)
 split at h <;> try (cases h; done)
 rename_i k' v hk
 subst hk
 cases h
 refine ⟨rfl,rfl,?_⟩
 rw [Zha]
 simp
theorem Qzf:∀ f g,Γ2 f=some g→g.ok Tryz.prog f:=Qad (Qad Zgj (Qas Tryz.func110 (by kernel_rfl) (by kernel_rfl) Q4q)) (Qas Tryz.func327 (by kernel_rfl) (by kernel_rfl) Q4p)
theorem Q42:Qaq Tryz.prog 50 (Zft .i64):=Qax hm Qzf Tryz.func50 (Λ:=fun _=>Qay) fun args p x h _=>by
 unfold Zft at h
 split at h <;> try (cases h; done)
 split at h <;> try (cases h; done)
 rename_i k1 a k2 b hk
 obtain ⟨rfl,rfl⟩:=hk
 cases h
 refine ⟨rfl,rfl,?_⟩
 rw [Zhr]
 unfold Qb7
 refine Qag (fun h=>?_) fun h=>Qag (fun h'=>?_) fun h'=>?_
 · rw [if_pos (of_decide_eq_true h)]
 · rw [if_neg (of_decide_eq_false h),if_pos (of_decide_eq_true h')]
 · rw [if_neg (of_decide_eq_false h),if_neg (of_decide_eq_false h')]
theorem Q41:Qaq Tryz.prog 320 (Zft .u64):=Qax hm Qzf Tryz.func320 (Λ:=fun _=>Qay) fun args p x h _=>by
 unfold Zft at h
 split at h <;> try (cases h; done)
 split at h <;> try (cases h; done)
 rename_i k1 a k2 b hk
 obtain ⟨rfl,rfl⟩:=hk
 cases h
 refine ⟨rfl,rfl,?_⟩
 rw [Zhq]
 unfold Qb7
 refine Qag (fun h=>?_) fun h=>Qag (fun h'=>?_) fun h'=>?_
 · rw [if_pos (of_decide_eq_true h)]
 · rw [if_neg (of_decide_eq_false h),if_pos (of_decide_eq_true h')]
 · rw [if_neg (of_decide_eq_false h),if_neg (of_decide_eq_false h')]
theorem Zgi:∀ f g,Γ3 f=some g→g.ok Tryz.prog f:=Qad (Qad Qzf (Qas Tryz.func50 (by kernel_rfl) (by kernel_rfl) Q42)) (Qas Tryz.func320 (by kernel_rfl) (by kernel_rfl) Q41)
theorem Zb0 (x y:Int) (R:SV→Prop):(Qbe Tryz.prog Qbi Qay Tryz.f247 [.v (.int .u64 x),.v (.int .u64 y)] R)=(R (SV.tup [(SV.v (.int .u64 (IntKind.wrap IntKind.u64 (IntKind.wrap IntKind.u64 (IntKind.wrap IntKind.u64 (x / 4294967296*(y / 4294967296)) + IntKind.wrap IntKind.u64 (IntKind.wrap IntKind.u64 (x / 4294967296*bits BinOp.and IntKind.u64 y 4294967295) + IntKind.wrap IntKind.u64 (bits BinOp.and IntKind.u64 x 4294967295*bits BinOp.and IntKind.u64 y 4294967295) / 4294967296) / 4294967296) + IntKind.wrap IntKind.u64 (bits BinOp.and IntKind.u64 (IntKind.wrap IntKind.u64 (IntKind.wrap IntKind.u64 (x / 4294967296*bits BinOp.and IntKind.u64 y 4294967295) + IntKind.wrap IntKind.u64 (bits BinOp.and IntKind.u64 x 4294967295*bits BinOp.and IntKind.u64 y 4294967295) / 4294967296)) 4294967295 + IntKind.wrap IntKind.u64 (bits BinOp.and IntKind.u64 x 4294967295*(y / 4294967296))) / 4294967296)))),(SV.v (.int .u64 (IntKind.wrap IntKind.u64 (x*y))))])):=by kernel_rfl
theorem vcOf (v:Int) (R:SV→Prop):(Qbe Tryz.prog Qbi Qay Tryz.f158 [.v (.int .i64 v)] R)=(sel (decide (v<0)) (R (SV.agg [(SV.v (.bool true)),(SV.v (.int .u64 (IntKind.wrap IntKind.u64 (0 - IntKind.wrap IntKind.u64 v)))),(SV.v (.int .u64 0))])) (R (SV.agg [(SV.v (.bool false)),(SV.v (.int .u64 (IntKind.wrap IntKind.u64 v))),(SV.v (.int .u64 0))]))):=by kernel_rfl
theorem Zbk (v:Int) (f:Bool) (R:SV→Prop):(Qbe Tryz.prog Qbi Qay Tryz.f255 [Qe4 v f] R)=(sel (v==-9223372036854775808) (R (SV.tup [(SV.v (.int .i64 (-9223372036854775807))),(SV.v (.bool true))])) (R (SV.tup [(SV.v (.int .i64 v)),(SV.v (.bool f))]))):=by kernel_rfl
theorem Zgm (v:Int) (R:SV→Prop):(Qbe Tryz.prog Qbi Qay Tryz.f266 [.v (.int .i64 v)] R)=(sel (decide (v<0)) (R (SV.v (.int .u64 (IntKind.wrap IntKind.u64 (IntKind.wrap IntKind.i64 (0 - v)))))) (R (SV.v (.int .u64 (IntKind.wrap IntKind.u64 v))))):=by kernel_rfl
theorem Zhd (n1:Bool) (h1 l1:Int) (n2:Bool) (h2 l2:Int) (R:SV→Prop):(Qbe Tryz.prog Qbi Qay Tryz.f299 [wiS n1 h1 l1,wiS n2 h2 l2] R)=(sel (decide (h1<h2)) (R (SV.v (.bool true))) (sel (h1==h2) (R (SV.v (.bool (decide (l1<l2))))) (R (SV.v (.bool false))))):=by kernel_rfl
theorem Zbs (n1:Bool) (h1 l1:Int) (R:SV→Prop):(Qbe Tryz.prog Qbi Qay Tryz.f257 [wiS n1 h1 l1] R)=(R (SV.agg [(SV.v (.bool n1)),(SV.v (.int .u64 (h1 / 4294967296))),(SV.v (.int .u64 (bits BinOp.or IntKind.u64 (IntKind.wrap IntKind.u64 (h1*4294967296)) (l1 / 4294967296))))])):=by kernel_rfl
theorem Zlo (n1:Bool) (h1 l1:Int) (R:SV→Prop):(Qbe Tryz.prog Qbi Qay Tryz.f261 [wiS n1 h1 l1] R)=(R (SV.agg [(SV.v (.bool n1)),(SV.v (.int .u64 (bits BinOp.or IntKind.u64 (IntKind.wrap IntKind.u64 (h1*4294967296)) (l1 / 4294967296)))),(SV.v (.int .u64 (IntKind.wrap IntKind.u64 (l1*4294967296))))])):=by kernel_rfl
theorem Zgv (n1:Bool) (h1 l1:Int) (f:Bool) (R:SV→Prop):(Qbe Tryz.prog Qbi Qay Tryz.f256 [wiS n1 h1 l1,.v (.bool f)] R)=(sel (h1 != 0) (sel n1 (R (SV.agg [(SV.v (.int .i64 (-9223372036854775807))),(SV.v (.bool true))])) (R (SV.agg [(SV.v (.int .i64 9223372036854775807)),(SV.v (.bool true))]))) (sel (decide (l1 > 9223372036854775807)) (sel n1 (R (SV.agg [(SV.v (.int .i64 (-9223372036854775807))),(SV.v (.bool true))])) (R (SV.agg [(SV.v (.int .i64 9223372036854775807)),(SV.v (.bool true))]))) (sel n1 (R (SV.agg [(SV.v (.int .i64 (IntKind.wrap IntKind.i64 (0 - IntKind.wrap IntKind.i64 l1)))),(SV.v (.bool f))])) (R (SV.agg [(SV.v (.int .i64 (IntKind.wrap IntKind.i64 l1))),(SV.v (.bool f))]))))):=by kernel_rfl
theorem Zbq (v:Int) (R:SV→Prop):(Qbe Tryz.prog Qbi Qay Tryz.f264 [.v (.int .i64 v)] R)=(sel (decide (v > 0)) (R (SV.agg [(SV.v (.int .i64 9223372036854775807)),(SV.v (.bool true))])) (sel (decide (v<0)) (R (SV.agg [(SV.v (.int .i64 (-9223372036854775807))),(SV.v (.bool true))])) (R (SV.agg [(SV.v (.int .i64 0)),(SV.v (.bool true))])))):=by kernel_rfl
def Q01:List SV→Option (Option Prop×SV)
 | [.v (.int .u64 x),.v (.int .u64 y)]=>some (some (U64 x∧U64 y),.tup [.v (.int .u64 (x*y / 18446744073709551616)),.v (.int .u64 (x*y % 18446744073709551616))])
 | _=>none
def sOf:List SV→Option (Option Prop×SV)
 | [.v (.int .i64 v)]=>some (some (I64 v),exS (decide (v<0)) (Qab v) 0)
 | _=>none
def sDown:List SV→Option (Option Prop×SV)
 | [.agg [.v (.bool n),.v (.int .u64 lo),.v (.int .u64 hi)]]=>some (some (U64 lo∧U64 hi),exM n (MM lo hi / 4294967296))
 | _=>none
def sFit:List SV→Option (Option Prop×SV)
 | [.agg [.v (.bool n),.v (.int .u64 lo),.v (.int .u64 hi)],.v (.bool f)]=>some (some (U64 lo∧U64 hi),Qe4 (Qus n (MM lo hi)) (Qq7 (MM lo hi) f))
 | _=>none
def sSound:List SV→Option (Option Prop×SV)
 | [.agg [.v (.int .i64 v),.v (.bool f)]]=>some (none,Qe4 (Qaa v) (Qa8 v f))
 | _=>none
def Q0n:List SV→Option (Option Prop×SV)
 | [.agg [.v (.int .i64 v),.v (.bool f)]]=>some (none,.tup [.v (.int .i64 (Qaa v)),.v (.bool (Qa8 v f))])
 | _=>none
def Zcs:List SV→Option (Option Prop×SV)
 | [.v (.int .i64 v)]=>some (some (I64 v),.v (.int .u64 (Qab v)))
 | _=>none
def Zc3:List SV→Option (Option Prop×SV)
 | [.agg [.v (.bool _),.v (.int .u64 h1),.v (.int .u64 l1)],.agg [.v (.bool _),.v (.int .u64 h2),.v (.int .u64 l2)]]=>some (some (U64 l1∧U64 l2),.v (.bool (decide (MM l1 h1<MM l2 h2))))
 | _=>none
def Q0v:List SV→Option (Option Prop×SV)
 | [.agg [.v (.bool n),.v (.int .u64 hi),.v (.int .u64 lo)]]=>some (some (U64 lo∧U64 hi),wiM n (MM lo hi / 4294967296))
 | _=>none
def Zmh:List SV→Option (Option Prop×SV)
 | [.agg [.v (.bool n),.v (.int .u64 hi),.v (.int .u64 lo)]]=>some (some (U64 lo∧U64 hi∧MM lo hi<79228162514264337593543950336),wiM n (MM lo hi*4294967296))
 | _=>none
def Zct:List SV→Option (Option Prop×SV)
 | [.agg [.v (.bool n),.v (.int .u64 hi),.v (.int .u64 lo)],.v (.bool f)]=>some (some (U64 lo∧U64 hi),Qe4 (Qus n (MM lo hi)) (Qq7 (MM lo hi) f))
 | _=>none
def Qp2 (a:Int):Int:=if a > 0 then 9223372036854775807 else if a<0 then -9223372036854775807 else 0
def Q0u:List SV→Option (Option Prop×SV)
 | [.v (.int .i64 v)]=>some (none,Qe4 (Qp2 v) true)
 | _=>none
def ΓB:Qbz:=Qai (Qai (Qai (Qai (Qai (Qai (Qai (Qai (Qai Γ3 247 (Qao Q01)) 158 (Qao sOf)) 255 (Qao Q0n)) 266 (Qao Zcs)) 299 (Qao Zc3)) 257 (Qao Q0v)) 261 (Qao Zmh)) 256 (Qao Zct)) 264 (Qao Q0u)
theorem Qyh:Qaq Tryz.prog 247 Q01:=Qax hm Qam Tryz.func247 (Λ:=fun _=>Qay) fun args p x h hp=>by
 unfold Q01 at h
 split at h <;> try (cases h; done)
 rename_i x y
 cases h
 obtain ⟨h1,h2⟩:=hp _ rfl
 refine ⟨rfl,rfl,?_⟩
 rw [Zb0]
 have e1:=Qkg h1
 have e2:=Qkg h2
 simp only [e1,e2,Qdj]
 rw [Qkg (Qdp _)]
 have:=mul64_arith x y h1.1 h1.2 h2.1 h2.2
 rw [← this]
theorem Zfo:Qaq Tryz.prog 158 sOf:=Qax hm Qam Tryz.func158 (Λ:=fun _=>Qay) fun args p x h hp=>by
 unfold sOf at h
 split at h <;> try (cases h; done)
 rename_i v
 cases h
 obtain ⟨h1,h2⟩:=hp _ rfl
 refine ⟨rfl,rfl,?_⟩
 rw [vcOf]
 refine Qag (fun h=>?_) fun h=>?_
 · have h':=of_decide_eq_true h
   refine Qxt h.symm ?_ rfl
   rw [Qdj,Qdj]; unfold Qab; rw [if_pos h']; omega
 · have h':=of_decide_eq_false h
   refine Qxt h.symm ?_ rfl
   rw [Qdj]; unfold Qab; rw [if_neg h']; omega
theorem Qx7:Qaq Tryz.prog 257 Q0v:=Qax hm Qam Tryz.func257 (Λ:=fun _=>Qay) fun args p x h hp=>by
 unfold Q0v at h
 split at h <;> try (cases h; done)
 cases h
 obtain ⟨h1,h2⟩:=hp _ rfl
 refine ⟨rfl,rfl,?_⟩
 rw [show ∀ n lo hi,SV.agg [.v (.bool n),.v (.int .u64 hi),.v (.int .u64 lo)]=wiS n hi lo from fun _ _ _=>rfl,Zbs]
 refine Qw8 rfl ?_ ?_
 · rw [Qv1 h2 h1]; obtain ⟨_,_⟩:=h1; obtain ⟨_,_⟩:=h2; unfold MM; omega
 · obtain ⟨_,_⟩:=h1; obtain ⟨_,_⟩:=h2; unfold MM; omega
theorem Q8r:Qaq Tryz.prog 261 Zmh:=Qax hm Qam Tryz.func261 (Λ:=fun _=>Qay) fun args p x h hp=>by
 unfold Zmh at h
 split at h <;> try (cases h; done)
 cases h
 obtain ⟨h1,h2,h3⟩:=hp _ rfl
 refine ⟨rfl,rfl,?_⟩
 rw [show ∀ n lo hi,SV.agg [.v (.bool n),.v (.int .u64 hi),.v (.int .u64 lo)]=wiS n hi lo from fun _ _ _=>rfl,Zlo]
 refine Qw8 rfl ?_ ?_
 · rw [Qdj]; obtain ⟨_,_⟩:=h1; obtain ⟨_,_⟩:=h2; unfold MM; omega
 · rw [Qv1 h2 h1]; unfold MM at h3; obtain ⟨_,_⟩:=h1; obtain ⟨_,_⟩:=h2; unfold MM; omega
theorem Q8w {lo hi:Int} (h1:U64 lo) (h2:U64 hi):(hi=0∧lo≤9223372036854775807)↔MM lo hi≤9223372036854775807:=by
 obtain ⟨_,_⟩:=h1; obtain ⟨_,_⟩:=h2; unfold MM; omega
theorem Q4b:Qaq Tryz.prog 256 Zct:=Qax hm Qam Tryz.func256 (Λ:=fun _=>Qay) fun args p x h hp=>by
 unfold Zct at h
 split at h <;> try (cases h; done)
 rename_i n hi lo f
 cases h
 obtain ⟨h1,h2⟩:=hp _ rfl
 refine ⟨rfl,rfl,?_⟩
 rw [show ∀ n lo hi,SV.agg [.v (.bool n),.v (.int .u64 hi),.v (.int .u64 lo)]=wiS n hi lo from fun _ _ _=>rfl,Zgv]
 have hs:=Q8w h1 h2
 obtain ⟨a1,a2⟩:=h1
 have big:∀ b:Bool,n=b→¬ MM lo hi≤9223372036854775807→SV.agg [.v (.int .i64 (if b then -9223372036854775807 else 9223372036854775807)),.v (.bool true)]=Qe4 (Qus n (MM lo hi)) (Qq7 (MM lo hi) f):=fun b hb e=>by
   subst hb
   refine Qdg ?_ ?_
   · unfold Qus; rw [if_neg e]
   · unfold Qq7; rw [if_neg e]
 have low:hi=0→lo≤9223372036854775807→MM lo hi=lo∧MM lo hi≤9223372036854775807:=fun e1 e2=>⟨by unfold MM; omega,hs.1 ⟨e1,e2⟩⟩
 refine Qag (fun h=>Qag (fun h''=>?_) fun h''=>?_) fun h=>Qag (fun h'=>Qag (fun h''=>?_) fun h''=>?_) fun h'=>Qag (fun h''=>?_) fun h''=>?_
 · exact big true h'' fun e=>(by have:=(hs.2 e).1; simp [this] at h)
 · exact big false h'' fun e=>(by have:=(hs.2 e).1; simp [this] at h)
 · exact big true h'' fun e=>(by have:=of_decide_eq_true h'; have:=(hs.2 e).2; omega)
 · exact big false h'' fun e=>(by have:=of_decide_eq_true h'; have:=(hs.2 e).2; omega)
 · obtain ⟨e1,e2⟩:=low (by simpa using h) (by have:=of_decide_eq_false h'; omega)
   subst h''
   refine Qdg ?_ ?_
   · unfold Qus; rw [if_pos e2,if_pos rfl,e1,Qaj (n:=lo) ⟨by omega,by omega⟩,Qaj ⟨by omega,by omega⟩]; omega
   · unfold Qq7; rw [if_pos e2]
 · obtain ⟨e1,e2⟩:=low (by simpa using h) (by have:=of_decide_eq_false h'; omega)
   subst h''
   refine Qdg ?_ ?_
   · unfold Qus; rw [if_pos e2,if_neg (by simp),e1,Qaj ⟨by omega,by omega⟩]
   · unfold Qq7; rw [if_pos e2]
theorem Qxz:Qaq Tryz.prog 255 Q0n:=Qax hm Qam Tryz.func255 (Λ:=fun _=>Qay) fun args p x h hp=>by
 unfold Q0n at h
 split at h <;> try (cases h; done)
 rename_i v f
 cases h
 refine ⟨rfl,rfl,?_⟩
 rw [show ∀ v f,SV.agg [.v (.int .i64 v),.v (.bool f)]=Qe4 v f from fun _ _=>rfl,Zbk]
 refine Qag (fun h=>?_) fun h=>?_
 · have h:=eq_of_beq h
   show SV.tup _=SV.tup _
   unfold Qaa Qa8; rw [if_pos h,if_pos h]
 · have h:¬ v=-9223372036854775808:=fun e=>by rw [e] at h; exact absurd h (by decide)
   show SV.tup _=SV.tup _
   unfold Qaa Qa8; rw [if_neg h,if_neg h]
theorem Q37:Qaq Tryz.prog 266 Zcs:=Qax hm Qam Tryz.func266 (Λ:=fun _=>Qay) fun args p x h hp=>by
 unfold Zcs at h
 split at h <;> try (cases h; done)
 rename_i v
 cases h
 obtain ⟨h1,h2⟩:=hp _ rfl
 refine ⟨rfl,rfl,?_⟩
 rw [Zgm]
 refine Qag (fun h=>?_) fun h=>?_
 · have h':=of_decide_eq_true h
   refine Qck ?_
   rw [Qdj,Qre]; unfold Qab; rw [if_pos h']; split <;> omega
 · have h':=of_decide_eq_false h
   refine Qck ?_
   rw [Qdj]; unfold Qab; rw [if_neg h']; omega
theorem Q4s:Qaq Tryz.prog 299 Zc3:=Qax hm Qam Tryz.func299 (Λ:=fun _=>Qay) fun args p x h hp=>by
 unfold Zc3 at h
 split at h <;> try (cases h; done)
 rename_i n1 hi1 lo1 n2 hi2 lo2
 cases h
 obtain ⟨⟨h1,h2⟩,⟨h3,h4⟩⟩:=hp _ rfl
 refine ⟨rfl,rfl,?_⟩
 rw [show ∀ n lo hi,SV.agg [.v (.bool n),.v (.int .u64 hi),.v (.int .u64 lo)]=wiS n hi lo from fun _ _ _=>rfl,show ∀ n lo hi,SV.agg [.v (.bool n),.v (.int .u64 hi),.v (.int .u64 lo)]=wiS n hi lo from fun _ _ _=>rfl,Zhd]
 refine Qag (fun h=>?_) fun h=>Qag (fun h'=>?_) fun h'=>?_
 · have h:=of_decide_eq_true h
   refine Qke (decide_eq_true ?_).symm
   unfold MM; omega
 · have h':hi1=hi2:=eq_of_beq h'
   refine Qke (decide_eq_decide.2 ?_)
   unfold MM; omega
 · have h:=of_decide_eq_false h
   have h':¬ hi1=hi2:=fun e=>by rw [e] at h'; simp at h'
   refine Qke (decide_eq_false ?_).symm
   unfold MM; omega
theorem Qx5:Qaq Tryz.prog 264 Q0u:=Qax hm Qam Tryz.func264 (Λ:=fun _=>Qay) fun args p x h hp=>by
 unfold Q0u at h
 split at h <;> try (cases h; done)
 rename_i v
 cases h
 refine ⟨rfl,rfl,?_⟩
 rw [Zbq]
 refine Qag (fun h=>?_) fun h=>Qag (fun h'=>?_) fun h'=>?_
 · refine Qdg ?_ rfl; unfold Qp2; rw [if_pos (of_decide_eq_true h)]
 · refine Qdg ?_ rfl; unfold Qp2; rw [if_neg (of_decide_eq_false h),if_pos (of_decide_eq_true h')]
 · refine Qdg ?_ rfl; unfold Qp2; rw [if_neg (of_decide_eq_false h),if_neg (of_decide_eq_false h')]
theorem Qrc:∀ f g,ΓB f=some g→g.ok Tryz.prog f:=Qad (Qad (Qad (Qad (Qad (Qad (Qad (Qad (Qad Zgi (Qas Tryz.func247 (by kernel_rfl) (by kernel_rfl) Qyh)) (Qas Tryz.func158 (by kernel_rfl) (by kernel_rfl) Zfo)) (Qas Tryz.func255 (by kernel_rfl) (by kernel_rfl) Qxz)) (Qas Tryz.func266 (by kernel_rfl) (by kernel_rfl) Q37)) (Qas Tryz.func299 (by kernel_rfl) (by kernel_rfl) Q4s)) (Qas Tryz.func257 (by kernel_rfl) (by kernel_rfl) Qx7)) (Qas Tryz.func261 (by kernel_rfl) (by kernel_rfl) Q8r)) (Qas Tryz.func256 (by kernel_rfl) (by kernel_rfl) Q4b)) (Qas Tryz.func264 (by kernel_rfl) (by kernel_rfl) Qx5)
def isI:List SV→Prop
 | [.v (.int .i64 _)]=>True
 | _=>False
def Q1c (l:List SV):Int:=match l with | [.v (.int _ v)]=>v | _=>0
def orL:List (List SV)→Int
 | []=>0
 | r :: t=>if Q1c r≠0 then Q1c r else orL t
def sOr:List SV→List Ro→Option (Option Prop×SV)
 | [.sl 0 1 0 n _],[⟨1,n',row⟩]=>some (some (Qe3 isI (Qau n' row)∧n'=n∧n<4611686018427387904),.v (.int .i64 (orL (Qau n row))))
 | _,_=>none
noncomputable def Zk2 (n:Nat) (f:Nat→Int):Nat→Option LoopSpec:=Qdv Qay Tryz.f49 0 Nat (fun i=>i≤n∧∀ j,j<i→f j=0) (fun i=>n - i) [(8,fun i=>.v (.int .i64 i))] []
def Zic (f:Nat→Int):Nat→List SV:=fun i=>[.v (.int .i64 (f i))]
theorem vcOr (n n' c:Nat) (f:Nat→Int) (R:SV→Prop):(Qcf Tryz.prog Qbi (Zk2 n f) Tryz.f49 [.sl 0 1 0 n c] (Qbl [⟨1,n',Zic f⟩]) 64 (fun y _=>R y))=((∃ x:Nat,((((x:Nat)≤n)∧(∀ j:Nat,(((j:Nat)<x)→(((f j):Int)=0))))∧(((SV.v (.int .i64 0))=(SV.v (.int .i64 ((↑x:Int)))))∧True)))∧(∀ x:Nat,((((x:Nat)≤n)∧(∀ j:Nat,(((j:Nat)<x)→(((f j):Int)=0))))→(sel (decide ((↑x:Int)<(↑n:Int))) ((((0:Int)≤((↑x:Int)))∧((((↑x:Int)):Int)<((↑n:Int))))∧(sel (f (0 + Int.toNat (↑x:Int)) != 0) (R (SV.v (.int .i64 (f (0 + Int.toNat (↑x:Int)))))) (∃ x':Nat,(((((x':Nat)≤n)∧(∀ j:Nat,(((j:Nat)<x')→(((f j):Int)=0))))∧(((SV.v (.int .i64 (IntKind.wrap IntKind.i64 ((↑x:Int) + 1))))=(SV.v (.int .i64 ((↑x':Int)))))∧True))∧(((n - x'):Nat)<(n - x)))))) (R (SV.v (.int .i64 0))))))):=by kernel_rfl
def Qpq:List SV→Option (Option Prop×SV)
 | [.v (.int .i64 a),.v (.int .i64 b)]=>some (some (I64 a∧I64 b),exM (!(decide (a<0)==decide (b<0))) (Qab a*Qab b))
 | _=>none
def Q0o:List SV→Option (Option Prop×SV)
 | [.v (.int .i64 a),.v (.int .i64 b)]=>some (some (I64 a∧I64 b),wiM ((!(decide (a<0)==decide (b<0)))&&a != 0&&b != 0) (Qab a*Qab b))
 | _=>none
def Qtx:List SV→Option (Option Prop×SV)
 | [.v (.int .i64 v)]=>some (some (I64 v),wiS (decide (v<0)) 0 (Qab v))
 | _=>none
def plZ (n1:Bool) (m1:Int) (n2:Bool) (m2:Int):Bool:=if n1=n2 then n1 else if m1<m2 then n2 else n1&&m1 != m2
def Q0t:List SV→Option (Option Prop×SV)
 | [.agg [.v (.bool n1),.v (.int .u64 h1),.v (.int .u64 l1)],.agg [.v (.bool n2),.v (.int .u64 h2),.v (.int .u64 l2)]] =>
   some (some ((U64 l1∧U64 h1)∧(U64 l2∧U64 h2)∧MM l1 h1 + MM l2 h2<340282366920938463463374607431768211456),wiM (plZ n1 (MM l1 h1) n2 (MM l2 h2)) (plM n1 (MM l1 h1) n2 (MM l2 h2)))
 | _=>none
def Zcw:List SV→Option (Option Prop×SV)
 | [.agg [.v (.bool n1),.v (.int .u64 l1),.v (.int .u64 h1)],.agg [.v (.bool n2),.v (.int .u64 l2),.v (.int .u64 h2)]] =>
   some (some ((U64 l1∧U64 h1)∧(U64 l2∧U64 h2)∧MM l1 h1 + MM l2 h2<340282366920938463463374607431768211456),exM (plN n1 (MM l1 h1) n2 (MM l2 h2)) (plM n1 (MM l1 h1) n2 (MM l2 h2)))
 | _=>none
def Zcp:List SV→Option (Option Prop×SV)
 | [.agg [.v (.int .u64 l1),.v (.int .u64 h1)],.agg [.v (.int .u64 l2),.v (.int .u64 h2)]]=>some (some ((U64 l1∧U64 h1)∧(U64 l2∧U64 h2)),.v (.int .i64 (Qb7 (MM l1 h1) (MM l2 h2))))
 | _=>none
def Zlg:Qbz:=Qai ΓB 49 (Qfc sOr)
def Zlf:Qbz:=Qai Zlg 286 (Qao Zcp)
def ΓC:Qbz:=Qai (Qai (Qai (Qai (Qai Zlf 162 (Qao Qpq)) 217 (Qao Zcw)) 259 (Qao Q0o)) 262 (Qao Qtx)) 258 (Qao Q0t)
theorem Qzr (a b:Int) (R:SV→Prop):(Qbe Tryz.prog ΓB Qay Tryz.f162 [.v (.int .i64 a),.v (.int .i64 b)] R)=((I64 a)∧((I64 b)∧(((U64 (Qab a))∧(U64 (Qab b)))∧(R (SV.agg [(SV.v (.bool (!decide (a<0)==decide (b<0)))),(SV.v (.int .u64 (Qab a*Qab b % 18446744073709551616))),(SV.v (.int .u64 (Qab a*Qab b / 18446744073709551616)))]))))):=by kernel_rfl
theorem Zbl (a b:Int) (R:SV→Prop):(Qbe Tryz.prog ΓB Qay Tryz.f259 [.v (.int .i64 a),.v (.int .i64 b)] R)=((I64 a)∧((I64 b)∧(((U64 (Qab a))∧(U64 (Qab b)))∧(sel (!decide (a<0)==decide (b<0)) (sel (a != 0) (R (SV.agg [(SV.v (.bool (b != 0))),(SV.v (.int .u64 (Qab a*Qab b / 18446744073709551616))),(SV.v (.int .u64 (Qab a*Qab b % 18446744073709551616)))])) (R (SV.agg [(SV.v (.bool false)),(SV.v (.int .u64 (Qab a*Qab b / 18446744073709551616))),(SV.v (.int .u64 (Qab a*Qab b % 18446744073709551616)))]))) (R (SV.agg [(SV.v (.bool false)),(SV.v (.int .u64 (Qab a*Qab b / 18446744073709551616))),(SV.v (.int .u64 (Qab a*Qab b % 18446744073709551616)))])))))):=by kernel_rfl
theorem Q5y (v:Int) (R:SV→Prop):(Qbe Tryz.prog ΓB Qay Tryz.f262 [.v (.int .i64 v)] R)=((I64 v)∧(R (SV.agg [(SV.v (.bool (decide (v<0)))),(SV.v (.int .u64 0)),(SV.v (.int .u64 (Qab v)))]))):=by kernel_rfl
theorem Zbp (n1:Bool) (h1 l1:Int) (n2:Bool) (h2 l2:Int) (R:SV→Prop):(Qbe Tryz.prog ΓB Qay Tryz.f258 [wiS n1 h1 l1,wiS n2 h2 l2] R) =
(sel (n1==n2) (((U64 l1)∧((U64 l2)∧(((0:Int)≤0)∧((0:Int)≤1))))∧(((U64 h1)∧((U64 h2)∧(((0:Int)≤((l1 + l2 + 0) / 18446744073709551616))∧((((l1 + l2 + 0) / 18446744073709551616):Int)≤1))))∧(R (SV.agg [(SV.v (.bool n1)),(SV.v (.int .u64 ((h1 + h2 + (l1 + l2 + 0) / 18446744073709551616) % 18446744073709551616))),(SV.v (.int .u64 ((l1 + l2 + 0) % 18446744073709551616)))])))) (((U64 l1)∧(U64 l2))∧(sel (decide (MM l1 h1<MM l2 h2)) (((U64 l2)∧((U64 l1)∧(((0:Int)≤0)∧((0:Int)≤1))))∧(((U64 h2)∧((U64 h1)∧(((0:Int)≤(bor l2 (l1 + 0)))∧(((bor l2 (l1 + 0)):Int)≤1))))∧(sel n2 (sel ((h2 - h1 - bor l2 (l1 + 0)) % 18446744073709551616 != 0) (R (SV.agg [(SV.v (.bool true)),(SV.v (.int .u64 ((h2 - h1 - bor l2 (l1 + 0)) % 18446744073709551616))),(SV.v (.int .u64 ((l2 - l1 - 0) % 18446744073709551616)))])) (R (SV.agg [(SV.v (.bool ((l2 - l1 - 0) % 18446744073709551616 != 0))),(SV.v (.int .u64 ((h2 - h1 - bor l2 (l1 + 0)) % 18446744073709551616))),(SV.v (.int .u64 ((l2 - l1 - 0) % 18446744073709551616)))]))) (R (SV.agg [(SV.v (.bool false)),(SV.v (.int .u64 ((h2 - h1 - bor l2 (l1 + 0)) % 18446744073709551616))),(SV.v (.int .u64 ((l2 - l1 - 0) % 18446744073709551616)))]))))) (((U64 l1)∧((U64 l2)∧(((0:Int)≤0)∧((0:Int)≤1))))∧(((U64 h1)∧((U64 h2)∧(((0:Int)≤(bor l1 (l2 + 0)))∧(((bor l1 (l2 + 0)):Int)≤1))))∧(sel n1 (sel ((h1 - h2 - bor l1 (l2 + 0)) % 18446744073709551616 != 0) (R (SV.agg [(SV.v (.bool true)),(SV.v (.int .u64 ((h1 - h2 - bor l1 (l2 + 0)) % 18446744073709551616))),(SV.v (.int .u64 ((l1 - l2 - 0) % 18446744073709551616)))])) (R (SV.agg [(SV.v (.bool ((l1 - l2 - 0) % 18446744073709551616 != 0))),(SV.v (.int .u64 ((h1 - h2 - bor l1 (l2 + 0)) % 18446744073709551616))),(SV.v (.int .u64 ((l1 - l2 - 0) % 18446744073709551616)))]))) (R (SV.agg [(SV.v (.bool false)),(SV.v (.int .u64 ((h1 - h2 - bor l1 (l2 + 0)) % 18446744073709551616))),(SV.v (.int .u64 ((l1 - l2 - 0) % 18446744073709551616)))])))))))):=by kernel_rfl
theorem Zgk (l1 h1 l2 h2:Int) (R:SV→Prop):(Qbe Tryz.prog Zlg Qay Tryz.f286 [woS l1 h1,woS l2 h2] R)=((((isI [SV.v (.int .i64 (Qb7 h1 h2))])∧((isI [SV.v (.int .i64 (Qb7 l1 l2))])∧True))∧(((2:Nat)=2)∧((2:Nat)<4611686018427387904)))∧(R (SV.v (.int .i64 (orL [[SV.v (.int .i64 (Qb7 h1 h2))],[SV.v (.int .i64 (Qb7 l1 l2))]]))))):=by kernel_rfl
theorem Zg4 (n1:Bool) (l1 h1:Int) (n2:Bool) (l2 h2:Int) (R:SV→Prop):(Qbe Tryz.prog Zlf Qay Tryz.f217 [exS n1 l1 h1,exS n2 l2 h2] R)=(sel (n1==n2) (((U64 l1)∧((U64 l2)∧(((0:Int)≤0)∧((0:Int)≤1))))∧(((U64 h1)∧((U64 h2)∧(((0:Int)≤((l1 + l2 + 0) / 18446744073709551616))∧((((l1 + l2 + 0) / 18446744073709551616):Int)≤1))))∧(R (SV.agg [(SV.v (.bool n1)),(SV.v (.int .u64 ((l1 + l2 + 0) % 18446744073709551616))),(SV.v (.int .u64 ((h1 + h2 + (l1 + l2 + 0) / 18446744073709551616) % 18446744073709551616)))])))) ((((U64 l1)∧(U64 h1))∧((U64 l2)∧(U64 h2)))∧(sel (decide (Qb7 (MM l1 h1) (MM l2 h2)<0)) (((U64 l2)∧((U64 l1)∧(((0:Int)≤0)∧((0:Int)≤1))))∧(((U64 h2)∧((U64 h1)∧(((0:Int)≤(bor l2 (l1 + 0)))∧(((bor l2 (l1 + 0)):Int)≤1))))∧(R (SV.agg [(SV.v (.bool n2)),(SV.v (.int .u64 ((l2 - l1 - 0) % 18446744073709551616))),(SV.v (.int .u64 ((h2 - h1 - bor l2 (l1 + 0)) % 18446744073709551616)))])))) (((U64 l1)∧((U64 l2)∧(((0:Int)≤0)∧((0:Int)≤1))))∧(((U64 h1)∧((U64 h2)∧(((0:Int)≤(bor l1 (l2 + 0)))∧(((bor l1 (l2 + 0)):Int)≤1))))∧(R (SV.agg [(SV.v (.bool n1)),(SV.v (.int .u64 ((l1 - l2 - 0) % 18446744073709551616))),(SV.v (.int .u64 ((h1 - h2 - bor l1 (l2 + 0)) % 18446744073709551616)))]))))))):=by kernel_rfl
theorem Zeg {r:List SV} (h:isI r):r=[.v (.int .i64 (Q1c r))]:=by
 unfold isI at h
 split at h
 · rfl
 · exact h.elim
theorem Qmm {row:Nat→List SV}:∀ {i:Nat},(∀ j,j<i→Q1c (row j)=0)→∀ l,orL (Qau i row++l)=orL l
 | 0,_,l=>rfl
 | i + 1,h,l=>by
   rw [Qgg,List.append_assoc,Qmm (fun j hj=>h j (by omega))]
   simp [orL,h i (by omega)]
theorem Qkm {n i:Nat} (row:Nat→List SV) (h:i<n):∃ t,Qau n row=Qau i row++row i :: t:=by
 refine ⟨(List.range' (i + 1) (n - i - 1)).map row,?_⟩
 unfold Qau
 rw [show n=i + (1 + (n - i - 1)) by omega,← List.range'_append_1,List.map_append,← List.range'_append_1]
 simp [List.range'_succ]
theorem Zfn:Qc7 Tryz.prog 49 sOr:=Qcq hm Qam Tryz.func49 (Λ:=fun args bs=>match args,bs with | [.sl 0 1 0 n _],[⟨1,_,row⟩]=>Zk2 n (fun i=>Q1c (row i)) | _,_=>Qay) fun args bs p x h hp=>by
 unfold sOr at h
 split at h <;> try (cases h; done)
 rename_i n c n' row
 cases h
 obtain ⟨h1,rfl,h3⟩:=hp _ rfl
 have h1:=okAll_rows.1 h1
 refine ⟨rfl,[⟨1,n',Zic fun i=>Q1c (row i)⟩],⟨⟨rfl,rfl,fun i hi=>Zeg (h1 i hi)⟩,trivial⟩,?_⟩
 show Qcf _ _ (Zk2 n' fun i=>Q1c (row i)) _ _ _ _ _
 rw [vcOr]
 refine ⟨⟨0,⟨by omega,fun j hj=>by omega⟩,rfl,trivial⟩,fun i hi=>?_⟩
 refine Qag (fun h=>?_) fun h=>?_
 · have h':i<n':=by have:=of_decide_eq_true h; omega
   refine ⟨⟨by omega,by omega⟩,Qag (fun h''=>?_) fun h''=>?_⟩
   · have h'':Q1c (row (0 + Int.toNat (i:Int)))≠0:=by simpa using h''
     simp only [Int.toNat_natCast,Nat.zero_add] at h'' ⊢
     obtain ⟨t,ht⟩:=Qkm row h'
     rw [ht,Qmm hi.2]
     simp [orL,h'']
   · have h'':Q1c (row (0 + Int.toNat (i:Int)))=0:=by simpa using h''
     simp only [Int.toNat_natCast,Nat.zero_add] at h''
     refine ⟨i + 1,⟨⟨by omega,fun j hj=>?_⟩,Qck ?_,trivial⟩,by omega⟩
     · rcases Nat.lt_or_eq_of_le (Nat.le_of_lt_succ hj) with hj | rfl
       · exact hi.2 j hj
       · exact h''
     · rw [Qaj ⟨by omega,by omega⟩]; omega
 · have h':¬ i<n':=by have:=of_decide_eq_false h; omega
   have:i=n':=by omega
   subst this
   have:=Qmm hi.2 []
   rw [List.append_nil] at this
   rw [this]; rfl
theorem Qzc:∀ f g,Zlg f=some g→g.ok Tryz.prog f:=Qad Qrc (Qfj Tryz.func49 (by kernel_rfl) (by kernel_rfl) Zfn)
theorem Zdz (a b:Int):orL [[.v (.int .i64 a)],[.v (.int .i64 b)]]=if a=0 then b else a:=by
 show (if a≠0 then a else if b≠0 then b else 0)=_
 by_cases ha:a=0 <;> by_cases hb:b=0 <;> simp [ha,hb]
theorem Qm8 {a b:Int} (h:a<b):Qb7 a b=-1:=if_pos h
theorem Qm9 {a b:Int} (h:b<a):Qb7 a b=1:=by unfold Qb7; rw [if_neg (by omega),if_pos h]
theorem Qqu (a:Int):Qb7 a a=0:=by unfold Qb7; rw [if_neg (by omega),if_neg (by omega)]
theorem Q3f {l1 h1 l2 h2:Int} (p1:U64 l1) (p3:U64 l2):(if Qb7 h1 h2=0 then Qb7 l1 l2 else Qb7 h1 h2)=Qb7 (MM l1 h1) (MM l2 h2):=by
 obtain ⟨_,_⟩:=p1; obtain ⟨_,_⟩:=p3
 rcases Int.lt_trichotomy h1 h2 with h | h | h
 · rw [Qm8 h,if_neg (by decide),Qm8 (by unfold MM; omega)]
 · subst h
   rw [Qqu,if_pos rfl]
   rcases Int.lt_trichotomy l1 l2 with h | h | h
   · rw [Qm8 h,Qm8 (by unfold MM; omega)]
   · subst h; rw [Qqu,Qqu]
   · rw [Qm9 h,Qm9 (by unfold MM; omega)]
 · rw [Qm9 h,if_neg (by decide),Qm9 (by unfold MM; omega)]
theorem Q34:Qaq Tryz.prog 286 Zcp:=Qax hm Qzc Tryz.func286 (Λ:=fun _=>Qay) fun args p x h hp=>by
 unfold Zcp at h
 split at h <;> try (cases h; done)
 rename_i l1 h1 l2 h2
 cases h
 obtain ⟨⟨p1,p2⟩,p3,p4⟩:=hp _ rfl
 refine ⟨rfl,rfl,?_⟩
 rw [show ∀ a b,SV.agg [.v (.int .u64 a),.v (.int .u64 b)]=woS a b from fun _ _=>rfl,show ∀ a b,SV.agg [.v (.int .u64 a),.v (.int .u64 b)]=woS a b from fun _ _=>rfl,Zgk]
 refine ⟨⟨⟨trivial,trivial,trivial⟩,rfl,by decide⟩,Qck ?_⟩
 rw [Zdz,Q3f p1 p3]
theorem Qzb:∀ f g,Zlf f=some g→g.ok Tryz.prog f:=Qad Qzc (Qas Tryz.func286 (by kernel_rfl) (by kernel_rfl) Q34)
theorem Qdm {a b:Int}:0≤Qab a*Qab b:=Int.mul_nonneg (Qbn a) (Qbn b)
theorem Qs3:Qaq Tryz.prog 162 Qpq:=Qax hm Qrc Tryz.func162 (Λ:=fun _=>Qay) fun args p x h hp=>by
 unfold Qpq at h
 split at h <;> try (cases h; done)
 cases h
 obtain ⟨h1,h2⟩:=hp _ rfl
 refine ⟨rfl,rfl,?_⟩
 rw [Qzr]
 exact ⟨h1,h2,⟨Qfp h1,Qfp h2⟩,Qxt rfl rfl rfl⟩
theorem Qx0:Qaq Tryz.prog 259 Q0o:=Qax hm Qrc Tryz.func259 (Λ:=fun _=>Qay) fun args p x h hp=>by
 unfold Q0o at h
 split at h <;> try (cases h; done)
 cases h
 obtain ⟨h1,h2⟩:=hp _ rfl
 refine ⟨rfl,rfl,?_⟩
 rw [Zbl]
 refine ⟨h1,h2,⟨Qfp h1,Qfp h2⟩,Qag (fun h=>Qag (fun h'=>?_) fun h'=>?_) fun h=>?_⟩
 · exact Qw8 (by rw [h,h']; rfl) rfl rfl
 · exact Qw8 (by rw [h,h']; rfl) rfl rfl
 · exact Qw8 (by rw [h]; rfl) rfl rfl
theorem Qu6:Qaq Tryz.prog 262 Qtx:=Qax hm Qrc Tryz.func262 (Λ:=fun _=>Qay) fun args p x h hp=>by
 unfold Qtx at h
 split at h <;> try (cases h; done)
 cases h
 have h1:=hp _ rfl
 refine ⟨rfl,rfl,?_⟩
 rw [Q5y]
 exact ⟨h1,rfl⟩
theorem Qwz (x y:Int):0≤bor x y∧bor x y≤1:=by unfold bor; split <;> omega
theorem Qsr {l1 h1 l2 h2:Int} (p1:U64 l1) (p2:U64 h1) (p3:U64 l2) (p4:U64 h2) (hs:MM l1 h1 + MM l2 h2<340282366920938463463374607431768211456) :
   (l1 + l2 + 0) % 18446744073709551616=(MM l1 h1 + MM l2 h2) % 18446744073709551616∧(h1 + h2 + (l1 + l2 + 0) / 18446744073709551616) % 18446744073709551616=(MM l1 h1 + MM l2 h2) / 18446744073709551616:=by
 obtain ⟨_,_⟩:=p1; obtain ⟨_,_⟩:=p2; obtain ⟨_,_⟩:=p3; obtain ⟨_,_⟩:=p4
 unfold MM at *
 constructor <;> omega
theorem Qi0 {l1 h1 l2 h2:Int} (p1:U64 l1) (p2:U64 h1) (p3:U64 l2) (p4:U64 h2) (hs:MM l2 h2≤MM l1 h1) :
   (l1 - l2 - 0) % 18446744073709551616=Qab (MM l1 h1 - MM l2 h2) % 18446744073709551616∧(h1 - h2 - bor l1 (l2 + 0)) % 18446744073709551616=Qab (MM l1 h1 - MM l2 h2) / 18446744073709551616:=by
 have e:Qab (MM l1 h1 - MM l2 h2)=MM l1 h1 - MM l2 h2:=by unfold Qab; rw [if_neg (by omega)]
 rw [e]
 obtain ⟨_,_⟩:=p1; obtain ⟨_,_⟩:=p2; obtain ⟨_,_⟩:=p3; obtain ⟨_,_⟩:=p4
 unfold MM bor at *
 constructor
 · omega
 · split <;> omega
theorem Qmz (a b:Int):Qab (a - b)=Qab (b - a):=by unfold Qab; split <;> split <;> omega
theorem Q4j:Qaq Tryz.prog 217 Zcw:=Qax hm Qzb Tryz.func217 (Λ:=fun _=>Qay) fun args p x h hp=>by
 unfold Zcw at h
 split at h <;> try (cases h; done)
 rename_i n1 l1 h1 n2 l2 h2
 cases h
 obtain ⟨⟨p1,p2⟩,⟨p3,p4⟩,hs⟩:=hp _ rfl
 refine ⟨rfl,rfl,?_⟩
 rw [show ∀ n lo hi,SV.agg [.v (.bool n),.v (.int .u64 lo),.v (.int .u64 hi)]=exS n lo hi from fun _ _ _=>rfl,show ∀ n lo hi,SV.agg [.v (.bool n),.v (.int .u64 lo),.v (.int .u64 hi)]=exS n lo hi from fun _ _ _=>rfl,Zg4]
 have b1:=Qwz l1 (l2 + 0)
 have b2:=Qwz l2 (l1 + 0)
 refine Qag (fun h=>?_) fun h=>?_
 · have h:n1=n2:=by simpa using h
   obtain ⟨e1,e2⟩:=Qsr p1 p2 p3 p4 hs
   refine ⟨⟨p1,p3,by decide,by decide⟩,⟨p2,p4,by obtain ⟨_,_⟩:=p1; obtain ⟨_,_⟩:=p3; omega,by obtain ⟨_,_⟩:=p1; obtain ⟨_,_⟩:=p3; omega⟩,Qxt ?_ ?_ ?_⟩
   · unfold plN; rw [if_pos h]
   · unfold plM; rw [if_pos h,e1]
   · unfold plM; rw [if_pos h,e2]
 · have h:¬ n1=n2:=fun e=>by rw [e] at h; simp at h
   refine ⟨⟨⟨p1,p2⟩,p3,p4⟩,Qag (fun h'=>?_) fun h'=>?_⟩
   · have h':MM l1 h1<MM l2 h2:=by
       have h':=of_decide_eq_true h'
       unfold Qb7 at h'
       by_cases c:MM l1 h1<MM l2 h2
       · exact c
       · rw [if_neg c] at h'; split at h' <;> omega
     obtain ⟨e1,e2⟩:=Qi0 p3 p4 p1 p2 (Int.le_of_lt h')
     refine ⟨⟨p3,p1,by decide,by decide⟩,⟨p4,p2,b2.1,b2.2⟩,Qxt ?_ ?_ ?_⟩
     · unfold plN; rw [if_neg h,if_pos h']
     · unfold plM; rw [if_neg h,e1,Qmz]
     · unfold plM; rw [if_neg h,e2,Qmz]
   · have h':¬ MM l1 h1<MM l2 h2:=fun c=>by
       have h':=of_decide_eq_false h'
       unfold Qb7 at h'
       rw [if_pos c] at h'
       omega
     obtain ⟨e1,e2⟩:=Qi0 p1 p2 p3 p4 (by omega)
     refine ⟨⟨p1,p3,by decide,by decide⟩,⟨p2,p4,b1.1,b1.2⟩,Qxt ?_ ?_ ?_⟩
     · unfold plN; rw [if_neg h,if_neg h']
     · unfold plM; rw [if_neg h,e1]
     · unfold plM; rw [if_neg h,e2]
theorem Ql1 {n n':Bool} {lo lo' hi hi':Int} (h1:n=n') (h3:hi=hi') (h2:lo=lo'):SV.agg [.v (.bool n),.v (.int .u64 hi),.v (.int .u64 lo)]=wiS n' hi' lo':=Qw8 h1 h2 h3
theorem Qny {m:Int}:(m / 18446744073709551616=0∧m % 18446744073709551616=0)↔m=0:=by omega
theorem Qx4:Qaq Tryz.prog 258 Q0t:=Qax hm Qrc Tryz.func258 (Λ:=fun _=>Qay) fun args p x h hp=>by
 unfold Q0t at h
 split at h <;> try (cases h; done)
 rename_i n1 h1 l1 n2 h2 l2
 cases h
 obtain ⟨⟨p1,p2⟩,⟨p3,p4⟩,hs⟩:=hp _ rfl
 refine ⟨rfl,rfl,?_⟩
 rw [show ∀ n lo hi,SV.agg [.v (.bool n),.v (.int .u64 hi),.v (.int .u64 lo)]=wiS n hi lo from fun _ _ _=>rfl,show ∀ n lo hi,SV.agg [.v (.bool n),.v (.int .u64 hi),.v (.int .u64 lo)]=wiS n hi lo from fun _ _ _=>rfl,Zbp]
 have b1:=Qwz l1 (l2 + 0)
 have b2:=Qwz l2 (l1 + 0)
 refine Qag (fun h=>?_) fun h=>⟨⟨p1,p3⟩,Qag (fun h'=>?_) fun h'=>?_⟩
 · have h:n1=n2:=by simpa using h
   obtain ⟨e1,e2⟩:=Qsr p1 p2 p3 p4 hs
   refine ⟨⟨p1,p3,by decide,by decide⟩,⟨p2,p4,by obtain ⟨_,_⟩:=p1; obtain ⟨_,_⟩:=p3; omega,by obtain ⟨_,_⟩:=p1; obtain ⟨_,_⟩:=p3; omega⟩,Ql1 ?_ ?_ ?_⟩
   · unfold plZ; rw [if_pos h]
   · unfold plM; rw [if_pos h,e2]
   · unfold plM; rw [if_pos h,e1]
 · have h:¬ n1=n2:=fun e=>by rw [e] at h; simp at h
   have h':MM l1 h1<MM l2 h2:=of_decide_eq_true h'
   obtain ⟨e1,e2⟩:=Qi0 p3 p4 p1 p2 (Int.le_of_lt h')
   have hz:=Qny (m:=Qab (MM l2 h2 - MM l1 h1))
   have hz':Qab (MM l2 h2 - MM l1 h1)≠0:=by unfold Qab; split <;> omega
   have s1:plZ n1 (MM l1 h1) n2 (MM l2 h2)=n2:=by unfold plZ; rw [if_neg h,if_pos h']
   have s2:plM n1 (MM l1 h1) n2 (MM l2 h2)=Qab (MM l2 h2 - MM l1 h1):=by unfold plM; rw [if_neg h,Qmz]
   refine ⟨⟨p3,p1,by decide,by decide⟩,⟨p4,p2,b2.1,b2.2⟩,Qag (fun g=>Qag (fun g'=>?_) fun g'=>?_) fun g=>?_⟩
   · exact Ql1 (by rw [s1,g]) (by rw [s2,e2]) (by rw [s2,e1])
   · refine Ql1 ?_ (by rw [s2,e2]) (by rw [s2,e1])
     rw [s1,g,e1]
     have g':(h2 - h1 - bor l2 (l1 + 0)) % 18446744073709551616=0:=by simpa using g'
     rw [e2] at g'
     simp only [bne_iff_ne,ne_eq]
     exact fun e=>hz' (hz.1 ⟨g',e⟩)
   · exact Ql1 (by rw [s1,g]) (by rw [s2,e2]) (by rw [s2,e1])
 · have h:¬ n1=n2:=fun e=>by rw [e] at h; simp at h
   have h':¬ MM l1 h1<MM l2 h2:=of_decide_eq_false h'
   obtain ⟨e1,e2⟩:=Qi0 p1 p2 p3 p4 (by omega)
   have hz:=Qny (m:=Qab (MM l1 h1 - MM l2 h2))
   have hz':Qab (MM l1 h1 - MM l2 h2)=0↔MM l1 h1=MM l2 h2:=by unfold Qab; split <;> omega
   have s1:plZ n1 (MM l1 h1) n2 (MM l2 h2)=(n1&&MM l1 h1 != MM l2 h2):=by unfold plZ; rw [if_neg h,if_neg h']
   have s2:plM n1 (MM l1 h1) n2 (MM l2 h2)=Qab (MM l1 h1 - MM l2 h2):=by unfold plM; rw [if_neg h]
   refine ⟨⟨p1,p3,by decide,by decide⟩,⟨p2,p4,b1.1,b1.2⟩,Qag (fun g=>Qag (fun g'=>?_) fun g'=>?_) fun g=>?_⟩
   · refine Ql1 ?_ (by rw [s2,e2]) (by rw [s2,e1])
     have g':(h1 - h2 - bor l1 (l2 + 0)) % 18446744073709551616≠0:=by simpa using g'
     rw [e2] at g'
     rw [s1,g]
     exact (bne_iff_ne.2 fun e=>g' (hz.2 (hz'.2 e)).1).symm
   · refine Ql1 ?_ (by rw [s2,e2]) (by rw [s2,e1])
     have g':(h1 - h2 - bor l1 (l2 + 0)) % 18446744073709551616=0:=by simpa using g'
     rw [e2] at g'
     rw [s1,g,e1]
     rw [Bool.true_and]
     by_cases c:MM l1 h1=MM l2 h2
     · have:=(hz.2 (hz'.2 c)).2
       rw [this,c,bne_self_eq_false,bne_self_eq_false]
     · have:Qab (MM l1 h1 - MM l2 h2) % 18446744073709551616≠0:=fun e=>c (hz'.1 (hz.1 ⟨g',e⟩))
       rw [bne_iff_ne.2 this,bne_iff_ne.2 c]
   · exact Ql1 (by rw [s1,g]; rfl) (by rw [s2,e2]) (by rw [s2,e1])
theorem Qe9:∀ f g,ΓC f=some g→g.ok Tryz.prog f:=Qad (Qad (Qad (Qad (Qad Qzb (Qas Tryz.func162 (by kernel_rfl) (by kernel_rfl) Qs3))
 (Qas Tryz.func217 (by kernel_rfl) (by kernel_rfl) Q4j)) (Qas Tryz.func259 (by kernel_rfl) (by kernel_rfl) Qx0))
 (Qas Tryz.func262 (by kernel_rfl) (by kernel_rfl) Qu6)) (Qas Tryz.func258 (by kernel_rfl) (by kernel_rfl) Qx4)
def Qbd (v:Int):Int:=if Int.tmod v 26986075409 > 13493037704 then Int.tmod v 26986075409 - 26986075409 else if Int.tmod v 26986075409 < -13493037704 then Int.tmod v 26986075409 + 26986075409 else Int.tmod v 26986075409
def Q0y:List SV→Option (Option Prop×SV)
 | [.v (.int .i64 a),.v (.int .i64 b),.v (.int .i64 c),.v (.int .i64 d)]=>some (some ((I64 a∧I64 b)∧I64 c∧I64 d),.v (.int .i64 (Qb7 (a*b) (c*d))))
 | _=>none
def sFloor:List SV→Option (Option Prop×SV)
 | [.agg [.v (.int .i64 v),.v (.bool _)]]=>some (none,.v (.int .i64 (Qaa v / 4294967296)))
 | _=>none
def Q0r:List SV→Option (Option Prop×SV)
 | [.agg [.v (.int .i64 v),.v (.bool _)]]=>some (some (I64 v),.v (.int .i64 ((Qaa v + 2147483648) / 4294967296)))
 | _=>none
def sOfN:List SV→Option (Option Prop×SV)
 | [.v (.int .i64 v)]=>some (none,Qe4 (Qaa v) (Qa8 v false))
 | _=>none
def Zmm:List SV→Option (Option Prop×SV)
 | [.v (.int .i64 v)]=>some (some (I64 v),Qe4 (Qbb (v*4294967296)) (Qe7 (v*4294967296) false))
 | _=>none
def Zko:List SV→Option (Option Prop×SV)
 | [.agg [.v (.int .i64 v),.v (.bool f)]]=>some (some (I64 v),Qe4 (-Qaa v) (Qa8 v f))
 | _=>none
def sAbs:List SV→Option (Option Prop×SV)
 | [.agg [.v (.int .i64 v),.v (.bool f)]]=>some (some (I64 v),Qe4 (Qab (Qaa v)) (Qa8 v f))
 | _=>none
def sCmpN:List SV→Option (Option Prop×SV)
 | [.agg [.v (.int .i64 v),.v (.bool _)],.agg [.v (.int .i64 u),.v (.bool _)]]=>some (none,.v (.int .i64 (Qb7 (Qaa v) (Qaa u))))
 | _=>none
def Zco:List SV→Option (Option Prop×SV)
 | [.agg [.v (.int .i64 v),.v (.bool f)]]=>some (some (I64 v),Qe4 (Qbd (Qaa v)) (Qa8 v f))
 | _=>none
def Qbj (a b:Int):Int:=Int.tdiv (a*b) 4294967296
def Zmk:List SV→Option (Option Prop×SV)
 | [.agg [.v (.int .i64 v),.v (.bool f)],.agg [.v (.int .i64 u),.v (.bool g)]]=>some (some (I64 v∧I64 u),Qe4 (Qbb (Qbj (Qaa v) (Qaa u))) (Qe7 (Qbj (Qaa v) (Qaa u)) (Qa8 v f||Qa8 u g)))
 | _=>none
theorem Zbx (a b c d:Int) (R:SV→Prop):(Qbe Tryz.prog ΓC Qay Tryz.f208 [.v (.int .i64 a),.v (.int .i64 b),.v (.int .i64 c),.v (.int .i64 d)] R) =
(((I64 a)∧(I64 b))∧(((I64 c)∧(I64 d))∧((((U64 (Qab a*Qab b % 18446744073709551616))∧(U64 (Qab a*Qab b / 18446744073709551616)))∧(((U64 (Qab c*Qab d % 18446744073709551616))∧(U64 (Qab c*Qab d / 18446744073709551616)))∧(((MM (Qab a*Qab b % 18446744073709551616) (Qab a*Qab b / 18446744073709551616) + MM (Qab c*Qab d % 18446744073709551616) (Qab c*Qab d / 18446744073709551616)):Int)<340282366920938463463374607431768211456)))∧(sel (plM (!decide (a<0)==decide (b<0)) (MM (Qab a*Qab b % 18446744073709551616) (Qab a*Qab b / 18446744073709551616)) (!!decide (c<0)==decide (d<0)) (MM (Qab c*Qab d % 18446744073709551616) (Qab c*Qab d / 18446744073709551616)) % 18446744073709551616==0&&plM (!decide (a<0)==decide (b<0)) (MM (Qab a*Qab b % 18446744073709551616) (Qab a*Qab b / 18446744073709551616)) (!!decide (c<0)==decide (d<0)) (MM (Qab c*Qab d % 18446744073709551616) (Qab c*Qab d / 18446744073709551616)) / 18446744073709551616==0) (R (SV.v (.int .i64 0))) (sel (plN (!decide (a<0)==decide (b<0)) (MM (Qab a*Qab b % 18446744073709551616) (Qab a*Qab b / 18446744073709551616)) (!!decide (c<0)==decide (d<0)) (MM (Qab c*Qab d % 18446744073709551616) (Qab c*Qab d / 18446744073709551616))) (R (SV.v (.int .i64 (-1)))) (R (SV.v (.int .i64 1)))))))):=by kernel_rfl
theorem Q5v (v:Int) (f:Bool) (R:SV→Prop):(Qbe Tryz.prog ΓC Qay Tryz.f175 [Qe4 v f] R)=(R (SV.v (.int .i64 (IntKind.wrap IntKind.i64 (Qaa v / 4294967296 + bits BinOp.and IntKind.i64 (Qaa v / 2147483648) 1))))):=by kernel_rfl
theorem Zgu (v:Int) (R:SV→Prop):(Qbe Tryz.prog ΓC Qay Tryz.f174 [.v (.int .i64 v)] R)=((I64 v)∧(((U64 (Qab v))∧((U64 0)∧(((MM (Qab v) 0):Int)<79228162514264337593543950336)))∧(((U64 (MM (Qab v) 0*4294967296 % 18446744073709551616))∧(U64 (MM (Qab v) 0*4294967296 / 18446744073709551616)))∧(R (SV.agg [(SV.v (.int .i64 (Qus (decide (v<0)) (MM (MM (Qab v) 0*4294967296 % 18446744073709551616) (MM (Qab v) 0*4294967296 / 18446744073709551616))))),(SV.v (.bool (Qq7 (MM (MM (Qab v) 0*4294967296 % 18446744073709551616) (MM (Qab v) 0*4294967296 / 18446744073709551616)) false)))]))))):=by kernel_rfl
theorem Zgq (v:Int) (f:Bool) (R:SV→Prop):(Qbe Tryz.prog ΓC Qay Tryz.f263 [Qe4 v f] R)=(R (SV.agg [(SV.v (.int .i64 (IntKind.wrap IntKind.i64 (0 - Qaa v)))),(SV.v (.bool (Qa8 v f)))])):=by kernel_rfl
theorem Zg1 (v:Int) (f:Bool) (R:SV→Prop):(Qbe Tryz.prog ΓC Qay Tryz.f173 [Qe4 v f] R)=(sel (decide (Qaa v<0)) (R (SV.agg [(SV.v (.int .i64 (IntKind.wrap IntKind.i64 (0 - Qaa v)))),(SV.v (.bool (Qa8 v f)))])) (R (SV.agg [(SV.v (.int .i64 (Qaa v))),(SV.v (.bool (Qa8 v f)))]))):=by kernel_rfl
theorem Zbm (v:Int) (f:Bool) (R:SV→Prop):(Qbe Tryz.prog ΓC Qay Tryz.f268 [Qe4 v f] R)=(sel (decide (Int.tmod (Qaa v) 26986075409 > 13493037704)) (sel (decide (IntKind.wrap IntKind.i64 (Int.tmod (Qaa v) 26986075409 - 26986075409) < -13493037704)) (R (SV.agg [(SV.v (.int .i64 (IntKind.wrap IntKind.i64 (IntKind.wrap IntKind.i64 (Int.tmod (Qaa v) 26986075409 - 26986075409) + 26986075409)))),(SV.v (.bool (Qa8 v f)))])) (R (SV.agg [(SV.v (.int .i64 (IntKind.wrap IntKind.i64 (Int.tmod (Qaa v) 26986075409 - 26986075409)))),(SV.v (.bool (Qa8 v f)))]))) (sel (decide (Int.tmod (Qaa v) 26986075409 < -13493037704)) (R (SV.agg [(SV.v (.int .i64 (IntKind.wrap IntKind.i64 (Int.tmod (Qaa v) 26986075409 + 26986075409)))),(SV.v (.bool (Qa8 v f)))])) (R (SV.agg [(SV.v (.int .i64 (Int.tmod (Qaa v) 26986075409))),(SV.v (.bool (Qa8 v f)))])))):=by kernel_rfl
theorem Zgr (v:Int) (f:Bool) (u:Int) (g:Bool) (R:SV→Prop):(Qbe Tryz.prog ΓC Qay Tryz.f176 [Qe4 v f,Qe4 u g] R)=(((I64 (Qaa v))∧(I64 (Qaa u)))∧(((U64 (Qab (Qaa v)*Qab (Qaa u) % 18446744073709551616))∧(U64 (Qab (Qaa v)*Qab (Qaa u) / 18446744073709551616)))∧(sel (Qa8 v f) (((U64 (MM (Qab (Qaa v)*Qab (Qaa u) % 18446744073709551616) (Qab (Qaa v)*Qab (Qaa u) / 18446744073709551616) / 4294967296 % 18446744073709551616))∧(U64 (MM (Qab (Qaa v)*Qab (Qaa u) % 18446744073709551616) (Qab (Qaa v)*Qab (Qaa u) / 18446744073709551616) / 4294967296 / 18446744073709551616)))∧(R (SV.agg [(SV.v (.int .i64 (Qus (!decide (Qaa v<0)==decide (Qaa u<0)&&Qaa v != 0&&Qaa u != 0) (MM (MM (Qab (Qaa v)*Qab (Qaa u) % 18446744073709551616) (Qab (Qaa v)*Qab (Qaa u) / 18446744073709551616) / 4294967296 % 18446744073709551616) (MM (Qab (Qaa v)*Qab (Qaa u) % 18446744073709551616) (Qab (Qaa v)*Qab (Qaa u) / 18446744073709551616) / 4294967296 / 18446744073709551616))))),(SV.v (.bool (Qq7 (MM (MM (Qab (Qaa v)*Qab (Qaa u) % 18446744073709551616) (Qab (Qaa v)*Qab (Qaa u) / 18446744073709551616) / 4294967296 % 18446744073709551616) (MM (Qab (Qaa v)*Qab (Qaa u) % 18446744073709551616) (Qab (Qaa v)*Qab (Qaa u) / 18446744073709551616) / 4294967296 / 18446744073709551616)) true)))]))) (((U64 (MM (Qab (Qaa v)*Qab (Qaa u) % 18446744073709551616) (Qab (Qaa v)*Qab (Qaa u) / 18446744073709551616) / 4294967296 % 18446744073709551616))∧(U64 (MM (Qab (Qaa v)*Qab (Qaa u) % 18446744073709551616) (Qab (Qaa v)*Qab (Qaa u) / 18446744073709551616) / 4294967296 / 18446744073709551616)))∧(R (SV.agg [(SV.v (.int .i64 (Qus (!decide (Qaa v<0)==decide (Qaa u<0)&&Qaa v != 0&&Qaa u != 0) (MM (MM (Qab (Qaa v)*Qab (Qaa u) % 18446744073709551616) (Qab (Qaa v)*Qab (Qaa u) / 18446744073709551616) / 4294967296 % 18446744073709551616) (MM (Qab (Qaa v)*Qab (Qaa u) % 18446744073709551616) (Qab (Qaa v)*Qab (Qaa u) / 18446744073709551616) / 4294967296 / 18446744073709551616))))),(SV.v (.bool (Qq7 (MM (MM (Qab (Qaa v)*Qab (Qaa u) % 18446744073709551616) (Qab (Qaa v)*Qab (Qaa u) / 18446744073709551616) / 4294967296 % 18446744073709551616) (MM (Qab (Qaa v)*Qab (Qaa u) % 18446744073709551616) (Qab (Qaa v)*Qab (Qaa u) / 18446744073709551616) / 4294967296 / 18446744073709551616)) (Qa8 u g))))])))))):=by kernel_rfl
theorem Qel {a:Int} (h:a<0):Qab a=-a:=by unfold Qab; rw [if_pos h]
theorem Qek {a:Int} (h:¬ a<0):Qab a=a:=by unfold Qab; rw [if_neg h]
theorem Qjt (a b:Int):sv (!(decide (a<0)==decide (b<0))) (Qab a*Qab b)=a*b:=by
 unfold sv
 by_cases ha:a<0 <;> by_cases hb:b<0
 · rw [Qel ha,Qel hb]; simp [ha,hb,Int.neg_mul_neg]
 · rw [Qel ha,Qek hb]; simp [ha,hb,Int.neg_mul]
 · rw [Qek ha,Qel hb]; simp [ha,hb,Int.mul_neg]
 · rw [Qek ha,Qek hb]; simp [ha,hb]
theorem Qi2 (a b:Int):sv (!(decide (a<0)==decide (b<0))&&a != 0&&b != 0) (Qab a*Qab b)=a*b:=by
 by_cases ha:a=0
 · subst ha; simp [sv,Qab]
 · by_cases hb:b=0
   · subst hb; simp [sv,Qab]
   · rw [bne_iff_ne.2 ha,bne_iff_ne.2 hb,Bool.and_true,Bool.and_true,Qjt]
theorem Qz7 (n:Bool) {m k:Int} (h:0≤m):sv n (m / k)=Int.tdiv (sv n m) k:=by
 unfold sv
 cases n with
 | false=>simp [Int.tdiv_eq_ediv_of_nonneg h]
 | true=>simp [Int.neg_tdiv,Int.tdiv_eq_ediv_of_nonneg h]
theorem Qds {a b:Int} (ha:I64 a) (hb:I64 b):Qab a*Qab b≤85070591730234615865843651857942052864:=by
 have h1:=Qhh ha
 have h2:=Qhh hb
 have:=Int.mul_le_mul h1 h2 (Qbn b) (by decide)
 simpa using this
theorem Qyc:Qaq Tryz.prog 208 Q0y:=Qax hm Qe9 Tryz.func208 (Λ:=fun _=>Qay) fun args p x h hp=>by
 unfold Q0y at h
 split at h <;> try (cases h; done)
 rename_i a b c d
 cases h
 obtain ⟨⟨h1,h2⟩,h3,h4⟩:=hp _ rfl
 refine ⟨rfl,rfl,?_⟩
 rw [Zbx]
 have l1:=Qds h1 h2
 have l2:=Qds h3 h4
 have n1:=Qdm (a:=a) (b:=b)
 have n2:=Qdm (a:=c) (b:=d)
 have s1:=Qjt a b
 have s2:=Qjt c d
 simp only [Qfs]
 have hv:=Ziq (!(decide (a<0)==decide (b<0))) (Qab a*Qab b) (!!(decide (c<0)==decide (d<0))) (Qab c*Qab d)
 have hn:=Qn7 (n1:=!(decide (a<0)==decide (b<0))) (n2:=!!(decide (c<0)==decide (d<0))) n1 n2
 have hneg:∀ (n:Bool) (m:Int),sv (!n) m=- sv n m:=fun n m=>by unfold sv; cases n <;> simp
 rw [hneg (!(decide (c<0)==decide (d<0))),s2,s1] at hv
 generalize plM (!(decide (a<0)==decide (b<0))) (Qab a*Qab b) (!!(decide (c<0)==decide (d<0))) (Qab c*Qab d)=m at hv hn ⊢
 generalize plN (!(decide (a<0)==decide (b<0))) (Qab a*Qab b) (!!(decide (c<0)==decide (d<0))) (Qab c*Qab d)=n at hv ⊢
 refine ⟨⟨h1,h2⟩,⟨h3,h4⟩,⟨⟨Qdp _,Qd6 n1 (by omega)⟩,⟨Qdp _,Qd6 n2 (by omega)⟩,by omega⟩,Qag (fun g=>?_) fun g=>?_⟩
 · have g:m=0:=by simp at g; omega
   subst g
   refine Qck ?_
   have:a*b=c*d:=by unfold sv at hv; cases n <;> simp at hv <;> omega
   rw [this,Qqu]
 · have g:m≠0:=fun e=>by rw [e] at g; simp at g
   refine Qag (fun g'=>Qck ?_) fun g'=>Qck ?_
   · subst g'
     rw [Qm8]
     unfold sv at hv; simp at hv; omega
   · subst g'
     rw [Qm9]
     unfold sv at hv; simp at hv; omega
theorem Qvl {v:Int} (h:I64 v):IntKind.i64.wrap (0 - Qaa v)=- Qaa v:=by
 have:=Qjq h
 rw [Qaj ⟨by omega,by omega⟩]; omega
theorem Q7i (n:Int):bits .and .i64 n 1=n % 2:=by
 have h1:(BitVec.ofInt 64 1).toNat=2 ^ 1 - 1:=by decide
 have key:(BitVec.ofInt 64 n &&& BitVec.ofInt 64 1).toNat=(n % ((2 ^ 64:Nat):Int)).toNat % 2:=by
   rw [BitVec.toNat_and,BitVec.toNat_ofInt,h1,Nat.and_two_pow_sub_one_eq_mod]
 show IntKind.i64.wrap ((BitVec.ofInt 64 n &&& BitVec.ofInt 64 1).toNat:Nat)=n % 2
 rw [key,Qaj ⟨by omega,by omega⟩]
 omega
theorem Qu4:Qaq Tryz.prog 175 Q0r:=Qax hm Qe9 Tryz.func175 (Λ:=fun _=>Qay) fun args p x h hp=>by
 unfold Q0r at h
 split at h <;> try (cases h; done)
 cases h
 have h1:=Qjq (hp _ rfl)
 refine ⟨rfl,rfl,?_⟩
 rw [show ∀ v f,SV.agg [.v (.int .i64 v),.v (.bool f)]=Qe4 v f from fun _ _=>rfl,Q5v]
 refine Qck ?_
 rw [Q7i,Qaj ⟨by omega,by omega⟩]; omega
theorem Znr (lo:Int):MM lo 0=lo:=by unfold MM; omega
theorem Zch (v:Int):sv (decide (v<0)) (Qab v)=v:=by
 unfold sv
 by_cases h:v<0
 · rw [Qel h]; simp [h]
 · rw [Qek h]; simp [h]
theorem Qve (n:Bool) (m k:Int):sv n (m*k)=sv n m*k:=by unfold sv; cases n <;> simp [Int.neg_mul]
theorem Zlz:U64 0:=⟨by decide,by decide⟩
theorem Qsy:Qaq Tryz.prog 174 Zmm:=Qax hm Qe9 Tryz.func174 (Λ:=fun _=>Qay) fun args p x h hp=>by
 unfold Zmm at h
 split at h <;> try (cases h; done)
 cases h
 have h1:=hp _ rfl
 have h2:=Qhh h1
 have h3:=Qbn ‹Int›
 refine ⟨rfl,rfl,?_⟩
 rw [Zgu]
 simp only [Znr,Qfs]
 refine ⟨h1,⟨Qfp h1,Zlz,by omega⟩,⟨Qdp _,Qd6 (by omega) (by omega)⟩,Qdg ?_ ?_⟩
 · rw [Qon _ (by omega),Qve,Zch]
 · rw [Qoo (decide (‹Int›<0)) _ (by omega),Qve,Zch]
theorem Qnk:Qaq Tryz.prog 263 Zko:=Qax hm Qe9 Tryz.func263 (Λ:=fun _=>Qay) fun args p x h hp=>by
 unfold Zko at h
 split at h <;> try (cases h; done)
 cases h
 have h1:=hp _ rfl
 refine ⟨rfl,rfl,?_⟩
 rw [show ∀ v f,SV.agg [.v (.int .i64 v),.v (.bool f)]=Qe4 v f from fun _ _=>rfl,Zgq,Qvl h1]
 rfl
theorem Q4g:Qaq Tryz.prog 173 sAbs:=Qax hm Qe9 Tryz.func173 (Λ:=fun _=>Qay) fun args p x h hp=>by
 unfold sAbs at h
 split at h <;> try (cases h; done)
 cases h
 have h1:=hp _ rfl
 refine ⟨rfl,rfl,?_⟩
 rw [show ∀ v f,SV.agg [.v (.int .i64 v),.v (.bool f)]=Qe4 v f from fun _ _=>rfl,Zg1,Qvl h1]
 refine Qag (fun g=>Qdg ?_ rfl) fun g=>Qdg ?_ rfl
 · rw [Qel (of_decide_eq_true g)]
 · rw [Qek (of_decide_eq_false g)]
theorem Zcd (v:Int):-26986075409<Int.tmod v 26986075409∧Int.tmod v 26986075409<26986075409:=by
 have h1:=Int.tmod_lt_of_pos v (show (0:Int)<26986075409 by decide)
 have h2:=Int.tmod_lt_of_pos (-v) (show (0:Int)<26986075409 by decide)
 rw [Int.neg_tmod] at h2
 omega
theorem Qx1:Qaq Tryz.prog 268 Zco:=Qax hm Qe9 Tryz.func268 (Λ:=fun _=>Qay) fun args p x h hp=>by
 unfold Zco at h
 split at h <;> try (cases h; done)
 rename_i v f
 cases h
 refine ⟨rfl,rfl,?_⟩
 rw [show ∀ v f,SV.agg [.v (.int .i64 v),.v (.bool f)]=Qe4 v f from fun _ _=>rfl,Zbm]
 have ht:=Zcd (Qaa v)
 unfold Qbd
 generalize Int.tmod (Qaa v) 26986075409=r at ht ⊢
 refine Qag (fun h=>Qag (fun h'=>?_) fun h'=>Qdg ?_ rfl) fun h=>Qag (fun h'=>Qdg ?_ rfl) fun h'=>Qdg ?_ rfl
 · have h:=of_decide_eq_true h
   have h':=of_decide_eq_true h'
   rw [Qaj ⟨by omega,by omega⟩] at h'
   omega
 · have h:=of_decide_eq_true h
   rw [if_pos h,Qaj ⟨by omega,by omega⟩]
 · have h:=of_decide_eq_false h
   have h':=of_decide_eq_true h'
   rw [if_neg h,if_pos h',Qaj ⟨by omega,by omega⟩]
 · rw [if_neg (of_decide_eq_false h),if_neg (of_decide_eq_false h')]
theorem Qsw:Qaq Tryz.prog 176 Zmk:=Qax hm Qe9 Tryz.func176 (Λ:=fun _=>Qay) fun args p x h hp=>by
 unfold Zmk at h
 split at h <;> try (cases h; done)
 rename_i v f u g
 cases h
 obtain ⟨h1,h2⟩:=hp _ rfl
 have h1:=Qe0 h1
 have h2:=Qe0 h2
 refine ⟨rfl,rfl,?_⟩
 rw [show SV.agg [.v (.int .i64 v),.v (.bool f)]=Qe4 v f from rfl,show SV.agg [.v (.int .i64 u),.v (.bool g)]=Qe4 u g from rfl,Zgr]
 simp only [Qfs]
 have l1:=Qds h1 h2
 have n1:=Qdm (a:=Qaa v) (b:=Qaa u)
 have s1:=Qi2 (Qaa v) (Qaa u)
 generalize Qab (Qaa v)*Qab (Qaa u)=m at *
 generalize (!(decide (Qaa v<0)==decide (Qaa u<0))&&Qaa v != 0&&Qaa u != 0)=n at *
 have e:sv n (m / 4294967296)=Qbj (Qaa v) (Qaa u):=by rw [Qz7 n n1,s1]; rfl
 refine ⟨⟨h1,h2⟩,⟨Qdp _,Qd6 n1 (by omega)⟩,Qag (fun hf=>⟨⟨Qdp _,Qd6 (by omega) (by omega)⟩,Qdg ?_ ?_⟩) fun hf=>⟨⟨Qdp _,Qd6 (by omega) (by omega)⟩,Qdg ?_ ?_⟩⟩
 · rw [Qon _ (by omega),e]
 · rw [Qoo n _ (by omega),e,hf,Bool.true_or]
 · rw [Qon _ (by omega),e]
 · rw [Qoo n _ (by omega),e,hf,Bool.false_or]
def isN:List SV→Prop
 | [.v (.int .i64 _),.v (.bool _)]=>True
 | _=>False
def Qd8 (l:List SV):Int:=match l with | [.v (.int _ v),_]=>v | _=>0
def Qjy (l:List SV):Bool:=match l with | [_,.v (.bool f)]=>f | _=>false
def Zaj:List (List SV)→Bool
 | []=>false
 | r :: t=>Qjy r||Zaj t
def Qkf:List (List SV)→Bool
 | []=>false
 | r :: t=>Qa8 (Qd8 r) (Qjy r)||Qkf t
def Qi4 (v:Nat→Int) (f:Nat→Bool):Nat→List SV:=fun i=>[.v (.int .i64 (v i)),.v (.bool (f i))]
def sFlags:List SV→List Ro→Option (Option Prop×SV)
 | [.sl 0 2 0 n _],[⟨2,n',row⟩]=>some (some (Qe3 isN (Qau n' row)∧n'=n∧n<4611686018427387904),.v (.bool (Zaj (Qau n row))))
 | _,_=>none
def Qlj:List SV→List Ro→Option (Option Prop×SV)
 | [.sl 0 2 0 n _],[⟨2,n',row⟩]=>some (some (Qe3 isN (Qau n' row)∧n'=n∧n<4611686018427387904),.v (.bool (Qkf (Qau n row))))
 | _,_=>none
noncomputable def Qlz (n:Nat) (g:Nat→Bool):Nat→Option LoopSpec:=Qdv Qay Tryz.f300 0 Nat (fun i=>i≤n∧∀ j,j<i→g j=false) (fun i=>n - i) [(3,fun i=>.v (.int .i64 i))] []
theorem Qzt (n n' c:Nat) (v:Nat→Int) (f g:Nat→Bool) (R:SV→Prop):(Qcf Tryz.prog ΓC (Qlz n g) Tryz.f300 [.sl 0 2 0 n c] (Qbl [⟨2,n',Qi4 v f⟩]) 64 (fun y _=>R y))=((∃ x:Nat,((((x:Nat)≤n)∧(∀ j:Nat,(((j:Nat)<x)→(g j=false))))∧(((SV.v (.int .i64 0))=(SV.v (.int .i64 ((↑x:Int)))))∧True)))∧(∀ x:Nat,((((x:Nat)≤n)∧(∀ j:Nat,(((j:Nat)<x)→(g j=false))))→(sel (decide ((↑x:Int)<(↑n:Int))) ((((0:Int)≤((↑x:Int)))∧((((↑x:Int)):Int)<((↑n:Int))))∧(sel (Qa8 (v (0 + Int.toNat (↑x:Int))) (f (0 + Int.toNat (↑x:Int)))) (R (SV.v (.bool true))) (∃ x':Nat,(((((x':Nat)≤n)∧(∀ j:Nat,(((j:Nat)<x')→(g j=false))))∧(((SV.v (.int .i64 (IntKind.wrap IntKind.i64 ((↑x:Int) + 1))))=(SV.v (.int .i64 ((↑x':Int)))))∧True))∧(((n - x'):Nat)<(n - x)))))) (R (SV.v (.bool false))))))):=by kernel_rfl
theorem Qmx {r:List SV} (h:isN r):r=[.v (.int .i64 (Qd8 r)),.v (.bool (Qjy r))]:=by
 unfold isN at h
 split at h
 · rfl
 · exact h.elim
theorem Qu2 (a b:List (List SV)):Zaj (a++b)=(Zaj a||Zaj b):=by
 induction a with
 | nil=>rfl
 | cons r t ih=>simp [Zaj,ih,Bool.or_assoc]
theorem Qxy {row:Nat→List SV}:∀ {i:Nat},(∀ j,j<i→Qjy (row j)=false)→Zaj (Qau i row)=false
 | 0,_=>rfl
 | i + 1,h=>by
   rw [Qgg,Qu2,Qxy fun j hj=>h j (by omega)]
   simp [Zaj,h i (by omega)]
theorem Qnf (a b:List (List SV)):Qkf (a++b)=(Qkf a||Qkf b):=by
 induction a with
 | nil=>rfl
 | cons r t ih=>simp [Qkf,ih,Bool.or_assoc]
theorem Qo2 {row:Nat→List SV}:∀ {i:Nat},(∀ j,j<i→Qa8 (Qd8 (row j)) (Qjy (row j))=false)→Qkf (Qau i row)=false
 | 0,_=>rfl
 | i + 1,h=>by
   rw [Qgg,Qnf,Qo2 fun j hj=>h j (by omega)]
   simp [Qkf,h i (by omega)]
theorem Q8b {n i:Nat} {row:Nat→List SV} (hi:i<n) (h:Qa8 (Qd8 (row i)) (Qjy (row i))=true):Qkf (Qau n row)=true:=by
 obtain ⟨t,ht⟩:=Qkm row hi
 rw [ht,Qnf]
 simp [Qkf,h]
theorem Qkz:Qc7 Tryz.prog 300 Qlj:=Qcq hm Qe9 Tryz.func300 (Λ:=fun args bs=>match args,bs with | [.sl 0 2 0 n _],[⟨2,_,row⟩]=>Qlz n (fun i=>Qa8 (Qd8 (row i)) (Qjy (row i))) | _,_=>Qay) fun args bs p x h hp=>by
 unfold Qlj at h
 split at h <;> try (cases h; done)
 rename_i n c n' row
 cases h
 obtain ⟨h1,rfl,h3⟩:=hp _ rfl
 have h1:=okAll_rows.1 h1
 refine ⟨rfl,[⟨2,n',Qi4 (fun i=>Qd8 (row i)) fun i=>Qjy (row i)⟩],⟨⟨rfl,rfl,fun i hi=>Qmx (h1 i hi)⟩,trivial⟩,?_⟩
 show Qcf _ _ (Qlz n' fun i=>Qa8 (Qd8 (row i)) (Qjy (row i))) _ _ _ _ _
 rw [Qzt]
 refine ⟨⟨0,⟨by omega,fun j hj=>by omega⟩,rfl,trivial⟩,fun i hi=>?_⟩
 refine Qag (fun h=>?_) fun h=>?_
 · have h':i<n':=by have:=of_decide_eq_true h; omega
   simp only [Int.toNat_natCast,Nat.zero_add]
   refine ⟨⟨by omega,by omega⟩,Qag (fun h''=>Qke (Q8b h' h'').symm) fun h''=>⟨i + 1,⟨⟨by omega,fun j hj=>?_⟩,Qck ?_,trivial⟩,by omega⟩⟩
   · rcases Nat.lt_or_eq_of_le (Nat.le_of_lt_succ hj) with hj | rfl
     · exact hi.2 j hj
     · exact h''
   · rw [Qaj ⟨by omega,by omega⟩]; omega
 · have h':¬ i<n':=by have:=of_decide_eq_false h; omega
   have:i=n':=by omega
   subst this
   exact Qke (Qo2 hi.2).symm
section
variable {a b u l:Int}
end
theorem Zia {c d:Int} {s:Nat} (hc:0≤c) (hd:0≤d) (hd1:d<2 ^ s) (hc1:c*2 ^ s<18446744073709551616) (hd2:d<18446744073709551616):bits .or .u64 (c*2 ^ s) d=c*2 ^ s + d:=by
 have t0:(0:Int)<2 ^ s:=by exact_mod_cast Nat.two_pow_pos s
 have h0:0≤c*2 ^ s:=Int.mul_nonneg hc (by omega)
 rw [u64_or (c*2 ^ s) d h0 hc1 hd hd2]
 obtain ⟨n,rfl⟩:=Int.eq_ofNat_of_zero_le hc
 obtain ⟨m,rfl⟩:=Int.eq_ofNat_of_zero_le hd
 have e:((n:Int)*2 ^ s)=((2 ^ s*n:Nat):Int):=by rw [Int.natCast_mul,Int.natCast_pow,Int.mul_comm]; rfl
 rw [e,Int.toNat_natCast,Int.toNat_natCast]
 have hm:m<2 ^ s:=by exact_mod_cast hd1
 rw [← Nat.two_pow_add_eq_or_of_lt hm]
 rfl
def Q6p (a b:Int):Int:=Int.tdiv (a*4294967296) b
def Qex (a b:Int):Int:=if b=0 then Qp2 a else Qbb (Q6p a b)
def Qnq (a b:Int):Bool:=if b=0 then true else Qe7 (Q6p a b) false
def Q0s:List SV→Option (Option Prop×SV)
 | [.v (.int .i64 a),.v (.int .i64 b)]=>some (some (I64 a∧I64 b),Qe4 (Qex a b) (Qnq a b))
 | _=>none
def Zcy:List SV→Option (Option Prop×SV)
 | [.agg [.v (.bool n),.v (.int .u64 hi),.v (.int .u64 lo)],.v (.int .u64 d)]=>some (some (U64 lo∧U64 hi∧0<d∧d≤9223372036854775808),wiM n (MM lo hi / d))
 | _=>none
def Zmr:List SV→Option (Option Prop×SV)
 | [.agg [.v (.int .i64 v),.v (.bool f)],.agg [.v (.int .i64 u),.v (.bool g)]]=>some (some (I64 v∧I64 u),Qe4 (Qex (Qaa v) (Qaa u)) (Qnq (Qaa v) (Qaa u)||(Qa8 v f||Qa8 u g)))
 | _=>none
def ovQ (m d:Int) (k:Nat):Int:=m / 2 ^ k / d
def ovR (m d:Int) (k:Nat):Int:=m / 2 ^ k % d
noncomputable def Q9d (n:Bool) (m d:Int):Nat→Option LoopSpec:=Qdv Qay Tryz.f265 0 Nat (fun k=>k≤128) (fun k=>k) [(6,fun k=>.v (.int .u64 (ovR m d k))),(7,fun k=>.v (.int .i64 ((k:Int) - 1)))]
 [(104,fun k=>Qct 336 [.v (.bool n),.v (.int .u64 (ovQ m d k / 18446744073709551616)),.v (.int .u64 (ovQ m d k % 18446744073709551616))])]
def ΓY1:Qbz:=Qai ΓC 265 (Qao Zcy)
theorem Zg6 (n:Bool) (hi lo d:Int) (m d':Int) (R:SV→Prop):(Qbe Tryz.prog Qbi (Q9d n m d') Tryz.f265 [wiS n hi lo,.v (.int .u64 d)] R) =
((∃ x:Nat,((Nat.le x 128)∧((((SV.v (.int .u64 0))=(SV.v (.int .u64 (ovR m d' x))))∧((SV.v (.int .i64 127))=(SV.v (.int .i64 ((↑x:Int) - 1)))))∧(((1:Nat)=1)∧(((1:Nat)≤1)∧(∀ i:Nat,(((i:Nat)<1)→([(SV.v (.bool n)),(SV.v (.int .u64 0)),(SV.v (.int .u64 0))]=[(SV.v (.bool n)),(SV.v (.int .u64 (ovQ m d' x / 18446744073709551616))),(SV.v (.int .u64 (ovQ m d' x % 18446744073709551616)))]))))))))∧(∀ x:Nat,((Nat.le x 128)→(sel (decide ((↑x:Int) - 1 ≥ 0)) (((0:Int)≤(IntKind.wrap IntKind.u64 ((↑x:Int) - 1)))∧(sel (decide ((↑x:Int) - 1 ≥ 64)) (((0:Int)≤(IntKind.wrap IntKind.u64 (IntKind.wrap IntKind.i64 ((↑x:Int) - 1 - 64))))∧(sel (decide (bits BinOp.or IntKind.u64 (IntKind.wrap IntKind.u64 (ovR m d' x*2)) (bits BinOp.and IntKind.u64 (hi / 2 ^ min (Int.toNat (IntKind.wrap IntKind.u64 (IntKind.wrap IntKind.i64 ((↑x:Int) - 1 - 64)))) 64) 1) ≥ d)) (∃ x':Nat,(((Nat.le x' 128)∧((((SV.v (.int .u64 (IntKind.wrap IntKind.u64 (bits BinOp.or IntKind.u64 (IntKind.wrap IntKind.u64 (ovR m d' x*2)) (bits BinOp.and IntKind.u64 (hi / 2 ^ min (Int.toNat (IntKind.wrap IntKind.u64 (IntKind.wrap IntKind.i64 ((↑x:Int) - 1 - 64)))) 64) 1) - d))))=(SV.v (.int .u64 (ovR m d' x'))))∧((SV.v (.int .i64 (IntKind.wrap IntKind.i64 ((↑x:Int) - 1 - 1))))=(SV.v (.int .i64 ((↑x':Int) - 1)))))∧(((1:Nat)=1)∧(((1:Nat)≤1)∧(∀ i:Nat,(((i:Nat)<1)→([(SV.v (.bool n)),(SV.v (.int .u64 (bits BinOp.or IntKind.u64 (IntKind.wrap IntKind.u64 (ovQ m d' x / 18446744073709551616*2)) (ovQ m d' x % 18446744073709551616 / 9223372036854775808)))),(SV.v (.int .u64 (bits BinOp.or IntKind.u64 (IntKind.wrap IntKind.u64 (ovQ m d' x % 18446744073709551616*2)) 1)))]=[(SV.v (.bool n)),(SV.v (.int .u64 (ovQ m d' x' / 18446744073709551616))),(SV.v (.int .u64 (ovQ m d' x' % 18446744073709551616)))])))))))∧((x':Nat)<x))) (∃ x':Nat,(((Nat.le x' 128)∧((((SV.v (.int .u64 (bits BinOp.or IntKind.u64 (IntKind.wrap IntKind.u64 (ovR m d' x*2)) (bits BinOp.and IntKind.u64 (hi / 2 ^ min (Int.toNat (IntKind.wrap IntKind.u64 (IntKind.wrap IntKind.i64 ((↑x:Int) - 1 - 64)))) 64) 1))))=(SV.v (.int .u64 (ovR m d' x'))))∧((SV.v (.int .i64 (IntKind.wrap IntKind.i64 ((↑x:Int) - 1 - 1))))=(SV.v (.int .i64 ((↑x':Int) - 1)))))∧(((1:Nat)=1)∧(((1:Nat)≤1)∧(∀ i:Nat,(((i:Nat)<1)→([(SV.v (.bool n)),(SV.v (.int .u64 (bits BinOp.or IntKind.u64 (IntKind.wrap IntKind.u64 (ovQ m d' x / 18446744073709551616*2)) (ovQ m d' x % 18446744073709551616 / 9223372036854775808)))),(SV.v (.int .u64 (IntKind.wrap IntKind.u64 (ovQ m d' x % 18446744073709551616*2))))]=[(SV.v (.bool n)),(SV.v (.int .u64 (ovQ m d' x' / 18446744073709551616))),(SV.v (.int .u64 (ovQ m d' x' % 18446744073709551616)))])))))))∧((x':Nat)<x))))) (sel (decide (bits BinOp.or IntKind.u64 (IntKind.wrap IntKind.u64 (ovR m d' x*2)) (bits BinOp.and IntKind.u64 (lo / 2 ^ min (Int.toNat (IntKind.wrap IntKind.u64 ((↑x:Int) - 1))) 64) 1) ≥ d)) (∃ x':Nat,(((Nat.le x' 128)∧((((SV.v (.int .u64 (IntKind.wrap IntKind.u64 (bits BinOp.or IntKind.u64 (IntKind.wrap IntKind.u64 (ovR m d' x*2)) (bits BinOp.and IntKind.u64 (lo / 2 ^ min (Int.toNat (IntKind.wrap IntKind.u64 ((↑x:Int) - 1))) 64) 1) - d))))=(SV.v (.int .u64 (ovR m d' x'))))∧((SV.v (.int .i64 (IntKind.wrap IntKind.i64 ((↑x:Int) - 1 - 1))))=(SV.v (.int .i64 ((↑x':Int) - 1)))))∧(((1:Nat)=1)∧(((1:Nat)≤1)∧(∀ i:Nat,(((i:Nat)<1)→([(SV.v (.bool n)),(SV.v (.int .u64 (bits BinOp.or IntKind.u64 (IntKind.wrap IntKind.u64 (ovQ m d' x / 18446744073709551616*2)) (ovQ m d' x % 18446744073709551616 / 9223372036854775808)))),(SV.v (.int .u64 (bits BinOp.or IntKind.u64 (IntKind.wrap IntKind.u64 (ovQ m d' x % 18446744073709551616*2)) 1)))]=[(SV.v (.bool n)),(SV.v (.int .u64 (ovQ m d' x' / 18446744073709551616))),(SV.v (.int .u64 (ovQ m d' x' % 18446744073709551616)))])))))))∧((x':Nat)<x))) (∃ x':Nat,(((Nat.le x' 128)∧((((SV.v (.int .u64 (bits BinOp.or IntKind.u64 (IntKind.wrap IntKind.u64 (ovR m d' x*2)) (bits BinOp.and IntKind.u64 (lo / 2 ^ min (Int.toNat (IntKind.wrap IntKind.u64 ((↑x:Int) - 1))) 64) 1))))=(SV.v (.int .u64 (ovR m d' x'))))∧((SV.v (.int .i64 (IntKind.wrap IntKind.i64 ((↑x:Int) - 1 - 1))))=(SV.v (.int .i64 ((↑x':Int) - 1)))))∧(((1:Nat)=1)∧(((1:Nat)≤1)∧(∀ i:Nat,(((i:Nat)<1)→([(SV.v (.bool n)),(SV.v (.int .u64 (bits BinOp.or IntKind.u64 (IntKind.wrap IntKind.u64 (ovQ m d' x / 18446744073709551616*2)) (ovQ m d' x % 18446744073709551616 / 9223372036854775808)))),(SV.v (.int .u64 (IntKind.wrap IntKind.u64 (ovQ m d' x % 18446744073709551616*2))))]=[(SV.v (.bool n)),(SV.v (.int .u64 (ovQ m d' x' / 18446744073709551616))),(SV.v (.int .u64 (ovQ m d' x' % 18446744073709551616)))])))))))∧((x':Nat)<x)))))) (R (SV.agg [(SV.v (.bool n)),(SV.v (.int .u64 (ovQ m d' x / 18446744073709551616))),(SV.v (.int .u64 (ovQ m d' x % 18446744073709551616)))])))))):=by kernel_rfl
theorem Q5w (a b:Int) (R:SV→Prop):(Qbe Tryz.prog ΓY1 Qay Tryz.f179 [.v (.int .i64 a),.v (.int .i64 b)] R)=(sel (b==0) (R (SV.agg [(SV.v (.int .i64 (Qp2 a))),(SV.v (.bool true))])) ((I64 a)∧(((U64 (Qab a))∧((U64 0)∧(((MM (Qab a) 0):Int)<79228162514264337593543950336)))∧((I64 b)∧(((U64 (MM (Qab a) 0*4294967296 % 18446744073709551616))∧((U64 (MM (Qab a) 0*4294967296 / 18446744073709551616))∧(((0:Int)<(Qab b))∧(((Qab b):Int)≤9223372036854775808))))∧(((U64 (MM (MM (Qab a) 0*4294967296 % 18446744073709551616) (MM (Qab a) 0*4294967296 / 18446744073709551616) / Qab b % 18446744073709551616))∧(U64 (MM (MM (Qab a) 0*4294967296 % 18446744073709551616) (MM (Qab a) 0*4294967296 / 18446744073709551616) / Qab b / 18446744073709551616)))∧(R (SV.agg [(SV.v (.int .i64 (Qus (!decide (a<0)==decide (b<0)) (MM (MM (MM (Qab a) 0*4294967296 % 18446744073709551616) (MM (Qab a) 0*4294967296 / 18446744073709551616) / Qab b % 18446744073709551616) (MM (MM (Qab a) 0*4294967296 % 18446744073709551616) (MM (Qab a) 0*4294967296 / 18446744073709551616) / Qab b / 18446744073709551616))))),(SV.v (.bool (Qq7 (MM (MM (MM (Qab a) 0*4294967296 % 18446744073709551616) (MM (Qab a) 0*4294967296 / 18446744073709551616) / Qab b % 18446744073709551616) (MM (MM (Qab a) 0*4294967296 % 18446744073709551616) (MM (Qab a) 0*4294967296 / 18446744073709551616) / Qab b / 18446744073709551616)) false)))])))))))):=by kernel_rfl
def ΓY2:Qbz:=Qai (ΓC) 179 (Qao Q0s)
theorem Zgx (v:Int) (f:Bool) (u:Int) (g:Bool) (R:SV→Prop):(Qbe Tryz.prog ΓY2 Qay Tryz.f269 [Qe4 v f,Qe4 u g] R)=(sel (Qaa u==0) (R (SV.agg [(SV.v (.int .i64 (Qp2 (Qaa v)))),(SV.v (.bool true))])) (((I64 (Qaa v))∧(I64 (Qaa u)))∧(sel (Qnq (Qaa v) (Qaa u)) (R (SV.agg [(SV.v (.int .i64 (Qex (Qaa v) (Qaa u)))),(SV.v (.bool true))])) (sel (Qa8 v f) (R (SV.agg [(SV.v (.int .i64 (Qex (Qaa v) (Qaa u)))),(SV.v (.bool true))])) (R (SV.agg [(SV.v (.int .i64 (Qex (Qaa v) (Qaa u)))),(SV.v (.bool (Qa8 u g)))])))))):=by kernel_rfl
theorem Q3z {x:Int} (h:U64 x):bits .and .u64 x 1=x % 2:=by
 obtain ⟨h1,h2⟩:=h
 rw [u64_and x 1 h1 h2 (by decide) (by decide)]
 have:x.toNat &&& (1:Int).toNat=x.toNat % 2:=Nat.and_two_pow_sub_one_eq_mod x.toNat 1
 rw [this]; omega
theorem Q1w {c b:Int} (hc:0≤c) (hc1:c<9223372036854775808) (h0:0≤b) (h1:b≤1):bits .or .u64 (IntKind.u64.wrap (c*2)) b=2*c + b:=by
 have h:=Zia (c:=c) (d:=b) (s:=1) hc h0 (by omega) (by omega) (by omega)
 rw [Qrj ⟨by omega,by omega⟩]
 have e:c*2 ^ 1=c*2:=by omega
 rw [e] at h
 omega
theorem Zdy {c b:Int} (h0:0≤b) (h1:b≤1):bits .or .u64 (IntKind.u64.wrap (c*2)) b=(2*c) % 18446744073709551616 + b:=by
 rw [Qdj]
 have e:c*2 % 18446744073709551616=(c % 9223372036854775808)*2:=by omega
 have h:=Q1w (c:=c % 9223372036854775808) (b:=b) (by omega) (by omega) h0 h1
 rw [Qrj ⟨by omega,by omega⟩] at h
 rw [e,h]
 omega
theorem Qi5 (k:Nat):(0:Int)<2 ^ k:=by exact_mod_cast Nat.two_pow_pos k
theorem Q20 (m:Int) (k:Nat):m / 2 ^ k=2*(m / 2 ^ (k + 1)) + m / 2 ^ k % 2:=by
 have e:m / 2 ^ (k + 1)=m / 2 ^ k / 2:=by rw [Int.pow_succ,Int.ediv_ediv_of_nonneg (Int.le_of_lt (Qi5 k))]
 rw [e]; omega
theorem Q98 {x d q r:Int} (hd:0<d) (h:x=d*q + r) (h0:0≤r) (h1:r<d):x / d=q∧x % d=r:=by
 subst h
 rw [Int.add_comm,Int.add_mul_ediv_left _ _ (by omega),Int.add_mul_emod_self_left,Int.ediv_eq_zero_of_lt h0 h1,Int.emod_eq_of_lt h0 h1]
 exact ⟨by omega,rfl⟩
theorem ov_r {m d:Int} (k:Nat) (hd:0<d):0≤ovR m d k∧ovR m d k<d:=⟨Int.emod_nonneg _ (by omega),Int.emod_lt_of_pos _ hd⟩
theorem Zdw {m d:Int} (k:Nat) (hd:0<d):(d≤2*ovR m d (k + 1) + m / 2 ^ k % 2→ovQ m d k=2*ovQ m d (k + 1) + 1∧ovR m d k=2*ovR m d (k + 1) + m / 2 ^ k % 2 - d) ∧
   (2*ovR m d (k + 1) + m / 2 ^ k % 2<d→ovQ m d k=2*ovQ m d (k + 1)∧ovR m d k=2*ovR m d (k + 1) + m / 2 ^ k % 2):=by
 have h:=Q20 m k
 have b0:0≤m / 2 ^ k % 2∧m / 2 ^ k % 2≤1:=by omega
 unfold ovQ ovR
 generalize m / 2 ^ k % 2=b at *
 rw [h]
 generalize m / 2 ^ (k + 1)=P at *
 have h1:=Int.mul_ediv_add_emod P d
 have r0:0≤P % d:=Int.emod_nonneg _ (by omega)
 have r1:P % d<d:=Int.emod_lt_of_pos _ hd
 generalize P / d=q at *
 generalize P % d=r at *
 have e:d*(2*q)=2*(d*q):=by rw [← Int.mul_assoc,Int.mul_comm d 2,Int.mul_assoc]
 constructor
 · intro g
   exact Q98 hd (by rw [Int.mul_add,e]; omega) (by omega) (by omega)
 · intro g
   exact Q98 hd (by rw [e]; omega) (by omega) (by omega)
theorem ov_q {m d:Int} (k:Nat) (hk:1≤k) (hm:0≤m) (hm1:m<340282366920938463463374607431768211456) (hd:0<d):0≤ovQ m d k∧ovQ m d k<170141183460469231731687303715884105728:=by
 have h1:0≤m / 2 ^ k:=Int.ediv_nonneg hm (Int.le_of_lt (Qi5 k))
 have h2:m / 2 ^ k≤m / 2:=by
   obtain ⟨j,rfl⟩:∃ j,k=j + 1:=⟨k - 1,by omega⟩
   have e:m / 2 ^ (j + 1)=m / 2 / 2 ^ j:=by rw [Int.pow_succ,Int.mul_comm,Int.ediv_ediv_of_nonneg (by decide)]
   rw [e]
   exact Int.ediv_le_self _ (by omega)
 refine ⟨Int.ediv_nonneg h1 (by omega),?_⟩
 have:=Int.ediv_le_self d h1
 unfold ovQ
 omega
theorem Qzk {n:Bool} {a b a' b':Int} (h1:a=a') (h2:b=b'):[SV.v (.bool n),.v (.int .u64 a),.v (.int .u64 b)]=[SV.v (.bool n),.v (.int .u64 a'),.v (.int .u64 b')]:=by rw [h1,h2]
theorem Qvz (n:Bool) {m d:Int} {x:Nat} (hx:1≤x) (hx2:x≤128) (hm:0≤m) (hm1:m<340282366920938463463374607431768211456) (hd:0<d) (hd1:d≤9223372036854775808) {b:Int} (hb:b=m / 2 ^ (x - 1) % 2) :
   sel (decide (bits BinOp.or IntKind.u64 (IntKind.wrap IntKind.u64 (ovR m d x*2)) b ≥ d))
     (∃ x':Nat,(((Nat.le x' 128)∧((((SV.v (Value.int IntKind.u64 (IntKind.wrap IntKind.u64 (bits BinOp.or IntKind.u64 (IntKind.wrap IntKind.u64 (ovR m d x*2)) b - d))))=(SV.v (Value.int IntKind.u64 (ovR m d x'))))∧((SV.v (Value.int IntKind.i64 (IntKind.wrap IntKind.i64 ((x:Int) - 1 - 1))))=(SV.v (Value.int IntKind.i64 ((x':Int) - 1)))))∧(((1:Nat)=1)∧(((1:Nat)≤1)∧(∀ i:Nat,(((i:Nat)<1)→([(SV.v (Value.bool n)),(SV.v (Value.int IntKind.u64 (bits BinOp.or IntKind.u64 (IntKind.wrap IntKind.u64 (ovQ m d x / 18446744073709551616*2)) (ovQ m d x % 18446744073709551616 / 9223372036854775808)))),(SV.v (Value.int IntKind.u64 (bits BinOp.or IntKind.u64 (IntKind.wrap IntKind.u64 (ovQ m d x % 18446744073709551616*2)) 1)))]=[(SV.v (Value.bool n)),(SV.v (Value.int IntKind.u64 (ovQ m d x' / 18446744073709551616))),(SV.v (Value.int IntKind.u64 (ovQ m d x' % 18446744073709551616)))])))))))∧((x':Nat)<x)))
     (∃ x':Nat,(((Nat.le x' 128)∧((((SV.v (Value.int IntKind.u64 (bits BinOp.or IntKind.u64 (IntKind.wrap IntKind.u64 (ovR m d x*2)) b)))=(SV.v (Value.int IntKind.u64 (ovR m d x'))))∧((SV.v (Value.int IntKind.i64 (IntKind.wrap IntKind.i64 ((x:Int) - 1 - 1))))=(SV.v (Value.int IntKind.i64 ((x':Int) - 1)))))∧(((1:Nat)=1)∧(((1:Nat)≤1)∧(∀ i:Nat,(((i:Nat)<1)→([(SV.v (Value.bool n)),(SV.v (Value.int IntKind.u64 (bits BinOp.or IntKind.u64 (IntKind.wrap IntKind.u64 (ovQ m d x / 18446744073709551616*2)) (ovQ m d x % 18446744073709551616 / 9223372036854775808)))),(SV.v (Value.int IntKind.u64 (IntKind.wrap IntKind.u64 (ovQ m d x % 18446744073709551616*2))))]=[(SV.v (Value.bool n)),(SV.v (Value.int IntKind.u64 (ovQ m d x' / 18446744073709551616))),(SV.v (Value.int IntKind.u64 (ovQ m d x' % 18446744073709551616)))])))))))∧((x':Nat)<x))):=by
 obtain ⟨k,rfl⟩:∃ k,x=k + 1:=⟨x - 1,by omega⟩
 have hs:=Zdw (m:=m) k hd
 rw [Nat.add_sub_cancel] at hb
 rw [← hb] at hs
 have b0:0≤b∧b≤1:=by omega
 have hr:=ov_r (m:=m) (k + 1) hd
 have hq:=ov_q (k + 1) hx hm hm1 hd
 have e1:bits .or .u64 (IntKind.u64.wrap (ovR m d (k + 1)*2)) b=2*ovR m d (k + 1) + b:=Q1w hr.1 (by omega) b0.1 b0.2
 have e2:bits .or .u64 (IntKind.u64.wrap (ovQ m d (k + 1) / 18446744073709551616*2)) (ovQ m d (k + 1) % 18446744073709551616 / 9223372036854775808)=2*(ovQ m d (k + 1) / 18446744073709551616) + ovQ m d (k + 1) % 18446744073709551616 / 9223372036854775808 :=
   Q1w (by omega) (by omega) (by omega) (by omega)
 have e3:bits .or .u64 (IntKind.u64.wrap (ovQ m d (k + 1) % 18446744073709551616*2)) 1=(2*(ovQ m d (k + 1) % 18446744073709551616)) % 18446744073709551616 + 1:=Zdy (by decide) (by decide)
 have e4:IntKind.u64.wrap (ovQ m d (k + 1) % 18446744073709551616*2)=(2*(ovQ m d (k + 1) % 18446744073709551616)) % 18446744073709551616:=by rw [Qdj]; omega
 have e5:IntKind.i64.wrap (((k + 1:Nat):Int) - 1 - 1)=(k:Int) - 1:=by rw [Qaj ⟨by omega,by omega⟩]; omega
 rw [e1,e2,e3,e4,e5]
 refine Qag (fun g=>?_) fun g=>?_
 · have g:=of_decide_eq_true g
   obtain ⟨f1,f2⟩:=hs.1 g
   refine ⟨k,⟨Nat.le_of_succ_le hx2,⟨Qck ?_,rfl⟩,rfl,Nat.le_refl _,fun i _=>Qzk ?_ ?_⟩,Nat.lt_succ_self k⟩
   · rw [f2,Qrj ⟨by omega,by omega⟩]
   · rw [f1]; omega
   · rw [f1]; omega
 · have g:=of_decide_eq_false g
   obtain ⟨f1,f2⟩:=hs.2 (by omega)
   refine ⟨k,⟨Nat.le_of_succ_le hx2,⟨Qck f2.symm,rfl⟩,rfl,Nat.le_refl _,fun i _=>Qzk ?_ ?_⟩,Nat.lt_succ_self k⟩
   · rw [f1]; omega
   · rw [f1]; omega
theorem Q4l:Qaq Tryz.prog 265 Zcy:=Qax hm Qam Tryz.func265 (Λ:=fun args=>match args with | [.agg [.v (.bool n),.v (.int .u64 hi),.v (.int .u64 lo)],.v (.int .u64 d)]=>Q9d n (MM lo hi) d | _=>Qay) fun args p x h hp=>by
 unfold Zcy at h
 split at h <;> try (cases h; done)
 rename_i n hi lo d
 cases h
 obtain ⟨h1,h2,h3,h4⟩:=hp _ rfl
 refine ⟨rfl,rfl,?_⟩
 refine Eq.mpr (Zg6 n hi lo d _ _ _) ?_
 have m0:=Q4r h1 h2
 have m1:=Znp h1 h2
 have hM:MM lo hi=lo + hi*18446744073709551616:=by unfold MM; omega
 refine ⟨⟨128,⟨Nat.le_refl _,⟨Qck ?_,rfl⟩,rfl,Nat.le_refl _,fun i _=>Qzk ?_ ?_⟩⟩,fun x hx=>?_⟩
 · have e:MM lo hi / 2 ^ 128=0:=Int.ediv_eq_zero_of_lt m0 m1
   unfold ovR; rw [e]; simp
 · have e:MM lo hi / 2 ^ 128=0:=Int.ediv_eq_zero_of_lt m0 m1
   unfold ovQ; rw [e]; simp
 · have e:MM lo hi / 2 ^ 128=0:=Int.ediv_eq_zero_of_lt m0 m1
   unfold ovQ; rw [e]; simp
 · have hx:x≤128:=hx
   refine Qag (fun g=>?_) fun g=>?_
   · have g:=of_decide_eq_true g
     have e1:IntKind.u64.wrap ((x:Int) - 1)=(x:Int) - 1:=Qrj ⟨by omega,by omega⟩
     rw [e1]
     refine ⟨by omega,Qag (fun g'=>?_) fun g'=>?_⟩
     · have g':=of_decide_eq_true g'
       have e2:IntKind.i64.wrap ((x:Int) - 1 - 64)=((x - 65:Nat):Int):=by rw [Qaj ⟨by omega,by omega⟩]; omega
       have e3:IntKind.u64.wrap ((x - 65:Nat):Int)=((x - 65:Nat):Int):=Qrj ⟨by omega,by omega⟩
       rw [e2,e3,Int.toNat_natCast,Nat.min_eq_left (by omega)]
       have hu:U64 (hi / 2 ^ (x - 65)):=⟨Int.ediv_nonneg h2.1 (Int.le_of_lt (Qi5 _)),by have:=Int.ediv_le_self (2 ^ (x - 65)) h2.1; have:=h2.2; omega⟩
       rw [Q3z hu]
       refine ⟨by omega,Qvz n (by omega) hx m0 m1 h3 h4 ?_⟩
       have e4:MM lo hi / 2 ^ (x - 1)=hi / 2 ^ (x - 65):=by
         rw [show x - 1=64 + (x - 65) by omega,Int.pow_add,← Int.ediv_ediv_of_nonneg (by decide)]
         have:MM lo hi / 2 ^ 64=hi:=Znq h1
         rw [this]
       rw [e4]
     · have g':=of_decide_eq_false g'
       have e3:Int.toNat ((x:Int) - 1)=x - 1:=by omega
       rw [e3,Nat.min_eq_left (by omega)]
       have hu:U64 (lo / 2 ^ (x - 1)):=⟨Int.ediv_nonneg h1.1 (Int.le_of_lt (Qi5 _)),by have:=Int.ediv_le_self (2 ^ (x - 1)) h1.1; have:=h1.2; omega⟩
       rw [Q3z hu]
       refine Qvz n (by omega) hx m0 m1 h3 h4 ?_
       have e4:MM lo hi=lo + (hi*2 ^ (64 - x)*2)*2 ^ (x - 1):=by
         have:(2:Int) ^ (64 - x)*2*2 ^ (x - 1)=18446744073709551616:=by
           rw [← Int.pow_succ,← Int.pow_add,show 64 - x + 1 + (x - 1)=64 by omega]
           rfl
         rw [hM,← this]
         simp only [Int.mul_assoc]
       rw [e4,Int.add_mul_ediv_right _ _ (Int.ne_of_gt (Qi5 _)),Int.add_mul_emod_self_right]
   · have g:=of_decide_eq_false g
     have e:x=0:=by omega
     subst e
     unfold ovQ
     have e:MM lo hi / 2 ^ 0=MM lo hi:=by rw [Int.pow_zero,Int.ediv_one]
     rw [e]
     rfl
theorem Zdn (a b:Int):sv (!(decide (a<0)==decide (b<0))) (Qab a*4294967296 / Qab b)=Q6p a b:=by
 unfold Q6p
 have h:0≤Qab a*4294967296:=by have:=Qbn a; omega
 rw [← Int.tdiv_eq_ediv_of_nonneg h]
 unfold sv
 by_cases ha:a<0 <;> by_cases hb:b<0
 · rw [Qel ha,Qel hb]; simp [ha,hb,Int.neg_tdiv,Int.tdiv_neg,Int.neg_mul]
 · rw [Qel ha,Qek hb]; simp [ha,hb,Int.neg_tdiv,Int.neg_mul]
 · rw [Qek ha,Qel hb]; simp [ha,hb,Int.tdiv_neg]
 · rw [Qek ha,Qek hb]; simp [ha,hb]
theorem Zas:∀ f g,ΓY1 f=some g→g.ok Tryz.prog f:=Qad Qe9 (Qas Tryz.func265 (by kernel_rfl) (by kernel_rfl) Q4l)
theorem Qnj:Qaq Tryz.prog 179 Q0s:=Qax hm Zas Tryz.func179 (Λ:=fun _=>Qay) fun args p x h hp=>by
 unfold Q0s at h
 split at h <;> try (cases h; done)
 rename_i a b
 cases h
 obtain ⟨h1,h2⟩:=hp _ rfl
 refine ⟨rfl,rfl,?_⟩
 refine Eq.mpr (Q5w a b _) ?_
 refine Qag (fun g=>?_) fun g=>?_
 · have g:b=0:=by simpa using g
   unfold Qex Qnq
   rw [if_pos g,if_pos g]; rfl
 · have g:b≠0:=by simpa using g
   unfold Qex Qnq
   rw [if_neg g,if_neg g]
   have ua:=Qfp h1
   have ub:=Qfp h2
   have la:=Qhh h1
   have lb:=Qhh h2
   have hb:0<Qab b:=by unfold Qab; split <;> omega
   have hs:=Zdn a b
   obtain ⟨ua0,ua1⟩:=ua
   rw [Znr,Qfs,Qfs]
   generalize hX:Qab a*4294967296=X at *
   have X0:0≤X:=by omega
   have x0:0≤X / Qab b:=Int.ediv_nonneg X0 ub.1
   have x1:X / Qab b≤X:=Int.ediv_le_self _ X0
   refine ⟨h1,⟨⟨ua0,ua1⟩,⟨by omega,by omega⟩,by omega⟩,h2,⟨Qdp _,Qd6 X0 (by omega),hb,lb⟩,⟨Qdp _,Qd6 x0 (by omega)⟩,?_⟩
   rw [Qon _ x0,Qoo (!(decide (a<0)==decide (b<0))) _ x0,hs]; rfl
theorem Zar:∀ f g,ΓY2 f=some g→g.ok Tryz.prog f:=Qad (Qe9) (Qas Tryz.func179 (by kernel_rfl) (by kernel_rfl) Qnj)
theorem Qsz:Qaq Tryz.prog 269 Zmr:=Qax hm Zar Tryz.func269 (Λ:=fun _=>Qay) fun args p x h hp=>by
 unfold Zmr at h
 split at h <;> try (cases h; done)
 rename_i v f u g
 cases h
 obtain ⟨h1,h2⟩:=hp _ rfl
 refine ⟨rfl,rfl,?_⟩
 refine Eq.mpr (Zgx v f u g _) ?_
 refine Qag (fun hz=>?_) fun hz=>?_
 · have hz:Qaa u=0:=by simpa using hz
   unfold Qex Qnq
   rw [if_pos hz,if_pos hz,Bool.true_or]; rfl
 · refine ⟨⟨Qe0 h1,Qe0 h2⟩,Qag (fun hf=>Qdg rfl ?_) fun hf=>Qag (fun hg=>Qdg rfl ?_) fun hg=>Qdg rfl ?_⟩
   · rw [hf,Bool.true_or]
   · rw [hg,Bool.true_or,Bool.or_true]
   · rw [hf,hg,Bool.false_or,Bool.false_or]
def nrOk (S:Blk):Bool:=S.flat&&!S.rw&&!S.off&&Nat.beq S.size 2&&Nat.beq S.ext 0&&!S.whole
def iB (n:Nat) (g:Nat→Int):Blk:={elem:=2,size:=1,rw:=true,lock:=false,lit:=false,flat:=true,n,row:=fun i=>[.v (.int .i64 (g i))]}
def Zl8 (args:List SV) (bs:List Blk):Option Eff:=match args,bs with
 | [.sl 0 2 0 n _],[S]=>bif nrOk S then some (.det (some (Qe3 isN (Qau n S.row)∧S.n=n∧n<1099511627776)) (.tup [.sl 1000 1 0 n n,.v (.bool (Qkf (Qau n S.row)))]) [(1000,iB n fun i=>Qaa (Qd8 (S.row i)))]) else none
 | _,_=>none
def extN (o a:Int):List (List SV)→Int
 | []=>a
 | r :: t=>extN o (if Qb7 (Q1c r) a*o<0 then Q1c r else a) t
def sExt:List SV→List Ro→Option (Option Prop×SV)
 | [.v (.int .i64 o),.v (.int .i64 a),.sl 0 1 0 n _],[⟨1,n',row⟩]=>some (some (Qe3 isI (Qau n' row)∧n'=n∧n<1099511627776∧-1≤o∧o≤1),.v (.int .i64 (extN o a (Qau n row))))
 | _,_=>none
def Qsl (o a:Int):List (List SV)→Int
 | []=>a
 | r :: t=>Qsl o (if Qb7 (Qaa (Qd8 r)) a*o<0 then Qaa (Qd8 r) else a) t
def Qhb (o:Int):List (List SV)→Int
 | []=>0
 | r :: t=>Qsl o (Qaa (Qd8 r)) t
def Qjv (o:Int):List SV→List Ro→Option (Option Prop×SV)
 | [.sl 0 2 0 n _],[⟨2,n',row⟩]=>some (some (Qe3 isN (Qau n' row)∧n'=n∧n<1099511627776),Qe4 (Qhb o (Qau n row)) (Qkf (Qau n row)))
 | _,_=>none
def Q5b:List SV→Prop
 | [.v (.int .i64 a),.v (.bool _)]=>I64 a
 | _=>False
def Qk1:List (List SV)→Int
 | []=>0
 | r :: t=>Qaa (Qd8 r) + Qk1 t
def Zkn:List SV→List Ro→Option (Option Prop×SV)
 | [.sl 0 2 0 n _],[⟨2,n',row⟩]=>some (some (Qe3 Q5b (Qau n' row)∧n'=n∧n<1099511627776),Qe4 (Qbb (Qk1 (Qau n row))) (Qe7 (Qk1 (Qau n row)) (Qkf (Qau n row))))
 | _,_=>none
structure KI where
 k:Nat
 a:Int
noncomputable def Zke (n:Nat) (fn:Func) (o:Int) (row:Nat→List SV):Nat→Option LoopSpec:=Qdv Qay fn 0 KI (fun x=>(1≤x.k∧x.k≤n)∧Qsl o x.a (Qau (n - x.k) fun i=>row (x.k + i))=Qhb o (Qau n row)) (fun x=>n - x.k) [(5,fun x=>.v (.int .i64 x.k)),(3,fun x=>.v (.int .i64 x.a))] []
def Zk3:Qbz:=Qai (ΓC) 300 (Qfc Qlj)
theorem Zgs (o:Int) (n n' c:Nat) (v:Nat→Int) (f:Nat→Bool) (R:SV→Prop):(Qcf Tryz.prog Zk3 (Zke n Tryz.f302 o (Qi4 v f)) Tryz.f302 [.sl 0 2 0 n c] (Qbl [⟨2,n',Qi4 v f⟩]) 64 (fun y _=>R y)) =
(sel ((↑n:Int)==0) (R (SV.agg [(SV.v (.int .i64 0)),(SV.v (.bool false))])) ((((0:Int)≤0)∧((0:Int)<((↑n:Int))))∧((∃ x:KI,(((((1:Nat)≤(KI.k x))∧(((KI.k x):Nat)≤n))∧(((Qsl o (KI.a x) (Qau (n - KI.k x) fun i=>[SV.v (.int .i64 (v (KI.k x + i))),SV.v (.bool (f (KI.k x + i)))])):Int)=(Qhb o (Qau n fun i=>[SV.v (.int .i64 (v i)),SV.v (.bool (f i))]))))∧((((SV.v (.int .i64 1))=(SV.v (.int .i64 ((↑(KI.k x):Int)))))∧((SV.v (.int .i64 (Qaa (v 0))))=(SV.v (.int .i64 (KI.a x)))))∧True)))∧(∀ x:KI,(((((1:Nat)≤(KI.k x))∧(((KI.k x):Nat)≤n))∧(((Qsl o (KI.a x) (Qau (n - KI.k x) fun i=>[SV.v (.int .i64 (v (KI.k x + i))),SV.v (.bool (f (KI.k x + i)))])):Int)=(Qhb o (Qau n fun i=>[SV.v (.int .i64 (v i)),SV.v (.bool (f i))]))))→(sel (decide ((↑(KI.k x):Int)<(↑n:Int))) ((((0:Int)≤((↑(KI.k x):Int)))∧((((↑(KI.k x):Int)):Int)<((↑n:Int))))∧(sel (decide (Qaa (v (0 + Int.toNat (↑(KI.k x):Int)))<KI.a x)) (∃ x':KI,((((((1:Nat)≤(KI.k x'))∧(((KI.k x'):Nat)≤n))∧(((Qsl o (KI.a x') (Qau (n - KI.k x') fun i=>[SV.v (.int .i64 (v (KI.k x' + i))),SV.v (.bool (f (KI.k x' + i)))])):Int)=(Qhb o (Qau n fun i=>[SV.v (.int .i64 (v i)),SV.v (.bool (f i))]))))∧((((SV.v (.int .i64 (IntKind.wrap IntKind.i64 ((↑(KI.k x):Int) + 1))))=(SV.v (.int .i64 ((↑(KI.k x'):Int)))))∧((SV.v (.int .i64 (Qaa (v (0 + Int.toNat (↑(KI.k x):Int))))))=(SV.v (.int .i64 (KI.a x')))))∧True))∧(((n - KI.k x'):Nat)<(n - KI.k x)))) (∃ x':KI,((((((1:Nat)≤(KI.k x'))∧(((KI.k x'):Nat)≤n))∧(((Qsl o (KI.a x') (Qau (n - KI.k x') fun i=>[SV.v (.int .i64 (v (KI.k x' + i))),SV.v (.bool (f (KI.k x' + i)))])):Int)=(Qhb o (Qau n fun i=>[SV.v (.int .i64 (v i)),SV.v (.bool (f i))]))))∧((((SV.v (.int .i64 (IntKind.wrap IntKind.i64 ((↑(KI.k x):Int) + 1))))=(SV.v (.int .i64 ((↑(KI.k x'):Int)))))∧((SV.v (.int .i64 (KI.a x)))=(SV.v (.int .i64 (KI.a x')))))∧True))∧(((n - KI.k x'):Nat)<(n - KI.k x)))))) (((Qe3 isN (Qau n fun y=>[SV.v (.int .i64 (v (0 + y))),SV.v (.bool (f (0 + y)))]))∧(((n:Nat)=n)∧((n:Nat)<4611686018427387904)))∧(R (SV.agg [(SV.v (.int .i64 (KI.a x))),(SV.v (.bool (Qkf (Qau n fun y=>[SV.v (.int .i64 (v (0 + y))),SV.v (.bool (f (0 + y)))]))))]))))))))):=by kernel_rfl
theorem Zgt (o:Int) (n n' c:Nat) (v:Nat→Int) (f:Nat→Bool) (R:SV→Prop):(Qcf Tryz.prog Zk3 (Zke n Tryz.f301 o (Qi4 v f)) Tryz.f301 [.sl 0 2 0 n c] (Qbl [⟨2,n',Qi4 v f⟩]) 64 (fun y _=>R y)) =
(sel ((↑n:Int)==0) (R (SV.agg [(SV.v (.int .i64 0)),(SV.v (.bool false))])) ((((0:Int)≤0)∧((0:Int)<((↑n:Int))))∧((∃ x:KI,(((((1:Nat)≤(KI.k x))∧(((KI.k x):Nat)≤n))∧(((Qsl o (KI.a x) (Qau (n - KI.k x) fun i=>[SV.v (.int .i64 (v (KI.k x + i))),SV.v (.bool (f (KI.k x + i)))])):Int)=(Qhb o (Qau n fun i=>[SV.v (.int .i64 (v i)),SV.v (.bool (f i))]))))∧((((SV.v (.int .i64 1))=(SV.v (.int .i64 ((↑(KI.k x):Int)))))∧((SV.v (.int .i64 (Qaa (v 0))))=(SV.v (.int .i64 (KI.a x)))))∧True)))∧(∀ x:KI,(((((1:Nat)≤(KI.k x))∧(((KI.k x):Nat)≤n))∧(((Qsl o (KI.a x) (Qau (n - KI.k x) fun i=>[SV.v (.int .i64 (v (KI.k x + i))),SV.v (.bool (f (KI.k x + i)))])):Int)=(Qhb o (Qau n fun i=>[SV.v (.int .i64 (v i)),SV.v (.bool (f i))]))))→(sel (decide ((↑(KI.k x):Int)<(↑n:Int))) ((((0:Int)≤((↑(KI.k x):Int)))∧((((↑(KI.k x):Int)):Int)<((↑n:Int))))∧(sel (decide (Qaa (v (0 + Int.toNat (↑(KI.k x):Int))) > KI.a x)) (∃ x':KI,((((((1:Nat)≤(KI.k x'))∧(((KI.k x'):Nat)≤n))∧(((Qsl o (KI.a x') (Qau (n - KI.k x') fun i=>[SV.v (.int .i64 (v (KI.k x' + i))),SV.v (.bool (f (KI.k x' + i)))])):Int)=(Qhb o (Qau n fun i=>[SV.v (.int .i64 (v i)),SV.v (.bool (f i))]))))∧((((SV.v (.int .i64 (IntKind.wrap IntKind.i64 ((↑(KI.k x):Int) + 1))))=(SV.v (.int .i64 ((↑(KI.k x'):Int)))))∧((SV.v (.int .i64 (Qaa (v (0 + Int.toNat (↑(KI.k x):Int))))))=(SV.v (.int .i64 (KI.a x')))))∧True))∧(((n - KI.k x'):Nat)<(n - KI.k x)))) (∃ x':KI,((((((1:Nat)≤(KI.k x'))∧(((KI.k x'):Nat)≤n))∧(((Qsl o (KI.a x') (Qau (n - KI.k x') fun i=>[SV.v (.int .i64 (v (KI.k x' + i))),SV.v (.bool (f (KI.k x' + i)))])):Int)=(Qhb o (Qau n fun i=>[SV.v (.int .i64 (v i)),SV.v (.bool (f i))]))))∧((((SV.v (.int .i64 (IntKind.wrap IntKind.i64 ((↑(KI.k x):Int) + 1))))=(SV.v (.int .i64 ((↑(KI.k x'):Int)))))∧((SV.v (.int .i64 (KI.a x)))=(SV.v (.int .i64 (KI.a x')))))∧True))∧(((n - KI.k x'):Nat)<(n - KI.k x)))))) (((Qe3 isN (Qau n fun y=>[SV.v (.int .i64 (v (0 + y))),SV.v (.bool (f (0 + y)))]))∧(((n:Nat)=n)∧((n:Nat)<4611686018427387904)))∧(R (SV.agg [(SV.v (.int .i64 (KI.a x))),(SV.v (.bool (Qkf (Qau n fun y=>[SV.v (.int .i64 (v (0 + y))),SV.v (.bool (f (0 + y)))]))))]))))))))):=by kernel_rfl
structure KE where
 k:Nat
 n:Bool
 m:Int
structure invS (n:Nat) (row:Nat→List SV) (x:KE):Prop where
 le:x.k≤n
 m0:0≤x.m
 m1:x.m≤9223372036854775808*(x.k:Int)
 sum:sv x.n x.m=Qk1 (Qau x.k row)
noncomputable def Q9b (n:Nat) (row:Nat→List SV):Nat→Option LoopSpec:=Qdv Qay Tryz.f260 0 KE (invS n row) (fun x=>n - x.k) [(4,fun x=>.v (.int .i64 x.k))] [(80,fun x=>Qct 336 [.v (.bool x.n),.v (.int .u64 (x.m / 18446744073709551616)),.v (.int .u64 (x.m % 18446744073709551616))])]
def ΓZ2:Qbz:=Qai (ΓC) 300 (Qfc Qlj)
theorem Zgn (n n' c:Nat) (v:Nat→Int) (f:Nat→Bool) (R:SV→Prop):(Qcf Tryz.prog ΓZ2 (Q9b n (Qi4 v f)) Tryz.f260 [.sl 0 2 0 n c] (Qbl [⟨2,n',Qi4 v f⟩]) 64 (fun y _=>R y)) =
((∃ x:KE,((invS n (fun i=>[SV.v (.int .i64 (v i)),SV.v (.bool (f i))]) x)∧(((SV.v (.int .i64 0))=(SV.v (.int .i64 ((↑(KE.k x):Int)))))∧(((1:Nat)=1)∧(((1:Nat)≤1)∧(∀ i:Nat,(((i:Nat)<1)→([(SV.v (.bool false)),(SV.v (.int .u64 0)),(SV.v (.int .u64 0))]=[(SV.v (.bool (KE.n x))),(SV.v (.int .u64 (KE.m x / 18446744073709551616))),(SV.v (.int .u64 (KE.m x % 18446744073709551616)))]))))))))∧(∀ x:KE,((invS n (fun i=>[SV.v (.int .i64 (v i)),SV.v (.bool (f i))]) x)→(sel (decide ((↑(KE.k x):Int)<(↑n:Int))) ((((0:Int)≤((↑(KE.k x):Int)))∧((((↑(KE.k x):Int)):Int)<((↑n:Int))))∧((I64 (Qaa (v (0 + Int.toNat (↑(KE.k x):Int)))))∧((((U64 (KE.m x % 18446744073709551616))∧(U64 (KE.m x / 18446744073709551616)))∧(((U64 (Qab (Qaa (v (0 + Int.toNat (↑(KE.k x):Int))))))∧(U64 0))∧(((MM (KE.m x % 18446744073709551616) (KE.m x / 18446744073709551616) + MM (Qab (Qaa (v (0 + Int.toNat (↑(KE.k x):Int))))) 0):Int)<340282366920938463463374607431768211456)))∧(∃ x':KE,(((invS n (fun i=>[SV.v (.int .i64 (v i)),SV.v (.bool (f i))]) x')∧(((SV.v (.int .i64 (IntKind.wrap IntKind.i64 ((↑(KE.k x):Int) + 1))))=(SV.v (.int .i64 ((↑(KE.k x'):Int)))))∧(((1:Nat)=1)∧(((1:Nat)≤1)∧(∀ i:Nat,(((i:Nat)<1)→([(SV.v (.bool (plZ (KE.n x) (MM (KE.m x % 18446744073709551616) (KE.m x / 18446744073709551616)) (decide (Qaa (v (0 + Int.toNat (↑(KE.k x):Int)))<0)) (MM (Qab (Qaa (v (0 + Int.toNat (↑(KE.k x):Int))))) 0)))),(SV.v (.int .u64 (plM (KE.n x) (MM (KE.m x % 18446744073709551616) (KE.m x / 18446744073709551616)) (decide (Qaa (v (0 + Int.toNat (↑(KE.k x):Int)))<0)) (MM (Qab (Qaa (v (0 + Int.toNat (↑(KE.k x):Int))))) 0) / 18446744073709551616))),(SV.v (.int .u64 (plM (KE.n x) (MM (KE.m x % 18446744073709551616) (KE.m x / 18446744073709551616)) (decide (Qaa (v (0 + Int.toNat (↑(KE.k x):Int)))<0)) (MM (Qab (Qaa (v (0 + Int.toNat (↑(KE.k x):Int))))) 0) % 18446744073709551616)))]=[(SV.v (.bool (KE.n x'))),(SV.v (.int .u64 (KE.m x' / 18446744073709551616))),(SV.v (.int .u64 (KE.m x' % 18446744073709551616)))])))))))∧(((n - KE.k x'):Nat)<(n - KE.k x))))))) (((Qe3 isN (Qau n fun y=>[SV.v (.int .i64 (v (0 + y))),SV.v (.bool (f (0 + y)))]))∧(((n:Nat)=n)∧((n:Nat)<4611686018427387904)))∧(((U64 (KE.m x % 18446744073709551616))∧(U64 (KE.m x / 18446744073709551616)))∧(R (SV.agg [(SV.v (.int .i64 (Qus (KE.n x) (MM (KE.m x % 18446744073709551616) (KE.m x / 18446744073709551616))))),(SV.v (.bool (Qq7 (MM (KE.m x % 18446744073709551616) (KE.m x / 18446744073709551616)) (Qkf (Qau n fun y=>[SV.v (.int .i64 (v (0 + y))),SV.v (.bool (f (0 + y)))])))))])))))))):=by kernel_rfl
theorem Qii (n:Nat) (row:Nat→List SV):Qau (n + 1) row=row 0 :: Qau n fun i=>row (i + 1):=by
 refine List.ext_getElem? fun i=>?_
 cases i with
 | zero=>rw [Qf1]; simp
 | succ i=>rw [Qf1,List.getElem?_cons_succ,Qf1]; simp
theorem Qmg {n k:Nat} (h:k<n) (row:Nat→List SV):(Qau (n - k) fun i=>row (k + i))=row k :: Qau (n - (k + 1)) fun i=>row (k + 1 + i):=by
 rw [show n - k=(n - (k + 1)) + 1 by omega,Qii]
 congr 1
 exact Qg8 fun i _=>by rw [show k + (i + 1)=k + 1 + i by omega]
theorem Qmf (row:Nat→List SV):Qau 0 row=[]:=rfl
theorem Qpu {n:Nat} {row:Nat→List SV} (h:∀ i,i<n→isN (row i)):Qau n row=Qau n fun i=>[SV.v (Value.int .i64 (Qd8 (row i))),SV.v (Value.bool (Qjy (row i)))]:=Qg8 fun i hi=>Qmx (h i hi)
theorem Quc (n:Nat) (v:Nat→Int) (f:Nat→Bool):Qe3 isN (Qau n fun i=>[SV.v (Value.int .i64 (v i)),SV.v (Value.bool (f i))]):=okAll_rows.2 fun _ _=>trivial
theorem Qy0:∀ f g,Zk3 f=some g→g.ok Tryz.prog f:=Qad (Qe9) (Qfj Tryz.func300 (by kernel_rfl) (by kernel_rfl) Qkz)
theorem Zaa (a b:Int):(Qb7 a b*1<0)↔a<b:=by unfold Qb7; split <;> (try split) <;> omega
theorem Q3g (a b:Int):(Qb7 a b*-1<0)↔b<a:=by unfold Qb7; split <;> (try split) <;> omega
theorem Q39:Qc7 Tryz.prog 302 (Qjv 1):=Qcq hm Qy0 Tryz.func302 (Λ:=fun args bs=>match args,bs with | [.sl 0 2 0 n _],[⟨2,_,row⟩]=>Zke n Tryz.f302 1 (Qi4 (fun i=>Qd8 (row i)) fun i=>Qjy (row i)) | _,_=>Qay) fun args bs p x h hp=>by
 unfold Qjv at h
 split at h <;> try (cases h; done)
 rename_i n c n' row
 cases h
 obtain ⟨h1,rfl,h3⟩:=hp _ rfl
 have h1:=okAll_rows.1 h1
 refine ⟨rfl,[⟨2,n',Qi4 (fun i=>Qd8 (row i)) fun i=>Qjy (row i)⟩],⟨⟨rfl,rfl,fun i hi=>Qmx (h1 i hi)⟩,trivial⟩,?_⟩
 refine Eq.mpr (Zgs 1 n' n' c (fun i=>Qd8 (row i)) (fun i=>Qjy (row i)) _) ?_
 rw [Qpu h1]
 refine Qag (fun g=>?_) fun g=>?_
 · have g:n'=0:=by simpa using g
   subst g
   rfl
 · have g:n'≠0:=by simpa using g
   refine ⟨⟨by omega,by omega⟩,⟨⟨1,Qaa (Qd8 (row 0))⟩,⟨⟨Nat.le_refl 1,by show 1≤n'; omega⟩,?_⟩,⟨rfl,rfl⟩,trivial⟩,fun x ⟨⟨x1,x2⟩,x3⟩=>?_⟩
   · obtain ⟨m,rfl⟩:∃ m,n'=m + 1:=⟨n' - 1,by omega⟩
     rw [Qii m]
     show Qsl 1 (Qaa (Qd8 (row 0))) (Qau m fun i=>_)=Qsl 1 (Qaa (Qd8 (row 0))) _
     have e:∀ i,1 + i=i + 1:=fun i=>by omega
     simp only [e]
   · refine Qag (fun g=>?_) fun g=>?_
     · have g:=of_decide_eq_true g
       have e1:IntKind.i64.wrap ((x.k:Int) + 1)=((x.k + 1:Nat):Int):=by rw [Qaj ⟨by omega,by omega⟩]; omega
       have hd:=Qmg (n:=n') (k:=x.k) (by omega) fun i=>[SV.v (Value.int .i64 (Qd8 (row i))),SV.v (Value.bool (Qjy (row i)))]
       rw [hd] at x3
       rw [e1,Int.toNat_natCast,Nat.zero_add]
       have x3':Qsl 1 (if Qb7 (Qaa (Qd8 (row x.k))) x.a*1<0 then Qaa (Qd8 (row x.k)) else x.a) (Qau (n' - (x.k + 1)) fun i=>[SV.v (Value.int .i64 (Qd8 (row (x.k + 1 + i)))),SV.v (Value.bool (Qjy (row (x.k + 1 + i))))])=Qhb 1 (Qau n' fun i=>[SV.v (Value.int .i64 (Qd8 (row i))),SV.v (Value.bool (Qjy (row i)))]):=x3
       simp only [Zaa] at x3'
       refine ⟨⟨by omega,by omega⟩,Qag (fun hf=>?_) fun hf=>?_⟩
       · rw [if_pos (of_decide_eq_true hf)] at x3'
         exact ⟨⟨x.k + 1,Qaa (Qd8 (row x.k))⟩,⟨⟨⟨by show 1≤x.k + 1; omega,by show x.k + 1≤n'; omega⟩,x3'⟩,⟨rfl,rfl⟩,trivial⟩,by show n' - (x.k + 1)<_; omega⟩
       · rw [if_neg (of_decide_eq_false hf)] at x3'
         exact ⟨⟨x.k + 1,x.a⟩,⟨⟨⟨by show 1≤x.k + 1; omega,by show x.k + 1≤n'; omega⟩,x3'⟩,⟨rfl,rfl⟩,trivial⟩,by show n' - (x.k + 1)<_; omega⟩
     · have g:=of_decide_eq_false g
       have e:x.k=n':=by omega
       rw [e,Nat.sub_self,Qmf] at x3
       exact ⟨⟨Quc _ _ _,rfl,by omega⟩,Qdg x3 (by simp only [Nat.zero_add])⟩
theorem Q4a:Qc7 Tryz.prog 301 (Qjv (-1)):=Qcq hm Qy0 Tryz.func301 (Λ:=fun args bs=>match args,bs with | [.sl 0 2 0 n _],[⟨2,_,row⟩]=>Zke n Tryz.f301 (-1) (Qi4 (fun i=>Qd8 (row i)) fun i=>Qjy (row i)) | _,_=>Qay) fun args bs p x h hp=>by
 unfold Qjv at h
 split at h <;> try (cases h; done)
 rename_i n c n' row
 cases h
 obtain ⟨h1,rfl,h3⟩:=hp _ rfl
 have h1:=okAll_rows.1 h1
 refine ⟨rfl,[⟨2,n',Qi4 (fun i=>Qd8 (row i)) fun i=>Qjy (row i)⟩],⟨⟨rfl,rfl,fun i hi=>Qmx (h1 i hi)⟩,trivial⟩,?_⟩
 refine Eq.mpr (Zgt (-1) n' n' c (fun i=>Qd8 (row i)) (fun i=>Qjy (row i)) _) ?_
 rw [Qpu h1]
 refine Qag (fun g=>?_) fun g=>?_
 · have g:n'=0:=by simpa using g
   subst g
   rfl
 · have g:n'≠0:=by simpa using g
   refine ⟨⟨by omega,by omega⟩,⟨⟨1,Qaa (Qd8 (row 0))⟩,⟨⟨Nat.le_refl 1,by show 1≤n'; omega⟩,?_⟩,⟨rfl,rfl⟩,trivial⟩,fun x ⟨⟨x1,x2⟩,x3⟩=>?_⟩
   · obtain ⟨m,rfl⟩:∃ m,n'=m + 1:=⟨n' - 1,by omega⟩
     rw [Qii m]
     show Qsl (-1) (Qaa (Qd8 (row 0))) (Qau m fun i=>_)=Qsl (-1) (Qaa (Qd8 (row 0))) _
     have e:∀ i,1 + i=i + 1:=fun i=>by omega
     simp only [e]
   · refine Qag (fun g=>?_) fun g=>?_
     · have g:=of_decide_eq_true g
       have e1:IntKind.i64.wrap ((x.k:Int) + 1)=((x.k + 1:Nat):Int):=by rw [Qaj ⟨by omega,by omega⟩]; omega
       have hd:=Qmg (n:=n') (k:=x.k) (by omega) fun i=>[SV.v (Value.int .i64 (Qd8 (row i))),SV.v (Value.bool (Qjy (row i)))]
       rw [hd] at x3
       rw [e1,Int.toNat_natCast,Nat.zero_add]
       have x3':Qsl (-1) (if Qb7 (Qaa (Qd8 (row x.k))) x.a*-1<0 then Qaa (Qd8 (row x.k)) else x.a) (Qau (n' - (x.k + 1)) fun i=>[SV.v (Value.int .i64 (Qd8 (row (x.k + 1 + i)))),SV.v (Value.bool (Qjy (row (x.k + 1 + i))))])=Qhb (-1) (Qau n' fun i=>[SV.v (Value.int .i64 (Qd8 (row i))),SV.v (Value.bool (Qjy (row i)))]):=x3
       simp only [Q3g] at x3'
       refine ⟨⟨by omega,by omega⟩,Qag (fun hf=>?_) fun hf=>?_⟩
       · rw [if_pos (of_decide_eq_true hf)] at x3'
         exact ⟨⟨x.k + 1,Qaa (Qd8 (row x.k))⟩,⟨⟨⟨by show 1≤x.k + 1; omega,by show x.k + 1≤n'; omega⟩,x3'⟩,⟨rfl,rfl⟩,trivial⟩,by show n' - (x.k + 1)<_; omega⟩
       · rw [if_neg (of_decide_eq_false hf)] at x3'
         exact ⟨⟨x.k + 1,x.a⟩,⟨⟨⟨by show 1≤x.k + 1; omega,by show x.k + 1≤n'; omega⟩,x3'⟩,⟨rfl,rfl⟩,trivial⟩,by show n' - (x.k + 1)<_; omega⟩
     · have g:=of_decide_eq_false g
       have e:x.k=n':=by omega
       rw [e,Nat.sub_self,Qmf] at x3
       exact ⟨⟨Quc _ _ _,rfl,by omega⟩,Qdg x3 (by simp only [Nat.zero_add])⟩
theorem Qwh {r:List SV} (h:Q5b r):isN r∧I64 (Qd8 r):=by
 unfold Q5b at h
 split at h
 · exact ⟨trivial,h⟩
 · exact h.elim
theorem Qtq (a b:List (List SV)):Qk1 (a++b)=Qk1 a + Qk1 b:=by
 induction a with
 | nil=>simp [Qk1]
 | cons r t ih=>simp only [List.cons_append,Qk1,ih]; omega
theorem Qz8 (n:Nat) (row:Nat→List SV):Qk1 (Qau (n + 1) row)=Qk1 (Qau n row) + Qaa (Qd8 (row n)):=by
 rw [Qgg,Qtq]; simp [Qk1]
theorem Zip (n1:Bool) (m1:Int) (n2:Bool) (m2:Int):sv (plZ n1 m1 n2 m2) (plM n1 m1 n2 m2)=sv n1 m1 + sv n2 m2:=by
 unfold plZ plM
 by_cases hn:n1=n2
 · subst hn
   rw [if_pos rfl,if_pos rfl]
   unfold sv; cases n1 <;> simp <;> omega
 · rw [if_neg hn,if_neg hn]
   by_cases hm:m1<m2
   · rw [if_pos hm]
     unfold sv Qab
     cases n1 <;> cases n2 <;> simp_all <;> (repeat' split) <;> omega
   · rw [if_neg hm]
     unfold sv Qab
     by_cases he:m1=m2
     · subst he
       cases n1 <;> cases n2 <;> simp_all <;> omega
     · cases n1 <;> cases n2 <;> simp_all <;> (repeat' split) <;> omega
theorem Zir {n1 n2:Bool} {m1 m2:Int} (h1:0≤m1) (h2:0≤m2):plM n1 m1 n2 m2≤m1 + m2:=by unfold plM Qab; split <;> (try split) <;> omega
theorem Q2r {n:Nat} {row:Nat→List SV} {x:KE} (h:invS n row x) (hx:x.k<n) (hv:I64 (Qaa (Qd8 (row x.k)))) {b:Bool} (hb:sv b (plM x.n x.m (decide (Qaa (Qd8 (row x.k))<0)) (Qab (Qaa (Qd8 (row x.k)))))=sv x.n x.m + Qaa (Qd8 (row x.k))):invS n row ⟨x.k + 1,b,plM x.n x.m (decide (Qaa (Qd8 (row x.k))<0)) (Qab (Qaa (Qd8 (row x.k))))⟩:=by
 have i0:=Qbn (Qaa (Qd8 (row x.k)))
 have i1:=Qhh hv
 refine ⟨hx,Qn7 h.m0 i0,?_,?_⟩
 · have:=Zir (n1:=x.n) (n2:=decide (Qaa (Qd8 (row x.k))<0)) h.m0 i0
   have:=h.m1
   show plM _ _ _ _≤9223372036854775808*((x.k + 1:Nat):Int)
   omega
 · show sv b _=Qk1 (Qau (x.k + 1) row)
   rw [hb,Qz8,h.sum]
theorem Zfk:∀ f g,ΓZ2 f=some g→g.ok Tryz.prog f:=Qad (Qe9) (Qfj Tryz.func300 (by kernel_rfl) (by kernel_rfl) Qkz)
theorem Qsu:Qc7 Tryz.prog 260 Zkn:=Qcq hm Zfk Tryz.func260 (Λ:=fun args bs=>match args,bs with | [.sl 0 2 0 n _],[⟨2,_,row⟩]=>Q9b n (Qi4 (fun i=>Qd8 (row i)) fun i=>Qjy (row i)) | _,_=>Qay) fun args bs p x h hp=>by
 unfold Zkn at h
 split at h <;> try (cases h; done)
 rename_i n c n' row
 cases h
 obtain ⟨h0,rfl,h3⟩:=hp _ rfl
 have h0:=okAll_rows.1 h0
 have h1:∀ i,i<n'→isN (row i):=fun i hi=>(Qwh (h0 i hi)).1
 have hv:∀ i,i<n'→I64 (Qd8 (row i)):=fun i hi=>(Qwh (h0 i hi)).2
 refine ⟨rfl,[⟨2,n',Qi4 (fun i=>Qd8 (row i)) fun i=>Qjy (row i)⟩],⟨⟨rfl,rfl,fun i hi=>Qmx (h1 i hi)⟩,trivial⟩,?_⟩
 refine Eq.mpr (Zgn n' n' c (fun i=>Qd8 (row i)) (fun i=>Qjy (row i)) _) ?_
 rw [Qpu h1]
 refine ⟨⟨⟨0,false,0⟩,⟨Nat.zero_le _,by decide,by show (0:Int)≤_; simp,rfl⟩,rfl,rfl,Nat.le_refl _,fun i hi=>rfl⟩,fun x hx=>?_⟩
 have x1:=hx.le
 have x2:=hx.m0
 have x3:=hx.m1
 refine Qag (fun g=>?_) fun g=>?_
 · have g:=of_decide_eq_true g
   have e1:IntKind.i64.wrap ((x.k:Int) + 1)=((x.k + 1:Nat):Int):=by rw [Qaj ⟨by omega,by omega⟩]; omega
   rw [e1,Int.toNat_natCast,Nat.zero_add,Qfs,Znr]
   have vv:I64 (Qaa (Qd8 (row x.k))):=Qe0 (hv x.k (by omega))
   have hs:=Zip x.n x.m (decide (Qaa (Qd8 (row x.k))<0)) (Qab (Qaa (Qd8 (row x.k))))
   rw [Zch] at hs
   have hle:=Qhh vv
   exact ⟨⟨by omega,by omega⟩,vv,⟨⟨Qdp _,Qd6 x2 (by omega)⟩,⟨Qfp vv,by decide,by decide⟩,by show x.m + Qab (Qaa (Qd8 (row x.k)))<_; omega⟩,⟨_,⟨Q2r hx (by omega) vv hs,rfl,rfl,Nat.le_refl _,fun i hi=>rfl⟩,by show n' - (x.k + 1)<_; omega⟩⟩
 · have g:=of_decide_eq_false g
   have e:x.k=n':=by omega
   have hs:=hx.sum
   rw [e] at hs
   have hs':sv x.n x.m=Qk1 (Qau n' fun i=>[SV.v (Value.int .i64 (Qd8 (row i))),SV.v (Value.bool (Qjy (row i)))]):=hs
   rw [Qfs]
   refine ⟨⟨Quc _ _ _,rfl,by omega⟩,⟨Qdp _,Qd6 x2 (by omega)⟩,Qdg ?_ ?_⟩
   · rw [Qon _ x2,hs']
   · rw [Qoo x.n _ x2,hs']; simp only [Nat.zero_add]
def Zmz:List SV→Option (Option Prop×SV)
 | [.agg [.v (.int .i64 v),.v (.bool f)],.agg [.v (.int .i64 u),.v (.bool g)]]=>some (some (I64 v∧I64 u),Qe4 (Qbb (Qaa v + Qaa u)) (Qe7 (Qaa v + Qaa u) (Qa8 v f||Qa8 u g)))
 | _=>none
def Qoa (a b:Int):Int:=if b<a then b else a
def Qr8 (a b:Int):Int:=if a<b then b else a
def Q08:List SV→Option (Option Prop×SV)
 | [.agg [.v (.int .i64 v),.v (.bool f)],.agg [.v (.int .i64 l),.v (.bool g)],.agg [.v (.int .i64 h),.v (.bool k)]]=>some (some (I64 v∧I64 l∧I64 h),Qe4 (Qr8 (Qaa l) (Qoa (Qaa v) (Qaa h))) (Qa8 l g||(Qa8 v f||Qa8 h k)))
 | _=>none
def Zld:Qbz:=Qai (Qai (Qai (Qai (ΓC) 260 (Qfc Zkn)) 302 (Qfc (Qjv 1))) 301 (Qfc (Qjv (-1)))) 263 (Qao Zko)
theorem Zg0 (v:Int) (f:Bool) (u:Int) (g:Bool) (R:SV→Prop):(Qbe Tryz.prog Zld Qay Tryz.f267 [Qe4 v f,Qe4 u g] R)=((((Q5b [SV.v (.int .i64 v),SV.v (.bool f)])∧((Q5b [SV.v (.int .i64 u),SV.v (.bool g)])∧True))∧(((2:Nat)=2)∧((2:Nat)<1099511627776)))∧(R (SV.agg [(SV.v (.int .i64 (Qbb (Qk1 [[SV.v (.int .i64 v),SV.v (.bool f)],[SV.v (.int .i64 u),SV.v (.bool g)]])))),(SV.v (.bool (Qe7 (Qk1 [[SV.v (.int .i64 v),SV.v (.bool f)],[SV.v (.int .i64 u),SV.v (.bool g)]]) (Qkf [[SV.v (.int .i64 v),SV.v (.bool f)],[SV.v (.int .i64 u),SV.v (.bool g)]]))))]))):=by kernel_rfl
theorem Q5z (v:Int) (f:Bool) (u:Int) (g:Bool) (h:Int) (k:Bool) (R:SV→Prop):(Qbe Tryz.prog Zld Qay Tryz.f270 [Qe4 v f,Qe4 u g,Qe4 h k] R)=((((isN [SV.v (.int .i64 v),SV.v (.bool f)])∧((isN [SV.v (.int .i64 h),SV.v (.bool k)])∧True))∧(((2:Nat)=2)∧((2:Nat)<1099511627776)))∧((((isN [SV.v (.int .i64 u),SV.v (.bool g)])∧((isN [SV.v (.int .i64 (Qhb 1 [[SV.v (.int .i64 v),SV.v (.bool f)],[SV.v (.int .i64 h),SV.v (.bool k)]])),SV.v (.bool (Qkf [[SV.v (.int .i64 v),SV.v (.bool f)],[SV.v (.int .i64 h),SV.v (.bool k)]]))])∧True))∧(((2:Nat)=2)∧((2:Nat)<1099511627776)))∧(R (SV.agg [(SV.v (.int .i64 (Qhb (-1) [[SV.v (.int .i64 u),SV.v (.bool g)],[SV.v (.int .i64 (Qhb 1 [[SV.v (.int .i64 v),SV.v (.bool f)],[SV.v (.int .i64 h),SV.v (.bool k)]])),SV.v (.bool (Qkf [[SV.v (.int .i64 v),SV.v (.bool f)],[SV.v (.int .i64 h),SV.v (.bool k)]]))]]))),(SV.v (.bool (Qkf [[SV.v (.int .i64 u),SV.v (.bool g)],[SV.v (.int .i64 (Qhb 1 [[SV.v (.int .i64 v),SV.v (.bool f)],[SV.v (.int .i64 h),SV.v (.bool k)]])),SV.v (.bool (Qkf [[SV.v (.int .i64 v),SV.v (.bool f)],[SV.v (.int .i64 h),SV.v (.bool k)]]))]])))])))):=by kernel_rfl
theorem Qy9:∀ f g,Zld f=some g→g.ok Tryz.prog f:=Qad (Qad (Qad (Qad (Qe9) (Qfj Tryz.func260 (by kernel_rfl) (by kernel_rfl) Qsu)) (Qfj Tryz.func302 (by kernel_rfl) (by kernel_rfl) Q39)) (Qfj Tryz.func301 (by kernel_rfl) (by kernel_rfl) Q4a)) (Qas Tryz.func263 (by kernel_rfl) (by kernel_rfl) Qnk)
theorem sum2 (v u:Int) (f g:Bool):Qk1 [[SV.v (Value.int .i64 v),SV.v (Value.bool f)],[SV.v (Value.int .i64 u),SV.v (Value.bool g)]]=Qaa v + Qaa u:=by simp [Qk1,Qd8]
theorem Znj (v u:Int) (f g:Bool):Qkf [[SV.v (Value.int .i64 v),SV.v (Value.bool f)],[SV.v (Value.int .i64 u),SV.v (Value.bool g)]]=(Qa8 v f||Qa8 u g):=by simp [Qkf,Qd8,Qjy]
theorem Zi2 (o v u:Int) (f g:Bool):Qhb o [[SV.v (Value.int .i64 v),SV.v (Value.bool f)],[SV.v (Value.int .i64 u),SV.v (Value.bool g)]]=if Qb7 (Qaa u) (Qaa v)*o<0 then Qaa u else Qaa v:=rfl
theorem Zi9 (a b:Int):(if Qb7 b a*1<0 then b else a)=Qoa a b:=by unfold Qoa; simp only [Zaa]
theorem Zjb (a b:Int):(if Qb7 b a*-1<0 then b else a)=Qr8 a b:=by unfold Qr8; simp only [Q3g]
theorem Zi8 {a b l h:Int} (h1:l≤a∧a≤h) (h2:l≤b∧b≤h):l≤Qoa a b∧Qoa a b≤h:=by unfold Qoa; split <;> omega
theorem Q4f:Qaq Tryz.prog 267 Zmz:=Qax hm Qy9 Tryz.func267 (Λ:=fun _=>Qay) fun args p x h hp=>by
 unfold Zmz at h
 split at h <;> try (cases h; done)
 rename_i v f u g
 cases h
 obtain ⟨h1,h2⟩:=hp _ rfl
 refine ⟨rfl,rfl,?_⟩
 refine Eq.mpr (Zg0 v f u g _) ?_
 rw [sum2,Znj]
 exact ⟨⟨⟨h1,h2,trivial⟩,rfl,by decide⟩,rfl⟩
theorem Qu7:Qaq Tryz.prog 270 Q08:=Qax hm Qy9 Tryz.func270 (Λ:=fun _=>Qay) fun args p x h hp=>by
 unfold Q08 at h
 split at h <;> try (cases h; done)
 rename_i v f l g h k
 cases h
 obtain ⟨h1,h2,h3⟩:=hp _ rfl
 refine ⟨rfl,rfl,?_⟩
 refine Eq.mpr (Q5z v f l g h k _) ?_
 rw [Zi2,Zi2,Znj,Znj,Zi9]
 have hm:=Zi8 (Qjq h1) (Qjq h3)
 rw [Qdf hm.1,Qcp hm.1,Zjb]
 exact ⟨⟨⟨trivial,trivial,trivial⟩,rfl,by decide⟩,⟨⟨trivial,trivial,trivial⟩,rfl,by decide⟩,rfl⟩
end Go.Proofs.YthkihlpeaidlnaaGreat
end
section
namespace Go.Proofs.YthkihlpeaidlnaaGreat
open Go.SE
def rt:Nat→Int→Int→Int
 | 0,r,_=>r
 | k + 1,r,m=>if (r + 2 ^ k)*(r + 2 ^ k)≤m then rt k (r + 2 ^ k) m else rt k r m
def isq (m:Int):Int:=rt 64 0 m
theorem Zck {a b:Int} (h0:0≤a) (h:a≤b):a*a≤b*b:=Int.mul_le_mul h h h0 (by omega)
theorem Zl4 {a b:Int} (h0:0≤a) (h:a<b):a*a<b*b:=by
 have h1:=Zck (a:=a + 1) (b:=b) (by omega) (by omega)
 have e:(a + 1)*(a + 1)=a*a + 2*a + 1:=by rw [Int.add_mul,Int.mul_add]; omega
 omega
theorem Qvk {a b:Int} (h0:0≤b) (h:a*a≤b*b):a≤b:=by
 rcases Int.lt_or_le b a with h1 | h1
 · have:=Zl4 h0 h1; omega
 · exact h1
end Go.Proofs.YthkihlpeaidlnaaGreat
end
section
namespace Go.Proofs.YthkihlpeaidlnaaGreat
open Go.SE Go.RowKit
def sRoot:List SV→Option (Option Prop×SV)
 | [.agg [.v (.int .u64 lo),.v (.int .u64 hi)]]=>some (some (U64 lo∧U64 hi),.v (.int .u64 (isq (MM lo hi))))
 | _=>none
def sRRoot:List SV→Option (Option Prop×SV)
 | [.agg [.v (.bool _),.v (.int .u64 hi),.v (.int .u64 lo)]]=>some (some (U64 lo∧U64 hi),wiS false 0 (isq (MM lo hi)))
 | _=>none
def Zl2 (v:Int):Int:=if Qaa v<0 then 0 else isq (Qaa v*4294967296)
def Zl3 (v:Int) (f:Bool):Bool:=if Qaa v<0 then true else f
def sSqrt:List SV→Option (Option Prop×SV)
 | [.agg [.v (.int .i64 v),.v (.bool f)]]=>some (some (I64 v),Qe4 (Zl2 v) (Zl3 v f))
 | _=>none
def hypE (a b:Int):Int:=isq (a*a + b*b)
def Qwp (a b c d:Int):Int:=Int.tdiv (a*b + c*d) 4294967296
def sDot:List SV→Option (Option Prop×SV)
 | [.agg [.v (.int .i64 a),.v (.bool fa)],.agg [.v (.int .i64 b),.v (.bool fb)],.agg [.v (.int .i64 c),.v (.bool fc)],.agg [.v (.int .i64 d),.v (.bool fd)]] =>
   some (some ((I64 a∧I64 b)∧I64 c∧I64 d),Qe4 (Qbb (Qwp (Qaa a) (Qaa b) (Qaa c) (Qaa d))) (Qe7 (Qwp (Qaa a) (Qaa b) (Qaa c) (Qaa d)) ((Qa8 a fa||Qa8 b fb)||(Qa8 c fc||Qa8 d fd))))
 | _=>none
def ΓR1:Qbz:=ΓC
@[reducible] noncomputable def Qhs (a:Int) (b:Int) (c:Int) (d:Int):=(MM (MM (plM (!decide (Qaa a<0)==decide (Qaa b<0)&&Qaa a != 0&&Qaa b != 0) (MM (Qab (Qaa a)*Qab (Qaa b) % 18446744073709551616) (Qab (Qaa a)*Qab (Qaa b) / 18446744073709551616)) (!decide (Qaa c<0)==decide (Qaa d<0)&&Qaa c != 0&&Qaa d != 0) (MM (Qab (Qaa c)*Qab (Qaa d) % 18446744073709551616) (Qab (Qaa c)*Qab (Qaa d) / 18446744073709551616)) % 18446744073709551616) (plM (!decide (Qaa a<0)==decide (Qaa b<0)&&Qaa a != 0&&Qaa b != 0) (MM (Qab (Qaa a)*Qab (Qaa b) % 18446744073709551616) (Qab (Qaa a)*Qab (Qaa b) / 18446744073709551616)) (!decide (Qaa c<0)==decide (Qaa d<0)&&Qaa c != 0&&Qaa d != 0) (MM (Qab (Qaa c)*Qab (Qaa d) % 18446744073709551616) (Qab (Qaa c)*Qab (Qaa d) / 18446744073709551616)) / 18446744073709551616) / 4294967296 % 18446744073709551616) (MM (plM (!decide (Qaa a<0)==decide (Qaa b<0)&&Qaa a != 0&&Qaa b != 0) (MM (Qab (Qaa a)*Qab (Qaa b) % 18446744073709551616) (Qab (Qaa a)*Qab (Qaa b) / 18446744073709551616)) (!decide (Qaa c<0)==decide (Qaa d<0)&&Qaa c != 0&&Qaa d != 0) (MM (Qab (Qaa c)*Qab (Qaa d) % 18446744073709551616) (Qab (Qaa c)*Qab (Qaa d) / 18446744073709551616)) % 18446744073709551616) (plM (!decide (Qaa a<0)==decide (Qaa b<0)&&Qaa a != 0&&Qaa b != 0) (MM (Qab (Qaa a)*Qab (Qaa b) % 18446744073709551616) (Qab (Qaa a)*Qab (Qaa b) / 18446744073709551616)) (!decide (Qaa c<0)==decide (Qaa d<0)&&Qaa c != 0&&Qaa d != 0) (MM (Qab (Qaa c)*Qab (Qaa d) % 18446744073709551616) (Qab (Qaa c)*Qab (Qaa d) / 18446744073709551616)) / 18446744073709551616) / 4294967296 / 18446744073709551616))
@[reducible] noncomputable def Qiw (a:Int) (b:Int) (c:Int) (d:Int):=((U64 (MM (plM (!decide (Qaa a<0)==decide (Qaa b<0)&&Qaa a != 0&&Qaa b != 0) (MM (Qab (Qaa a)*Qab (Qaa b) % 18446744073709551616) (Qab (Qaa a)*Qab (Qaa b) / 18446744073709551616)) (!decide (Qaa c<0)==decide (Qaa d<0)&&Qaa c != 0&&Qaa d != 0) (MM (Qab (Qaa c)*Qab (Qaa d) % 18446744073709551616) (Qab (Qaa c)*Qab (Qaa d) / 18446744073709551616)) % 18446744073709551616) (plM (!decide (Qaa a<0)==decide (Qaa b<0)&&Qaa a != 0&&Qaa b != 0) (MM (Qab (Qaa a)*Qab (Qaa b) % 18446744073709551616) (Qab (Qaa a)*Qab (Qaa b) / 18446744073709551616)) (!decide (Qaa c<0)==decide (Qaa d<0)&&Qaa c != 0&&Qaa d != 0) (MM (Qab (Qaa c)*Qab (Qaa d) % 18446744073709551616) (Qab (Qaa c)*Qab (Qaa d) / 18446744073709551616)) / 18446744073709551616) / 4294967296 % 18446744073709551616))∧(U64 (MM (plM (!decide (Qaa a<0)==decide (Qaa b<0)&&Qaa a != 0&&Qaa b != 0) (MM (Qab (Qaa a)*Qab (Qaa b) % 18446744073709551616) (Qab (Qaa a)*Qab (Qaa b) / 18446744073709551616)) (!decide (Qaa c<0)==decide (Qaa d<0)&&Qaa c != 0&&Qaa d != 0) (MM (Qab (Qaa c)*Qab (Qaa d) % 18446744073709551616) (Qab (Qaa c)*Qab (Qaa d) / 18446744073709551616)) % 18446744073709551616) (plM (!decide (Qaa a<0)==decide (Qaa b<0)&&Qaa a != 0&&Qaa b != 0) (MM (Qab (Qaa a)*Qab (Qaa b) % 18446744073709551616) (Qab (Qaa a)*Qab (Qaa b) / 18446744073709551616)) (!decide (Qaa c<0)==decide (Qaa d<0)&&Qaa c != 0&&Qaa d != 0) (MM (Qab (Qaa c)*Qab (Qaa d) % 18446744073709551616) (Qab (Qaa c)*Qab (Qaa d) / 18446744073709551616)) / 18446744073709551616) / 4294967296 / 18446744073709551616)))
@[reducible] noncomputable def Qiv (a:Int) (b:Int) (c:Int) (d:Int):=(SV.v (.int .i64 (Qus (plZ (!decide (Qaa a<0)==decide (Qaa b<0)&&Qaa a != 0&&Qaa b != 0) (MM (Qab (Qaa a)*Qab (Qaa b) % 18446744073709551616) (Qab (Qaa a)*Qab (Qaa b) / 18446744073709551616)) (!decide (Qaa c<0)==decide (Qaa d<0)&&Qaa c != 0&&Qaa d != 0) (MM (Qab (Qaa c)*Qab (Qaa d) % 18446744073709551616) (Qab (Qaa c)*Qab (Qaa d) / 18446744073709551616))) (Qhs a b c d))))
theorem Zgw (a:Int) (fa:Bool) (b:Int) (fb:Bool) (c:Int) (fc:Bool) (d:Int) (fd:Bool) (R:SV→Prop):(Qbe Tryz.prog ΓR1 Qay Tryz.f171 [Qe4 a fa,Qe4 b fb,Qe4 c fc,Qe4 d fd] R) =
(((I64 (Qaa a))∧(I64 (Qaa b)))∧(((I64 (Qaa c))∧(I64 (Qaa d)))∧((((U64 (Qab (Qaa a)*Qab (Qaa b) % 18446744073709551616))∧(U64 (Qab (Qaa a)*Qab (Qaa b) / 18446744073709551616)))∧(((U64 (Qab (Qaa c)*Qab (Qaa d) % 18446744073709551616))∧(U64 (Qab (Qaa c)*Qab (Qaa d) / 18446744073709551616)))∧(((MM (Qab (Qaa a)*Qab (Qaa b) % 18446744073709551616) (Qab (Qaa a)*Qab (Qaa b) / 18446744073709551616) + MM (Qab (Qaa c)*Qab (Qaa d) % 18446744073709551616) (Qab (Qaa c)*Qab (Qaa d) / 18446744073709551616)):Int)<340282366920938463463374607431768211456)))∧(((U64 (plM (!decide (Qaa a<0)==decide (Qaa b<0)&&Qaa a != 0&&Qaa b != 0) (MM (Qab (Qaa a)*Qab (Qaa b) % 18446744073709551616) (Qab (Qaa a)*Qab (Qaa b) / 18446744073709551616)) (!decide (Qaa c<0)==decide (Qaa d<0)&&Qaa c != 0&&Qaa d != 0) (MM (Qab (Qaa c)*Qab (Qaa d) % 18446744073709551616) (Qab (Qaa c)*Qab (Qaa d) / 18446744073709551616)) % 18446744073709551616))∧(U64 (plM (!decide (Qaa a<0)==decide (Qaa b<0)&&Qaa a != 0&&Qaa b != 0) (MM (Qab (Qaa a)*Qab (Qaa b) % 18446744073709551616) (Qab (Qaa a)*Qab (Qaa b) / 18446744073709551616)) (!decide (Qaa c<0)==decide (Qaa d<0)&&Qaa c != 0&&Qaa d != 0) (MM (Qab (Qaa c)*Qab (Qaa d) % 18446744073709551616) (Qab (Qaa c)*Qab (Qaa d) / 18446744073709551616)) / 18446744073709551616)))∧(sel (Qa8 a fa) ((Qiw a b c d)∧(R (SV.agg [(Qiv a b c d),(SV.v (.bool (Qq7 (Qhs a b c d) true)))]))) (sel (Qa8 b fb) ((Qiw a b c d)∧(R (SV.agg [(Qiv a b c d),(SV.v (.bool (Qq7 (Qhs a b c d) true)))]))) (sel (Qa8 c fc) ((Qiw a b c d)∧(R (SV.agg [(Qiv a b c d),(SV.v (.bool (Qq7 (Qhs a b c d) true)))]))) ((Qiw a b c d)∧(R (SV.agg [(Qiv a b c d),(SV.v (.bool (Qq7 (Qhs a b c d) (Qa8 d fd))))])))))))))):=by kernel_rfl
theorem Za2:∀ f g,ΓR1 f=some g→g.ok Tryz.prog f:=Qe9
theorem Q1q (a b c d:Int):plM (!(decide (a<0)==decide (b<0))&&a != 0&&b != 0) (Qab a*Qab b) (!(decide (c<0)==decide (d<0))&&c != 0&&d != 0) (Qab c*Qab d)=Qab (a*b + c*d):=by rw [Q9s Qdm Qdm,Qi2,Qi2]
theorem Qcj (a:Int):0≤a*a:=by
 rcases Int.le_total 0 a with h | h
 · exact Int.mul_nonneg h h
 · have:=Int.mul_nonneg (show 0≤-a by omega) (show 0≤-a by omega); rwa [Int.neg_mul_neg] at this
theorem Zex (a b c d:Int):sv (plZ (!(decide (a<0)==decide (b<0))&&a != 0&&b != 0) (Qab a*Qab b) (!(decide (c<0)==decide (d<0))&&c != 0&&d != 0) (Qab c*Qab d)) (Qab (a*b + c*d))=a*b + c*d:=by
 rw [← Q1q]
 have key:=Ziq (!(decide (a<0)==decide (b<0))&&a != 0&&b != 0) (Qab a*Qab b) (!(decide (c<0)==decide (d<0))&&c != 0&&d != 0) (Qab c*Qab d)
 rw [Qi2,Qi2] at key
 rw [← key]
 generalize (!(decide (a<0)==decide (b<0))&&a != 0&&b != 0)=n1
 generalize (!(decide (c<0)==decide (d<0))&&c != 0&&d != 0)=n2
 generalize Qab a*Qab b=m1
 generalize Qab c*Qab d=m2
 unfold plZ plN
 by_cases hn:n1=n2
 · simp only [if_pos hn]
 · simp only [if_neg hn]
   by_cases hm:m1<m2
   · simp only [if_pos hm]
   · simp only [if_neg hm]
     by_cases he:m1=m2
     · have e0:plM n1 m1 n2 m2=0:=by unfold plM; rw [if_neg hn,he,Int.sub_self]; rfl
       rw [e0]
       have z:∀ n,sv n 0=0:=fun n=>by cases n <;> rfl
       rw [z,z]
     · have e:(m1 != m2)=true:=bne_iff_ne.2 he
       rw [e,Bool.and_true]
theorem Zez {a b c d:Int} (ha:I64 a) (hb:I64 b) (hc:I64 c) (hd:I64 d):0≤Qab (a*b + c*d)∧Qab (a*b + c*d)≤170141183460469231731687303715884105728:=by
 have h1:=Qds ha hb
 have h2:=Qds hc hd
 refine ⟨Qbn _,?_⟩
 have e:=Q9s (n1:=!(decide (a<0)==decide (b<0))) (n2:=!(decide (c<0)==decide (d<0))) (Qdm (a:=a) (b:=b)) (Qdm (a:=c) (b:=d))
 rw [Qjt,Qjt] at e
 rw [← e]
 have n1:=Qdm (a:=a) (b:=b)
 have n2:=Qdm (a:=c) (b:=d)
 generalize Qab a*Qab b=x at *
 generalize Qab c*Qab d=y at *
 unfold plM Qab
 split <;> (try split) <;> omega
theorem Q4c:Qaq Tryz.prog 171 sDot:=Qax hm Za2 Tryz.func171 (Λ:=fun _=>Qay) fun args p x h hp=>by
 unfold sDot at h
 split at h <;> try (cases h; done)
 rename_i a fa b fb c fc d fd
 cases h
 obtain ⟨⟨ha,hb⟩,hc,hd⟩:=hp _ rfl
 have ha:=Qe0 ha
 have hb:=Qe0 hb
 have hc:=Qe0 hc
 have hd:=Qe0 hd
 refine ⟨rfl,rfl,?_⟩
 refine Eq.mpr (Zgw a fa b fb c fc d fd _) ?_
 repeat (first | unfold Qiv | unfold Qiw | unfold Qhs)
 refine ?_
 simp only [Qfs,Q1q]
 have l1:=Qds ha hb
 have l2:=Qds hc hd
 have n1:=Qdm (a:=Qaa a) (b:=Qaa b)
 have n2:=Qdm (a:=Qaa c) (b:=Qaa d)
 obtain ⟨y0,y1⟩:=Zez ha hb hc hd
 have es:=Zex (Qaa a) (Qaa b) (Qaa c) (Qaa d)
 have e:∀ n,sv n (Qab (Qaa a*Qaa b + Qaa c*Qaa d))=Qaa a*Qaa b + Qaa c*Qaa d→sv n (Qab (Qaa a*Qaa b + Qaa c*Qaa d) / 4294967296)=Qwp (Qaa a) (Qaa b) (Qaa c) (Qaa d):=fun n h=>by rw [Qz7 n y0,h]; rfl
 have fin:∀ fl,fl=((Qa8 a fa||Qa8 b fb)||(Qa8 c fc||Qa8 d fd))→(U64 (Qab (Qaa a*Qaa b + Qaa c*Qaa d) / 4294967296 % 18446744073709551616)∧U64 (Qab (Qaa a*Qaa b + Qaa c*Qaa d) / 4294967296 / 18446744073709551616))∧SV.agg [SV.v (.int .i64 (Qus (plZ (!(decide (Qaa a<0)==decide (Qaa b<0))&&Qaa a != 0&&Qaa b != 0) (Qab (Qaa a)*Qab (Qaa b)) (!(decide (Qaa c<0)==decide (Qaa d<0))&&Qaa c != 0&&Qaa d != 0) (Qab (Qaa c)*Qab (Qaa d))) (Qab (Qaa a*Qaa b + Qaa c*Qaa d) / 4294967296))),SV.v (.bool (Qq7 (Qab (Qaa a*Qaa b + Qaa c*Qaa d) / 4294967296) fl))]=Qe4 (Qbb (Qwp (Qaa a) (Qaa b) (Qaa c) (Qaa d))) (Qe7 (Qwp (Qaa a) (Qaa b) (Qaa c) (Qaa d)) ((Qa8 a fa||Qa8 b fb)||(Qa8 c fc||Qa8 d fd))):=by
   intro fl hf
   refine ⟨⟨Qdp _,Qd6 (by omega) (by omega)⟩,Qdg ?_ ?_⟩
   · rw [Qon _ (by omega),e _ es]
   · rw [Qoo _ _ (by omega),e _ es,hf]
 refine ⟨⟨ha,hb⟩,⟨hc,hd⟩,⟨⟨Qdp _,Qd6 n1 (by omega)⟩,⟨Qdp _,Qd6 n2 (by omega)⟩,by omega⟩,⟨Qdp _,Qd6 y0 (by omega)⟩,?_⟩
 exact Qag (fun g1=>fin _ (by rw [g1]; simp)) fun g1=>Qag (fun g2=>fin _ (by simp [g1,g2])) fun g2=>Qag (fun g3=>fin _ (by simp [g1,g2,g3])) fun g3=>fin _ (by simp [g1,g2,g3])
end Go.Proofs.YthkihlpeaidlnaaGreat
end
section
namespace Go.Proofs.YthkihlpeaidlnaaGreat
open Go.SE
structure NB where
 v:Int
 f:Bool
def nS (a:NB):SV:=Qe4 a.v a.f
def snd (a:NB):NB:=⟨Qaa a.v,Qa8 a.v a.f⟩
def Qxs (e:Int) (f:Bool):NB:=⟨Qbb e,Qe7 e f⟩
def Qoj (n:Int):NB:=Qxs (n*4294967296) false
def Qv5 (a:NB):NB:=⟨-Qaa a.v,Qa8 a.v a.f⟩
def Qyt (a:NB):NB:=⟨Qab (Qaa a.v),Qa8 a.v a.f⟩
def Q8f (a b:NB):NB:=Qxs (Qaa a.v + Qaa b.v) (Qa8 a.v a.f||Qa8 b.v b.f)
def Zl1 (a b:NB):NB:=Qxs (Qaa a.v - Qaa b.v) (Qa8 a.v a.f||Qa8 b.v b.f)
def Qn9 (a b:NB):NB:=Qxs (Qbj (Qaa a.v) (Qaa b.v)) (Qa8 a.v a.f||Qa8 b.v b.f)
def Qrs (a b:Int):NB:=⟨Qex a b,Qnq a b⟩
def Qqp (a b:NB):NB:=⟨Qex (Qaa a.v) (Qaa b.v),Qnq (Qaa a.v) (Qaa b.v)||(Qa8 a.v a.f||Qa8 b.v b.f)⟩
def Q5r (a:NB):NB:=⟨Qbd (Qaa a.v),Qa8 a.v a.f⟩
def Qww (x l h:NB):NB:=⟨Qr8 (Qaa l.v) (Qoa (Qaa x.v) (Qaa h.v)),Qa8 l.v l.f||(Qa8 x.v x.f||Qa8 h.v h.f)⟩
def hypN (a b:NB):NB:=Qxs (hypE (Qaa a.v) (Qaa b.v)) (Qa8 a.v a.f||Qa8 b.v b.f)
def Qq8 (a b c d:NB):NB:=Qxs (Qwp (Qaa a.v) (Qaa b.v) (Qaa c.v) (Qaa d.v)) ((Qa8 a.v a.f||Qa8 b.v b.f)||(Qa8 c.v c.f||Qa8 d.v d.f))
def Qin (v:Int):Int:=if v > 6746518852 then 13493037704 - v else if v < -6746518852 then -13493037704 - v else v
def Znc (a:NB):NB:=⟨Qin a.v,a.f⟩
def Qjs (y t:NB) (k:Nat):NB:=Qv5 (Qqp (Qn9 (Qn9 t y) y) (Qoj ((2*(k + 1))*(2*(k + 1) + 1))))
def Qbu (y:NB):Nat→NB
 | 0=>y
 | k + 1=>Qjs y (Qbu y k) k
def Qdl (y:NB):Nat→NB
 | 0=>y
 | k + 1=>Q8f (Qdl y k) (Qbu y (k + 1))
def Qtu (a:NB):NB:=Znc (Q5r a)
def Qh7 (a:NB):NB:=Qww (Qdl (Qtu a) 8) ⟨-4294967296,false⟩ ⟨4294967296,false⟩
def Qjm (a:NB):NB:=Qh7 (Q8f (Q5r a) ⟨6746518852,false⟩)
def Sd (v:Int):Prop:=-9223372036854775807≤v∧v≤9223372036854775807
theorem Sd.i64 {v:Int} (h:Sd v):I64 v:=by obtain ⟨_,_⟩:=h; exact ⟨by omega,by omega⟩
theorem Sd.self {v:Int} (h:Sd v):Qaa v=v:=Qdf h.1
theorem Sd.flag {v:Int} {f:Bool} (h:Sd v):Qa8 v f=f:=Qcp h.1
theorem Q0h {v:Int} (h:I64 v):Sd (Qaa v):=Qjq h
theorem Qcg (e:Int):Sd (Qbb e):=by unfold Qbb; constructor <;> (repeat' split) <;> omega
theorem Q64 (a:Int):Sd (Qp2 a):=by unfold Qp2; constructor <;> (repeat' split) <;> omega
theorem Qij (a b:Int):Sd (Qex a b):=by unfold Qex; split; exact Q64 a; exact Qcg _
theorem Q16 {v:Int} (h:Sd v):Sd (-v):=by obtain ⟨_,_⟩:=h; exact ⟨by omega,by omega⟩
theorem Qhr {v:Int}:-13493037704≤Qbd v∧Qbd v≤13493037704:=by
 have h1:=Int.tmod_lt_of_pos v (show (0:Int)<26986075409 by decide)
 have h2:-26986075409<Int.tmod v 26986075409:=by
   have:=Int.neg_tmod v 26986075409
   have h3:=Int.tmod_lt_of_pos (-v) (show (0:Int)<26986075409 by decide)
   omega
 unfold Qbd
 constructor <;> (repeat' split) <;> omega
theorem Q7m {v:Int} (h:-13493037704≤v∧v≤13493037704):-6746518852≤Qin v∧Qin v≤6746518852:=by obtain ⟨_,_⟩:=h; unfold Qin; constructor <;> (repeat' split) <;> omega
theorem Q0k (a:NB):-6746518852≤(Qtu a).v∧(Qtu a).v≤6746518852:=Q7m Qhr
theorem Zcn (a:NB):Sd (Qtu a).v:=by have:=Q0k a; exact ⟨by omega,by omega⟩
theorem Qjr {y:NB} (h:Sd y.v):∀ k,Sd (Qbu y k).v
 | 0=>h
 | k + 1=>Q16 (by
     have:=Qij (Qaa (Qn9 (Qn9 (Qbu y k) y) y).v) (Qaa (Qoj ((2*((k:Int) + 1))*(2*((k:Int) + 1) + 1))).v)
     show Sd (Qaa (Qex _ _))
     rw [this.self]; exact this)
theorem Qtv {y:NB} (h:Sd y.v):∀ k,Sd (Qdl y k).v
 | 0=>h
 | _ + 1=>Qcg _
theorem Q3k (x:NB):-4294967296≤(Qww x ⟨-4294967296,false⟩ ⟨4294967296,false⟩).v∧(Qww x ⟨-4294967296,false⟩ ⟨4294967296,false⟩).v≤4294967296:=by
 have e1:Qaa (-4294967296)=-4294967296:=by decide
 have e2:Qaa 4294967296=4294967296:=by decide
 show -4294967296≤Qr8 (Qaa (-4294967296)) (Qoa (Qaa x.v) (Qaa 4294967296))∧Qr8 (Qaa (-4294967296)) (Qoa (Qaa x.v) (Qaa 4294967296))≤4294967296
 rw [e1,e2]
 unfold Qr8 Qoa
 constructor <;> (repeat' split) <;> omega
theorem Qtw (a:NB):-4294967296≤(Qh7 a).v∧(Qh7 a).v≤4294967296:=Q3k _
end Go.Proofs.YthkihlpeaidlnaaGreat
end
section
namespace Go.Proofs.YthkihlpeaidlnaaGreat
open Go.SE Go.RowKit
def Zk8:Qbz:=Qai (Qai (Qai (Qai (Qai (Qai (Qai (ΓC) 268 (Qao Zco)) 176 (Qao Zmk)) 174 (Qao Zmm)) 269 (Qao Zmr)) 263 (Qao Zko)) 267 (Qao Zmz)) 270 (Qao Q08)
def Zme:List SV→Option (Option Prop×SV)
 | [.agg [.v (.int .i64 v),.v (.bool f)]]=>some (some (I64 v),nS (Qh7 ⟨v,f⟩))
 | _=>none
def sCos:List SV→Option (Option Prop×SV)
 | [.agg [.v (.int .i64 v),.v (.bool f)]]=>some (some (I64 v),nS (Qjm ⟨v,f⟩))
 | _=>none
def vN (a:NB):Blk:=Qct 67 [.v (.int .i64 a.v),.v (.bool a.f)]
noncomputable def Q9c (y:NB):Nat→Option LoopSpec:=Zj8 (Qdv Qay Tryz.f181 0 Nat (fun k=>k≤8) (fun k=>8 - k) [(6,fun k=>.v (.int .i64 ((k:Int) + 1)))] [(256,fun k=>vN (Qbu y k)),(264,fun k=>vN (Qdl y k))]) 6 [(4,fun nx=>nx + 16),(5,fun nx=>nx + 24)]
@[reducible] noncomputable def Qa2 (v:Int):=(IntKind.wrap IntKind.i64 (-13493037704 - IntKind.wrap IntKind.i64 (13493037704 - Qbd (Qaa v))))
@[reducible] noncomputable def Qbh (v:Int):=(Qaa (IntKind.wrap IntKind.i64 (-13493037704 - Qbd (Qaa v))))
@[reducible] noncomputable def Qbg (v:Int):=(Qaa (IntKind.wrap IntKind.i64 (13493037704 - Qbd (Qaa v))))
theorem Zgo (y:NB) (v:Int) (f:Bool) (R:SV→Prop):(Qbe Tryz.prog Zk8 (Q9c y) Tryz.f181 [Qe4 v f] R) =
((I64 v)∧(sel (decide (Qbd (Qaa v) > 6746518852)) (sel (decide (IntKind.wrap IntKind.i64 (13493037704 - Qbd (Qaa v)) < -6746518852)) ((∃ x:Nat,((Nat.le x 8)∧(((SV.v (.int .i64 1))=(SV.v (.int .i64 ((↑x:Int) + 1))))∧((((1:Nat)=1)∧(((1:Nat)≤1)∧(∀ i:Nat,(((i:Nat)<1)→([(SV.v (.int .i64 (Qa2 v))),(SV.v (.bool (Qa8 v f)))]=[(SV.v (.int .i64 (NB.v (Qbu y x)))),(SV.v (.bool (NB.f (Qbu y x))))])))))∧(((1:Nat)=1)∧(((1:Nat)≤1)∧(∀ i:Nat,(((i:Nat)<1)→([(SV.v (.int .i64 (Qa2 v))),(SV.v (.bool (Qa8 v f)))]=[(SV.v (.int .i64 (NB.v (Qdl y x)))),(SV.v (.bool (NB.f (Qdl y x))))])))))))))∧(∀ x:Nat,((Nat.le x 8)→(sel (decide ((↑x:Int) + 1≤8)) (((I64 (NB.v (Qbu y x)))∧(I64 (Qa2 v)))∧(((I64 (Qbb (Qbj (Qaa (NB.v (Qbu y x))) (Qaa (Qa2 v)))))∧(I64 (Qa2 v)))∧((I64 (IntKind.wrap IntKind.i64 (IntKind.wrap IntKind.i64 (2*((↑x:Int) + 1))*IntKind.wrap IntKind.i64 (IntKind.wrap IntKind.i64 (2*((↑x:Int) + 1)) + 1))))∧(((I64 (Qbb (Qbj (Qaa (Qbb (Qbj (Qaa (NB.v (Qbu y x))) (Qaa (Qa2 v))))) (Qaa (Qa2 v)))))∧(I64 (Qbb (IntKind.wrap IntKind.i64 (IntKind.wrap IntKind.i64 (2*((↑x:Int) + 1))*IntKind.wrap IntKind.i64 (IntKind.wrap IntKind.i64 (2*((↑x:Int) + 1)) + 1))*4294967296))))∧((I64 (Qex (Qaa (Qbb (Qbj (Qaa (Qbb (Qbj (Qaa (NB.v (Qbu y x))) (Qaa (Qa2 v))))) (Qaa (Qa2 v))))) (Qaa (Qbb (IntKind.wrap IntKind.i64 (IntKind.wrap IntKind.i64 (2*((↑x:Int) + 1))*IntKind.wrap IntKind.i64 (IntKind.wrap IntKind.i64 (2*((↑x:Int) + 1)) + 1))*4294967296)))))∧(((I64 (NB.v (Qdl y x)))∧(I64 (-Qaa (Qex (Qaa (Qbb (Qbj (Qaa (Qbb (Qbj (Qaa (NB.v (Qbu y x))) (Qaa (Qa2 v))))) (Qaa (Qa2 v))))) (Qaa (Qbb (IntKind.wrap IntKind.i64 (IntKind.wrap IntKind.i64 (2*((↑x:Int) + 1))*IntKind.wrap IntKind.i64 (IntKind.wrap IntKind.i64 (2*((↑x:Int) + 1)) + 1))*4294967296)))))))∧(∃ x':Nat,(((Nat.le x' 8)∧(((SV.v (.int .i64 (IntKind.wrap IntKind.i64 ((↑x:Int) + 1 + 1))))=(SV.v (.int .i64 ((↑x':Int) + 1))))∧((((1:Nat)=1)∧(((1:Nat)≤1)∧(∀ i:Nat,(((i:Nat)<1)→([(SV.v (.int .i64 (-Qaa (Qex (Qaa (Qbb (Qbj (Qaa (Qbb (Qbj (Qaa (NB.v (Qbu y x))) (Qaa (Qa2 v))))) (Qaa (Qa2 v))))) (Qaa (Qbb (IntKind.wrap IntKind.i64 (IntKind.wrap IntKind.i64 (2*((↑x:Int) + 1))*IntKind.wrap IntKind.i64 (IntKind.wrap IntKind.i64 (2*((↑x:Int) + 1)) + 1))*4294967296))))))),(SV.v (.bool (Qa8 (Qex (Qaa (Qbb (Qbj (Qaa (Qbb (Qbj (Qaa (NB.v (Qbu y x))) (Qaa (Qa2 v))))) (Qaa (Qa2 v))))) (Qaa (Qbb (IntKind.wrap IntKind.i64 (IntKind.wrap IntKind.i64 (2*((↑x:Int) + 1))*IntKind.wrap IntKind.i64 (IntKind.wrap IntKind.i64 (2*((↑x:Int) + 1)) + 1))*4294967296)))) (Qnq (Qaa (Qbb (Qbj (Qaa (Qbb (Qbj (Qaa (NB.v (Qbu y x))) (Qaa (Qa2 v))))) (Qaa (Qa2 v))))) (Qaa (Qbb (IntKind.wrap IntKind.i64 (IntKind.wrap IntKind.i64 (2*((↑x:Int) + 1))*IntKind.wrap IntKind.i64 (IntKind.wrap IntKind.i64 (2*((↑x:Int) + 1)) + 1))*4294967296)))||(Qa8 (Qbb (Qbj (Qaa (Qbb (Qbj (Qaa (NB.v (Qbu y x))) (Qaa (Qa2 v))))) (Qaa (Qa2 v)))) (Qe7 (Qbj (Qaa (Qbb (Qbj (Qaa (NB.v (Qbu y x))) (Qaa (Qa2 v))))) (Qaa (Qa2 v))) (Qa8 (Qbb (Qbj (Qaa (NB.v (Qbu y x))) (Qaa (Qa2 v)))) (Qe7 (Qbj (Qaa (NB.v (Qbu y x))) (Qaa (Qa2 v))) (Qa8 (NB.v (Qbu y x)) (NB.f (Qbu y x))||Qa8 (Qa2 v) (Qa8 v f)))||Qa8 (Qa2 v) (Qa8 v f)))||Qa8 (Qbb (IntKind.wrap IntKind.i64 (IntKind.wrap IntKind.i64 (2*((↑x:Int) + 1))*IntKind.wrap IntKind.i64 (IntKind.wrap IntKind.i64 (2*((↑x:Int) + 1)) + 1))*4294967296)) (Qe7 (IntKind.wrap IntKind.i64 (IntKind.wrap IntKind.i64 (2*((↑x:Int) + 1))*IntKind.wrap IntKind.i64 (IntKind.wrap IntKind.i64 (2*((↑x:Int) + 1)) + 1))*4294967296) false))))))]=[(SV.v (.int .i64 (NB.v (Qbu y x')))),(SV.v (.bool (NB.f (Qbu y x'))))])))))∧(((1:Nat)=1)∧(((1:Nat)≤1)∧(∀ i:Nat,(((i:Nat)<1)→([(SV.v (.int .i64 (Qbb (Qaa (NB.v (Qdl y x)) + Qaa (-Qaa (Qex (Qaa (Qbb (Qbj (Qaa (Qbb (Qbj (Qaa (NB.v (Qbu y x))) (Qaa (Qa2 v))))) (Qaa (Qa2 v))))) (Qaa (Qbb (IntKind.wrap IntKind.i64 (IntKind.wrap IntKind.i64 (2*((↑x:Int) + 1))*IntKind.wrap IntKind.i64 (IntKind.wrap IntKind.i64 (2*((↑x:Int) + 1)) + 1))*4294967296))))))))),(SV.v (.bool (Qe7 (Qaa (NB.v (Qdl y x)) + Qaa (-Qaa (Qex (Qaa (Qbb (Qbj (Qaa (Qbb (Qbj (Qaa (NB.v (Qbu y x))) (Qaa (Qa2 v))))) (Qaa (Qa2 v))))) (Qaa (Qbb (IntKind.wrap IntKind.i64 (IntKind.wrap IntKind.i64 (2*((↑x:Int) + 1))*IntKind.wrap IntKind.i64 (IntKind.wrap IntKind.i64 (2*((↑x:Int) + 1)) + 1))*4294967296)))))) (Qa8 (NB.v (Qdl y x)) (NB.f (Qdl y x))||Qa8 (-Qaa (Qex (Qaa (Qbb (Qbj (Qaa (Qbb (Qbj (Qaa (NB.v (Qbu y x))) (Qaa (Qa2 v))))) (Qaa (Qa2 v))))) (Qaa (Qbb (IntKind.wrap IntKind.i64 (IntKind.wrap IntKind.i64 (2*((↑x:Int) + 1))*IntKind.wrap IntKind.i64 (IntKind.wrap IntKind.i64 (2*((↑x:Int) + 1)) + 1))*4294967296))))) (Qa8 (Qex (Qaa (Qbb (Qbj (Qaa (Qbb (Qbj (Qaa (NB.v (Qbu y x))) (Qaa (Qa2 v))))) (Qaa (Qa2 v))))) (Qaa (Qbb (IntKind.wrap IntKind.i64 (IntKind.wrap IntKind.i64 (2*((↑x:Int) + 1))*IntKind.wrap IntKind.i64 (IntKind.wrap IntKind.i64 (2*((↑x:Int) + 1)) + 1))*4294967296)))) (Qnq (Qaa (Qbb (Qbj (Qaa (Qbb (Qbj (Qaa (NB.v (Qbu y x))) (Qaa (Qa2 v))))) (Qaa (Qa2 v))))) (Qaa (Qbb (IntKind.wrap IntKind.i64 (IntKind.wrap IntKind.i64 (2*((↑x:Int) + 1))*IntKind.wrap IntKind.i64 (IntKind.wrap IntKind.i64 (2*((↑x:Int) + 1)) + 1))*4294967296)))||(Qa8 (Qbb (Qbj (Qaa (Qbb (Qbj (Qaa (NB.v (Qbu y x))) (Qaa (Qa2 v))))) (Qaa (Qa2 v)))) (Qe7 (Qbj (Qaa (Qbb (Qbj (Qaa (NB.v (Qbu y x))) (Qaa (Qa2 v))))) (Qaa (Qa2 v))) (Qa8 (Qbb (Qbj (Qaa (NB.v (Qbu y x))) (Qaa (Qa2 v)))) (Qe7 (Qbj (Qaa (NB.v (Qbu y x))) (Qaa (Qa2 v))) (Qa8 (NB.v (Qbu y x)) (NB.f (Qbu y x))||Qa8 (Qa2 v) (Qa8 v f)))||Qa8 (Qa2 v) (Qa8 v f)))||Qa8 (Qbb (IntKind.wrap IntKind.i64 (IntKind.wrap IntKind.i64 (2*((↑x:Int) + 1))*IntKind.wrap IntKind.i64 (IntKind.wrap IntKind.i64 (2*((↑x:Int) + 1)) + 1))*4294967296)) (Qe7 (IntKind.wrap IntKind.i64 (IntKind.wrap IntKind.i64 (2*((↑x:Int) + 1))*IntKind.wrap IntKind.i64 (IntKind.wrap IntKind.i64 (2*((↑x:Int) + 1)) + 1))*4294967296) false))))))))]=[(SV.v (.int .i64 (NB.v (Qdl y x')))),(SV.v (.bool (NB.f (Qdl y x'))))]))))))))∧(((8 - x'):Nat)<(8 - x)))))))))) (((I64 (NB.v (Qdl y x)))∧((I64 (-4294967296))∧(I64 4294967296)))∧(R (SV.agg [(SV.v (.int .i64 (Qr8 (-4294967296) (Qoa (Qaa (NB.v (Qdl y x))) 4294967296)))),(SV.v (.bool (false||(Qa8 (NB.v (Qdl y x)) (NB.f (Qdl y x))||false))))]))))))) ((∃ x:Nat,((Nat.le x 8)∧(((SV.v (.int .i64 1))=(SV.v (.int .i64 ((↑x:Int) + 1))))∧((((1:Nat)=1)∧(((1:Nat)≤1)∧(∀ i:Nat,(((i:Nat)<1)→([(SV.v (.int .i64 (IntKind.wrap IntKind.i64 (13493037704 - Qbd (Qaa v))))),(SV.v (.bool (Qa8 v f)))]=[(SV.v (.int .i64 (NB.v (Qbu y x)))),(SV.v (.bool (NB.f (Qbu y x))))])))))∧(((1:Nat)=1)∧(((1:Nat)≤1)∧(∀ i:Nat,(((i:Nat)<1)→([(SV.v (.int .i64 (IntKind.wrap IntKind.i64 (13493037704 - Qbd (Qaa v))))),(SV.v (.bool (Qa8 v f)))]=[(SV.v (.int .i64 (NB.v (Qdl y x)))),(SV.v (.bool (NB.f (Qdl y x))))])))))))))∧(∀ x:Nat,((Nat.le x 8)→(sel (decide ((↑x:Int) + 1≤8)) (((I64 (NB.v (Qbu y x)))∧(I64 (IntKind.wrap IntKind.i64 (13493037704 - Qbd (Qaa v)))))∧(((I64 (Qbb (Qbj (Qaa (NB.v (Qbu y x))) (Qbg v))))∧(I64 (IntKind.wrap IntKind.i64 (13493037704 - Qbd (Qaa v)))))∧((I64 (IntKind.wrap IntKind.i64 (IntKind.wrap IntKind.i64 (2*((↑x:Int) + 1))*IntKind.wrap IntKind.i64 (IntKind.wrap IntKind.i64 (2*((↑x:Int) + 1)) + 1))))∧(((I64 (Qbb (Qbj (Qaa (Qbb (Qbj (Qaa (NB.v (Qbu y x))) (Qbg v)))) (Qbg v))))∧(I64 (Qbb (IntKind.wrap IntKind.i64 (IntKind.wrap IntKind.i64 (2*((↑x:Int) + 1))*IntKind.wrap IntKind.i64 (IntKind.wrap IntKind.i64 (2*((↑x:Int) + 1)) + 1))*4294967296))))∧((I64 (Qex (Qaa (Qbb (Qbj (Qaa (Qbb (Qbj (Qaa (NB.v (Qbu y x))) (Qbg v)))) (Qbg v)))) (Qaa (Qbb (IntKind.wrap IntKind.i64 (IntKind.wrap IntKind.i64 (2*((↑x:Int) + 1))*IntKind.wrap IntKind.i64 (IntKind.wrap IntKind.i64 (2*((↑x:Int) + 1)) + 1))*4294967296)))))∧(((I64 (NB.v (Qdl y x)))∧(I64 (-Qaa (Qex (Qaa (Qbb (Qbj (Qaa (Qbb (Qbj (Qaa (NB.v (Qbu y x))) (Qbg v)))) (Qbg v)))) (Qaa (Qbb (IntKind.wrap IntKind.i64 (IntKind.wrap IntKind.i64 (2*((↑x:Int) + 1))*IntKind.wrap IntKind.i64 (IntKind.wrap IntKind.i64 (2*((↑x:Int) + 1)) + 1))*4294967296)))))))∧(∃ x':Nat,(((Nat.le x' 8)∧(((SV.v (.int .i64 (IntKind.wrap IntKind.i64 ((↑x:Int) + 1 + 1))))=(SV.v (.int .i64 ((↑x':Int) + 1))))∧((((1:Nat)=1)∧(((1:Nat)≤1)∧(∀ i:Nat,(((i:Nat)<1)→([(SV.v (.int .i64 (-Qaa (Qex (Qaa (Qbb (Qbj (Qaa (Qbb (Qbj (Qaa (NB.v (Qbu y x))) (Qbg v)))) (Qbg v)))) (Qaa (Qbb (IntKind.wrap IntKind.i64 (IntKind.wrap IntKind.i64 (2*((↑x:Int) + 1))*IntKind.wrap IntKind.i64 (IntKind.wrap IntKind.i64 (2*((↑x:Int) + 1)) + 1))*4294967296))))))),(SV.v (.bool (Qa8 (Qex (Qaa (Qbb (Qbj (Qaa (Qbb (Qbj (Qaa (NB.v (Qbu y x))) (Qbg v)))) (Qbg v)))) (Qaa (Qbb (IntKind.wrap IntKind.i64 (IntKind.wrap IntKind.i64 (2*((↑x:Int) + 1))*IntKind.wrap IntKind.i64 (IntKind.wrap IntKind.i64 (2*((↑x:Int) + 1)) + 1))*4294967296)))) (Qnq (Qaa (Qbb (Qbj (Qaa (Qbb (Qbj (Qaa (NB.v (Qbu y x))) (Qbg v)))) (Qbg v)))) (Qaa (Qbb (IntKind.wrap IntKind.i64 (IntKind.wrap IntKind.i64 (2*((↑x:Int) + 1))*IntKind.wrap IntKind.i64 (IntKind.wrap IntKind.i64 (2*((↑x:Int) + 1)) + 1))*4294967296)))||(Qa8 (Qbb (Qbj (Qaa (Qbb (Qbj (Qaa (NB.v (Qbu y x))) (Qbg v)))) (Qbg v))) (Qe7 (Qbj (Qaa (Qbb (Qbj (Qaa (NB.v (Qbu y x))) (Qbg v)))) (Qbg v)) (Qa8 (Qbb (Qbj (Qaa (NB.v (Qbu y x))) (Qbg v))) (Qe7 (Qbj (Qaa (NB.v (Qbu y x))) (Qbg v)) (Qa8 (NB.v (Qbu y x)) (NB.f (Qbu y x))||Qa8 (IntKind.wrap IntKind.i64 (13493037704 - Qbd (Qaa v))) (Qa8 v f)))||Qa8 (IntKind.wrap IntKind.i64 (13493037704 - Qbd (Qaa v))) (Qa8 v f)))||Qa8 (Qbb (IntKind.wrap IntKind.i64 (IntKind.wrap IntKind.i64 (2*((↑x:Int) + 1))*IntKind.wrap IntKind.i64 (IntKind.wrap IntKind.i64 (2*((↑x:Int) + 1)) + 1))*4294967296)) (Qe7 (IntKind.wrap IntKind.i64 (IntKind.wrap IntKind.i64 (2*((↑x:Int) + 1))*IntKind.wrap IntKind.i64 (IntKind.wrap IntKind.i64 (2*((↑x:Int) + 1)) + 1))*4294967296) false))))))]=[(SV.v (.int .i64 (NB.v (Qbu y x')))),(SV.v (.bool (NB.f (Qbu y x'))))])))))∧(((1:Nat)=1)∧(((1:Nat)≤1)∧(∀ i:Nat,(((i:Nat)<1)→([(SV.v (.int .i64 (Qbb (Qaa (NB.v (Qdl y x)) + Qaa (-Qaa (Qex (Qaa (Qbb (Qbj (Qaa (Qbb (Qbj (Qaa (NB.v (Qbu y x))) (Qbg v)))) (Qbg v)))) (Qaa (Qbb (IntKind.wrap IntKind.i64 (IntKind.wrap IntKind.i64 (2*((↑x:Int) + 1))*IntKind.wrap IntKind.i64 (IntKind.wrap IntKind.i64 (2*((↑x:Int) + 1)) + 1))*4294967296))))))))),(SV.v (.bool (Qe7 (Qaa (NB.v (Qdl y x)) + Qaa (-Qaa (Qex (Qaa (Qbb (Qbj (Qaa (Qbb (Qbj (Qaa (NB.v (Qbu y x))) (Qbg v)))) (Qbg v)))) (Qaa (Qbb (IntKind.wrap IntKind.i64 (IntKind.wrap IntKind.i64 (2*((↑x:Int) + 1))*IntKind.wrap IntKind.i64 (IntKind.wrap IntKind.i64 (2*((↑x:Int) + 1)) + 1))*4294967296)))))) (Qa8 (NB.v (Qdl y x)) (NB.f (Qdl y x))||Qa8 (-Qaa (Qex (Qaa (Qbb (Qbj (Qaa (Qbb (Qbj (Qaa (NB.v (Qbu y x))) (Qbg v)))) (Qbg v)))) (Qaa (Qbb (IntKind.wrap IntKind.i64 (IntKind.wrap IntKind.i64 (2*((↑x:Int) + 1))*IntKind.wrap IntKind.i64 (IntKind.wrap IntKind.i64 (2*((↑x:Int) + 1)) + 1))*4294967296))))) (Qa8 (Qex (Qaa (Qbb (Qbj (Qaa (Qbb (Qbj (Qaa (NB.v (Qbu y x))) (Qbg v)))) (Qbg v)))) (Qaa (Qbb (IntKind.wrap IntKind.i64 (IntKind.wrap IntKind.i64 (2*((↑x:Int) + 1))*IntKind.wrap IntKind.i64 (IntKind.wrap IntKind.i64 (2*((↑x:Int) + 1)) + 1))*4294967296)))) (Qnq (Qaa (Qbb (Qbj (Qaa (Qbb (Qbj (Qaa (NB.v (Qbu y x))) (Qbg v)))) (Qbg v)))) (Qaa (Qbb (IntKind.wrap IntKind.i64 (IntKind.wrap IntKind.i64 (2*((↑x:Int) + 1))*IntKind.wrap IntKind.i64 (IntKind.wrap IntKind.i64 (2*((↑x:Int) + 1)) + 1))*4294967296)))||(Qa8 (Qbb (Qbj (Qaa (Qbb (Qbj (Qaa (NB.v (Qbu y x))) (Qbg v)))) (Qbg v))) (Qe7 (Qbj (Qaa (Qbb (Qbj (Qaa (NB.v (Qbu y x))) (Qbg v)))) (Qbg v)) (Qa8 (Qbb (Qbj (Qaa (NB.v (Qbu y x))) (Qbg v))) (Qe7 (Qbj (Qaa (NB.v (Qbu y x))) (Qbg v)) (Qa8 (NB.v (Qbu y x)) (NB.f (Qbu y x))||Qa8 (IntKind.wrap IntKind.i64 (13493037704 - Qbd (Qaa v))) (Qa8 v f)))||Qa8 (IntKind.wrap IntKind.i64 (13493037704 - Qbd (Qaa v))) (Qa8 v f)))||Qa8 (Qbb (IntKind.wrap IntKind.i64 (IntKind.wrap IntKind.i64 (2*((↑x:Int) + 1))*IntKind.wrap IntKind.i64 (IntKind.wrap IntKind.i64 (2*((↑x:Int) + 1)) + 1))*4294967296)) (Qe7 (IntKind.wrap IntKind.i64 (IntKind.wrap IntKind.i64 (2*((↑x:Int) + 1))*IntKind.wrap IntKind.i64 (IntKind.wrap IntKind.i64 (2*((↑x:Int) + 1)) + 1))*4294967296) false))))))))]=[(SV.v (.int .i64 (NB.v (Qdl y x')))),(SV.v (.bool (NB.f (Qdl y x'))))]))))))))∧(((8 - x'):Nat)<(8 - x)))))))))) (((I64 (NB.v (Qdl y x)))∧((I64 (-4294967296))∧(I64 4294967296)))∧(R (SV.agg [(SV.v (.int .i64 (Qr8 (-4294967296) (Qoa (Qaa (NB.v (Qdl y x))) 4294967296)))),(SV.v (.bool (false||(Qa8 (NB.v (Qdl y x)) (NB.f (Qdl y x))||false))))])))))))) (sel (decide (Qbd (Qaa v) < -6746518852)) ((∃ x:Nat,((Nat.le x 8)∧(((SV.v (.int .i64 1))=(SV.v (.int .i64 ((↑x:Int) + 1))))∧((((1:Nat)=1)∧(((1:Nat)≤1)∧(∀ i:Nat,(((i:Nat)<1)→([(SV.v (.int .i64 (IntKind.wrap IntKind.i64 (-13493037704 - Qbd (Qaa v))))),(SV.v (.bool (Qa8 v f)))]=[(SV.v (.int .i64 (NB.v (Qbu y x)))),(SV.v (.bool (NB.f (Qbu y x))))])))))∧(((1:Nat)=1)∧(((1:Nat)≤1)∧(∀ i:Nat,(((i:Nat)<1)→([(SV.v (.int .i64 (IntKind.wrap IntKind.i64 (-13493037704 - Qbd (Qaa v))))),(SV.v (.bool (Qa8 v f)))]=[(SV.v (.int .i64 (NB.v (Qdl y x)))),(SV.v (.bool (NB.f (Qdl y x))))])))))))))∧(∀ x:Nat,((Nat.le x 8)→(sel (decide ((↑x:Int) + 1≤8)) (((I64 (NB.v (Qbu y x)))∧(I64 (IntKind.wrap IntKind.i64 (-13493037704 - Qbd (Qaa v)))))∧(((I64 (Qbb (Qbj (Qaa (NB.v (Qbu y x))) (Qbh v))))∧(I64 (IntKind.wrap IntKind.i64 (-13493037704 - Qbd (Qaa v)))))∧((I64 (IntKind.wrap IntKind.i64 (IntKind.wrap IntKind.i64 (2*((↑x:Int) + 1))*IntKind.wrap IntKind.i64 (IntKind.wrap IntKind.i64 (2*((↑x:Int) + 1)) + 1))))∧(((I64 (Qbb (Qbj (Qaa (Qbb (Qbj (Qaa (NB.v (Qbu y x))) (Qbh v)))) (Qbh v))))∧(I64 (Qbb (IntKind.wrap IntKind.i64 (IntKind.wrap IntKind.i64 (2*((↑x:Int) + 1))*IntKind.wrap IntKind.i64 (IntKind.wrap IntKind.i64 (2*((↑x:Int) + 1)) + 1))*4294967296))))∧((I64 (Qex (Qaa (Qbb (Qbj (Qaa (Qbb (Qbj (Qaa (NB.v (Qbu y x))) (Qbh v)))) (Qbh v)))) (Qaa (Qbb (IntKind.wrap IntKind.i64 (IntKind.wrap IntKind.i64 (2*((↑x:Int) + 1))*IntKind.wrap IntKind.i64 (IntKind.wrap IntKind.i64 (2*((↑x:Int) + 1)) + 1))*4294967296)))))∧(((I64 (NB.v (Qdl y x)))∧(I64 (-Qaa (Qex (Qaa (Qbb (Qbj (Qaa (Qbb (Qbj (Qaa (NB.v (Qbu y x))) (Qbh v)))) (Qbh v)))) (Qaa (Qbb (IntKind.wrap IntKind.i64 (IntKind.wrap IntKind.i64 (2*((↑x:Int) + 1))*IntKind.wrap IntKind.i64 (IntKind.wrap IntKind.i64 (2*((↑x:Int) + 1)) + 1))*4294967296)))))))∧(∃ x':Nat,(((Nat.le x' 8)∧(((SV.v (.int .i64 (IntKind.wrap IntKind.i64 ((↑x:Int) + 1 + 1))))=(SV.v (.int .i64 ((↑x':Int) + 1))))∧((((1:Nat)=1)∧(((1:Nat)≤1)∧(∀ i:Nat,(((i:Nat)<1)→([(SV.v (.int .i64 (-Qaa (Qex (Qaa (Qbb (Qbj (Qaa (Qbb (Qbj (Qaa (NB.v (Qbu y x))) (Qbh v)))) (Qbh v)))) (Qaa (Qbb (IntKind.wrap IntKind.i64 (IntKind.wrap IntKind.i64 (2*((↑x:Int) + 1))*IntKind.wrap IntKind.i64 (IntKind.wrap IntKind.i64 (2*((↑x:Int) + 1)) + 1))*4294967296))))))),(SV.v (.bool (Qa8 (Qex (Qaa (Qbb (Qbj (Qaa (Qbb (Qbj (Qaa (NB.v (Qbu y x))) (Qbh v)))) (Qbh v)))) (Qaa (Qbb (IntKind.wrap IntKind.i64 (IntKind.wrap IntKind.i64 (2*((↑x:Int) + 1))*IntKind.wrap IntKind.i64 (IntKind.wrap IntKind.i64 (2*((↑x:Int) + 1)) + 1))*4294967296)))) (Qnq (Qaa (Qbb (Qbj (Qaa (Qbb (Qbj (Qaa (NB.v (Qbu y x))) (Qbh v)))) (Qbh v)))) (Qaa (Qbb (IntKind.wrap IntKind.i64 (IntKind.wrap IntKind.i64 (2*((↑x:Int) + 1))*IntKind.wrap IntKind.i64 (IntKind.wrap IntKind.i64 (2*((↑x:Int) + 1)) + 1))*4294967296)))||(Qa8 (Qbb (Qbj (Qaa (Qbb (Qbj (Qaa (NB.v (Qbu y x))) (Qbh v)))) (Qbh v))) (Qe7 (Qbj (Qaa (Qbb (Qbj (Qaa (NB.v (Qbu y x))) (Qbh v)))) (Qbh v)) (Qa8 (Qbb (Qbj (Qaa (NB.v (Qbu y x))) (Qbh v))) (Qe7 (Qbj (Qaa (NB.v (Qbu y x))) (Qbh v)) (Qa8 (NB.v (Qbu y x)) (NB.f (Qbu y x))||Qa8 (IntKind.wrap IntKind.i64 (-13493037704 - Qbd (Qaa v))) (Qa8 v f)))||Qa8 (IntKind.wrap IntKind.i64 (-13493037704 - Qbd (Qaa v))) (Qa8 v f)))||Qa8 (Qbb (IntKind.wrap IntKind.i64 (IntKind.wrap IntKind.i64 (2*((↑x:Int) + 1))*IntKind.wrap IntKind.i64 (IntKind.wrap IntKind.i64 (2*((↑x:Int) + 1)) + 1))*4294967296)) (Qe7 (IntKind.wrap IntKind.i64 (IntKind.wrap IntKind.i64 (2*((↑x:Int) + 1))*IntKind.wrap IntKind.i64 (IntKind.wrap IntKind.i64 (2*((↑x:Int) + 1)) + 1))*4294967296) false))))))]=[(SV.v (.int .i64 (NB.v (Qbu y x')))),(SV.v (.bool (NB.f (Qbu y x'))))])))))∧(((1:Nat)=1)∧(((1:Nat)≤1)∧(∀ i:Nat,(((i:Nat)<1)→([(SV.v (.int .i64 (Qbb (Qaa (NB.v (Qdl y x)) + Qaa (-Qaa (Qex (Qaa (Qbb (Qbj (Qaa (Qbb (Qbj (Qaa (NB.v (Qbu y x))) (Qbh v)))) (Qbh v)))) (Qaa (Qbb (IntKind.wrap IntKind.i64 (IntKind.wrap IntKind.i64 (2*((↑x:Int) + 1))*IntKind.wrap IntKind.i64 (IntKind.wrap IntKind.i64 (2*((↑x:Int) + 1)) + 1))*4294967296))))))))),(SV.v (.bool (Qe7 (Qaa (NB.v (Qdl y x)) + Qaa (-Qaa (Qex (Qaa (Qbb (Qbj (Qaa (Qbb (Qbj (Qaa (NB.v (Qbu y x))) (Qbh v)))) (Qbh v)))) (Qaa (Qbb (IntKind.wrap IntKind.i64 (IntKind.wrap IntKind.i64 (2*((↑x:Int) + 1))*IntKind.wrap IntKind.i64 (IntKind.wrap IntKind.i64 (2*((↑x:Int) + 1)) + 1))*4294967296)))))) (Qa8 (NB.v (Qdl y x)) (NB.f (Qdl y x))||Qa8 (-Qaa (Qex (Qaa (Qbb (Qbj (Qaa (Qbb (Qbj (Qaa (NB.v (Qbu y x))) (Qbh v)))) (Qbh v)))) (Qaa (Qbb (IntKind.wrap IntKind.i64 (IntKind.wrap IntKind.i64 (2*((↑x:Int) + 1))*IntKind.wrap IntKind.i64 (IntKind.wrap IntKind.i64 (2*((↑x:Int) + 1)) + 1))*4294967296))))) (Qa8 (Qex (Qaa (Qbb (Qbj (Qaa (Qbb (Qbj (Qaa (NB.v (Qbu y x))) (Qbh v)))) (Qbh v)))) (Qaa (Qbb (IntKind.wrap IntKind.i64 (IntKind.wrap IntKind.i64 (2*((↑x:Int) + 1))*IntKind.wrap IntKind.i64 (IntKind.wrap IntKind.i64 (2*((↑x:Int) + 1)) + 1))*4294967296)))) (Qnq (Qaa (Qbb (Qbj (Qaa (Qbb (Qbj (Qaa (NB.v (Qbu y x))) (Qbh v)))) (Qbh v)))) (Qaa (Qbb (IntKind.wrap IntKind.i64 (IntKind.wrap IntKind.i64 (2*((↑x:Int) + 1))*IntKind.wrap IntKind.i64 (IntKind.wrap IntKind.i64 (2*((↑x:Int) + 1)) + 1))*4294967296)))||(Qa8 (Qbb (Qbj (Qaa (Qbb (Qbj (Qaa (NB.v (Qbu y x))) (Qbh v)))) (Qbh v))) (Qe7 (Qbj (Qaa (Qbb (Qbj (Qaa (NB.v (Qbu y x))) (Qbh v)))) (Qbh v)) (Qa8 (Qbb (Qbj (Qaa (NB.v (Qbu y x))) (Qbh v))) (Qe7 (Qbj (Qaa (NB.v (Qbu y x))) (Qbh v)) (Qa8 (NB.v (Qbu y x)) (NB.f (Qbu y x))||Qa8 (IntKind.wrap IntKind.i64 (-13493037704 - Qbd (Qaa v))) (Qa8 v f)))||Qa8 (IntKind.wrap IntKind.i64 (-13493037704 - Qbd (Qaa v))) (Qa8 v f)))||Qa8 (Qbb (IntKind.wrap IntKind.i64 (IntKind.wrap IntKind.i64 (2*((↑x:Int) + 1))*IntKind.wrap IntKind.i64 (IntKind.wrap IntKind.i64 (2*((↑x:Int) + 1)) + 1))*4294967296)) (Qe7 (IntKind.wrap IntKind.i64 (IntKind.wrap IntKind.i64 (2*((↑x:Int) + 1))*IntKind.wrap IntKind.i64 (IntKind.wrap IntKind.i64 (2*((↑x:Int) + 1)) + 1))*4294967296) false))))))))]=[(SV.v (.int .i64 (NB.v (Qdl y x')))),(SV.v (.bool (NB.f (Qdl y x'))))]))))))))∧(((8 - x'):Nat)<(8 - x)))))))))) (((I64 (NB.v (Qdl y x)))∧((I64 (-4294967296))∧(I64 4294967296)))∧(R (SV.agg [(SV.v (.int .i64 (Qr8 (-4294967296) (Qoa (Qaa (NB.v (Qdl y x))) 4294967296)))),(SV.v (.bool (false||(Qa8 (NB.v (Qdl y x)) (NB.f (Qdl y x))||false))))]))))))) ((∃ x:Nat,((Nat.le x 8)∧(((SV.v (.int .i64 1))=(SV.v (.int .i64 ((↑x:Int) + 1))))∧((((1:Nat)=1)∧(((1:Nat)≤1)∧(∀ i:Nat,(((i:Nat)<1)→([(SV.v (.int .i64 (Qbd (Qaa v)))),(SV.v (.bool (Qa8 v f)))]=[(SV.v (.int .i64 (NB.v (Qbu y x)))),(SV.v (.bool (NB.f (Qbu y x))))])))))∧(((1:Nat)=1)∧(((1:Nat)≤1)∧(∀ i:Nat,(((i:Nat)<1)→([(SV.v (.int .i64 (Qbd (Qaa v)))),(SV.v (.bool (Qa8 v f)))]=[(SV.v (.int .i64 (NB.v (Qdl y x)))),(SV.v (.bool (NB.f (Qdl y x))))])))))))))∧(∀ x:Nat,((Nat.le x 8)→(sel (decide ((↑x:Int) + 1≤8)) (((I64 (NB.v (Qbu y x)))∧(I64 (Qbd (Qaa v))))∧(((I64 (Qbb (Qbj (Qaa (NB.v (Qbu y x))) (Qaa (Qbd (Qaa v))))))∧(I64 (Qbd (Qaa v))))∧((I64 (IntKind.wrap IntKind.i64 (IntKind.wrap IntKind.i64 (2*((↑x:Int) + 1))*IntKind.wrap IntKind.i64 (IntKind.wrap IntKind.i64 (2*((↑x:Int) + 1)) + 1))))∧(((I64 (Qbb (Qbj (Qaa (Qbb (Qbj (Qaa (NB.v (Qbu y x))) (Qaa (Qbd (Qaa v)))))) (Qaa (Qbd (Qaa v))))))∧(I64 (Qbb (IntKind.wrap IntKind.i64 (IntKind.wrap IntKind.i64 (2*((↑x:Int) + 1))*IntKind.wrap IntKind.i64 (IntKind.wrap IntKind.i64 (2*((↑x:Int) + 1)) + 1))*4294967296))))∧((I64 (Qex (Qaa (Qbb (Qbj (Qaa (Qbb (Qbj (Qaa (NB.v (Qbu y x))) (Qaa (Qbd (Qaa v)))))) (Qaa (Qbd (Qaa v)))))) (Qaa (Qbb (IntKind.wrap IntKind.i64 (IntKind.wrap IntKind.i64 (2*((↑x:Int) + 1))*IntKind.wrap IntKind.i64 (IntKind.wrap IntKind.i64 (2*((↑x:Int) + 1)) + 1))*4294967296)))))∧(((I64 (NB.v (Qdl y x)))∧(I64 (-Qaa (Qex (Qaa (Qbb (Qbj (Qaa (Qbb (Qbj (Qaa (NB.v (Qbu y x))) (Qaa (Qbd (Qaa v)))))) (Qaa (Qbd (Qaa v)))))) (Qaa (Qbb (IntKind.wrap IntKind.i64 (IntKind.wrap IntKind.i64 (2*((↑x:Int) + 1))*IntKind.wrap IntKind.i64 (IntKind.wrap IntKind.i64 (2*((↑x:Int) + 1)) + 1))*4294967296)))))))∧(∃ x':Nat,(((Nat.le x' 8)∧(((SV.v (.int .i64 (IntKind.wrap IntKind.i64 ((↑x:Int) + 1 + 1))))=(SV.v (.int .i64 ((↑x':Int) + 1))))∧((((1:Nat)=1)∧(((1:Nat)≤1)∧(∀ i:Nat,(((i:Nat)<1)→([(SV.v (.int .i64 (-Qaa (Qex (Qaa (Qbb (Qbj (Qaa (Qbb (Qbj (Qaa (NB.v (Qbu y x))) (Qaa (Qbd (Qaa v)))))) (Qaa (Qbd (Qaa v)))))) (Qaa (Qbb (IntKind.wrap IntKind.i64 (IntKind.wrap IntKind.i64 (2*((↑x:Int) + 1))*IntKind.wrap IntKind.i64 (IntKind.wrap IntKind.i64 (2*((↑x:Int) + 1)) + 1))*4294967296))))))),(SV.v (.bool (Qa8 (Qex (Qaa (Qbb (Qbj (Qaa (Qbb (Qbj (Qaa (NB.v (Qbu y x))) (Qaa (Qbd (Qaa v)))))) (Qaa (Qbd (Qaa v)))))) (Qaa (Qbb (IntKind.wrap IntKind.i64 (IntKind.wrap IntKind.i64 (2*((↑x:Int) + 1))*IntKind.wrap IntKind.i64 (IntKind.wrap IntKind.i64 (2*((↑x:Int) + 1)) + 1))*4294967296)))) (Qnq (Qaa (Qbb (Qbj (Qaa (Qbb (Qbj (Qaa (NB.v (Qbu y x))) (Qaa (Qbd (Qaa v)))))) (Qaa (Qbd (Qaa v)))))) (Qaa (Qbb (IntKind.wrap IntKind.i64 (IntKind.wrap IntKind.i64 (2*((↑x:Int) + 1))*IntKind.wrap IntKind.i64 (IntKind.wrap IntKind.i64 (2*((↑x:Int) + 1)) + 1))*4294967296)))||(Qa8 (Qbb (Qbj (Qaa (Qbb (Qbj (Qaa (NB.v (Qbu y x))) (Qaa (Qbd (Qaa v)))))) (Qaa (Qbd (Qaa v))))) (Qe7 (Qbj (Qaa (Qbb (Qbj (Qaa (NB.v (Qbu y x))) (Qaa (Qbd (Qaa v)))))) (Qaa (Qbd (Qaa v)))) (Qa8 (Qbb (Qbj (Qaa (NB.v (Qbu y x))) (Qaa (Qbd (Qaa v))))) (Qe7 (Qbj (Qaa (NB.v (Qbu y x))) (Qaa (Qbd (Qaa v)))) (Qa8 (NB.v (Qbu y x)) (NB.f (Qbu y x))||Qa8 (Qbd (Qaa v)) (Qa8 v f)))||Qa8 (Qbd (Qaa v)) (Qa8 v f)))||Qa8 (Qbb (IntKind.wrap IntKind.i64 (IntKind.wrap IntKind.i64 (2*((↑x:Int) + 1))*IntKind.wrap IntKind.i64 (IntKind.wrap IntKind.i64 (2*((↑x:Int) + 1)) + 1))*4294967296)) (Qe7 (IntKind.wrap IntKind.i64 (IntKind.wrap IntKind.i64 (2*((↑x:Int) + 1))*IntKind.wrap IntKind.i64 (IntKind.wrap IntKind.i64 (2*((↑x:Int) + 1)) + 1))*4294967296) false))))))]=[(SV.v (.int .i64 (NB.v (Qbu y x')))),(SV.v (.bool (NB.f (Qbu y x'))))])))))∧(((1:Nat)=1)∧(((1:Nat)≤1)∧(∀ i:Nat,(((i:Nat)<1)→([(SV.v (.int .i64 (Qbb (Qaa (NB.v (Qdl y x)) + Qaa (-Qaa (Qex (Qaa (Qbb (Qbj (Qaa (Qbb (Qbj (Qaa (NB.v (Qbu y x))) (Qaa (Qbd (Qaa v)))))) (Qaa (Qbd (Qaa v)))))) (Qaa (Qbb (IntKind.wrap IntKind.i64 (IntKind.wrap IntKind.i64 (2*((↑x:Int) + 1))*IntKind.wrap IntKind.i64 (IntKind.wrap IntKind.i64 (2*((↑x:Int) + 1)) + 1))*4294967296))))))))),(SV.v (.bool (Qe7 (Qaa (NB.v (Qdl y x)) + Qaa (-Qaa (Qex (Qaa (Qbb (Qbj (Qaa (Qbb (Qbj (Qaa (NB.v (Qbu y x))) (Qaa (Qbd (Qaa v)))))) (Qaa (Qbd (Qaa v)))))) (Qaa (Qbb (IntKind.wrap IntKind.i64 (IntKind.wrap IntKind.i64 (2*((↑x:Int) + 1))*IntKind.wrap IntKind.i64 (IntKind.wrap IntKind.i64 (2*((↑x:Int) + 1)) + 1))*4294967296)))))) (Qa8 (NB.v (Qdl y x)) (NB.f (Qdl y x))||Qa8 (-Qaa (Qex (Qaa (Qbb (Qbj (Qaa (Qbb (Qbj (Qaa (NB.v (Qbu y x))) (Qaa (Qbd (Qaa v)))))) (Qaa (Qbd (Qaa v)))))) (Qaa (Qbb (IntKind.wrap IntKind.i64 (IntKind.wrap IntKind.i64 (2*((↑x:Int) + 1))*IntKind.wrap IntKind.i64 (IntKind.wrap IntKind.i64 (2*((↑x:Int) + 1)) + 1))*4294967296))))) (Qa8 (Qex (Qaa (Qbb (Qbj (Qaa (Qbb (Qbj (Qaa (NB.v (Qbu y x))) (Qaa (Qbd (Qaa v)))))) (Qaa (Qbd (Qaa v)))))) (Qaa (Qbb (IntKind.wrap IntKind.i64 (IntKind.wrap IntKind.i64 (2*((↑x:Int) + 1))*IntKind.wrap IntKind.i64 (IntKind.wrap IntKind.i64 (2*((↑x:Int) + 1)) + 1))*4294967296)))) (Qnq (Qaa (Qbb (Qbj (Qaa (Qbb (Qbj (Qaa (NB.v (Qbu y x))) (Qaa (Qbd (Qaa v)))))) (Qaa (Qbd (Qaa v)))))) (Qaa (Qbb (IntKind.wrap IntKind.i64 (IntKind.wrap IntKind.i64 (2*((↑x:Int) + 1))*IntKind.wrap IntKind.i64 (IntKind.wrap IntKind.i64 (2*((↑x:Int) + 1)) + 1))*4294967296)))||(Qa8 (Qbb (Qbj (Qaa (Qbb (Qbj (Qaa (NB.v (Qbu y x))) (Qaa (Qbd (Qaa v)))))) (Qaa (Qbd (Qaa v))))) (Qe7 (Qbj (Qaa (Qbb (Qbj (Qaa (NB.v (Qbu y x))) (Qaa (Qbd (Qaa v)))))) (Qaa (Qbd (Qaa v)))) (Qa8 (Qbb (Qbj (Qaa (NB.v (Qbu y x))) (Qaa (Qbd (Qaa v))))) (Qe7 (Qbj (Qaa (NB.v (Qbu y x))) (Qaa (Qbd (Qaa v)))) (Qa8 (NB.v (Qbu y x)) (NB.f (Qbu y x))||Qa8 (Qbd (Qaa v)) (Qa8 v f)))||Qa8 (Qbd (Qaa v)) (Qa8 v f)))||Qa8 (Qbb (IntKind.wrap IntKind.i64 (IntKind.wrap IntKind.i64 (2*((↑x:Int) + 1))*IntKind.wrap IntKind.i64 (IntKind.wrap IntKind.i64 (2*((↑x:Int) + 1)) + 1))*4294967296)) (Qe7 (IntKind.wrap IntKind.i64 (IntKind.wrap IntKind.i64 (2*((↑x:Int) + 1))*IntKind.wrap IntKind.i64 (IntKind.wrap IntKind.i64 (2*((↑x:Int) + 1)) + 1))*4294967296) false))))))))]=[(SV.v (.int .i64 (NB.v (Qdl y x')))),(SV.v (.bool (NB.f (Qdl y x'))))]))))))))∧(((8 - x'):Nat)<(8 - x)))))))))) (((I64 (NB.v (Qdl y x)))∧((I64 (-4294967296))∧(I64 4294967296)))∧(R (SV.agg [(SV.v (.int .i64 (Qr8 (-4294967296) (Qoa (Qaa (NB.v (Qdl y x))) 4294967296)))),(SV.v (.bool (false||(Qa8 (NB.v (Qdl y x)) (NB.f (Qdl y x))||false))))])))))))))):=by kernel_rfl
def ΓS1:Qbz:=Qai (Zk8) 181 (Qao Zme)
theorem Zgy (v:Int) (f:Bool) (R:SV→Prop):(Qbe Tryz.prog ΓS1 Qay Tryz.f180 [Qe4 v f] R)=((I64 v)∧(((I64 (Qbd (Qaa v)))∧(I64 6746518852))∧((I64 (Qbb (Qaa (Qbd (Qaa v)) + 6746518852)))∧(R (SV.agg [(SV.v (.int .i64 (NB.v (Qh7 {v:=Qbb (Qaa (Qbd (Qaa v)) + 6746518852),f:=Qe7 (Qaa (Qbd (Qaa v)) + 6746518852) (Qa8 (Qbd (Qaa v)) (Qa8 v f)||false)})))),(SV.v (.bool (NB.f (Qh7 {v:=Qbb (Qaa (Qbd (Qaa v)) + 6746518852),f:=Qe7 (Qaa (Qbd (Qaa v)) + 6746518852) (Qa8 (Qbd (Qaa v)) (Qa8 v f)||false)}))))]))))):=by kernel_rfl
theorem Qqq {k:Nat} (h:k≤8):IntKind.i64.wrap (IntKind.i64.wrap (2*((k:Int) + 1))*IntKind.i64.wrap (IntKind.i64.wrap (2*((k:Int) + 1)) + 1))=(2*((k:Int) + 1))*(2*((k:Int) + 1) + 1):=by
 rw [Qaj (n:=2*((k:Int) + 1)) ⟨by omega,by omega⟩,Qaj (n:=2*((k:Int) + 1) + 1) ⟨by omega,by omega⟩]
 have h1:=Int.mul_le_mul (a:=2*((k:Int) + 1)) (b:=2*((k:Int) + 1) + 1) (c:=18) (d:=19) (by omega) (by omega) (by omega) (by decide)
 have h0:=Int.mul_nonneg (a:=2*((k:Int) + 1)) (b:=2*((k:Int) + 1) + 1) (by omega) (by omega)
 exact Qaj ⟨by omega,by omega⟩
theorem Quu {k:Nat} (h:k≤8):I64 ((2*((k:Int) + 1))*(2*((k:Int) + 1) + 1)):=by
 have h1:=Int.mul_le_mul (a:=2*((k:Int) + 1)) (b:=2*((k:Int) + 1) + 1) (c:=18) (d:=19) (by omega) (by omega) (by omega) (by decide)
 have h0:=Int.mul_nonneg (a:=2*((k:Int) + 1)) (b:=2*((k:Int) + 1) + 1) (by omega) (by omega)
 exact ⟨by omega,by omega⟩
theorem Qy4:∀ f g,Zk8 f=some g→g.ok Tryz.prog f:=Qad (Qad (Qad (Qad (Qad (Qad (Qad (Qe9) (Qas Tryz.func268 (by kernel_rfl) (by kernel_rfl) Qx1)) (Qas Tryz.func176 (by kernel_rfl) (by kernel_rfl) Qsw)) (Qas Tryz.func174 (by kernel_rfl) (by kernel_rfl) Qsy)) (Qas Tryz.func269 (by kernel_rfl) (by kernel_rfl) Qsz)) (Qas Tryz.func263 (by kernel_rfl) (by kernel_rfl) Qnk)) (Qas Tryz.func267 (by kernel_rfl) (by kernel_rfl) Q4f)) (Qas Tryz.func270 (by kernel_rfl) (by kernel_rfl) Qu7)
theorem Qsv:Qaq Tryz.prog 181 Zme:=Qax hm Qy4 Tryz.func181 (Λ:=fun args=>match args with | [.agg [.v (.int .i64 v),.v (.bool f)]]=>Q9c (Qtu ⟨v,f⟩) | _=>Qay) fun args p x h hp=>by
 unfold Zme at h
 split at h <;> try (cases h; done)
 rename_i v f
 cases h
 have h1:I64 v:=hp _ rfl
 refine ⟨rfl,rfl,?_⟩
 refine Eq.mpr (Zgo (Qtu ⟨v,f⟩) v f _) ?_
 repeat (first | unfold Qbg | unfold Qbh | unfold Qa2)
 refine ?_
 have hN:Qh7 ⟨v,f⟩=⟨Qr8 (-4294967296) (Qoa (Qaa (Qdl (Qtu ⟨v,f⟩) 8).v) 4294967296),false||(Qa8 (Qdl (Qtu ⟨v,f⟩) 8).v (Qdl (Qtu ⟨v,f⟩) 8).f||false)⟩:=rfl
 rw [hN]
 have hs:=Zcn ⟨v,f⟩
 have hw:=Qhr (v:=Qaa v)
 have hy:(Qtu ⟨v,f⟩).v=Qin (Qbd (Qaa v)):=rfl
 have hf:(Qtu ⟨v,f⟩).f=Qa8 v f:=rfl
 generalize Qtu ⟨v,f⟩=y at *
 have y0:[SV.v (Value.int .i64 y.v),SV.v (Value.bool y.f)]=[SV.v (Value.int .i64 (Qbu y 0).v),SV.v (Value.bool (Qbu y 0).f)]:=rfl
 rw [← hf]
 unfold Qin at hy
 refine ⟨h1,Qag (fun g=>?_) fun g=>Qag (fun g'=>?_) fun g'=>?_⟩
 · have g:=of_decide_eq_true g
   rw [if_pos g] at hy
   rw [Qaj (n:=13493037704 - Qbd (Qaa v)) ⟨by omega,by omega⟩,← hy]
   refine Qag (fun h=>absurd (of_decide_eq_true h) (by omega)) fun _=>?_
   refine ⟨⟨0,Nat.zero_le _,rfl,⟨rfl,Nat.le_refl _,fun i _=>y0⟩,rfl,Nat.le_refl _,fun i _=>y0⟩,fun k hk=>?_⟩
   have hk:k≤8:=hk
   have st:=Qjr hs k
   have su:=Qtv hs k
   refine Qag (fun gk=>?_) fun gk=>?_
   · have gk:=of_decide_eq_true gk
     have e1:IntKind.i64.wrap ((k:Int) + 1 + 1)=(k:Int) + 1 + 1:=Qaj ⟨by omega,by omega⟩
     rw [Qqq hk]
     refine ⟨⟨st.i64,hs.i64⟩,⟨(Qcg _).i64,hs.i64⟩,Quu hk,⟨(Qcg _).i64,(Qcg _).i64⟩,(Qij _ _).i64,⟨su.i64,(Qjr hs (k + 1)).i64⟩,k + 1,⟨by show k + 1≤8; omega,Qck (by omega),⟨rfl,Nat.le_refl _,fun i _=>?_⟩,rfl,Nat.le_refl _,fun i _=>?_⟩,by show 8 - (k + 1)<8 - k; omega⟩ <;> simp only [Qbu,Qdl,Qjs,Qv5,Qqp,Qn9,Q8f,Qoj,Qxs]
   · have gk:=of_decide_eq_false gk
     obtain rfl:k=8:=by omega
     exact ⟨⟨su.i64,⟨by decide,by decide⟩,⟨by decide,by decide⟩⟩,rfl⟩
 · have g:=of_decide_eq_false g
   have g':=of_decide_eq_true g'
   rw [if_neg g,if_pos g'] at hy
   rw [Qaj ⟨by omega,by omega⟩,← hy]
   refine ⟨⟨0,Nat.zero_le _,rfl,⟨rfl,Nat.le_refl _,fun i _=>y0⟩,rfl,Nat.le_refl _,fun i _=>y0⟩,fun k hk=>?_⟩
   have hk:k≤8:=hk
   have st:=Qjr hs k
   have su:=Qtv hs k
   refine Qag (fun gk=>?_) fun gk=>?_
   · have gk:=of_decide_eq_true gk
     have e1:IntKind.i64.wrap ((k:Int) + 1 + 1)=(k:Int) + 1 + 1:=Qaj ⟨by omega,by omega⟩
     rw [Qqq hk]
     refine ⟨⟨st.i64,hs.i64⟩,⟨(Qcg _).i64,hs.i64⟩,Quu hk,⟨(Qcg _).i64,(Qcg _).i64⟩,(Qij _ _).i64,⟨su.i64,(Qjr hs (k + 1)).i64⟩,k + 1,⟨by show k + 1≤8; omega,Qck (by omega),⟨rfl,Nat.le_refl _,fun i _=>?_⟩,rfl,Nat.le_refl _,fun i _=>?_⟩,by show 8 - (k + 1)<8 - k; omega⟩ <;> simp only [Qbu,Qdl,Qjs,Qv5,Qqp,Qn9,Q8f,Qoj,Qxs]
   · have gk:=of_decide_eq_false gk
     obtain rfl:k=8:=by omega
     exact ⟨⟨su.i64,⟨by decide,by decide⟩,⟨by decide,by decide⟩⟩,rfl⟩
 · have g:=of_decide_eq_false g
   have g':=of_decide_eq_false g'
   rw [if_neg g,if_neg g'] at hy
   rw [← hy]
   refine ⟨⟨0,Nat.zero_le _,rfl,⟨rfl,Nat.le_refl _,fun i _=>y0⟩,rfl,Nat.le_refl _,fun i _=>y0⟩,fun k hk=>?_⟩
   have hk:k≤8:=hk
   have st:=Qjr hs k
   have su:=Qtv hs k
   refine Qag (fun gk=>?_) fun gk=>?_
   · have gk:=of_decide_eq_true gk
     have e1:IntKind.i64.wrap ((k:Int) + 1 + 1)=(k:Int) + 1 + 1:=Qaj ⟨by omega,by omega⟩
     rw [Qqq hk]
     refine ⟨⟨st.i64,hs.i64⟩,⟨(Qcg _).i64,hs.i64⟩,Quu hk,⟨(Qcg _).i64,(Qcg _).i64⟩,(Qij _ _).i64,⟨su.i64,(Qjr hs (k + 1)).i64⟩,k + 1,⟨by show k + 1≤8; omega,Qck (by omega),⟨rfl,Nat.le_refl _,fun i _=>?_⟩,rfl,Nat.le_refl _,fun i _=>?_⟩,by show 8 - (k + 1)<8 - k; omega⟩ <;> simp only [Qbu,Qdl,Qjs,Qv5,Qqp,Qn9,Q8f,Qoj,Qxs]
   · have gk:=of_decide_eq_false gk
     obtain rfl:k=8:=by omega
     exact ⟨⟨su.i64,⟨by decide,by decide⟩,⟨by decide,by decide⟩⟩,rfl⟩
theorem Za0:∀ f g,ΓS1 f=some g→g.ok Tryz.prog f:=Qad (Qy4) (Qas Tryz.func181 (by kernel_rfl) (by kernel_rfl) Qsv)
theorem Q4d:Qaq Tryz.prog 180 sCos:=Qax hm Za0 Tryz.func180 (Λ:=fun _=>Qay) fun args p x h hp=>by
 unfold sCos at h
 split at h <;> try (cases h; done)
 rename_i v f
 cases h
 have h1:I64 v:=hp _ rfl
 refine ⟨rfl,rfl,?_⟩
 refine Eq.mpr (Zgy v f _) ?_
 have hw:=Qhr (v:=Qaa v)
 exact ⟨h1,⟨⟨by omega,by omega⟩,by decide,by decide⟩,(Qcg _).i64,rfl⟩
structure VB where
 x:NB
 y:NB
def vS (a:VB):SV:=.agg [.v (.int .i64 a.x.v),.v (.bool a.x.f),.v (.int .i64 a.y.v),.v (.bool a.y.f)]
def i1B (f:Int→NB):List SV→Option (Option Prop×SV)
 | [.v (.int .i64 v)]=>some (some (I64 v),nS (f v))
 | _=>none
def i2B (f:Int→Int→NB):List SV→Option (Option Prop×SV)
 | [.v (.int .i64 a),.v (.int .i64 b)]=>some (some (I64 a∧I64 b),nS (f a b))
 | _=>none
def n1B (f:NB→NB):List SV→Option (Option Prop×SV)
 | [.agg [.v (.int .i64 v),.v (.bool f1)]]=>some (some (I64 v),nS (f ⟨v,f1⟩))
 | _=>none
def n2B (f:NB→NB→NB):List SV→Option (Option Prop×SV)
 | [.agg [.v (.int .i64 v),.v (.bool f1)],.agg [.v (.int .i64 u),.v (.bool f2)]]=>some (some (I64 v∧I64 u),nS (f ⟨v,f1⟩ ⟨u,f2⟩))
 | _=>none
def n4B (f:NB→NB→NB→NB→NB):List SV→Option (Option Prop×SV)
 | [.agg [.v (.int .i64 a),.v (.bool fa)],.agg [.v (.int .i64 b),.v (.bool fb)],.agg [.v (.int .i64 c),.v (.bool fc)],.agg [.v (.int .i64 d),.v (.bool fd)]] =>
   some (some ((I64 a∧I64 b)∧I64 c∧I64 d),nS (f ⟨a,fa⟩ ⟨b,fb⟩ ⟨c,fc⟩ ⟨d,fd⟩))
 | _=>none
def ofV (x y:Int):VB:=⟨Qoj x,Qoj y⟩
def Qta (p:Int×Int):VB:=⟨Qrs p.1 256,Qrs p.2 256⟩
def subV (a b:VB):VB:=⟨Zl1 a.x b.x,Zl1 a.y b.y⟩
def sum1 (a:NB):NB:=Qxs (Qaa a.v + 0) (Qa8 a.v a.f||false)
def Zit (v:VB):VB:=⟨Qv5 v.y,sum1 v.x⟩
def Zkv (v:VB):NB:=hypN v.x v.y
def Q8c (x:NB):VB:=⟨Qjm x,Qh7 x⟩
def Qh3 (r v:VB):VB:=⟨Qq8 r.x v.x (Qv5 r.y) v.y,Qq8 r.y v.x r.x v.y⟩
def sOfV:List SV→Option (Option Prop×SV)
 | [.v (.int .i64 a0),.v (.int .i64 a1)]=>some (some (I64 a0∧I64 a1),vS (ofV a0 a1))
 | _=>none
def Qty:List SV→Option (Option Prop×SV)
 | [.agg [.v (.int .i64 a0),.v (.int .i64 b0)]]=>some (some ((I64 a0∧I64 b0)),vS (Qta (a0,b0)))
 | _=>none
def sSubV:List SV→Option (Option Prop×SV)
 | [.agg [.v (.int .i64 a0),.v (.bool f0),.v (.int .i64 b0),.v (.bool g0)],.agg [.v (.int .i64 a1),.v (.bool f1),.v (.int .i64 b1),.v (.bool g1)]]=>some (some ((I64 a0∧I64 b0)∧(I64 a1∧I64 b1)),vS (subV ⟨⟨a0,f0⟩,⟨b0,g0⟩⟩ ⟨⟨a1,f1⟩,⟨b1,g1⟩⟩))
 | _=>none
def Qt2:List SV→Option (Option Prop×SV)
 | [.agg [.v (.int .i64 a0),.v (.bool f0)]]=>some (some (I64 a0),vS (Q8c ⟨a0,f0⟩))
 | _=>none
def Qt1:List SV→Option (Option Prop×SV)
 | [.agg [.v (.int .i64 a0),.v (.bool f0),.v (.int .i64 b0),.v (.bool g0)],.agg [.v (.int .i64 a1),.v (.bool f1),.v (.int .i64 b1),.v (.bool g1)]]=>some (some ((I64 a0∧I64 b0)∧(I64 a1∧I64 b1)),vS (Qh3 ⟨⟨a0,f0⟩,⟨b0,g0⟩⟩ ⟨⟨a1,f1⟩,⟨b1,g1⟩⟩))
 | _=>none
def Zf9:Qbz:=Qbi
def Zf8:Qbz:=Qai (Qai (Qai (Qai (Zf9) 174 (Qao (i1B Qoj))) 179 (Qao (i2B Qrs))) 263 (Qao (n1B Qv5))) 176 (Qao (n2B Qn9))
def Zf7:Qbz:=Qai (Qai (Qai (Qai (Qai (Zf8) 269 (Qao (n2B Qqp))) 171 (Qao (n4B Qq8))) 181 (Qao (n1B Qh7))) 180 (Qao (n1B Qjm))) 260 (Qfc Zkn)
def Zga:Qbz:=Qai (Zf7) 173 (Qao (n1B Qyt))
theorem Qzl (a0:Int×Int) (R:SV→Prop):(Qbe Tryz.prog Zga Qay Tryz.f101 [.agg [.v (.int .i64 a0.1),.v (.int .i64 a0.2)]] R)=(((I64 (Prod.fst a0))∧(I64 256))∧(((I64 (Prod.snd a0))∧(I64 256))∧(R (SV.agg [(SV.v (.int .i64 (NB.v (Qrs (Prod.fst a0) 256)))),(SV.v (.bool (NB.f (Qrs (Prod.fst a0) 256)))),(SV.v (.int .i64 (NB.v (Qrs (Prod.snd a0) 256)))),(SV.v (.bool (NB.f (Qrs (Prod.snd a0) 256))))])))):=by kernel_rfl
theorem Qzq (a0:NB) (R:SV→Prop):(Qbe Tryz.prog Zga Qay Tryz.f103 [nS a0] R)=((I64 (NB.v a0))∧((I64 (NB.v a0))∧(R (SV.agg [(SV.v (.int .i64 (NB.v (Qjm a0)))),(SV.v (.bool (NB.f (Qjm a0)))),(SV.v (.int .i64 (NB.v (Qh7 a0)))),(SV.v (.bool (NB.f (Qh7 a0))))])))):=by kernel_rfl
theorem Qzp (a0:VB) (a1:VB) (R:SV→Prop):(Qbe Tryz.prog Zga Qay Tryz.f178 [vS a0,vS a1] R)=((I64 (NB.v (VB.y a0)))∧((((I64 (NB.v (VB.x a0)))∧(I64 (NB.v (VB.x a1))))∧((I64 (NB.v (Qv5 (VB.y a0))))∧(I64 (NB.v (VB.y a1)))))∧((((I64 (NB.v (VB.y a0)))∧(I64 (NB.v (VB.x a1))))∧((I64 (NB.v (VB.x a0)))∧(I64 (NB.v (VB.y a1)))))∧(R (SV.agg [(SV.v (.int .i64 (NB.v (Qq8 (VB.x a0) (VB.x a1) (Qv5 (VB.y a0)) (VB.y a1))))),(SV.v (.bool (NB.f (Qq8 (VB.x a0) (VB.x a1) (Qv5 (VB.y a0)) (VB.y a1))))),(SV.v (.int .i64 (NB.v (Qq8 (VB.y a0) (VB.x a1) (VB.x a0) (VB.y a1))))),(SV.v (.bool (NB.f (Qq8 (VB.y a0) (VB.x a1) (VB.x a0) (VB.y a1)))))]))))):=by kernel_rfl
def Zf6:Qbz:=Zga
def Zf5:Qbz:=Qai (Zf6) 101 (Qao Qty)
def ΓV1:Qbz:=Qai (Qai (Zf5) 103 (Qao Qt2)) 178 (Qao Qt1)
def Zk6:Qbz:=ΓV1
theorem Q65 {a:NB} (h:I64 a.v):I64 (Qv5 a).v:=(Q16 (Q0h h)).i64
theorem Zeh (a:Int):I64 (Qoj a).v:=(Qcg _).i64
theorem Q1f (a b:Int):I64 (Qrs a b).v:=(Qij _ _).i64
theorem Zd4 (a b:NB):I64 (Qn9 a b).v:=(Qcg _).i64
theorem Ze0 (a b:NB):I64 (Qqp a b).v:=(Qij _ _).i64
theorem Zci (a b:NB):I64 (Zl1 a b).v:=(Qcg _).i64
theorem Q28 (a b c d:NB):I64 (Qq8 a b c d).v:=(Qcg _).i64
theorem Zeo (a b:NB):I64 (hypN a b).v:=(Qcg _).i64
theorem Qvf (a:NB):I64 (sum1 a).v:=(Qcg _).i64
theorem Q0j (a:NB):I64 (Qh7 a).v:=by have:=Qtw a; exact ⟨by omega,by omega⟩
theorem Q7v (a:NB):I64 (Qjm a).v:=Q0j _
theorem Q2q (v:Int) (f:Bool):Q5b [SV.v (Value.int .i64 v),SV.v (Value.bool f)]=I64 v:=rfl
theorem Znb:I64 256:=⟨by decide,by decide⟩
theorem Qt7 {v:VB} (h:I64 v.y.v):I64 (Zit v).x.v:=Q65 h
theorem Qt6 (v:VB):I64 (Zit v).y.v:=Qvf _
theorem Q3y (x:NB):I64 (Q8c x).x.v:=Q7v _
theorem Q3x (x:NB):I64 (Q8c x).y.v:=Q0j _
theorem Q5j:∀ f g,Zf9 f=some g→g.ok Tryz.prog f:=Qam
theorem Q5i:∀ f g,Zf8 f=some g→g.ok Tryz.prog f:=Qad (Qad (Qad (Qad (Q5j) (Qas Tryz.func174 (by kernel_rfl) (by kernel_rfl) (spec:=i1B Qoj) Qsy)) (Qas Tryz.func179 (by kernel_rfl) (by kernel_rfl) (spec:=i2B Qrs) Qnj)) (Qas Tryz.func263 (by kernel_rfl) (by kernel_rfl) (spec:=n1B Qv5) Qnk)) (Qas Tryz.func176 (by kernel_rfl) (by kernel_rfl) (spec:=n2B Qn9) Qsw)
theorem Q5h:∀ f g,Zf7 f=some g→g.ok Tryz.prog f:=Qad (Qad (Qad (Qad (Qad (Q5i) (Qas Tryz.func269 (by kernel_rfl) (by kernel_rfl) (spec:=n2B Qqp) Qsz)) (Qas Tryz.func171 (by kernel_rfl) (by kernel_rfl) (spec:=n4B Qq8) Q4c)) (Qas Tryz.func181 (by kernel_rfl) (by kernel_rfl) (spec:=n1B Qh7) Qsv)) (Qas Tryz.func180 (by kernel_rfl) (by kernel_rfl) (spec:=n1B Qjm) Q4d)) (Qfj Tryz.func260 (by kernel_rfl) (by kernel_rfl) Qsu)
theorem Qo8:∀ f g,Zga f=some g→g.ok Tryz.prog f:=Qad (Q5h) (Qas Tryz.func173 (by kernel_rfl) (by kernel_rfl) (spec:=n1B Qyt) Q4g)
theorem Qsx:Qaq Tryz.prog 101 Qty:=Qax hm Qo8 Tryz.func101 (Λ:=fun _=>Qay) fun args p x h hp=>by
 unfold Qty at h
 split at h <;> try (cases h; done)
 rename_i a0 b0
 cases h
 obtain ⟨h0,k0⟩:=hp _ rfl
 refine ⟨rfl,rfl,?_⟩
 refine Eq.mpr (Qzl (a0,b0) _) ?_
 simp only [Zeh,Q1f,Zd4,Ze0,Zci,Q28,Zeo,Q0j,Q7v,Qvf,Q2q,Znb,Qt6,Q3y,Q3x,and_true,true_and,and_self,Q65,Qt7,h0,k0] <;> first | rfl | exact ⟨by decide,rfl⟩ | exact ⟨⟨rfl,by decide⟩,rfl⟩
theorem Qs2:Qaq Tryz.prog 103 Qt2:=Qax hm Qo8 Tryz.func103 (Λ:=fun _=>Qay) fun args p x h hp=>by
 unfold Qt2 at h
 split at h <;> try (cases h; done)
 rename_i a0 f0
 cases h
 obtain h0:=hp _ rfl
 refine ⟨rfl,rfl,?_⟩
 refine Eq.mpr (Qzq ⟨a0,f0⟩ _) ?_
 simp only [Zeh,Q1f,Zd4,Ze0,Zci,Q28,Zeo,Q0j,Q7v,Qvf,Q2q,Znb,Qt6,Q3y,Q3x,and_true,true_and,and_self,Q65,Qt7,h0] <;> first | rfl | exact ⟨by decide,rfl⟩ | exact ⟨⟨rfl,by decide⟩,rfl⟩
theorem Qs1:Qaq Tryz.prog 178 Qt1:=Qax hm Qo8 Tryz.func178 (Λ:=fun _=>Qay) fun args p x h hp=>by
 unfold Qt1 at h
 split at h <;> try (cases h; done)
 rename_i a0 f0 b0 g0 a1 f1 b1 g1
 cases h
 obtain ⟨⟨h0,k0⟩,⟨h1,k1⟩⟩:=hp _ rfl
 refine ⟨rfl,rfl,?_⟩
 refine Eq.mpr (Qzp ⟨⟨a0,f0⟩,⟨b0,g0⟩⟩ ⟨⟨a1,f1⟩,⟨b1,g1⟩⟩ _) ?_
 simp only [Zeh,Q1f,Zd4,Ze0,Zci,Q28,Zeo,Q0j,Q7v,Qvf,Q2q,Znb,Qt6,Q3y,Q3x,and_true,true_and,and_self,Q65,Qt7,h0,k0,h1,k1] <;> first | rfl | exact ⟨by decide,rfl⟩ | exact ⟨⟨rfl,by decide⟩,rfl⟩
theorem Q5g:∀ f g,Zf6 f=some g→g.ok Tryz.prog f:=Qo8
theorem Q5f:∀ f g,Zf5 f=some g→g.ok Tryz.prog f:=Qad (Q5g) (Qas Tryz.func101 (by kernel_rfl) (by kernel_rfl) Qsx)
theorem Zax:∀ f g,ΓV1 f=some g→g.ok Tryz.prog f:=Qad (Qad (Q5f) (Qas Tryz.func103 (by kernel_rfl) (by kernel_rfl) Qs2)) (Qas Tryz.func178 (by kernel_rfl) (by kernel_rfl) Qs1)
theorem Qy2:∀ f g,Zk6 f=some g→g.ok Tryz.prog f:=Zax
end Go.Proofs.YthkihlpeaidlnaaGreat
end
section
namespace Go.Proofs.YthkihlpeaidlnaaGreat
open Go.SE
def pev:List Int→Int→Int
 | [],_=>0
 | c :: p,x=>c + x*pev p x
def Q60:List Int→List Int→List Int
 | [],q=>q
 | a :: p,[]=>a :: p
 | a :: p,b :: q=>(a + b) :: Q60 p q
def psc (c:Int):List Int→List Int
 | []=>[]
 | a :: p=>c*a :: psc c p
def Zdq:List Int→List Int→List Int
 | [],_=>[]
 | a :: p,q=>Q60 (psc a q) (0 :: Zdq p q)
def Qxk:List Int→List Int→List Int
 | [],_=>[]
 | a :: p,q=>Q60 [a] (Zdq q (Qxk p q))
def pab:List Int→Int→Int
 | [],_=>0
 | c :: p,x=>Qab c + x*pab p x
theorem Qml (x:Int):∀ p q,pev (Q60 p q) x=pev p x + pev q x
 | [],q=>by simp [Q60,pev]
 | a :: p,[]=>by simp [Q60,pev]
 | a :: p,b :: q=>by simp only [Q60,pev,Qml x p q,Int.mul_add]; omega
theorem Q9t (c x:Int):∀ p,pev (psc c p) x=c*pev p x
 | []=>by simp [psc,pev]
 | a :: p=>by simp only [psc,pev,Q9t c x p,Int.mul_add]; rw [Int.mul_left_comm]
theorem Qpy (x:Int):∀ p q,pev (Zdq p q) x=pev p x*pev q x
 | [],q=>by simp [Zdq,pev]
 | a :: p,q=>by simp only [Zdq,Qml,Q9t,pev,Qpy x p q,Int.add_mul,Int.mul_assoc]; omega
theorem Qvx (x:Int):∀ p q,pev (Qxk p q) x=pev p (pev q x)
 | [],q=>by simp [Qxk,pev]
 | a :: p,q=>by simp only [Qxk,Qml,Qpy,pev,Qvx x p q]; omega
theorem Qn8 {x:Int} (h:0≤x):∀ p,0≤pab p x
 | []=>Int.le_refl _
 | c :: p=>by have:=Int.mul_nonneg h (Qn8 h p); have:=Qbn c; show 0≤Qab c + x*pab p x; omega
theorem Q1r {x q:Int} (h0:0≤x) (h1:x≤q):∀ p,-pab p q≤pev p x∧pev p x≤pab p q
 | []=>⟨Int.le_refl _,Int.le_refl _⟩
 | c :: p=>by
   obtain ⟨a,b⟩:=Q1r h0 h1 p
   have n:=Qn8 (x:=q) (by omega) p
   have m1:x*pab p q≤q*pab p q:=Int.mul_le_mul_of_nonneg_right h1 n
   have m2:x*pev p x≤x*pab p q:=Int.mul_le_mul_of_nonneg_left b h0
   have m3:x*-pab p q≤x*pev p x:=Int.mul_le_mul_of_nonneg_left a h0
   rw [Int.mul_neg] at m3
   have c1:-Qab c≤c∧c≤Qab c:=by unfold Qab; split <;> omega
   show -(Qab c + q*pab p q)≤c + x*pev p x∧c + x*pev p x≤Qab c + q*pab p q
   omega
def mg (a:Int):Nat→Int
 | 0=>a
 | k + 1=>mg a k*a / 4294967296*a / 4294967296 / ((2*((k:Int) + 1))*(2*((k:Int) + 1) + 1))
def sgk:Nat→Int
 | 0=>1
 | k + 1=>-sgk k
theorem Q9k:∀ k,sgk k=1∨sgk k=-1
 | 0=>.inl rfl
 | k + 1=>by rcases Q9k k with h | h <;> simp [sgk,h]
def tT (v:Int):Nat→Int
 | 0=>v
 | k + 1=>-Int.tdiv (Qbj (Qbj (tT v k) v) v) ((2*((k:Int) + 1))*(2*((k:Int) + 1) + 1))
def uT (v:Int):Nat→Int
 | 0=>v
 | k + 1=>uT v k + tT v (k + 1)
theorem Qv8 (a b:Int):Qbj (-a) b=-Qbj a b:=by unfold Qbj; rw [Int.neg_mul,Int.neg_tdiv]
theorem Q18 (a b:Int):Qbj a (-b)=-Qbj a b:=by unfold Qbj; rw [Int.mul_neg,Int.neg_tdiv]
theorem Q9h (v:Int):∀ k,tT (-v) k=-tT v k
 | 0=>rfl
 | k + 1=>by
   show -Int.tdiv (Qbj (Qbj (tT (-v) k) (-v)) (-v)) _=- -Int.tdiv (Qbj (Qbj (tT v k) v) v) _
   rw [Q9h v k]
   simp only [Qv8,Q18,Int.neg_tdiv,Int.neg_neg]
theorem Q9f (v:Int):∀ k,uT (-v) k=-uT v k
 | 0=>rfl
 | k + 1=>by show uT (-v) k + tT (-v) (k + 1)=-(uT v k + tT v (k + 1)); rw [Q9f v k,Q9h]; omega
theorem Qm5 (k:Nat):(0:Int)<(2*((k:Int) + 1))*(2*((k:Int) + 1) + 1):=Int.mul_pos (by omega) (by omega)
theorem Qmt {a:Int} (h:0≤a):∀ k,0≤mg a k
 | 0=>h
 | k + 1=>by
   have h1:=Int.mul_nonneg (Qmt h k) h
   have h2:0≤mg a k*a / 4294967296:=Int.ediv_nonneg h1 (by decide)
   exact Int.ediv_nonneg (Int.ediv_nonneg (Int.mul_nonneg h2 h) (by decide)) (Int.le_of_lt (Qm5 k))
theorem Qv7 {a b:Int} (ha:0≤a) (hb:0≤b):Qbj a b=a*b / 4294967296:=Int.tdiv_eq_ediv_of_nonneg (Int.mul_nonneg ha hb)
theorem Zh6 {a:Int} (h:0≤a):∀ k,tT a k=sgk k*mg a k
 | 0=>by show a=1*a; omega
 | k + 1=>by
   have h0:=Qmt h k
   have h1:0≤mg a k*a / 4294967296:=Int.ediv_nonneg (Int.mul_nonneg h0 h) (by decide)
   have h2:0≤mg a k*a / 4294967296*a / 4294967296:=Int.ediv_nonneg (Int.mul_nonneg h1 h) (by decide)
   show -Int.tdiv (Qbj (Qbj (tT a k) a) a) _=-sgk k*(mg a k*a / 4294967296*a / 4294967296 / _)
   rw [Zh6 h k]
   have e:Int.tdiv (Qbj (Qbj (mg a k) a) a) ((2*((k:Int) + 1))*(2*((k:Int) + 1) + 1))=mg a k*a / 4294967296*a / 4294967296 / ((2*((k:Int) + 1))*(2*((k:Int) + 1) + 1)):=by
     rw [Qv7 h0 h,Qv7 h1 h,Int.tdiv_eq_ediv_of_nonneg h2]
   rw [← e]
   rcases Q9k k with hs | hs
   · rw [hs,Int.one_mul]; omega
   · rw [hs,show (-1:Int)*mg a k=-mg a k by omega]
     simp only [Qv8,Int.neg_tdiv,Int.neg_neg]; omega
def CC:Nat→Int
 | 0=>1
 | k + 1=>CC k*(18446744073709551616*((2*((k:Int) + 1))*(2*((k:Int) + 1) + 1)))
def aa (a:Int):Nat→Int
 | 0=>a
 | k + 1=>aa a k*(a*a)
theorem Qs8:∀ k,0<CC k
 | 0=>by decide
 | k + 1=>Int.mul_pos (Qs8 k) (Int.mul_pos (by decide) (Qm5 k))
theorem Zja {a:Int} (h:0≤a) (h1:a≤6746518852):∀ k,mg a k*CC k≤aa a k∧aa a k≤(mg a k + 3)*CC k
 | 0=>by show a*1≤a∧a≤(a + 3)*1; omega
 | k + 1=>by
   obtain ⟨l,u⟩:=Zja h h1 k
   have c0:=Qs8 k
   have m0:=Qmt h k
   have hN:=Qm5 k
   have hN6:(6:Int)≤(2*((k:Int) + 1))*(2*((k:Int) + 1) + 1):=by
     have:(2:Int)*3≤(2*((k:Int) + 1))*(2*((k:Int) + 1) + 1):=Int.mul_le_mul (by omega) (by omega) (by decide) (by omega)
     omega
   show mg a k*a / 4294967296*a / 4294967296 / _*(CC k*(18446744073709551616*_))≤aa a k*(a*a)∧aa a k*(a*a)≤(mg a k*a / 4294967296*a / 4294967296 / _ + 3)*(CC k*(18446744073709551616*_))
   generalize (2*((k:Int) + 1))*(2*((k:Int) + 1) + 1)=N at *
   generalize hm:mg a k=m at *
   generalize CC k=c at *
   have p0:=Int.ediv_nonneg (Int.mul_nonneg m0 h) (show (0:Int)≤4294967296 by decide)
   have p1:m*a / 4294967296*4294967296≤m*a:=Int.ediv_mul_le _ (by decide)
   have p2:m*a<(m*a / 4294967296 + 1)*4294967296:=Int.lt_ediv_add_one_mul_self _ (by decide)
   generalize m*a / 4294967296=p at *
   have q1:p*a / 4294967296*4294967296≤p*a:=Int.ediv_mul_le _ (by decide)
   have q2:p*a<(p*a / 4294967296 + 1)*4294967296:=Int.lt_ediv_add_one_mul_self _ (by decide)
   generalize p*a / 4294967296=q at *
   have r1:q / N*N≤q:=Int.ediv_mul_le _ (by omega)
   have r2:q<(q / N + 1)*N:=Int.lt_ediv_add_one_mul_self _ hN
   generalize q / N=r at *
   have haa:=Qcj a
   -- m a a between
   have e1:m*(a*a)=m*a*a:=(Int.mul_assoc m a a).symm
   have e2:p*4294967296*a=p*a*4294967296:=Int.mul_right_comm _ _ _
   have s1:p*4294967296*a≤m*a*a:=Int.mul_le_mul_of_nonneg_right p1 h
   have s2:m*a*a≤(p + 1)*4294967296*a:=Int.mul_le_mul_of_nonneg_right (by omega) h
   have e3:(p + 1)*4294967296*a=p*a*4294967296 + 4294967296*a:=by rw [Int.add_mul,Int.add_mul,Int.mul_right_comm p]; omega
   constructor
   · -- r N F F≤m a a
     have t1:r*N*18446744073709551616≤m*(a*a):=by omega
     have t2:r*N*18446744073709551616*c≤m*(a*a)*c:=Int.mul_le_mul_of_nonneg_right t1 (by omega)
     have t3:m*(a*a)*c=m*c*(a*a):=Int.mul_right_comm _ _ _
     have t4:m*c*(a*a)≤aa a k*(a*a):=Int.mul_le_mul_of_nonneg_right l haa
     have t5:r*(c*(18446744073709551616*N))=r*N*18446744073709551616*c:=by
       rw [Int.mul_comm 18446744073709551616 N,← Int.mul_assoc c,← Int.mul_assoc r,Int.mul_right_comm (r*N),← Int.mul_assoc r,Int.mul_right_comm r c N]
     omega
   · have a2:a*a≤6746518852*a:=Int.mul_le_mul_of_nonneg_right h1 h
     have e4:(r + 1)*N=r*N + N:=by rw [Int.add_mul]; omega
     have e5:(r + 3)*N=r*N + 3*N:=by rw [Int.add_mul]
     have t1:(m + 3)*(a*a)≤(r + 3)*N*18446744073709551616:=by
       have:(m + 3)*(a*a)=m*(a*a) + 3*(a*a):=Int.add_mul _ _ _
       omega
     have t2:(m + 3)*(a*a)*c≤(r + 3)*N*18446744073709551616*c:=Int.mul_le_mul_of_nonneg_right t1 (by omega)
     have t3:(m + 3)*(a*a)*c=(m + 3)*c*(a*a):=Int.mul_right_comm _ _ _
     have t4:aa a k*(a*a)≤(m + 3)*c*(a*a):=Int.mul_le_mul_of_nonneg_right u haa
     have t5:(r + 3)*(c*(18446744073709551616*N))=(r + 3)*N*18446744073709551616*c:=by
       rw [Int.mul_comm 18446744073709551616 N,← Int.mul_assoc c,← Int.mul_assoc (r + 3),Int.mul_right_comm ((r + 3)*N),← Int.mul_assoc (r + 3),Int.mul_right_comm (r + 3) c N]
     omega
def DD:Int:=CC 8
def PL:List Int:=[0,CC 8 / CC 0,0,-(CC 8 / CC 1),0,CC 8 / CC 2,0,-(CC 8 / CC 3),0,CC 8 / CC 4,0,-(CC 8 / CC 5),0,CC 8 / CC 6,0,-(CC 8 / CC 7),0,CC 8 / CC 8]
def GL (q:Int):List Int:=Q60 (Q60 (Zdq PL PL) (Zdq (Qxk PL [q,-1]) (Qxk PL [q,-1]))) [-(DD*4294967296*(DD*4294967296))]
theorem GL_1:pab (GL 6746518852) 6746518852≤512*4294967296*(DD*DD):=by decide +kernel
theorem GL_2:pab (GL 6746518851) 6746518851≤512*4294967296*(DD*DD):=by decide +kernel
theorem quot (k:Nat) (h:k≤8):CC 8 / CC k*CC k=CC 8:=by
 have:∀ k:Fin 9,CC 8 / CC k.val*CC k.val=CC 8:=by decide +kernel
 exact this ⟨k,by omega⟩
theorem Qg3 {a:Int} (h:0≤a) (h1:a≤6746518852) (k:Nat) (hk:k≤8):0≤CC 8 / CC k*aa a k - DD*mg a k∧CC 8 / CC k*aa a k - DD*mg a k≤3*DD:=by
 obtain ⟨l,u⟩:=Zja h h1 k
 have q:=quot k hk
 have r0:0≤CC 8 / CC k:=Int.ediv_nonneg (Int.le_of_lt (Qs8 8)) (Int.le_of_lt (Qs8 k))
 unfold DD
 generalize CC 8 / CC k=R at *
 have a1:=Int.mul_le_mul_of_nonneg_left l r0
 have a2:=Int.mul_le_mul_of_nonneg_left u r0
 have e1:R*(mg a k*CC k)=CC 8*mg a k:=by rw [Int.mul_left_comm,q,Int.mul_comm]
 have e2:R*((mg a k + 3)*CC k)=CC 8*mg a k + 3*CC 8:=by rw [Int.mul_left_comm,q,Int.add_mul,Int.mul_comm]
 omega
theorem Zis (a:Int):pev PL a=CC 8 / CC 0*aa a 0 - CC 8 / CC 1*aa a 1 + CC 8 / CC 2*aa a 2 - CC 8 / CC 3*aa a 3 + CC 8 / CC 4*aa a 4 - CC 8 / CC 5*aa a 5 + CC 8 / CC 6*aa a 6 - CC 8 / CC 7*aa a 7 + CC 8 / CC 8*aa a 8:=by
 unfold PL
 generalize CC 8 / CC 0=c0
 generalize CC 8 / CC 1=c1
 generalize CC 8 / CC 2=c2
 generalize CC 8 / CC 3=c3
 generalize CC 8 / CC 4=c4
 generalize CC 8 / CC 5=c5
 generalize CC 8 / CC 6=c6
 generalize CC 8 / CC 7=c7
 generalize CC 8 / CC 8=c8
 have odd:∀ (c:Int) (p:List Int),pev (0 :: c :: p) a=a*(c + a*pev p a):=fun c p=>by simp only [pev]; omega
 have sh:∀ (c:Int) (p:List Int),pev (0 :: c :: p) a=c*a + (a*a)*pev p a:=fun c p=>by rw [odd,Int.mul_add,Int.mul_comm a c,Int.mul_assoc]
 have e0:∀ k,aa a (k + 1)=(a*a)*aa a k:=fun k=>by show aa a k*(a*a)=_; rw [Int.mul_comm]
 -- p(x)=c0 x + x² p1(x),where p1 begins with 0 again
 have s0:pev [0,c0,0,-c1,0,c2,0,-c3,0,c4,0,-c5,0,c6,0,-c7,0,c8] a=c0*a + (a*a)*(-c1*a + (a*a)*(c2*a + (a*a)*(-c3*a + (a*a)*(c4*a + (a*a)*(-c5*a + (a*a)*(c6*a + (a*a)*(-c7*a + (a*a)*(c8*a)))))))):=by
   rw [sh,sh,sh,sh,sh,sh,sh,sh,sh]; simp [pev]
 rw [s0]
 simp only [e0,show aa a 0=a from rfl]
 generalize a*a=b
 simp only [Int.mul_add,Int.neg_mul,Int.mul_neg,Int.mul_left_comm b]
 omega
theorem Zh3 (a:Int) (h:0≤a):uT a 8=mg a 0 - mg a 1 + mg a 2 - mg a 3 + mg a 4 - mg a 5 + mg a 6 - mg a 7 + mg a 8:=by
 have e:∀ k,uT a (k + 1)=uT a k + sgk (k + 1)*mg a (k + 1):=fun k=>by rw [← Zh6 h (k + 1)]; rfl
 rw [e 7,e 6,e 5,e 4,e 3,e 2,e 1,e 0]
 show a + -1*mg a 1 + 1*mg a 2 + -1*mg a 3 + 1*mg a 4 + -1*mg a 5 + 1*mg a 6 + -1*mg a 7 + 1*mg a 8=a - _ + _ - _ + _ - _ + _ - _ + _
 omega
theorem Zh4 {a:Int} (h:0≤a) (h1:a≤6746518852):-(12*DD)≤DD*uT a 8 - pev PL a∧DD*uT a 8 - pev PL a≤12*DD:=by
 rw [Zh3 a h,Zis]
 have t0:CC 8 / CC 0*aa a 0=DD*mg a 0:=by show CC 8 / CC 0*a=CC 8*a; rw [show CC 8 / CC 0=CC 8 by decide +kernel]
 have t1:=Qg3 h h1 1 (by decide)
 have t2:=Qg3 h h1 2 (by decide)
 have t3:=Qg3 h h1 3 (by decide)
 have t4:=Qg3 h h1 4 (by decide)
 have t5:=Qg3 h h1 5 (by decide)
 have t6:=Qg3 h h1 6 (by decide)
 have t7:=Qg3 h h1 7 (by decide)
 have t8:=Qg3 h h1 8 (by decide)
 simp only [Int.mul_add,Int.mul_sub]
 generalize DD=D at *
 omega
theorem Zkd (q a:Int):pev (GL q) a=pev PL a*pev PL a + pev PL (q - a)*pev PL (q - a) - DD*4294967296*(DD*4294967296):=by
 have e:pev [q,-1] a=q - a:=by simp [pev]; omega
 unfold GL
 rw [Qml,Qml,Qpy,Qpy,Qvx,e]
 simp [pev]; omega
theorem Zfx (a b c d:Int):a*b*(c*d)=a*c*(b*d):=by rw [Int.mul_assoc,Int.mul_assoc,Int.mul_left_comm b c d]
theorem Qen {p q P Q:Int} (hP:0≤P) (a1:-P≤p) (a2:p≤P) (b1:-Q≤q) (b2:q≤Q):-(P*Q)≤p*q∧p*q≤P*Q:=by
 have c1:Qab p≤P:=by unfold Qab; split <;> omega
 have c2:Qab q≤Q:=by unfold Qab; split <;> omega
 have c3:Qab p*Qab q≤P*Q:=Int.mul_le_mul c1 c2 (Qbn q) hP
 have c4:=Qjt p q
 have c5:=Qdm (a:=p) (b:=q)
 generalize Qab p*Qab q=z at *
 generalize (!(decide (p<0)==decide (q<0)))=n at *
 rw [← c4]
 unfold sv
 cases n <;> simp <;> omega
theorem Zh8 {D u w A B F:Int} (hD:0<D) (hF:1000≤F) (h1:-(12*D)≤D*u - A∧D*u - A≤12*D) (h2:-(12*D)≤D*w - B∧D*w - B≤12*D)
   (h3:-(512*F*(D*D))≤A*A + B*B - D*F*(D*F)∧A*A + B*B - D*F*(D*F)≤512*F*(D*D)):-(640*F)≤u*u + w*w - F*F∧u*u + w*w - F*F≤640*F:=by
 have hDD:0<D*D:=Int.mul_pos hD hD
 have eF:D*F*(D*F)=F*F*(D*D):=by rw [Zfx,Int.mul_comm]
 have k1:512*F*(D*D)=512*(F*(D*D)):=Int.mul_assoc _ _ _
 rw [eF,k1] at h3
 have hFF:1000*F≤F*F:=Int.mul_le_mul_of_nonneg_right hF (by omega)
 have hFD:1000*(D*D)≤F*(D*D):=Int.mul_le_mul_of_nonneg_right hF (by omega)
 have hFFD:1000*(F*(D*D))≤F*(F*(D*D)):=Int.mul_le_mul_of_nonneg_right hF (by omega)
 have k2:F*F*(D*D)=F*(F*(D*D)):=Int.mul_assoc _ _ _
 have k3:(2*(D*F))*(2*(D*F))=4*(F*(F*(D*D))):=by rw [Zfx,eF,k2]; omega
 have p2:0≤D*F:=Int.mul_nonneg (Int.le_of_lt hD) (by omega)
 -- A and B are at most 2 D F
 have lim:∀ {X Y:Int},X*X + Y*Y - F*F*(D*D)≤512*(F*(D*D))→-(2*(D*F))≤X∧X≤2*(D*F):=by
   intro X Y h
   have y:=Qcj Y
   have hX:X*X≤(2*(D*F))*(2*(D*F)):=by omega
   have hX':(-X)*(-X)≤(2*(D*F))*(2*(D*F)):=by rw [Int.neg_mul_neg]; exact hX
   have a:=Qvk (show 0≤2*(D*F) by omega) hX
   have b:=Qvk (show 0≤2*(D*F) by omega) hX'
   omega
 have lA:=lim h3.2
 have lB:=lim (X:=B) (Y:=A) (by omega)
 -- (D u)² and A²
 have near:∀ {U X:Int},-(12*D)≤U - X→U - X≤12*D→-(2*(D*F))≤X∧X≤2*(D*F)→-(49*(F*(D*D)))≤U*U - X*X∧U*U - X*X≤49*(F*(D*D)):=by
   intro U X l u ⟨xl,xu⟩
   have e:U*U - X*X=(U - X)*(2*X + (U - X)):=by rw [Int.sub_mul,Int.mul_add,Int.mul_add,Int.mul_sub,Int.mul_sub,Int.mul_left_comm U 2,Int.mul_left_comm X 2,Int.mul_comm X U]; omega
   rw [e]
   have t:=Qen (p:=U - X) (q:=2*X + (U - X)) (P:=12*D) (Q:=4*(D*F) + 12*D) (by omega) (by omega) u (by omega) (by omega)
   have e2:12*D*(4*(D*F) + 12*D)=48*(F*(D*D)) + 144*(D*D):=by
     rw [Int.mul_add,Zfx 12 D 4,Zfx 12 D 12,← Int.mul_assoc D D F,Int.mul_comm (D*D) F]
     omega
   omega
 have nA:=near h1.1 h1.2 lA
 have nB:=near h2.1 h2.2 lB
 have eu:D*u*(D*u)=u*u*(D*D):=by rw [Zfx,Int.mul_comm]
 have ew:D*w*(D*w)=w*w*(D*D):=by rw [Zfx,Int.mul_comm]
 rw [eu] at nA
 rw [ew] at nB
 have tot:(u*u + w*w - F*F)*(D*D)=u*u*(D*D) + w*w*(D*D) - F*F*(D*D):=by rw [Int.sub_mul,Int.add_mul]
 have b1:640*F*(D*D)=640*(F*(D*D)):=Int.mul_assoc _ _ _
 have b2:-(640*F)*(D*D)=-(640*F*(D*D)):=Int.neg_mul _ _
 constructor
 · refine Int.le_of_mul_le_mul_right ?_ hDD
   rw [tot,b2]; omega
 · refine Int.le_of_mul_le_mul_right ?_ hDD
   rw [tot]; omega
theorem Zjy {a b:Int} (ha:0≤a) (hb:0≤b) (h:a + b=6746518852∨a + b=6746518851):-(640*4294967296)≤uT a 8*uT a 8 + uT b 8*uT b 8 - 4294967296*4294967296∧uT a 8*uT a 8 + uT b 8*uT b 8 - 4294967296*4294967296≤640*4294967296:=by
 refine Zh8 (D:=DD) (Qs8 8) (by decide) (Zh4 ha (by omega)) (Zh4 hb (by omega)) ?_
 rcases h with h | h
 · have e:b=6746518852 - a:=by omega
   rw [e,← Zkd]
   have:=Q1r ha (show a≤6746518852 by omega) (GL 6746518852)
   have:=GL_1
   omega
 · have e:b=6746518851 - a:=by omega
   rw [e,← Zkd]
   have:=Q1r ha (show a≤6746518851 by omega) (GL 6746518851)
   have:=GL_2
   omega
theorem Qff {e:Int} (h:Sd e):Qbb e=e:=by obtain ⟨_,_⟩:=h; unfold Qbb; rw [if_neg (by omega),if_neg (by omega)]
theorem Qfe {e:Int} {f:Bool} (h:Sd e):Qe7 e f=f:=by obtain ⟨_,_⟩:=h; unfold Qe7; rw [if_pos (by unfold Qab; split <;> omega)]
theorem Qhk {e:Int} {f:Bool} (h:Sd e):Qxs e f=⟨e,f⟩:=by unfold Qxs; rw [Qff h,Qfe h]
theorem Qmp {a b:NB} (ha:Sd a.v) (hb:Sd b.v) (h:Sd (Qbj a.v b.v)):Qn9 a b=⟨Qbj a.v b.v,a.f||b.f⟩:=by unfold Qn9; rw [ha.self,hb.self,ha.flag,hb.flag,Qhk h]
theorem Qss {a b:NB} (ha:Sd a.v) (hb:Sd b.v) (h:Sd (a.v + b.v)):Q8f a b=⟨a.v + b.v,a.f||b.f⟩:=by unfold Q8f; rw [ha.self,hb.self,ha.flag,hb.flag,Qhk h]
theorem Qr3 {a:NB} (ha:Sd a.v):Qv5 a=⟨-a.v,a.f⟩:=by unfold Qv5; rw [ha.self,ha.flag]
theorem Qtn {x B d:Int} (hd:0<d) (h:-B≤x∧x≤B):-(B / d)≤Int.tdiv x d∧Int.tdiv x d≤B / d:=by
 have key:∀ y,0≤y→y≤B→0≤Int.tdiv y d∧Int.tdiv y d≤B / d:=fun y h0 h1=>by
   rw [Int.tdiv_eq_ediv_of_nonneg h0]
   exact ⟨Int.ediv_nonneg h0 (by omega),Int.ediv_le_ediv hd h1⟩
 rcases Int.le_total 0 x with hx | hx
 · have:=key x hx h.2; omega
 · have:=key (-x) (by omega) (by omega)
   rw [Int.neg_tdiv] at this
   omega
theorem Qje {a:NB} {n:Int} (ha:Sd a.v) (hn:0<n) (hn1:n<2147483648):Qqp a (Qoj n)=⟨Int.tdiv a.v n,a.f⟩:=by
 have hs:Sd (n*4294967296):=⟨by omega,by omega⟩
 have e:Qoj n=⟨n*4294967296,false⟩:=Qhk hs
 have e2:Q6p a.v (n*4294967296)=Int.tdiv a.v n:=Int.mul_tdiv_mul_of_pos_left _ _ (by decide)
 have hq:=Qtn (x:=a.v) (B:=9223372036854775807) hn ha
 have hB:(9223372036854775807:Int) / n≤9223372036854775807:=Int.ediv_le_self _ (by decide)
 have ht:Sd (Int.tdiv a.v n):=⟨by omega,by omega⟩
 unfold Qqp Qex Qnq
 rw [e]
 simp only
 rw [ha.self,hs.self,ha.flag,hs.flag,if_neg (by omega),if_neg (by omega),e2,Qff ht,Qfe ht,Bool.false_or,Bool.or_false]
theorem Qp3 {a b A B:Int} (hA:0≤A) (ha:-A≤a∧a≤A) (hb:-B≤b∧b≤B):-(A*B / 4294967296)≤Qbj a b∧Qbj a b≤A*B / 4294967296:=Qtn (by decide) (Qen hA ha.1 ha.2 hb.1 hb.2)
def InQ (v:Int):Prop:=-6746518852≤v∧v≤6746518852
theorem Qz6 {v:Int} (h:InQ v):∀ k,InQ (tT v k)
 | 0=>h
 | k + 1=>by
   have h1:=Qp3 (by decide) (Qz6 h k) h
   have h2:=Qp3 (A:=10597451456) (by decide) ⟨Int.le_trans (by decide) h1.1,Int.le_trans h1.2 (by decide)⟩ h
   have hN:=Qm5 k
   have hN6:(6:Int)≤(2*((k:Int) + 1))*(2*((k:Int) + 1) + 1):=by
     have:(2:Int)*3≤(2*((k:Int) + 1))*(2*((k:Int) + 1) + 1):=Int.mul_le_mul (by omega) (by omega) (by decide) (by omega)
     omega
   have h3:=Qtn (B:=40479113112) hN ⟨Int.le_trans (by decide) h2.1,Int.le_trans h2.2 (by decide)⟩
   have h4:(40479113112:Int) / ((2*((k:Int) + 1))*(2*((k:Int) + 1) + 1))≤6746518852:=by
     refine Int.ediv_le_of_le_mul hN ?_
     have:=Int.mul_le_mul_of_nonneg_left hN6 (show (0:Int)≤6746518852 by decide)
     omega
   show InQ (-Int.tdiv _ _)
   unfold InQ
   omega
theorem InQ.sd {v:Int} (h:InQ v):Sd v:=by obtain ⟨_,_⟩:=h; exact ⟨by omega,by omega⟩
theorem Q0m {y:NB} (h:InQ y.v):∀ k,k≤8→Qbu y k=⟨tT y.v k,y.f⟩
 | 0,_=>rfl
 | k + 1,hk=>by
   have ih:=Q0m h k (by omega)
   have hs:Sd y.v:=h.sd
   have ht:=Qz6 h k
   have h1:=Qp3 (by decide) ht h
   have h1':Sd (Qbj (tT y.v k) y.v):=⟨Int.le_trans (by decide) h1.1,Int.le_trans h1.2 (by decide)⟩
   have h2:=Qp3 (A:=10597451456) (by decide) ⟨Int.le_trans (by decide) h1.1,Int.le_trans h1.2 (by decide)⟩ h
   have h2':Sd (Qbj (Qbj (tT y.v k) y.v) y.v):=⟨Int.le_trans (by decide) h2.1,Int.le_trans h2.2 (by decide)⟩
   have hN:=Qm5 k
   have hN1:=Int.mul_le_mul (a:=2*((k:Int) + 1)) (b:=2*((k:Int) + 1) + 1) (c:=18) (d:=19) (by omega) (by omega) (by omega) (by decide)
   have h5:=Qz6 h (k + 1)
   show Qjs y (Qbu y k) k=_
   unfold Qjs
   rw [ih,Qmp (a:=⟨tT y.v k,y.f⟩) ht.sd hs h1',Qmp (a:=⟨Qbj (tT y.v k) y.v,y.f||y.f⟩) h1' hs h2',Qje (a:=⟨Qbj (Qbj (tT y.v k) y.v) y.v,_⟩) h2' hN (by omega),Qr3]
   · simp only [Bool.or_self]; rfl
   · have e:Int.tdiv (Qbj (Qbj (tT y.v k) y.v) y.v) ((2*((k:Int) + 1))*(2*((k:Int) + 1) + 1))=-tT y.v (k + 1):=by show _=- -Int.tdiv _ _; omega
     show Sd (Int.tdiv _ _)
     rw [e]; exact Q16 h5.sd
theorem Qvd {v:Int} (h:InQ v):∀ k:Nat,-(((k:Int) + 1)*6746518852)≤uT v k∧uT v k≤((k:Int) + 1)*6746518852
 | 0=>by obtain ⟨_,_⟩:=h; show _≤v∧v≤_; omega
 | k + 1=>by
   have a:=Qvd h k
   obtain ⟨_,_⟩:=Qz6 h (k + 1)
   show _≤uT v k + tT v (k + 1)∧uT v k + tT v (k + 1)≤_
   omega
theorem Q0l {y:NB} (h:InQ y.v):∀ k,k≤8→Qdl y k=⟨uT y.v k,y.f⟩
 | 0,_=>rfl
 | k + 1,hk=>by
   have a:=Qvd h k
   have b:=Qvd h (k + 1)
   show Q8f (Qdl y k) (Qbu y (k + 1))=_
   rw [Q0l h k (by omega),Q0m h (k + 1) hk,Qss ⟨by show -9223372036854775807≤uT y.v k; omega,by show uT y.v k≤9223372036854775807; omega⟩ (Qz6 h (k + 1)).sd ⟨by show _≤uT y.v k + tT y.v (k + 1); have:uT y.v k + tT y.v (k + 1)=uT y.v (k + 1):=rfl; omega,by show uT y.v k + tT y.v (k + 1)≤_; have:uT y.v k + tT y.v (k + 1)=uT y.v (k + 1):=rfl; omega⟩]
   simp only [Bool.or_self]; rfl
def clE (u:Int):Int:=Qr8 (-4294967296) (Qoa u 4294967296)
theorem Znh (u:Int):clE (-u)=-clE u:=by unfold clE Qr8 Qoa; (repeat' split) <;> omega
theorem Q6i (a:NB):InQ (Qtu a).v:=Q0k a
theorem Qmc (a:NB):Qh7 a=⟨clE (uT (Qtu a).v 8),Qa8 a.v a.f⟩:=by
 have h:=Q6i a
 have b:=Qvd h 8
 have hs:Sd (uT (Qtu a).v 8):=⟨by omega,by omega⟩
 unfold Qh7 Qww
 rw [Q0l h 8 (Nat.le_refl _)]
 simp only
 rw [hs.self,hs.flag]
 have e1:Qaa (-4294967296)=-4294967296:=by decide
 have e2:Qaa 4294967296=4294967296:=by decide
 have e3:∀ f,Qa8 (-4294967296) f=f:=fun f=>Qcp (by decide)
 have e4:∀ f,Qa8 4294967296 f=f:=fun f=>Qcp (by decide)
 rw [e1,e2,e3,e4,Bool.or_false,Bool.false_or]
 rfl
theorem Qzi (v:Int):∃ k,Qbd v=v - 26986075409*k:=by
 have h:=Int.tmod_add_mul_tdiv v 26986075409
 unfold Qbd
 split
 · exact ⟨Int.tdiv v 26986075409 + 1,by omega⟩
 · split
   · exact ⟨Int.tdiv v 26986075409 - 1,by omega⟩
   · exact ⟨Int.tdiv v 26986075409,by omega⟩
theorem Qpb {w:Int} (h:-13493037704≤w∧w≤13493037704):Qbd (w + 6746518852)=if w + 6746518852 > 13493037704 then w + 6746518852 - 26986075409 else w + 6746518852:=by
 obtain ⟨k,hk⟩:=Qzi (w + 6746518852)
 have a:=Qhr (v:=w + 6746518852)
 split <;> omega
theorem Qqt (a:NB):Qjm a=⟨clE (uT (Qin (Qbd (Qbd (Qaa a.v) + 6746518852))) 8),Qa8 a.v a.f⟩:=by
 have hw:=Qhr (v:=Qaa a.v)
 have s1:Sd (Qbd (Qaa a.v)):=⟨by omega,by omega⟩
 have s2:Sd (Qbd (Qaa a.v) + 6746518852):=⟨by omega,by omega⟩
 have e:Q8f (Q5r a) ⟨6746518852,false⟩=⟨Qbd (Qaa a.v) + 6746518852,Qa8 a.v a.f⟩:=by
   rw [Qss (a:=Q5r a) (b:=⟨6746518852,false⟩) s1 ⟨by decide,by decide⟩ s2]
   show NB.mk _ (Qa8 a.v a.f||false)=_
   rw [Bool.or_false]; rfl
 unfold Qjm
 rw [e,Qmc]
 show NB.mk (clE (uT (Qin (Qbd (Qaa (Qbd (Qaa a.v) + 6746518852)))) 8)) (Qa8 (Qbd (Qaa a.v) + 6746518852) (Qa8 a.v a.f))=_
 rw [s2.self,s2.flag]
theorem Q9g (v:Int):uT v 8*uT v 8=uT (Qab v) 8*uT (Qab v) 8:=by
 unfold Qab
 split
 · rw [Q9f,Int.neg_mul_neg]
 · rfl
theorem Q7l {w:Int} (h:-13493037704≤w∧w≤13493037704):Qab (Qin w) + Qab (Qin (Qbd (w + 6746518852)))=6746518852∨Qab (Qin w) + Qab (Qin (Qbd (w + 6746518852)))=6746518851:=by
 rw [Qpb h]
 obtain ⟨_,_⟩:=h
 unfold Qin Qab
 (repeat' split) <;> omega
theorem Q3l (u:Int):(clE u=u)∨(clE u=4294967296∧4294967296<u)∨(clE u=-4294967296∧u < -4294967296):=by unfold clE Qr8 Qoa; (repeat' split) <;> omega
theorem Zac (u:Int):clE u*clE u≤u*u∧(clE u*clE u=u*u∨clE u*clE u=4294967296*4294967296):=by
 rcases Q3l u with h | ⟨h,h'⟩ | ⟨h,h'⟩
 · rw [h]; exact ⟨Int.le_refl _,.inl rfl⟩
 · rw [h]; exact ⟨Zck (by decide) (by omega),.inr rfl⟩
 · rw [h]
   have:=Zck (a:=4294967296) (b:=-u) (by decide) (by omega)
   rw [Int.neg_mul_neg] at this
   exact ⟨this,.inr rfl⟩
theorem Qxu {u w B:Int} (h:-B≤u*u + w*w - 4294967296*4294967296∧u*u + w*w - 4294967296*4294967296≤B):-B≤clE u*clE u + clE w*clE w - 4294967296*4294967296∧clE u*clE u + clE w*clE w - 4294967296*4294967296≤B:=by
 obtain ⟨u1,u2⟩:=Zac u
 obtain ⟨w1,w2⟩:=Zac w
 have p:=Qcj (clE u)
 have q:=Qcj (clE w)
 rcases u2 with u2 | u2 <;> rcases w2 with w2 | w2 <;> omega
theorem Qn4 (a:NB):-2748779069440≤(Qh7 a).v*(Qh7 a).v + (Qjm a).v*(Qjm a).v - 18446744073709551616∧(Qh7 a).v*(Qh7 a).v + (Qjm a).v*(Qjm a).v - 18446744073709551616≤2748779069440:=by
 rw [Qmc,Qqt a]
 have hw:=Qhr (v:=Qaa a.v)
 have c:=Zjy (Qbn (Qin (Qbd (Qaa a.v)))) (Qbn (Qin (Qbd (Qbd (Qaa a.v) + 6746518852)))) (Q7l hw)
 rw [← Q9g,← Q9g] at c
 exact Qxu c
end Go.Proofs.YthkihlpeaidlnaaGreat
end
