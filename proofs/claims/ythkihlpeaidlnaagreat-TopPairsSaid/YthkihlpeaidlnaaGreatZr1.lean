/-
 What the proof uses, part 1.
-/
import Derived.Orders
import Derived.KernelRfl
import Derived.Laws.Entries
set_option maxRecDepth 100000
set_option linter.unusedSimpArgs false
set_option linter.unusedVariables false

section
namespace Go.SE
inductive SV where
 | unk
 | v (x:Value)
 | vp (k j:Nat)
 | ptr (k i j:Nat)
 | sl (k s i len cap:Nat)
 | ap (k m len:Nat)
 | fn (f:FuncId) (caps:List SV)
 | agg (cs:List SV)
 | tup (vs:List SV)
 | ifc (t:TypeId) (x:SV)
 | mp (k:Nat)
 | fz (s n:Nat) (row:Nat→List Value)
instance:Inhabited SV:=⟨.unk⟩
structure MapC where
 cnt:Nat
 has:Int→Bool
 val:Int→Nat→Int
structure Blk where
 elem:TypeId
 size:Nat
 rw:Bool
 lock:Bool
 lit:Bool
 flat:Bool
 n:Nat
 row:Nat→List SV
 ext:Nat:=n
 dead:Bool:=false
 whole:Bool:=false
 sp:Option MapC:=none
def Blk.off (b:Blk):Bool:=b.dead||b.sp.isSome
abbrev Qbo:=Nat→Option Blk
structure St where
 tmps:List SV
 heap:Qbo
 nx:Nat
def Qew (h:Qbo) (k:Nat) (b:Blk):Qbo:=fun x=>bif Nat.beq x k then some b else h x
def Qb3 (h:Qbo):List (Nat×Blk)→Qbo
 | []=>h
 | (k,b) :: rest=>Qb3 (Qew h k b) rest
def Qde:SV:=.v undef
mutual
def Qea:SV→Bool
 | .v _=>true
 | .agg cs=>Qf5 cs
 | .tup cs=>Qf5 cs
 | _=>false
def Qf5:List SV→Bool
 | []=>true
 | x :: xs=>Qea x&&Qf5 xs
end
def Qil:Value→SV
 | .agg cs=>.agg (cs.toList.map .v)
 | x=>.v x
def St.eval (s:St):Operand→SV
 | .tmp t=>s.tmps.getD t Qde
 | .const x=>Qil x
 | .global g=>.v (.pointer (some ⟨g,0,none⟩))
 | .func f=>.fn f []
def St.put (s:St) (d:Option Tmp) (x:SV):St :=
 match d with
 | some t=>{s with tmps:=s.tmps.set t x}
 | none=>s
inductive Eff where
 | det (pre:Option Prop) (val:SV) (upd:List (Nat×Blk))
 | nd (pre:Prop) (C:Type) (c0:C) (val:C→SV) (upd:C→List (Nat×Blk))
 | alt (b:Bool) (x y:Eff)
mutual
def Qbr:SV→Bool
 | .v _=>true
 | .unk=>true
 | .agg cs=>Qan cs
 | .tup cs=>Qan cs
 | .fn _ cs=>Qan cs
 | .ifc _ x=>Qbr x
 | .fz _ _ _=>true
 | _=>false
def Qan:List SV→Bool
 | []=>true
 | x :: xs=>Qbr x&&Qan xs
end
def Zbi:Option Prop→Prop→Prop
 | none,q=>q
 | some p,q=>p∧q
def sel (b:Bool) (x y:Prop):Prop:=match b with | true=>x | false=>y
theorem Qag {b:Bool} {x y:Prop} (h1:b=true→x) (h2:b=false→y):sel b x y:=by cases b with | true=>exact h1 rfl | false=>exact h2 rfl
def Eff.bind:Eff→(SV→List (Nat×Blk)→Prop)→Prop
 | .det p x u,K=>Zbi p (K x u)
 | .nd p C _ x u,K=>p∧∀ c:C,K (x c) (u c)
 | .alt b x y,K=>sel b (Eff.bind x K) (Eff.bind y K)
structure Ctr where
 writes:Bool
 run:List SV→Qbo→Nat→Option Eff
 /-- May it panic? -/
 stops:Bool:=false
 /-- Does it panic at these arguments (with what 'run' says is the value)? -/
 stop:List SV→Qbo→Bool:=fun _ _=>false
 /-- What it does where it panics (given what 'run' says). -/
 stopE:List SV→Qbo→Nat→Eff→Eff:=fun _ _ _ e=>e
abbrev Qbz:=FuncId→Option Ctr
def bop (b:Bool) {α:Type} (x y:α):α:=match b with | true=>x | false=>y
def mrg (c:Bool):SV→SV→SV
 | .v (.int k a),.v (.int k' b)=>if k=k' then .v (.int k (bop c a b)) else bif c then .v (.int k a) else .v (.int k' b)
 | .v (.bool a),.v (.bool b)=>.v (.bool (bop c a b))
 | .v (.string a),.v (.string b)=>.v (.string (bop c a b))
 | .fz s n r,.fz s' n' r'=>if s=s' then .fz s (bop c n n') (bop c r r') else bif c then .fz s n r else .fz s' n' r'
 | x,y=>bif c then x else y
def Qns (c:Bool):List SV→List SV→List SV
 | [],[]=>[]
 | x :: xs,y :: ys=>mrg c x y :: Qns c xs ys
 | xs,ys=>bif c then xs else ys
def Qji (m:Nat):Nat→List SV→List (List SV)
 | 0,_=>[]
 | n + 1,l=>l.take m :: Qji m n (l.drop m)
def Qpx (i:Nat):List (List SV)→Nat→List SV
 | [],_=>[]
 | [r],_=>r
 | r :: rest,j=>Qns (Nat.beq i j) r (Qpx i rest (j + 1))
def Qep:SV→Bool
 | .v (.agg _)=>false
 | .v (.tuple _)=>false
 | .v _=>true
 | .vp _ _=>true
 | .ptr _ _ _=>true
 | .sl _ _ _ _ _=>true
 | .ap _ _ _=>true
 | .fn _ _=>true
 | .ifc _ _=>true
 | .mp _=>true
 | .fz _ _ _=>true
 | _=>false
def Qh8:SV→Option (List SV)
 | .agg cs=>some cs
 | x=>bif Qep x then some [x] else none
def Qfa (cs:List SV) (off:Nat) (xs:List SV):List SV:=cs.take off++xs++cs.drop (off + xs.length)
def Qk7 (place:Nat→Option (Nat×Nat)) (cells:List SV):List (Nat×SV)→Option (List SV)
 | []=>some cells
 | (i,x) :: rest =>
   match place i with
   | none=>none
   | some (off,size)=>match Qh8 x with
     | none=>none
     | some l=>bif Nat.beq l.length size&&Nat.ble (off + l.length) cells.length then Qk7 place (Qfa cells off l) rest else none
def Qjk (P:Program) (t:TypeId):Option Bool :=
 match P.underlying t with
 | some (.struct _) | some (.array _ _)=>some true
 | some _=>some false
 | none=>none
def Qco (P:Program) (t:TypeId):Option Nat :=
 match P.info? t with
 | some i=>some i.size
 | none=>none
def Qk0 (P:Program) (t:TypeId):Option (List SV) :=
 match P.info? t with
 | some i=>match i.zero with
   | some z=>some (z.cells.toList.map .v)
   | none=>none
 | none=>none
def Qnt (agg:Bool) (cs:List SV):Option SV :=
 match agg with
 | true=>some (.agg cs)
 | false=>match cs with
   | [c]=>some c
   | _=>none
def Qxl (P:Program) (t:TypeId) (cs:List SV) (off:Nat):Option SV :=
 match Qjk P t,Qco P t with
 | some g,some m =>
   let l:=(cs.drop off).take m
   bif Nat.beq l.length m then Qnt g l else none
 | _,_=>none
def Qmk (P:Program):List Field→Option (List (Nat×Nat))
 | []=>some []
 | f :: rest=>match Qco P f.type,Qmk P rest with
   | some m,some l=>some ((f.offset,m) :: l)
   | _,_=>none
def Q3r (P:Program) (t:TypeId) (parts:List (Nat×SV)):Option SV :=
 match Qk0 P t,P.underlying t with
 | some z,some (.struct fields)=>match Qmk P fields.toList with
   | some l=>match Qk7 (fun i=>l[i]?) z parts with
     | some cs=>some (.agg cs)
     | none=>none
   | none=>none
 | some z,some (.array _ e)=>match Qco P e with
   | some m=>match Qk7 (fun i=>some (i*m,m)) z parts with
     | some cs=>some (.agg cs)
     | none=>none
   | none=>none
 | _,_=>none
def Qct (t:TypeId) (cs:List SV):Blk:={elem:=t,size:=cs.length,rw:=true,lock:=false,lit:=true,flat:=Qan cs,n:=1,row:=fun _=>cs,whole:=true}
def eqFields (eq:TypeId→List SV→List SV→Option Bool) (P:Program) (xs ys:List SV):List Field→Option Bool
 | []=>some true
 | f :: rest =>
   match Qco P f.type with
   | none=>none
   | some m =>
     match eq f.type ((xs.drop f.offset).take m) ((ys.drop f.offset).take m) with
     | none=>none
     | some b=>match rest with
       | []=>some b
       | _=>match eqFields eq P xs ys rest with
         | none=>none
         | some c=>some (b&&c)
def Qkb (eq:List SV→List SV→Option Bool) (m:Nat) (xs ys:List SV):Nat→Nat→Option Bool
 | 0,_=>some true
 | n + 1,i =>
   match eq ((xs.drop (i*m)).take m) ((ys.drop (i*m)).take m) with
   | none=>none
   | some b=>match n with
     | 0=>some b
     | _=>match Qkb eq m xs ys n (i + 1) with
       | none=>none
       | some c=>some (b&&c)
def eqS (P:Program):Nat→TypeId→List SV→List SV→Option Bool
 | 0,_,_,_=>none
 | d + 1,t,xs,ys =>
   match P.underlying t with
   | some .bool=>match xs,ys with
     | [.v (.bool a)],[.v (.bool b)]=>some (a==b)
     | _,_=>none
   | some (.int _)=>match xs,ys with
     | [.v (.int k a)],[.v (.int k' b)]=>if k=k' then some (a==b) else none
     | _,_=>none
   | some .string=>match xs,ys with
     | [.v (.string a)],[.v (.string b)]=>some (a==b)
     | _,_=>none
   | some (.struct fields) => bif P.stoodInHeld t || fields.toList.any (fun f => f.name == "_") then none else eqFields (eqS P d) P xs ys fields.toList
   | some (.array len e)=>match Qco P e with
     | some m=>Qkb (eqS P d e) m xs ys len 0
     | none=>none
   | _=>none
def Zm6 (P:Program) (t:TypeId) (x:SV):Option Int :=
 match P.underlying t,x with
 | some .string,.v (.string s)=>some s.size
 | some (.slice _),.sl _ _ _ n _=>some n
 | some (.slice _),.fz _ n _=>some n
 | some (.slice _),.v (.slice none n _)=>some n
 | some (.array n _),_=>some n
 | some (.pointer a),_=>match P.underlying a with
   | some (.array n _)=>some n
   | _=>none
 | _,_=>none
def Qqe:Operand→Bool
 | .const _=>true
 | _=>false
def pre (c:Bool) (b:Bool) (p:Prop):Option Prop :=
 match c with
 | true=>match b with
   | true=>none
   | false=>some False
 | false=>some p
def Q95:SV→SV→Bool
 | .v (.int k a),.v (.int k' b)=>decide (k=k')&&decide (a=b)
 | .v (.bool a),.v (.bool b)=>a==b
 | _,_=>false
def Qkc:List SV→List SV→Bool
 | [],[]=>true
 | x :: xs,y :: ys=>Q95 x y&&Qkc xs ys
 | _,_=>false
def Q2t (z ze:List SV) (n:Nat):Bool:=Nat.blt 16 z.length&&Nat.blt 0 ze.length&&Qkc z (List.replicate n ze).flatten
def Q7n:SV→SV→Option Bool
 | .vp _ _,.v (.pointer none)=>some false
 | .v (.pointer none),.v (.pointer none)=>some true
 | .vp k j,.vp k' j'=>bif Nat.beq k k'&&Nat.beq j j' then some true else none
 | _,_=>none
def Qfv (P:Program) (t:TypeId):Option Nat :=
 match P.underlying t with
 | some (.pointer e)=>Qco P e
 | _=>none
def Qoi (P:Program) (t:TypeId):Bool:=match P.underlying t with
 | some (.map _ _)=>true
 | _=>false
def Zni (P:Program) (op:BinOp) (t:TypeId) (c:Bool) (x y:SV):Option Eff :=
 match x,y with
 | .v (.int k a),.v (.int k' b) =>
   match op with
   | .shl=>some (.det (pre c (decide (0≤b)) (0≤b)) (.v (.int k (k.wrap (a*2 ^ (min b.toNat k.bits))))) [])
   | .shr=>some (.det (pre c (decide (0≤b)) (0≤b)) (.v (.int k (a / (2 ^ (min b.toNat k.bits))))) [])
   | .quo=>if k=k' then some (.det (pre c (!decide (b=0)) (b≠0)) (.v (.int k (k.wrap (a.tdiv b)))) []) else none
   | .rem=>if k=k' then some (.det (pre c (!decide (b=0)) (b≠0)) (.v (.int k (a.tmod b))) []) else none
   | .add=>if k=k' then some (.det none (.v (.int k (k.wrap (a + b)))) []) else none
   | .sub=>if k=k' then some (.det none (.v (.int k (k.wrap (a - b)))) []) else none
   | .mul=>if k=k' then some (.det none (.v (.int k (k.wrap (a*b)))) []) else none
   | .and=>if k=k' then some (.det none (.v (.int k (bits .and k a b))) []) else none
   | .or=>if k=k' then some (.det none (.v (.int k (bits .or k a b))) []) else none
   | .xor=>if k=k' then some (.det none (.v (.int k (bits .xor k a b))) []) else none
   | .andNot=>if k=k' then some (.det none (.v (.int k (bits .andNot k a b))) []) else none
   | .eql=>if k=k' then some (.det none (.v (.bool (a==b))) []) else none
   | .neq=>if k=k' then some (.det none (.v (.bool (a != b))) []) else none
   | .lss=>if k=k' then some (.det none (.v (.bool (decide (a<b)))) []) else none
   | .leq=>if k=k' then some (.det none (.v (.bool (decide (a≤b)))) []) else none
   | .gtr=>if k=k' then some (.det none (.v (.bool (decide (a > b)))) []) else none
   | .geq=>if k=k' then some (.det none (.v (.bool (decide (a ≥ b)))) []) else none
 | .v (.string a),.v (.string b) =>
   match op with
   | .eql=>some (.det none (.v (.bool (a==b))) [])
   | .neq=>some (.det none (.v (.bool (!(a==b)))) [])
   | .add=>some (.det (some (((a.size + b.size:Nat):Int)≤IntKind.i64.max)) (.v (.string (a++b))) [])
   | _=>none
 | .v (.bool a),.v (.bool b) =>
   match P.underlying t,op with
   | some .bool,.eql=>some (.det none (.v (.bool (a==b))) [])
   | some .bool,.neq=>some (.det none (.v (.bool (!(a==b)))) [])
   | _,_=>none
 | .vp _ _,_=>match Qfv P t,Q7n x y,op with
   | some _,some b,.eql=>some (.det none (.v (.bool b)) [])
   | some _,some b,.neq=>some (.det none (.v (.bool (!b))) [])
   | _,_,_=>none
 | .v (.pointer none),_=>match Qfv P t,Q7n x y,op with
   | some _,some b,.eql=>some (.det none (.v (.bool b)) [])
   | some _,some b,.neq=>some (.det none (.v (.bool (!b))) [])
   | _,_,_=>none
 | .agg xs,.agg ys =>
   bif P.eqGuardType P.depth t then none else
   match Qjk P t,eqS P 10 t xs ys,op with
   | some true,some b,.eql=>some (.det none (.v (.bool b)) [])
   | some true,some b,.neq=>some (.det none (.v (.bool (!b))) [])
   | _,_,_=>none
 | .mp _,.v (.map none)=>match Qoi P t,op with
   | true,.eql=>some (.det none (.v (.bool false)) [])
   | true,.neq=>some (.det none (.v (.bool true)) [])
   | _,_=>none
 | .v (.iface _ _),.v .nilIface=>match P.underlying t,op with
   | some (.interface _),.eql=>some (.det none (.v (.bool false)) [])
   | some (.interface _),.neq=>some (.det none (.v (.bool true)) [])
   | _,_=>none
 | .ifc _ _,.v .nilIface=>match P.underlying t,op with
   | some (.interface _),.eql=>some (.det none (.v (.bool false)) [])
   | some (.interface _),.neq=>some (.det none (.v (.bool true)) [])
   | _,_=>none
 | .v .nilIface,.v .nilIface=>match P.underlying t,op,c with
   | some (.interface _),.eql,true=>some (.det none (.v (.bool true)) [])
   | _,_,_=>none
 | _,_=>none
def Zdk (P:Program) (t:TypeId):Option (TypeId×Nat×List SV) :=
 match P.underlying t with
 | some (.array n e)=>match Qk0 P t,Qk0 P e with
   | some z,some ze=>bif Q2t z ze n then some (e,n,ze) else none
   | _,_=>none
 | _=>none
def Qig (sz:Nat) (x:SV) (h:Qbo):Option (Nat×(Nat→List SV)×Bool) :=
 match x with
 | .sl k s i n _=>match h k with
   | some b=>bif !b.off&&Nat.beq s sz then some (n,fun y=>b.row (i + y),b.flat) else none
   | none=>none
 | .v (.slice none n _)=>bif Nat.beq n 0 then some (0,fun _=>[],true) else none
 | .fz s n row=>bif Nat.beq s sz then some (n,fun y=>(row y).map .v,true) else none
 | .v (.string s)=>bif Nat.beq sz 1 then some (s.size,fun y=>[.v (.int .u8 (s.data.toList.getD y 0).toNat)],true) else none
 | _=>none
def Qoh:TypeDesc→Bool
 | .slice _=>true
 | .string=>true
 | _=>false
def Qdb (b:Blk):Blk:={b with rw:=false,dead:=true}
def Qho (l:List SV):Prop:=match l.all Qep with
 | true=>True
 | false=>False
def Qu0 (P:Program) (t tx:TypeId) (s x:SV) (h:Qbo) (base:Nat):Option Eff :=
 match P.underlying t with
 | some (.slice e)=>match Qco P e,P.info? e,P.underlying tx,Qk0 P e with
   | some sz,some info,some d,some z=>bif (h base).isSome||!Qoh d||Nat.beq sz 0||Nat.beq info.bytes 0||!Nat.beq z.length sz then none else
     match Qig sz x h with
     | some (m,rows,fl)=>match s with
       | .sl k s' i n c=>match h k with
         | some b=>bif b.rw&&!b.off&&Nat.beq s' sz then
             some (.nd ((n + m)*info.bytes≤140737488355328∧i + c≤b.ext∧∀ y,y<m→Qho (rows y)) Nat 0 (fun c'=>.sl base sz 0 (n + m) (n + m + c'))
               (fun c'=>[(k,Qdb b),(base,{elem:=bif Nat.beq b.elem e then e else 0,size:=sz,rw:=true,lock:=false,lit:=false,flat:=b.flat&&fl,n:=n + m,row:=fun y=>Qns (Nat.blt y n) (b.row (i + y)) (rows (y - n)),ext:=n + m + c'})]))
           else none
         | none=>none
       | .v (.slice none n c)=>bif Nat.beq n 0&&Nat.beq c 0 then
             some (.nd (m*info.bytes≤140737488355328) Nat 0 (fun c'=>.sl base sz 0 m (m + c'))
               (fun c'=>[(base,{elem:=e,size:=sz,rw:=true,lock:=false,lit:=false,flat:=fl,n:=m,row:=rows,ext:=m + c'})]))
           else none
       | _=>none
     | none=>none
   | _,_,_,_=>none
 | _=>none
def Ze5 (P:Program) (t:TypeId) (s x:SV) (h:Qbo):Option Eff :=
 match P.underlying t with
 | some (.slice e)=>match Qco P e with
   | some sz=>bif Nat.beq sz 0 then none else match Qig sz x h with
     | some (m,rows,fl)=>match s with
       | .sl k s' i n _=>match h k with
         | some b=>bif b.rw&&!b.off&&Nat.beq s' sz then
             some (.det (some (∀ y,y<m→Qho (rows y))) (.v (.int .i64 ((min n m:Nat):Int))) [(k,{b with flat:=b.flat&&fl,row:=fun y=>Qns (Nat.ble i y&&Nat.blt y (i + min n m)) (rows (y - i)) (b.row y)})])
           else none
         | none=>none
       | _=>none
     | none=>none
   | none=>none
 | _=>none
def Q3j (P:Program) (t:TypeId) (s:SV) (h:Qbo):Option Eff :=
 match P.underlying t with
 | some (.slice e)=>match Qco P e,Qk0 P e with
   | some sz,some z=>bif Nat.beq sz 0||!Nat.beq z.length sz||!z.all Qep then none else match s with
     | .sl k s' i n _=>match h k with
       | some b=>bif b.rw&&!b.off&&Nat.beq s' sz then some (.det none (.tup []) [(k,{b with row:=fun y=>Qns (Nat.ble i y&&Nat.blt y (i + n)) z (b.row y)})]) else none
       | none=>none
     | .v (.slice none n c)=>bif Nat.beq n 0&&Nat.beq c 0 then some (.det none (.tup []) []) else none
     | _=>none
   | _,_=>none
 | _=>none
def Qwx (r:List SV):Int:=match r with | [.v (.int _ v)]=>v | _=>0
def Qwj (r:List SV):Prop:=match r with | [.v (.int .u8 _)]=>True | _=>False
def Q6e (n:Nat) (row:Nat→List SV):ByteArray:=⟨((List.range' 0 n).map fun y=>UInt8.ofNat (Qwx (row y)).toNat).toArray⟩
def unS (op:UnOp) (x:SV):Option SV :=
 match op,x with
 | .neg,.v (.int k n)=>some (.v (.int k (k.wrap (0 - n))))
 | .xor,.v (.int k n)=>some (.v (.int k (bits .xor k (if k.signed then -1 else k.max) n)))
 | .not,.v (.bool b)=>some (.v (.bool (!b)))
 | _,_=>none
def Q7x (P:Program) (src dst:TypeId) (x:SV) (h:Qbo) (base:Nat):Option Eff :=
 match P.underlying src,P.underlying dst,x with
 | some _,some (.int k),.v (.int _ n)=>some (.det none (.v (.int k (k.wrap n))) [])
 | some .string,some .string,.v (.string s)=>some (.det none (.v (.string s)) [])
 | some .string,some (.slice e),.v (.string s)=>match P.underlying e with
   | some (.int .u8)=>some (.nd True Nat 0 (fun c'=>.sl base 1 0 s.size (s.size + c'))
       (fun c'=>[(base,{elem:=e,size:=1,rw:=true,lock:=false,lit:=false,flat:=true,n:=s.size,row:=fun y=>[.v (.int .u8 (s.data.toList.getD y 0).toNat)],ext:=s.size + c'})]))
   | _=>none
 | some (.slice e),some .string,.sl k s i n _=>match P.underlying e,h k with
   | some (.int .u8),some b=>bif !b.off&&Nat.beq s 1 then some (.det (some (∀ y,y<n→Qwj (b.row (i + y)))) (.v (.string (Q6e n fun y=>b.row (i + y)))) []) else none
   | _,_=>none
 | some (.slice e),some .string,.v (.slice none _ _)=>match P.underlying e with
   | some (.int .u8)=>some (.det none (.v (.string .empty)) [])
   | _=>none
 | some (.pointer t),some .unsafePointer,.vp k j=>match h k,Qco P t with
   | some b,some m=>bif !b.off&&!Nat.beq m 0&&Nat.blt j (b.row 0).length then some (.det none (.vp k j) []) else none
   | _,_=>none
 | some .unsafePointer,some (.pointer u),.vp k j=>match h k,Qco P u with
   | some b,some m=>bif !b.off&&!Nat.beq m 0&&Nat.beq j 0&&!Nat.beq u 0&&Nat.beq b.elem u&&Nat.beq b.size m&&Nat.blt 0 P.depth&&b.whole then some (.det none (.vp k j) []) else none
   | _,_=>none
 | _,_,_=>none
def Qnv (ρ:Operand→SV):Option Operand→Option (Option Int)
 | none=>some none
 | some x=>match ρ x with
   | .v (.int _ n)=>some (some n)
   | _=>none
def Q0i (P:Program) (t:TypeId) (x:SV) (lo hi:Option Int):Option Eff :=
 let l:=lo.getD 0
 match P.underlying t,x with
 | some .string,.v (.string s) =>
   let h:=hi.getD s.size
   some (.det (some (0≤l∧l≤h∧h≤s.size)) (.v (.string (s.extract l.toNat h.toNat))) [])
 | some (.slice e),.sl k s i n c =>
   let h:=hi.getD n
   match Qco P e with
   | some m=>bif Nat.beq m s then some (.det (some (0≤l∧l≤h∧h≤n∧n≤c)) (.sl k s (i + l.toNat) (h.toNat - l.toNat) (c - l.toNat)) []) else none
   | none=>none
 | some (.slice e),.v (.slice none n c)=>match Qco P e with
   | some _=>bif Nat.beq n 0&&Nat.beq c 0 then
       let h:=hi.getD (0:Nat)
       some (.det (some (0≤l∧l≤h∧h≤(0:Nat))) (.v (.slice none 0 0)) [])
     else none
   | none=>none
 | some (.array n e),.ap k m len=>match Qco P e with
   | some m'=>bif Nat.beq m m'&&Nat.beq n len then
       let h:=hi.getD len
       some (.det (some (0≤l∧l≤h∧h≤len)) (.sl k m l.toNat (h.toNat - l.toNat) (len - l.toNat)) [])
     else none
   | none=>none
 | _,_=>none
def Qk5 (h:Qbo) (k:Nat):Option (Blk×MapC):=match h k with
 | some b=>match b.sp with
   | some m=>bif b.dead then none else some (b,m)
   | none=>none
 | none=>none
def Ql0:List Value→Bool
 | []=>true
 | .int .i64 a :: rest=>decide (a=0)&&Ql0 rest
 | _=>false
def Q69 (P:Program) (t:TypeId):Option (TypeId×Nat):=match P.underlying t with
 | some (.map k e)=>match P.underlying k,Qjk P e,Qco P e,P.info? e with
   | some (.int .i64),some true,some m,some i=>match i.zero with
     | some (.agg cs)=>bif Ql0 cs.toList&&Nat.beq cs.toList.length m then some (e,m) else none
     | _=>none
   | _,_,_,_=>none
 | _=>none
def Qsd:List SV→Option (List Int)
 | []=>some []
 | .v (.int .i64 a) :: rest=>match Qsd rest with
   | some l=>some (a :: l)
   | none=>none
 | _=>none
def MapC.put (m:MapC) (n:Int) (cs:List Int):MapC:=⟨bop (m.has n) m.cnt (m.cnt + 1),fun y=>(y==n)||m.has y,fun y i=>bop (y==n) (cs.getD i 0) (m.val y i)⟩
def MapC.cut (m:MapC) (n:Int):MapC:=⟨bop (m.has n) (m.cnt - 1) m.cnt,fun y=>m.has y&&!(y==n),fun y i=>bop (y==n) 0 (m.val y i)⟩
def MapC.cells (m:MapC) (n:Int) (sz:Nat):List SV:=(List.range sz).map fun i=>.v (.int .i64 (m.val n i))
def Zeb (P:Program) (t:TypeId) (x ix:SV) (ok:Bool) (h:Qbo):Option Eff :=
 match Q69 P t,x,ix with
 | some (_,sz),.mp k,.v (.int .i64 n)=>match Qk5 h k with
   | some (b,m)=>bif Nat.beq b.size sz then (match ok with
     | true=>some (.det none (.tup [.agg (m.cells n sz),.v (.bool (m.has n))]) [])
     | false=>some (.det none (.agg (m.cells n sz)) [])) else none
   | none=>none
 | _,_,_=>none
def Quf (P:Program) (t:TypeId) (x ix v:SV) (h:Qbo):Option Eff :=
 match Q69 P t,x,ix with
 | some (_,sz),.mp k,.v (.int .i64 n)=>match Qk5 h k,v with
   | some (b,m),.agg vs=>match Qsd vs with
     | some cs=>bif b.rw&&Nat.beq cs.length sz&&Nat.beq b.size sz then some (.det (some (-9223372036854775808≤n∧n≤9223372036854775807)) Qde [(k,{b with sp:=some (m.put n cs)})]) else none
     | none=>none
   | _,_=>none
 | _,_,_=>none
def Qui (P:Program) (t:TypeId) (x ix:SV) (h:Qbo):Option Eff :=
 match Q69 P t,x,ix with
 | some _,.mp k,.v (.int .i64 n)=>match Qk5 h k with
   | some (b,m)=>bif b.rw then some (.det none (.tup []) [(k,{b with sp:=some (m.cut n)})]) else none
   | none=>none
 | _,_,_=>none
def intOf:SV→Option Int
 | .v (.int .i64 n)=>some n
 | _=>none
def Qug (base sz:Nat):Eff:=.det none (.mp base) [(base,{elem:=0,size:=sz,rw:=true,lock:=false,lit:=false,flat:=true,n:=1,row:=fun _=>[],sp:=some ⟨0,fun _=>false,fun _ _=>0⟩})]
def Qp6 (P:Program) (t:TypeId) (r:Option SV) (base:Nat):Option Eff :=
 match Q69 P t with
 | some q=>match r with
   | none=>some (Qug base q.2)
   | some x=>match intOf x with
     | some _=>some (Qug base q.2)
     | none=>none
 | none=>none
def Quh (P:Program) (t:TypeId) (x:SV) (h:Qbo):Option Eff :=
 match Q69 P t,x with
 | some _,.mp k=>match Qk5 h k with
   | some (_,m)=>some (.det none (.v (.int .i64 (m.cnt:Nat))) [])
   | none=>none
 | _,_=>none
def Qj9 (f:Int→Int→Int) (k:IntKind):Int→List SV→Option Int
 | a,[]=>some a
 | a,.v (.int k' b) :: rest=>if k'=k then Qj9 f k (f a b) rest else none
 | _,_=>none
def Qh2 (P:Program) (b:Builtin) (ts:List TypeId) (vs:List SV) (h:Qbo) (base:Nat):Option Eff :=
 match b,ts,vs with
 | .len,t :: _,x :: _=>match Qoi P t with
   | true=>Quh P t x h
   | false=>match Zm6 P t x with
     | some n=>some (.det none (.v (.int .i64 n)) [])
     | none=>none
 | .delete,t :: _,[x,k]=>Qui P t x k h
 | .max,_,.v (.int k a) :: rest=>match Qj9 max k a rest with
   | some n=>some (.det none (.v (.int k n)) [])
   | none=>none
 | .min,_,.v (.int k a) :: rest=>match Qj9 min k a rest with
   | some n=>some (.det none (.v (.int k n)) [])
   | none=>none
 | .append,t :: tx :: _,[s,x]=>Qu0 P t tx s x h base
 | .copy,t :: _,[s,x]=>Ze5 P t s x h
 | .clear,t :: _,[s]=>Q3j P t s h
 | .unsafeSliceData,_,[.sl k 1 i n c]=>some (.det (some (0<n∧n≤c)) (.ptr k i 0) [])
 | .unsafeString,t :: _,[.ptr k 0 0,.v (.int .i64 m)]=>match P.underlying t,h k with
   | some (.pointer e),some b=>match P.underlying e with
     | some (.int .u8)=>bif b.rw&&!b.off&&Nat.beq b.size 1&&Nat.beq b.elem e&&!Nat.beq e 0&&P.cellsOf e==1&&Nat.blt 0 P.depth then
         some (.det (some (0<m∧m≤b.n∧m≤4611686018427387904∧∀ y,y<m.toNat→Qwj (b.row y))) (.v (.string (Q6e m.toNat b.row))) [(k,Qdb b)])
       else none
     | _=>none
   | _,_=>none
 | _,_,_=>none
def Q2k (P:Program) (h:Qbo) (t:TypeId) (x:SV):Option SV :=
 match Qjk P t,Qco P t,x with
 | some g,some m,.vp k j=>match h k with
   | some b =>
       let l:=((b.row 0).drop j).take m
       bif !b.off&&Nat.beq l.length m then Qnt g l else none
   | none=>none
 | some g,some m,.ptr k i j=>match h k with
   | some b =>
       let l:=((b.row i).drop j).take m
       bif !b.off&&Nat.beq l.length m then Qnt g l else none
   | none=>none
 | _,_,_=>none
def Q0b (P:Program) (h:Qbo) (t:TypeId) (x v:SV):Option (List (Nat×Blk)) :=
 match Qco P t,x with
 | some m,.vp k j=>match h k with
   | some b=>match Qh8 v with
     | some cs=>bif b.rw&&!b.off&&Nat.beq b.n 1&&Nat.beq cs.length m&&Nat.ble (j + m) (b.row 0).length&&cs.all Qep then
         let l:=Qfa (b.row 0) j cs
         some [(k,{b with flat:=b.flat&&Qan cs,row:=fun _=>l})]
       else none
     | none=>none
   | none=>none
 | some m,.ptr k i j=>match h k with
   | some b=>match Qh8 v with
     | some cs=>bif b.rw&&!b.off&&Nat.beq cs.length m&&Nat.ble (j + m) (b.row i).length&&cs.all Qep then
         let l:=Qfa (b.row i) j cs
         some [(k,{b with flat:=b.flat&&Qan cs,row:=fun x=>Qns (Nat.beq x i) l (b.row x)})]
       else none
     | none=>none
   | none=>none
 | _,_=>none
def Qql (t:TypeId) (m n:Nat) (flat:List SV):Blk:={elem:=t,size:=m,rw:=true,lock:=false,lit:=true,flat:=Qan flat,n,row:=fun i=>Qpx i (Qji m n flat) 0}
def Qnx (z:List SV) (m k:Nat):List SV:=(List.range k).map fun x=>z.getD (x % m) .unk
def Q8e (j:Nat):SV→Option SV
 | .vp k i=>some (.vp k (i + j))
 | .ptr k i i'=>some (.ptr k i (i' + j))
 | _=>none
def Zi7 (fn:Fn) (first:List Operand) (cs:List SV):Option Eff :=
 match fn with
 | .func f=>match first with
   | []=>some (.det none (.fn f cs) [])
   | _ :: _=>none
 | _=>none
def ifcS (x:SV):Option Value:=match x with
 | .v (.agg _)=>none
 | .v (.tuple _)=>none
 | .v v=>some v
 | .agg cs=>match allV cs with
   | some l=>some (.agg l.toArray)
   | none=>none
 | _=>none
where allV:List SV→Option (List Value)
 | []=>some []
 | .v v :: rest=>match allV rest with
   | some l=>some (v :: l)
   | none=>none
 | _=>none
def Qlu (P:Program) (t:TypeId):Bool:=match P.underlying t with
 | some (.struct _)=>true
 | some (.pointer _)=>true
 | _=>false
def Qzh (P:Program) (t:TypeId):Option Eff:=match P.info? t with
 | some i=>match i.zero with
   | some v=>some (.det none (.tup [Qil v,.v (.bool false)]) [])
   | none=>none
 | none=>none
def Que (P:Program) (t:TypeId) (name:String):Option FuncId:=match P.info? t,P.underlying t with
 | some i,some (.struct _)=>match i.methods.find? (·.name==name) with
   | some m=>match m.path.toList,m.func with
     | [],some (f,false)=>some f
     | _,_=>none
   | none=>none
 | _,_=>none
def Zel:SV→Option (TypeId×SV)
 | .ifc t y=>some (t,y)
 | .v (.iface t v)=>some (t,Qil v)
 | _=>none
def Q6o (op:Op) (ρ:Operand→SV):Option Eff :=
 match op with
 | .makeFunc fn first captured=>Zi7 fn first.toList (captured.toList.map ρ)
 | _=>none
def Qqd:Operand→Bool
 | .func _=>true
 | _=>false
def Qo1 (h:Qbo) (k k':Nat):Bool:=match h k,h k' with
 | some b,some b'=>!Nat.beq k k'&&(b.rw&&b.whole&&!b.off)&&(b'.rw&&b'.whole&&!b'.off)
 | _,_=>false
def Qsp (P:Program) (t:TypeId) (op:BinOp) (x y:SV) (h:Qbo):Option Bool:=match Qfv P t with
 | some m=>bif Nat.beq m 0 then none else match x,y,op with
   | .vp k _,.vp k' _,.eql=>bif Qo1 h k k' then some false else none
   | .vp k _,.vp k' _,.neq=>bif Qo1 h k k' then some true else none
   | _,_,_=>none
 | none=>none
def opS (P:Program) (Γ:Qbz) (o:Oper) (ρ:Operand→SV) (h:Qbo) (base:Nat):Option Eff :=
 match o.op with
 | .move x | .assign x=>some (.det none (ρ x) [])
 | .pick c a b=>match ρ c with
   | .v (.bool t)=>match ρ a,ρ b with
     | .v (.bool x),.v (.bool y)=>some (.det none (.v (.bool (bop t x y))) [])
     | x,y=>some (.det none (bop t x y) [])
   | _=>none
 | .alloc t=>match Zdk P t with
   | some (_,n,ze)=>some (.det none (.ap base ze.length n) [(base,{elem:=0,size:=ze.length,rw:=true,lock:=false,lit:=true,flat:=Qan ze,n,row:=fun _=>ze})])
   | none=>match Qk0 P t with
     | some z=>some (.det none (.vp base 0) [(base,Qct t z)])
     | none=>none
 | .box t x=>match Qh8 (ρ x) with
   | some cs=>some (.det none (.vp base 0) [(base,Qct t cs)])
   | none=>none
 | .build t parts=>match Q3r P t (parts.toList.map fun p=>(p.1,ρ p.2)) with
   | some r=>some (.det none r [])
   | none=>none
 | .buildSlice t n parts=>match P.underlying t with
   | some (.slice e)=>match Qco P e,Qk0 P e with
     | some m,some z=>bif Nat.beq m 0||Nat.ble 100000 (n*m)||!Nat.beq z.length m then none else match Qk7 (fun i=>some (i*m,m)) (Qnx z m (n*m)) (parts.toList.map fun p=>(p.1,ρ p.2)) with
       | some flat=>some (.det none (.sl base m 0 n n) [(base,Qql e m n flat)])
       | none=>none
     | _,_=>none
   | _=>none
 | .makeSlice t l c=>match P.underlying t,ρ l,ρ c with
   | some (.slice e),.v (.int .i64 n),.v (.int .i64 m)=>match Qco P e,Qk0 P e,P.info? e with
     | some sz,some z,some info=>bif Nat.beq sz 0||!Nat.beq z.length sz||Nat.beq info.bytes 0 then none else
         some (.det (some (0≤n∧n≤m∧info.bytes*m≤2 ^ 47)) (.sl base sz 0 n.toNat m.toNat) [(base,{elem:=e,size:=sz,rw:=true,lock:=false,lit:=false,flat:=Qan z,n:=m.toNat,row:=fun _=>z})])
     | _,_,_=>none
   | _,_,_=>none
 | .load t a=>match Q2k P h t (ρ a) with
   | some r=>some (.det none r [])
   | none=>none
 | .store t a x=>match Q0b P h t (ρ a) (ρ x) with
   | some u=>some (.det none Qde u)
   | none=>none
 | .binOp op t x y _=>match Qsp P t op (ρ x) (ρ y) h with
   | some b=>some (.det none (.v (.bool b)) [])
   | none=>Zni P op t (Qqe y) (ρ x) (ρ y)
 | .unOp op _ x=>match unS op (ρ x) with
   | some r=>some (.det none r [])
   | none=>none
 | .convert src dst x=>Q7x P src dst (ρ x) h base
 | .slice t x lo hi none=>match Qnv ρ lo,Qnv ρ hi with
   | some l,some r=>Q0i P t (ρ x) l r
   | _,_=>none
 | .fieldAddr t x f=>match P.underlying t with
   | some (.struct fs)=>match fs[f]? with
     | some fl=>match Qco P fl.type,Q8e fl.offset (ρ x) with
       | some m,some r=>bif Nat.beq m 0 then none else some (.det none r [])
       | _,_=>none
     | none=>none
   | _=>none
 | .field t x f=>match P.underlying t,ρ x with
   | some (.struct fs),.agg cs=>match fs[f]? with
     | some fl=>match Qxl P fl.type cs fl.offset with
       | some r=>some (.det none r [])
       | none=>none
     | none=>none
   | _,_=>none
 | .indexAddr t x ix=>match P.underlying t,ρ x,ρ ix with
   | some (.slice e),.sl k s i len _,.v (.int _ n)=>match Qco P e with
     | some m=>bif Nat.beq m s then some (.det (some (0≤n∧n<len)) (.ptr k (i + n.toNat) 0) []) else none
     | none=>none
   | some (.array len e),.ap k m l,.v (.int _ n)=>match Qco P e with
     | some m'=>bif Nat.beq m m'&&Nat.beq l len then some (.det (some (0≤n∧n<len)) (.ptr k n.toNat 0) []) else none
     | none=>none
   | some (.array len e),a,.v (.int _ n)=>match Qqe ix,Qco P e with
     | true,some m=>bif decide (0≤n)&&decide (n<len) then match Q8e (n.toNat*m) a with
         | some r=>some (.det none r [])
         | none=>none
       else none
     | _,_=>none
   | _,_,_=>none
 | .index t x ix=>match P.underlying t,ρ x,ρ ix with
   | some (.array len e),.agg cs,.v (.int _ n)=>match Qqe ix,Qco P e with
     | true,some m=>bif decide (0≤n)&&decide (n<len) then match Qxl P e cs (n.toNat*m) with
         | some r=>some (.det none r [])
         | none=>none
       else none
     | false,some m=>match Qjk P e with
       | some g=>bif Nat.beq cs.length (len*m) then match Qnt g (Qpx n.toNat (Qji m len cs) 0) with
           | some r=>some (.det (some (0≤n∧n<len)) r [])
           | none=>none
         else none
       | none=>none
     | _,_=>none
   | some .string,.v (.string s),.v (.int _ n)=>some (.det (some (0≤n∧n<s.size)) (.v (.int .u8 (s.data.toList.getD n.toNat 0).toNat)) [])
   | _,_,_=>none
 | .extract x i=>match ρ x with
   | .tup vs=>match vs[i]? with
     | some r=>some (.det none r [])
     | none=>none
   | _=>none
 | .nilCheck x=>match ρ x with
   | .ap k m l=>some (.det none (.ap k m l) [])
   | .vp k j=>some (.det none (.vp k j) [])
   | .ptr k i j=>some (.det none (.ptr k i j) [])
   | .fn f cs=>some (.det none (.fn f cs) [])
   | _=>none
 | .call c=>match c.callee with
   | .builtin b=>Qh2 P b c.argTypes.toList (c.args.toList.map ρ) h base
   | .value x=>match ρ x with
     | .fn f caps=>match Γ f with
       | some g=>bif g.stops&&!Qqd x then none else g.run (c.args.toList.map ρ++caps) h base
       | none=>none
     | _=>none
   | .invoke r name=>match Zel (ρ r) with
     | some (t,y)=>match Que P t name with
       | some f=>match Γ f with
         | some g=>bif g.stops then none else g.run (y :: c.args.toList.map ρ) h base
         | none=>none
       | none=>none
     | none=>none
 | .makeInterface t x=>match P.underlying t with
   | some (.struct _)=>match ifcS (ρ x) with
     | some v=>some (.det none (.v (.iface t v)) [])
     | none=>some (.det none (.ifc t (ρ x)) [])
   | some (.pointer _)=>some (.det none (.ifc t (ρ x)) [])
   | _=>none
 | .lookup t x ix ok=>Zeb P t (ρ x) (ρ ix) ok h
 | .mapUpdate t m k x=>Quf P t (ρ m) (ρ k) (ρ x) h
 | .makeMap t r=>Qp6 P t (match r with | some x=>some (ρ x) | none=>none) base
 | .panic x=>match ρ x with
   | .v (.iface t v)=>some (.det none (.v (.iface t v)) [])
   | _=>none
 | .typeAssert x _ t ok=>bif ok&&Qlu P t then match ρ x with
     | .v (.iface u v)=>bif Nat.beq u t then some (.det none (.tup [Qil v,.v (.bool true)]) []) else Qzh P t
     | .ifc u y=>bif Nat.beq u t then some (.det none (.tup [y,.v (.bool true)]) []) else Qzh P t
     | .v .nilIface=>Qzh P t
     | _=>none
   else none
 | op=>Q6o op ρ
def Qa0 (Γ:Qbz) (o:Oper):Bool :=
 match o.op with
 | .store ..=>true
 | .mapUpdate ..=>true
 | .call {callee:=.value (.func f),..}=>match Γ f with | some g=>g.writes | none=>true
 | .call {callee:=.value _,..}=>false
 | .call {callee:=.invoke _ _,..}=>false
 | .call {callee:=.builtin .len,..}=>false
 | .call {callee:=.builtin .max,..}=>false
 | .call {callee:=.builtin .min,..}=>false
 | .call {callee:=.builtin .unsafeSliceData,..}=>false
 | .call _=>true
 | _=>false
def Qdc (P:Program) (o:Oper):Bool :=
 match o.op with
 | .load ..=>true
 | .store ..=>true
 | .lookup ..=>true
 | .mapUpdate ..=>true
 | .binOp _ t _ _ _=>(Qfv P t).isSome
 | .convert _ t _=>match P.underlying t with
   | some .string=>true
   | some .unsafePointer=>true
   | some (.pointer _)=>true
   | _=>false
 | .call {callee:=.builtin .len,argTypes:=ts,..}=>match ts.toList with
   | t :: _=>Qoi P t
   | []=>false
 | .call {callee:=.builtin .max,..}=>false
 | .call {callee:=.builtin .min,..}=>false
 | .call {callee:=.builtin .unsafeSliceData,..}=>false
 | .call _=>true
 | _=>false
def Qfr (acc:List Nat):List Edge→Nat
 | []=>0
 | e :: rest=>match Region.binds .any e with
   | true=>(2 ^ e.on ||| acc.getD e.on 0) ||| Qfr acc rest
   | false=>Qfr acc rest
def Qa7:List Oper→List Nat→List Nat
 | [],acc=>acc
 | o :: rest,acc=>Qa7 rest (acc++[Qfr acc o.after.toList])
def inL (k:Nat):List Nat→Bool
 | []=>false
 | x :: xs=>Nat.beq x k||inL k xs
structure Vw where
 bs:List Nat
 pr:List (Nat×(Nat→List Nat))
def Vw.bit (v:Vw) (j i:Nat):Bool:=(v.bs.getD j 0).testBit i
def Vw.has (v:Vw) (i:Nat):Bool:=v.pr.any fun p=>Nat.beq p.1 i
def Vw.hides (v:Vw) (nx j k:Nat):Bool:=v.pr.any fun p=>bif Nat.beq p.1 j then !inL k (p.2 nx) else !v.bit j p.1&&!v.bit p.1 j&&inL k (p.2 nx)
def Qav (bs:Vw) (nx j:Nat) (h:Qbo):Qbo:=fun k =>
 bif (Nat.ble nx k&&(Nat.blt k 4096&&!bs.bit j ((k - nx) / 8)))||bs.hides nx j k then none else h k
def Qcn (w:Bool) (h h0:Qbo) (base:Nat):List (Nat×Blk)→Bool
 | []=>true
 | (k,_) :: rest=>(match h k with
     | some b0=>w&&b0.rw&&!b0.dead&&!b0.lock
     | none=>Nat.ble base k&&Nat.blt k (base + 8)&&Nat.blt k 4096&&(h0 k).isNone)&&Qcn w h h0 base rest
def Qet (Γ:Qbz) (o:Oper) (ρ:Operand→SV) (h:Qbo):Bool :=
 match o.op with
 | .panic _=>true
 | .call {callee:=.value (.func f),args:=as,..}=>match Γ f with
   | some g=>bif g.stops then g.stop (as.toList.map ρ) h else false
   | none=>false
 | _=>false
def Qb6 (Γ:Qbz) (o:Oper) (ρ:Operand→SV) (h:Qbo) (base:Nat) (e:Eff):Eff :=
 match o.op with
 | .call {callee:=.value (.func f),args:=as,..}=>match Γ f with
   | some g=>g.stopE (as.toList.map ρ) h base e
   | none=>e
 | _=>e
def Qc3 (Γ:Qbz) (o:Oper):Bool :=
 match o.op with
 | .panic _=>true
 | .call {callee:=.value (.func f),..}=>match Γ f with
   | some g=>g.stops
   | none=>false
 | _=>false
def Qev (P:Program) (Γ:Qbz) (bs:Vw) (i:Nat) (s:St):List Oper→Nat→Bool
 | [],_=>true
 | o :: rest,k=>(Nat.ble k i||bs.bit k i||match o.guard,opS P Γ o s.eval (Qav bs s.nx k s.heap) (s.nx + 8*k) with
   | none,some (.det none _ [])=>true
   | _,_=>false)&&Qev P Γ bs i s rest (k + 1)
def Ql8 (P:Program) (Γ:Qbz) (ops:List Oper) (bs:Vw) (dr:Bool) (KP:SV→Qbo→Prop) (i:Nat) (o:Oper) (s:St) (K:St→Prop):Prop :=
 match opS P Γ o s.eval (Qav bs s.nx i s.heap) (s.nx + 8*i) with
 | some e=>sel (Qet Γ o s.eval (Qav bs s.nx i s.heap))
     ((Qb6 Γ o s.eval (Qav bs s.nx i s.heap) (s.nx + 8*i) e).bind fun x u=>bif Qcn (Qa0 Γ o) (Qav bs s.nx i s.heap) s.heap (s.nx + 8*i) u then (bif !dr||Qev P Γ bs i s ops 0 then KP x (Qb3 s.heap u) else False) else False)
     (e.bind fun x u=>bif Qcn (Qa0 Γ o) (Qav bs s.nx i s.heap) s.heap (s.nx + 8*i) u then K {(s.put o.dst x) with heap:=Qb3 s.heap u} else False)
 | none=>False
def Zcj (P:Program) (Γ:Qbz) (ops:List Oper) (bs:Vw) (dr:Bool) (KP:SV→Qbo→Prop) (i:Nat) (o:Oper) (s:St) (K:St→Prop):Prop :=
 match o.guard with
 | none=>Ql8 P Γ ops bs dr KP i o s K
 | some (g,want)=>match (ops[g]?).bind (·.dst) with
   | none=>False
   | some t=>match s.tmps.getD t .unk with
     | .v (.bool b)=>sel b
         (match want with
           | true=>Ql8 P Γ ops bs dr KP i o {s with tmps:=s.tmps.set t (.v (.bool true))} K
           | false=>K ({s with tmps:=s.tmps.set t (.v (.bool true))}.put o.dst Qde))
         (match want with
           | false=>Ql8 P Γ ops bs dr KP i o {s with tmps:=s.tmps.set t (.v (.bool false))} K
           | true=>K ({s with tmps:=s.tmps.set t (.v (.bool false))}.put o.dst Qde))
     | .v (.tuple _)=>K (s.put o.dst Qde)
     | _=>False
def Qzs (P:Program) (Γ:Qbz) (ops:List Oper) (bs:Vw) (dr:Bool) (KP:SV→Qbo→Prop) (K:St→Prop):List Oper→Nat→St→Prop
 | [],_,s=>K s
 | o :: rest,i,s=>Zcj P Γ ops bs dr KP i o s (Qzs P Γ ops bs dr KP K rest (i + 1))
def Qvy (P:Program) (Γ:Qbz) (ops:Array Oper) (pa pb:Bool) (a b:Oper):Bool :=
 a.apart ops b&&(pa||!(Qa0 Γ a&&Qdc P b))&&(pb||!(Qdc P a&&Qa0 Γ b))
def Qha (P:Program) (Γ:Qbz) (ops:Array Oper) (bs:Vw) (j:Nat) (oj:Oper):List Oper→Nat→Bool
 | [],_=>true
 | o :: rest,i=>(Nat.ble j i||bs.bit j i||Qvy P Γ ops (bs.has i) (bs.has j) o oj)&&Qha P Γ ops bs j oj rest (i + 1)
def Qll (P:Program) (Γ:Qbz) (ops:Array Oper) (bs:Vw):List Oper→Nat→Bool
 | [],_=>true
 | o :: rest,j=>Qha P Γ ops bs j o ops.toList 0&&Qll P Γ ops bs rest (j + 1)
def Qw1:List Oper→Nat→Bool
 | [],_=>true
 | o :: rest,j=>o.after.toList.all (fun e=>!Region.binds .any e||Nat.blt e.on j)&&Qw1 rest (j + 1)
def Qmi (Qid:List Nat) (o:Oper):Bool:=match o.guard,o.op with
 | none,.fieldAddr _ (.tmp t) _=>!inL t Qid
 | none,.move (.tmp t)=>!inL t Qid
 | none,.move (.const _)=>true
 | _,_=>false
def Qn6 (o:Oper):Bool:=match o.guard,o.op with
 | none,.fieldAddr _ _ _=>true
 | none,.move _=>true
 | none,.load _ _=>true
 | none,.nilCheck _=>true
 | _,_=>false
def Qhn:List Oper→List Nat
 | []=>[]
 | o :: rest=>match o.dst with
   | some t=>t :: Qhn rest
   | none=>Qhn rest
def Qg5 (Γ:Qbz) (ops:Array Oper) (bs:Vw) (j:Nat) (oj:Oper):List Oper→Nat→Bool
 | [],_=>true
 | o :: rest,i=>(Nat.ble j i||bs.bit j i||(bif Qc3 Γ oj then !Qc3 Γ o&&Qn6 o else true)&&(bif Qc3 Γ o then Qmi (Qhn ops.toList) oj else true))&&Qg5 Γ ops bs j oj rest (i + 1)
def Qlg (Γ:Qbz) (ops:Array Oper) (bs:Vw):List Oper→Nat→Bool
 | [],_=>true
 | o :: rest,j=>Qg5 Γ ops bs j o ops.toList 0&&Qlg Γ ops bs rest (j + 1)
def Qe1 (P:Program) (Γ:Qbz) (ops:Array Oper) (bs:Vw):Bool :=
 Qw1 ops.toList 0&&Qll P Γ ops bs ops.toList 0&&Qlg Γ ops bs ops.toList 0
def Qac {α:Type} (k:Nat):List (Nat×α)→Bool
 | []=>false
 | (k',_) :: rest=>Nat.beq k k'||Qac k rest
end Go.SE
end
