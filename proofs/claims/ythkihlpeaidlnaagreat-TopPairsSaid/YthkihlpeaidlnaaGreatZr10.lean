/-
 What the proof uses, part 10.
-/
import Derived.Laws.BitsAllLaws
import Derived.Laws.MathBits
import Derived.Test.YthkihlpeaidlnaaGreatZr9
set_option maxRecDepth 100000
set_option linter.unusedSimpArgs false
set_option linter.unusedVariables false

section
namespace Go.Proofs.YthkihlpeaidlnaaGreat
open Go.SE
def U64 (x:Int):Prop:=0≤x∧x<18446744073709551616
def I64 (x:Int):Prop:=-9223372036854775808≤x∧x<9223372036854775808
def bor (x y:Int):Int:=if x<y then 1 else 0
def Qab (v:Int):Int:=if v<0 then -v else v
theorem Qbn (v:Int):0≤Qab v:=by unfold Qab; split <;> omega
theorem Qhh {v:Int} (h:I64 v):Qab v≤9223372036854775808:=by obtain ⟨h1,h2⟩:=h; unfold Qab; split <;> omega
theorem Qfp {v:Int} (h:I64 v):U64 (Qab v):=⟨Qbn v,by have:=Qhh h; omega⟩
def MM (lo hi:Int):Int:=hi*18446744073709551616 + lo
theorem Qfs (m:Int):MM (m % 18446744073709551616) (m / 18446744073709551616)=m:=by unfold MM; omega
theorem Q4r {lo hi:Int} (h1:U64 lo) (h2:U64 hi):0≤MM lo hi:=by obtain ⟨_,_⟩:=h1; obtain ⟨_,_⟩:=h2; unfold MM; omega
theorem Znp {lo hi:Int} (h1:U64 lo) (h2:U64 hi):MM lo hi<340282366920938463463374607431768211456:=by obtain ⟨_,_⟩:=h1; obtain ⟨_,_⟩:=h2; unfold MM; omega
theorem Znq {lo hi:Int} (h1:U64 lo):MM lo hi / 18446744073709551616=hi:=by obtain ⟨_,_⟩:=h1; unfold MM; omega
theorem Qdp (m:Int):U64 (m % 18446744073709551616):=⟨by omega,by omega⟩
theorem Qd6 {m:Int} (h0:0≤m) (h1:m<340282366920938463463374607431768211456):U64 (m / 18446744073709551616):=⟨by omega,by omega⟩
theorem Qdj (n:Int):IntKind.u64.wrap n=n % 18446744073709551616:=by simp [IntKind.wrap,IntKind.bits,IntKind.signed]
theorem Qre (n:Int):IntKind.i64.wrap n=if n % 18446744073709551616 ≥ 9223372036854775808 then n % 18446744073709551616 - 18446744073709551616 else n % 18446744073709551616:=by
 simp [IntKind.wrap,IntKind.bits,IntKind.signed]
theorem Qaj {n:Int} (h:I64 n):IntKind.i64.wrap n=n:=by
 obtain ⟨h1,h2⟩:=h
 rw [Qre]; split <;> omega
theorem Qrj {n:Int} (h:U64 n):IntKind.u64.wrap n=n:=by obtain ⟨h1,h2⟩:=h; rw [Qdj]; omega
theorem Qkg {x:Int} (h:U64 x):bits .and .u64 x 4294967295=x % 4294967296:=by
 obtain ⟨h1,h2⟩:=h
 rw [u64_and x 4294967295 h1 h2 (by decide) (by decide)]
 have:x.toNat &&& (4294967295:Int).toNat=x.toNat % 4294967296:=Nat.and_two_pow_sub_one_eq_mod x.toNat 32
 rw [this]; omega
theorem Zdx {a b:Int} (ha:0≤a) (ha':a<4294967296) (hb:0≤b) (hb':b<4294967296):bits .or .u64 (a*4294967296) b=a*4294967296 + b:=by
 rw [u64_or (a*4294967296) b (by omega) (by omega) hb (by omega)]
 have h:=nat_join 32 (a*4294967296).toNat b.toNat (by omega) (by omega)
 rw [h]; omega
theorem Qv1 {hi lo:Int} (h1:U64 hi) (h2:U64 lo):bits .or .u64 (IntKind.u64.wrap (hi*4294967296)) (lo / 4294967296)=(hi*4294967296) % 18446744073709551616 + lo / 4294967296:=by
 obtain ⟨_,_⟩:=h1; obtain ⟨_,_⟩:=h2
 rw [Qdj]
 have e:(hi*4294967296) % 18446744073709551616=(hi % 4294967296)*4294967296:=by omega
 rw [e,Zdx (by omega) (by omega) (by omega) (by omega)]
def exS (n:Bool) (lo hi:Int):SV:=.agg [.v (.bool n),.v (.int .u64 lo),.v (.int .u64 hi)]
def wiS (n:Bool) (hi lo:Int):SV:=.agg [.v (.bool n),.v (.int .u64 hi),.v (.int .u64 lo)]
def Qe4 (v:Int) (f:Bool):SV:=.agg [.v (.int .i64 v),.v (.bool f)]
def woS (lo hi:Int):SV:=.agg [.v (.int .u64 lo),.v (.int .u64 hi)]
def exM (n:Bool) (m:Int):SV:=exS n (m % 18446744073709551616) (m / 18446744073709551616)
def wiM (n:Bool) (m:Int):SV:=wiS n (m / 18446744073709551616) (m % 18446744073709551616)
theorem Qxt {n n':Bool} {lo lo' hi hi':Int} (h1:n=n') (h2:lo=lo') (h3:hi=hi'):SV.agg [.v (.bool n),.v (.int .u64 lo),.v (.int .u64 hi)]=exS n' lo' hi':=by subst h1 h2 h3; rfl
theorem Qw8 {n n':Bool} {lo lo' hi hi':Int} (h1:n=n') (h2:lo=lo') (h3:hi=hi'):SV.agg [.v (.bool n),.v (.int .u64 hi),.v (.int .u64 lo)]=wiS n' hi' lo':=by subst h1 h2 h3; rfl
theorem Qdg {v v':Int} {f f':Bool} (h1:v=v') (h2:f=f'):SV.agg [.v (.int .i64 v),.v (.bool f)]=Qe4 v' f':=by subst h1 h2; rfl
theorem Qck {k:IntKind} {v v':Int} (h1:v=v'):SV.v (.int k v)=.v (.int k v'):=by rw [h1]
theorem Qke {v v':Bool} (h1:v=v'):SV.v (.bool v)=.v (.bool v'):=by rw [h1]
def Qaa (v:Int):Int:=if v=-9223372036854775808 then -9223372036854775807 else v
def Qa8 (v:Int) (f:Bool):Bool:=if v=-9223372036854775808 then true else f
theorem Qjq {v:Int} (h:I64 v):-9223372036854775807≤Qaa v∧Qaa v≤9223372036854775807:=by obtain ⟨_,_⟩:=h; unfold Qaa; split <;> omega
theorem Qe0 {v:Int} (h:I64 v):I64 (Qaa v):=by have:=Qjq h; exact ⟨by omega,by omega⟩
theorem Qdf {v:Int} (h1:-9223372036854775807≤v):Qaa v=v:=by unfold Qaa; rw [if_neg (by omega)]
theorem Qcp {v:Int} {f:Bool} (h1:-9223372036854775807≤v):Qa8 v f=f:=by unfold Qa8; rw [if_neg (by omega)]
def Qus (n:Bool) (m:Int):Int:=if m≤9223372036854775807 then (if n then -m else m) else (if n then -9223372036854775807 else 9223372036854775807)
def Qq7 (m:Int) (f:Bool):Bool:=if m≤9223372036854775807 then f else true
def plN (n1:Bool) (m1:Int) (n2:Bool) (m2:Int):Bool:=if n1=n2 then n1 else if m1<m2 then n2 else n1
def plM (n1:Bool) (m1:Int) (n2:Bool) (m2:Int):Int:=if n1=n2 then m1 + m2 else Qab (m1 - m2)
def sv (n:Bool) (m:Int):Int:=if n then -m else m
theorem Ziq (n1:Bool) (m1:Int) (n2:Bool) (m2:Int):sv (plN n1 m1 n2 m2) (plM n1 m1 n2 m2)=sv n1 m1 + sv n2 m2:=by
 unfold plN plM
 by_cases hn:n1=n2
 · subst hn
   rw [if_pos rfl,if_pos rfl]
   unfold sv; cases n1 <;> simp <;> omega
 · rw [if_neg hn,if_neg hn]
   by_cases hm:m1<m2
   · rw [if_pos hm]
     unfold sv Qab
     cases n1 <;> cases n2 <;> simp_all <;> (repeat' split) <;> omega
   · rw [if_neg hm]
     unfold sv Qab
     cases n1 <;> cases n2 <;> simp_all <;> (repeat' split) <;> omega
theorem Qn7 {n1 n2:Bool} {m1 m2:Int} (h1:0≤m1) (h2:0≤m2):0≤plM n1 m1 n2 m2:=by unfold plM; split; omega; exact Qbn _
theorem Q9s {n1 n2:Bool} {m1 m2:Int} (h1:0≤m1) (h2:0≤m2):plM n1 m1 n2 m2=Qab (sv n1 m1 + sv n2 m2):=by
 unfold plM sv Qab
 cases n1 <;> cases n2 <;> simp <;> (try split) <;> (try split) <;> omega
def Qbb (e:Int):Int:=if e > 9223372036854775807 then 9223372036854775807 else if e < -9223372036854775807 then -9223372036854775807 else e
def Qe7 (e:Int) (f:Bool):Bool:=if Qab e≤9223372036854775807 then f else true
theorem Qon (n:Bool) {m:Int} (h:0≤m):Qus n m=Qbb (sv n m):=by unfold Qus Qbb sv; cases n <;> simp <;> (repeat' split) <;> omega
theorem Zem (n:Bool) {m:Int} (h:0≤m):Qab (sv n m)=m:=by unfold sv Qab; cases n <;> simp <;> omega
theorem Qoo (n:Bool) {m:Int} (f:Bool) (h:0≤m):Qq7 m f=Qe7 (sv n m) f:=by unfold Qq7 Qe7; rw [Zem n h]
def Qb7 (x y:Int):Int:=if x<y then -1 else if x > y then 1 else 0
end Go.Proofs.YthkihlpeaidlnaaGreat
end
