/-
 What the proof uses, part 20.
-/
import Derived.Test.YthkihlpeaidlnaaGreatZr19
set_option maxRecDepth 100000
set_option linter.unusedSimpArgs false
set_option linter.unusedVariables false

section
namespace Go.Proofs.YthkihlpeaidlnaaGreat
open Go.SE Go.RowKit
def Zao (r:VB):Prop:=(r.x.f=false∧r.y.f=false)∧(-4294967296≤r.x.v∧r.x.v≤4294967296)∧(-4294967296≤r.y.v∧r.y.v≤4294967296)∧-2748779069440≤r.x.v*r.x.v + r.y.v*r.y.v - 18446744073709551616∧r.x.v*r.x.v + r.y.v*r.y.v - 18446744073709551616≤2748779069440
theorem Zcm (a:NB):-4294967296≤(Qh7 a).v∧(Qh7 a).v≤4294967296:=by
 rw [Qmc]
 show -4294967296≤clE _∧clE _≤4294967296
 unfold clE Qr8 Qoa
 (repeat' split) <;> omega
theorem Ze3 (a:NB):-4294967296≤(Qjm a).v∧(Qjm a).v≤4294967296:=by
 rw [Qqt]
 show -4294967296≤clE _∧clE _≤4294967296
 unfold clE Qr8 Qoa
 (repeat' split) <;> omega
theorem Zm1 (m:MD):Zao (Qq5 m):=by
 have h:=Qhd m.w (s:=8) (m:=34359738368) (by rfl) (by decide)
 have c:=Qn4 (Qgz m.w 8)
 refine ⟨⟨?_,?_⟩,Ze3 _,Zcm _,?_⟩
 · show (Qjm (Qgz m.w 8)).f=false
   rw [Qqt]; exact Qcp (by omega)
 · show (Qh7 (Qgz m.w 8)).f=false
   rw [Qmc]; exact Qcp (by omega)
 · show -2748779069440≤(Qjm (Qgz m.w 8)).v*(Qjm (Qgz m.w 8)).v + (Qh7 (Qgz m.w 8)).v*(Qh7 (Qgz m.w 8)).v - 18446744073709551616∧(Qjm (Qgz m.w 8)).v*(Qjm (Qgz m.w 8)).v + (Qh7 (Qgz m.w 8)).v*(Qh7 (Qgz m.w 8)).v - 18446744073709551616≤2748779069440
   omega
def Zf3 (p:VB):Prop:=(p.x.f=false∧p.y.f=false)∧(-17179869184000≤p.x.v∧p.x.v≤17179869184000)∧(-17179869184000≤p.y.v∧p.y.v≤17179869184000)
def Q13 (x:Int):Prop:=-8192≤x∧x≤8192
def aV (r:VB) (l:Int×Int):Int×Int:=(r.x.v*l.1 - r.y.v*l.2,r.y.v*l.1 + r.x.v*l.2)
theorem Qz3 (y:Int):∃ e,y=256*Int.tdiv y 256 + e∧-256<e∧e<256:=by
 have h:=Int.tmod_add_mul_tdiv y 256
 have n:=Int.natAbs_tmod y 256
 have n1:y.natAbs % (256:Int).natAbs<(256:Int).natAbs:=Nat.mod_lt _ (by decide)
 exact ⟨Int.tmod y 256,by omega,by omega,by omega⟩
theorem lin2 {a b x y A Q:Int} (hA:0≤A) (ha:-A≤a∧a≤A) (hb:-A≤b∧b≤A) (hx:-Q≤x∧x≤Q) (hy:-Q≤y∧y≤Q):(-(2*(A*Q))≤a*x - b*y∧a*x - b*y≤2*(A*Q))∧-(2*(A*Q))≤b*x + a*y∧b*x + a*y≤2*(A*Q):=by
 have h1:=Qen hA ha.1 ha.2 hx.1 hx.2
 have h2:=Qen hA hb.1 hb.2 hy.1 hy.2
 have h3:=Qen hA hb.1 hb.2 hx.1 hx.2
 have h4:=Qen hA ha.1 ha.2 hy.1 hy.2
 generalize A*Q=Z at *
 omega
theorem Q8h {r:VB} {l:Int×Int} (hr:Zao r) (h1:Q13 l.1) (h2:Q13 l.2):(-70368744177664≤(aV r l).1∧(aV r l).1≤70368744177664)∧-70368744177664≤(aV r l).2∧(aV r l).2≤70368744177664:=by
 obtain ⟨-,cx,cy,-⟩:=hr
 have:=lin2 (Q:=8192) (by decide) cx cy h1 h2
 exact this
theorem Q9p {x:Int} (h:-134217728≤x∧x≤134217728):Qrs x 256=⟨x*16777216,false⟩:=by
 have e:Q6p x 256=x*16777216:=by
   unfold Q6p
   rw [show x*4294967296=(x*16777216)*256 by omega]
   exact Int.mul_tdiv_cancel _ (by decide)
 unfold Qrs Qex Qnq
 rw [if_neg (by decide),if_neg (by decide),e,Qff ⟨by omega,by omega⟩,Qfe ⟨by omega,by omega⟩]
theorem Zjf {p:Int×Int} (h1:P21 p.1) (h2:P21 p.2):Qta p=⟨⟨p.1*16777216,false⟩,⟨p.2*16777216,false⟩⟩:=by
 obtain ⟨_,_⟩:=h1
 obtain ⟨_,_⟩:=h2
 unfold Qta
 rw [Q9p ⟨by omega,by omega⟩,Q9p ⟨by omega,by omega⟩]
theorem Q97 {a b x y z:Int} (ha:-4294967296≤a∧a≤4294967296) (hb:-4294967296≤b∧b≤4294967296) (hx:Q13 x) (hy:Q13 y) (hz:a*x + b*y=z) (h0:-70368744177664≤z∧z≤70368744177664):Qq8 ⟨a,false⟩ ⟨x*16777216,false⟩ ⟨b,false⟩ ⟨y*16777216,false⟩=⟨Int.tdiv z 256,false⟩:=by
 obtain ⟨_,_⟩:=hx
 obtain ⟨_,_⟩:=hy
 show Qxs (Qwp (Qaa a) (Qaa (x*16777216)) (Qaa b) (Qaa (y*16777216))) ((Qa8 a false||Qa8 (x*16777216) false)||(Qa8 b false||Qa8 (y*16777216) false))=_
 rw [Qdf (v:=a) (by omega),Qdf (v:=x*16777216) (by omega),Qdf (v:=b) (by omega),Qdf (v:=y*16777216) (by omega),Qcp (v:=a) (by omega),Qcp (v:=x*16777216) (by omega),Qcp (v:=b) (by omega),Qcp (v:=y*16777216) (by omega)]
 have e:Qwp a (x*16777216) b (y*16777216)=Int.tdiv z 256:=by
   unfold Qwp
   rw [show a*(x*16777216) + b*(y*16777216)=16777216*z by rw [← hz]; grind,show (4294967296:Int)=16777216*256 by decide]
   exact Int.mul_tdiv_mul_of_pos _ _ (by decide)
 obtain ⟨t,e1,e2,e3⟩:=Qz3 z
 rw [e]
 exact Qhk ⟨by omega,by omega⟩
theorem Q13.p21 {x:Int} (h:Q13 x):P21 x:=⟨by have:=h.1; omega,by have:=h.2; omega⟩
theorem Zj6 {r:VB} {l:Int×Int} (hr:Zao r) (h1:Q13 l.1) (h2:Q13 l.2):Qh3 r (Qta l)=⟨⟨Int.tdiv (aV r l).1 256,false⟩,⟨Int.tdiv (aV r l).2 256,false⟩⟩:=by
 obtain ⟨a1,a2⟩:=Q8h hr h1 h2
 obtain ⟨⟨fx,fy⟩,cx,cy,-⟩:=hr
 obtain ⟨⟨c,f⟩,⟨s,g⟩⟩:=r
 obtain rfl:f=false:=fx
 obtain rfl:g=false:=fy
 have cx:-4294967296≤c∧c≤4294967296:=cx
 have cy:-4294967296≤s∧s≤4294967296:=cy
 rw [Zjf h1.p21 h2.p21]
 unfold Qh3
 simp only
 rw [Qr3 (a:=⟨s,false⟩) ⟨by show _≤s; omega,by show s≤_; omega⟩]
 rw [Q97 (a:=c) (b:=-s) (z:=(aV ⟨⟨c,false⟩,⟨s,false⟩⟩ l).1) cx ⟨by omega,by omega⟩ h1 h2 (by show c*l.1 + -s*l.2=c*l.1 - s*l.2; grind) a1]
 rw [Q97 (a:=s) (b:=c) (z:=(aV ⟨⟨c,false⟩,⟨s,false⟩⟩ l).2) cy cx h1 h2 rfl a2]
theorem Qz9 {a b:Int} (ha:-18000000000000≤a∧a≤18000000000000) (hb:-18000000000000≤b∧b≤18000000000000):Zh7 [nR ⟨a,false⟩,nR ⟨b,false⟩]=⟨a + b,false⟩:=by
 show (⟨Qbb (Qaa a + (Qaa b + 0)),Qe7 (Qaa a + (Qaa b + 0)) (Qa8 a false||(Qa8 b false||false))⟩:NB)=_
 rw [Qdf (by omega),Qdf (by omega),Qcp (by omega),Qcp (by omega),Int.add_zero,Qff ⟨by omega,by omega⟩,Qfe ⟨by omega,by omega⟩]; rfl
theorem Zl0 {p r:VB} {l:Int×Int} (hp:Zf3 p) (hr:Zao r) (h1:Q13 l.1) (h2:Q13 l.2):Qnh p (Qh3 r (Qta l))=⟨⟨p.x.v + Int.tdiv (aV r l).1 256,false⟩,⟨p.y.v + Int.tdiv (aV r l).2 256,false⟩⟩:=by
 rw [Zj6 hr h1 h2]
 obtain ⟨a1,a2⟩:=Q8h hr h1 h2
 obtain ⟨_,t1,_,_⟩:=Qz3 (aV r l).1
 obtain ⟨_,t2,_,_⟩:=Qz3 (aV r l).2
 obtain ⟨⟨fx,fy⟩,px,py⟩:=hp
 obtain ⟨⟨x,f⟩,⟨y,g⟩⟩:=p
 obtain rfl:f=false:=fx
 obtain rfl:g=false:=fy
 have px:-17179869184000≤x∧x≤17179869184000:=px
 have py:-17179869184000≤y∧y≤17179869184000:=py
 unfold Qnh
 simp only
 rw [Qz9 ⟨by omega,by omega⟩ ⟨by omega,by omega⟩,Qz9 ⟨by omega,by omega⟩ ⟨by omega,by omega⟩]
theorem Qn5 {v:Int} (h:-18000000000000≤v∧v≤18000000000000):Zm2 (Qn9 ⟨v,false⟩ (Qoj 256))=(v*256 + 2147483648) / 4294967296:=by
 have e:Qbj v 1099511627776=v*256:=by
   unfold Qbj
   rw [show v*1099511627776=(v*256)*4294967296 by omega]
   exact Int.mul_tdiv_cancel _ (by decide)
 have i:Qoj 256=⟨1099511627776,false⟩:=Qhk ⟨by decide,by decide⟩
 rw [i,Qmp (a:=⟨v,false⟩) (b:=⟨1099511627776,false⟩) ⟨by show _≤v; omega,by show v≤_; omega⟩ ⟨by decide,by decide⟩ (by show Sd (Qbj v 1099511627776); rw [e]; exact ⟨by omega,by omega⟩)]
 show (Qaa (Qbj v 1099511627776) + 2147483648) / 4294967296=_
 rw [e,Qdf (by omega)]
def Qs5 (p r:VB) (l P:Int×Int):Prop:=∃ E F:Int,(4294967296*P.1=256*p.x.v + (aV r l).1 + E∧-2147483904≤E∧E≤2147483904)∧4294967296*P.2=256*p.y.v + (aV r l).2 + F∧-2147483904≤F∧F≤2147483904
theorem Q6w {p r:VB} {l:Int×Int} (hp:Zf3 p) (hr:Zao r) (h1:Q13 l.1) (h2:Q13 l.2):Qs5 p r l (Qfi (Qnh p (Qh3 r (Qta l)))):=by
 rw [Zl0 hp hr h1 h2]
 obtain ⟨a1,a2⟩:=Q8h hr h1 h2
 obtain ⟨e1,t1,_,_⟩:=Qz3 (aV r l).1
 obtain ⟨e2,t2,_,_⟩:=Qz3 (aV r l).2
 obtain ⟨-,px,py⟩:=hp
 unfold Qfi
 rw [Qn5 ⟨by omega,by omega⟩,Qn5 ⟨by omega,by omega⟩]
 generalize Int.tdiv (aV r l).1 256=d1 at *
 generalize Int.tdiv (aV r l).2 256=d2 at *
 exact ⟨4294967296*(((p.x.v + d1)*256 + 2147483648) / 4294967296) - 256*p.x.v - (aV r l).1,4294967296*(((p.y.v + d2)*256 + 2147483648) / 4294967296) - 256*p.y.v - (aV r l).2,⟨by show 4294967296*(((p.x.v + d1)*256 + 2147483648) / 4294967296)=_; omega,by omega,by omega⟩,by show 4294967296*(((p.y.v + d2)*256 + 2147483648) / 4294967296)=_; omega,by omega,by omega⟩
theorem Q7s {p r:VB} (hp:Zf3 p):Qs5 p r (0,0) (Qfi p):=by
 obtain ⟨⟨fx,fy⟩,px,py⟩:=hp
 obtain ⟨⟨x,f⟩,⟨y,g⟩⟩:=p
 obtain rfl:f=false:=fx
 obtain rfl:g=false:=fy
 have px:-17179869184000≤x∧x≤17179869184000:=px
 have py:-17179869184000≤y∧y≤17179869184000:=py
 unfold Qfi
 rw [Qn5 ⟨by omega,by omega⟩,Qn5 ⟨by omega,by omega⟩]
 have e1:(aV r (0,0)).1=0:=by show r.x.v*0 - r.y.v*0=0; rw [Int.mul_zero,Int.mul_zero]; rfl
 have e2:(aV r (0,0)).2=0:=by show r.y.v*0 + r.x.v*0=0; rw [Int.mul_zero,Int.mul_zero]; rfl
 unfold Qs5
 rw [e1,e2]
 exact ⟨4294967296*((x*256 + 2147483648) / 4294967296) - 256*x,4294967296*((y*256 + 2147483648) / 4294967296) - 256*y,⟨by show 4294967296*((x*256 + 2147483648) / 4294967296)=256*x + 0 + _; omega,by omega,by omega⟩,by show 4294967296*((y*256 + 2147483648) / 4294967296)=256*y + 0 + _; omega,by omega,by omega⟩
theorem Qr4 {p r:VB} {l P:Int×Int} (hp:Zf3 p) (hr:Zao r) (h1:Q13 l.1) (h2:Q13 l.2) (h:Qs5 p r l P):P21 P.1∧P21 P.2:=by
 obtain ⟨a1,a2⟩:=Q8h hr h1 h2
 obtain ⟨-,px,py⟩:=hp
 obtain ⟨E,F,⟨e1,_,_⟩,e2,_,_⟩:=h
 exact ⟨⟨by omega,by omega⟩,⟨by omega,by omega⟩⟩
def Q0a (u v:Int×Int):Prop:=3*(Qab u.1 + Qab u.2 + Qab v.1 + Qab v.2) + 8≤Qae u v
theorem Q8i (r:VB) (u v:Int×Int):(aV r u).1*(aV r v).2 - (aV r u).2*(aV r v).1=(r.x.v*r.x.v + r.y.v*r.y.v)*Qae u v:=by
 unfold aV Qae Qal
 simp only
 grind
theorem Zam (r:VB) (p q:Int×Int):(aV r (Qar p q)).1=(aV r p).1 - (aV r q).1∧(aV r (Qar p q)).2=(aV r p).2 - (aV r q).2:=by
 unfold aV Qar
 simp only
 constructor <;> grind
theorem Zal (x:Int):-Qab x≤x∧x≤Qab x:=by unfold Qab; split <;> omega
theorem Zan {r:VB} (hr:Zao r) (u:Int×Int):Qab (aV r u).1≤4294967296*(Qab u.1 + Qab u.2)∧Qab (aV r u).2≤4294967296*(Qab u.1 + Qab u.2):=by
 obtain ⟨-,cx,cy,-⟩:=hr
 have i1:=Zal u.1
 have i2:=Zal u.2
 have h1:=Qen (P:=4294967296) (by decide) cx.1 cx.2 i1.1 i1.2
 have h2:=Qen (P:=4294967296) (by decide) cy.1 cy.2 i2.1 i2.2
 have h3:=Qen (P:=4294967296) (by decide) cy.1 cy.2 i1.1 i1.2
 have h4:=Qen (P:=4294967296) (by decide) cx.1 cx.2 i2.1 i2.2
 have e:∀ {x B:Int},-B≤x→x≤B→Qab x≤B:=fun h k=>by unfold Qab; split <;> omega
 exact ⟨e (by show _≤r.x.v*u.1 - r.y.v*u.2; omega) (by show r.x.v*u.1 - r.y.v*u.2≤_; omega),e (by show _≤r.y.v*u.1 + r.x.v*u.2; omega) (by show r.y.v*u.1 + r.x.v*u.2≤_; omega)⟩
theorem Zcc {p r:VB} {a b c A B C:Int×Int} (hr:Zao r) (ha:Qs5 p r a A) (hb:Qs5 p r b B) (hc:Qs5 p r c C) (hs:Q0a (Qar b a) (Qar c a)):0<Qga A B C:=by
 obtain ⟨E1,F1,⟨a1,a2,a3⟩,a4,a5,a6⟩:=ha
 obtain ⟨E2,F2,⟨b1,b2,b3⟩,b4,b5,b6⟩:=hb
 obtain ⟨E3,F3,⟨c1,c2,c3⟩,c4,c5,c6⟩:=hc
 obtain ⟨u1,u2⟩:=Zam r b a
 obtain ⟨v1,v2⟩:=Zam r c a
 have h:=Zjq (s:=1) (T:=4294967808) (a:=4294967296*(B.1 - A.1)) (b:=4294967296*(B.2 - A.2)) (c:=4294967296*(C.1 - A.1)) (d:=4294967296*(C.2 - A.2)) (A:=(aV r (Qar b a)).1) (B:=(aV r (Qar b a)).2) (C:=(aV r (Qar c a)).1) (D:=(aV r (Qar c a)).2) (by decide) (by decide) (by omega) (by omega) (by omega) (by omega)
 have hx:=Q8i r (Qar b a) (Qar c a)
 have n1:=Zan hr (Qar b a)
 have n2:=Zan hr (Qar c a)
 have hs':3*(Qab (Qar b a).1 + Qab (Qar b a).2 + Qab (Qar c a).1 + Qab (Qar c a).2) + 8≤Qae (Qar b a) (Qar c a):=hs
 have q1:=Qbn (Qar b a).1
 have q2:=Qbn (Qar b a).2
 have q3:=Qbn (Qar c a).1
 have q4:=Qbn (Qar c a).2
 obtain ⟨-,-,-,k1,-⟩:=hr
 have hK:=Int.mul_le_mul_of_nonneg_right (show 18446744073709551616 - 2748779069440≤r.x.v*r.x.v + r.y.v*r.y.v by omega) (show 0≤Qae (Qar b a) (Qar c a) by omega)
 rw [hx] at h
 have e:4294967296*(B.1 - A.1)*(4294967296*(C.2 - A.2)) - 4294967296*(B.2 - A.2)*(4294967296*(C.1 - A.1))=18446744073709551616*Qga A B C:=by
   unfold Qga Qbx Qbq
   grind
 rw [e] at h
 generalize Qga A B C=t at *
 generalize (r.x.v*r.x.v + r.y.v*r.y.v)*Qae (Qar b a) (Qar c a)=K at *
 generalize Qae (Qar b a) (Qar c a)=X at *
 generalize Qab (Qar b a).1=s1 at *
 generalize Qab (Qar b a).2=s2 at *
 generalize Qab (Qar c a).1=s3 at *
 generalize Qab (Qar c a).2=s4 at *
 generalize Qab (aV r (Qar b a)).1=w1 at *
 generalize Qab (aV r (Qar b a)).2=w2 at *
 generalize Qab (aV r (Qar c a)).1=w3 at *
 generalize Qab (aV r (Qar c a)).2=w4 at *
 omega
def SG (n:Nat) (g:Nat→Int×Int):Prop:=∀ k,k<n→Q0a (Qar (g ((k + 1) % n)) (g k)) (Qar (0,0) (g k))∧∀ i,i<n→i≠k→i≠(k + 1) % n→Q0a (Qar (g ((k + 1) % n)) (g k)) (Qar (g i) (g k))
theorem Znn {k h:Int} (hk:64≤k∧k≤4096) (hh:64≤h∧h≤4096):SG 3 (G3 k h):=by
 have p1:64*k≤h*k:=Int.mul_le_mul_of_nonneg_right hh.1 (by omega)
 have p2:64*h≤h*k:=by have:=Int.mul_le_mul_of_nonneg_right hk.1 (show (0:Int)≤h by omega); grind
 intro j hj
 obtain rfl | rfl | rfl:j=0∨j=1∨j=2:=by omega
 · refine ⟨?_,fun i hi h1 h2=>?_⟩
   · show 3*(Qab (k - (-k)) + Qab (-h - (-h)) + Qab ((0:Int) - (-k)) + Qab ((0:Int) - (-h))) + 8≤(k - (-k))*((0:Int) - (-h)) - (-h - (-h))*((0:Int) - (-k))
     rw [show (k - (-k))*((0:Int) - (-h)) - (-h - (-h))*((0:Int) - (-k))=(2)*(h*k) from by grind]
     unfold Qab; omega
   · obtain rfl:i=2:=by
       have h2:i≠1:=h2
       omega
     · show 3*(Qab (k - (-k)) + Qab (-h - (-h)) + Qab ((0:Int) - (-k)) + Qab (h - (-h))) + 8≤(k - (-k))*(h - (-h)) - (-h - (-h))*((0:Int) - (-k))
       rw [show (k - (-k))*(h - (-h)) - (-h - (-h))*((0:Int) - (-k))=(4)*(h*k) from by grind]
       unfold Qab; omega
 · refine ⟨?_,fun i hi h1 h2=>?_⟩
   · show 3*(Qab ((0:Int) - k) + Qab (h - (-h)) + Qab ((0:Int) - k) + Qab ((0:Int) - (-h))) + 8≤((0:Int) - k)*((0:Int) - (-h)) - (h - (-h))*((0:Int) - k)
     rw [show ((0:Int) - k)*((0:Int) - (-h)) - (h - (-h))*((0:Int) - k)=(1)*(h*k) from by grind]
     unfold Qab; omega
   · obtain rfl:i=0:=by
       have h2:i≠2:=h2
       omega
     · show 3*(Qab ((0:Int) - k) + Qab (h - (-h)) + Qab (-k - k) + Qab (-h - (-h))) + 8≤((0:Int) - k)*(-h - (-h)) - (h - (-h))*(-k - k)
       rw [show ((0:Int) - k)*(-h - (-h)) - (h - (-h))*(-k - k)=(4)*(h*k) from by grind]
       unfold Qab; omega
 · refine ⟨?_,fun i hi h1 h2=>?_⟩
   · show 3*(Qab (-k - (0:Int)) + Qab (-h - h) + Qab ((0:Int) - (0:Int)) + Qab ((0:Int) - h)) + 8≤(-k - (0:Int))*((0:Int) - h) - (-h - h)*((0:Int) - (0:Int))
     rw [show (-k - (0:Int))*((0:Int) - h) - (-h - h)*((0:Int) - (0:Int))=(1)*(h*k) from by grind]
     unfold Qab; omega
   · obtain rfl:i=1:=by
       have h2:i≠0:=h2
       omega
     · show 3*(Qab (-k - (0:Int)) + Qab (-h - h) + Qab (k - (0:Int)) + Qab (-h - h)) + 8≤(-k - (0:Int))*(-h - h) - (-h - h)*(k - (0:Int))
       rw [show (-k - (0:Int))*(-h - h) - (-h - h)*(k - (0:Int))=(4)*(h*k) from by grind]
       unfold Qab; omega
theorem Znm {k h a:Int} (hk:64≤k∧k≤4096) (hh:64≤h∧h≤4096) (ha:2*a≤k∧k≤2*a + 1):SG 5 (G5 k h a):=by
 have p1:64*k≤h*k:=Int.mul_le_mul_of_nonneg_right hh.1 (by omega)
 have p2:64*h≤h*k:=by have:=Int.mul_le_mul_of_nonneg_right hk.1 (show (0:Int)≤h by omega); grind
 have p3:64*a≤a*h:=by have:=Int.mul_le_mul_of_nonneg_right hh.1 (show (0:Int)≤a by omega); grind
 have p4:32*h≤a*h:=Int.mul_le_mul_of_nonneg_right (by omega) (by omega)
 have p5:2*(a*h)≤h*k:=by have:=Int.mul_le_mul_of_nonneg_right ha.1 (show (0:Int)≤h by omega); grind
 have p6:h*k≤2*(a*h) + h:=by have:=Int.mul_le_mul_of_nonneg_right ha.2 (show (0:Int)≤h by omega); grind
 intro j hj
 obtain rfl | rfl | rfl | rfl | rfl:j=0∨j=1∨j=2∨j=3∨j=4:=by omega
 · refine ⟨?_,fun i hi h1 h2=>?_⟩
   · show 3*(Qab (a - (-a)) + Qab (-h - (-h)) + Qab ((0:Int) - (-a)) + Qab ((0:Int) - (-h))) + 8≤(a - (-a))*((0:Int) - (-h)) - (-h - (-h))*((0:Int) - (-a))
     rw [show (a - (-a))*((0:Int) - (-h)) - (-h - (-h))*((0:Int) - (-a))=(2)*(a*h) from by grind]
     unfold Qab; omega
   · obtain rfl | rfl | rfl:i=2∨i=3∨i=4:=by
       have h2:i≠1:=h2
       omega
     · show 3*(Qab (a - (-a)) + Qab (-h - (-h)) + Qab (k - (-a)) + Qab ((0:Int) - (-h))) + 8≤(a - (-a))*((0:Int) - (-h)) - (-h - (-h))*(k - (-a))
       rw [show (a - (-a))*((0:Int) - (-h)) - (-h - (-h))*(k - (-a))=(2)*(a*h) from by grind]
       unfold Qab; omega
     · show 3*(Qab (a - (-a)) + Qab (-h - (-h)) + Qab ((0:Int) - (-a)) + Qab (h - (-h))) + 8≤(a - (-a))*(h - (-h)) - (-h - (-h))*((0:Int) - (-a))
       rw [show (a - (-a))*(h - (-h)) - (-h - (-h))*((0:Int) - (-a))=(4)*(a*h) from by grind]
       unfold Qab; omega
     · show 3*(Qab (a - (-a)) + Qab (-h - (-h)) + Qab (-k - (-a)) + Qab ((0:Int) - (-h))) + 8≤(a - (-a))*((0:Int) - (-h)) - (-h - (-h))*(-k - (-a))
       rw [show (a - (-a))*((0:Int) - (-h)) - (-h - (-h))*(-k - (-a))=(2)*(a*h) from by grind]
       unfold Qab; omega
 · refine ⟨?_,fun i hi h1 h2=>?_⟩
   · show 3*(Qab (k - a) + Qab ((0:Int) - (-h)) + Qab ((0:Int) - a) + Qab ((0:Int) - (-h))) + 8≤(k - a)*((0:Int) - (-h)) - ((0:Int) - (-h))*((0:Int) - a)
     rw [show (k - a)*((0:Int) - (-h)) - ((0:Int) - (-h))*((0:Int) - a)=(1)*(h*k) from by grind]
     unfold Qab; omega
   · obtain rfl | rfl | rfl:i=0∨i=3∨i=4:=by
       have h2:i≠2:=h2
       omega
     · show 3*(Qab (k - a) + Qab ((0:Int) - (-h)) + Qab (-a - a) + Qab (-h - (-h))) + 8≤(k - a)*(-h - (-h)) - ((0:Int) - (-h))*(-a - a)
       rw [show (k - a)*(-h - (-h)) - ((0:Int) - (-h))*(-a - a)=(2)*(a*h) from by grind]
       unfold Qab; omega
     · show 3*(Qab (k - a) + Qab ((0:Int) - (-h)) + Qab ((0:Int) - a) + Qab (h - (-h))) + 8≤(k - a)*(h - (-h)) - ((0:Int) - (-h))*((0:Int) - a)
       rw [show (k - a)*(h - (-h)) - ((0:Int) - (-h))*((0:Int) - a)=(-1)*(a*h) + (2)*(h*k) from by grind]
       unfold Qab; omega
     · show 3*(Qab (k - a) + Qab ((0:Int) - (-h)) + Qab (-k - a) + Qab ((0:Int) - (-h))) + 8≤(k - a)*((0:Int) - (-h)) - ((0:Int) - (-h))*(-k - a)
       rw [show (k - a)*((0:Int) - (-h)) - ((0:Int) - (-h))*(-k - a)=(2)*(h*k) from by grind]
       unfold Qab; omega
 · refine ⟨?_,fun i hi h1 h2=>?_⟩
   · show 3*(Qab ((0:Int) - k) + Qab (h - (0:Int)) + Qab ((0:Int) - k) + Qab ((0:Int) - (0:Int))) + 8≤((0:Int) - k)*((0:Int) - (0:Int)) - (h - (0:Int))*((0:Int) - k)
     rw [show ((0:Int) - k)*((0:Int) - (0:Int)) - (h - (0:Int))*((0:Int) - k)=(1)*(h*k) from by grind]
     unfold Qab; omega
   · obtain rfl | rfl | rfl:i=0∨i=1∨i=4:=by
       have h2:i≠3:=h2
       omega
     · show 3*(Qab ((0:Int) - k) + Qab (h - (0:Int)) + Qab (-a - k) + Qab (-h - (0:Int))) + 8≤((0:Int) - k)*(-h - (0:Int)) - (h - (0:Int))*(-a - k)
       rw [show ((0:Int) - k)*(-h - (0:Int)) - (h - (0:Int))*(-a - k)=(1)*(a*h) + (2)*(h*k) from by grind]
       unfold Qab; omega
     · show 3*(Qab ((0:Int) - k) + Qab (h - (0:Int)) + Qab (a - k) + Qab (-h - (0:Int))) + 8≤((0:Int) - k)*(-h - (0:Int)) - (h - (0:Int))*(a - k)
       rw [show ((0:Int) - k)*(-h - (0:Int)) - (h - (0:Int))*(a - k)=(-1)*(a*h) + (2)*(h*k) from by grind]
       unfold Qab; omega
     · show 3*(Qab ((0:Int) - k) + Qab (h - (0:Int)) + Qab (-k - k) + Qab ((0:Int) - (0:Int))) + 8≤((0:Int) - k)*((0:Int) - (0:Int)) - (h - (0:Int))*(-k - k)
       rw [show ((0:Int) - k)*((0:Int) - (0:Int)) - (h - (0:Int))*(-k - k)=(2)*(h*k) from by grind]
       unfold Qab; omega
 · refine ⟨?_,fun i hi h1 h2=>?_⟩
   · show 3*(Qab (-k - (0:Int)) + Qab ((0:Int) - h) + Qab ((0:Int) - (0:Int)) + Qab ((0:Int) - h)) + 8≤(-k - (0:Int))*((0:Int) - h) - ((0:Int) - h)*((0:Int) - (0:Int))
     rw [show (-k - (0:Int))*((0:Int) - h) - ((0:Int) - h)*((0:Int) - (0:Int))=(1)*(h*k) from by grind]
     unfold Qab; omega
   · obtain rfl | rfl | rfl:i=0∨i=1∨i=2:=by
       have h2:i≠4:=h2
       omega
     · show 3*(Qab (-k - (0:Int)) + Qab ((0:Int) - h) + Qab (-a - (0:Int)) + Qab (-h - h)) + 8≤(-k - (0:Int))*(-h - h) - ((0:Int) - h)*(-a - (0:Int))
       rw [show (-k - (0:Int))*(-h - h) - ((0:Int) - h)*(-a - (0:Int))=(-1)*(a*h) + (2)*(h*k) from by grind]
       unfold Qab; omega
     · show 3*(Qab (-k - (0:Int)) + Qab ((0:Int) - h) + Qab (a - (0:Int)) + Qab (-h - h)) + 8≤(-k - (0:Int))*(-h - h) - ((0:Int) - h)*(a - (0:Int))
       rw [show (-k - (0:Int))*(-h - h) - ((0:Int) - h)*(a - (0:Int))=(1)*(a*h) + (2)*(h*k) from by grind]
       unfold Qab; omega
     · show 3*(Qab (-k - (0:Int)) + Qab ((0:Int) - h) + Qab (k - (0:Int)) + Qab ((0:Int) - h)) + 8≤(-k - (0:Int))*((0:Int) - h) - ((0:Int) - h)*(k - (0:Int))
       rw [show (-k - (0:Int))*((0:Int) - h) - ((0:Int) - h)*(k - (0:Int))=(2)*(h*k) from by grind]
       unfold Qab; omega
 · refine ⟨?_,fun i hi h1 h2=>?_⟩
   · show 3*(Qab (-a - (-k)) + Qab (-h - (0:Int)) + Qab ((0:Int) - (-k)) + Qab ((0:Int) - (0:Int))) + 8≤(-a - (-k))*((0:Int) - (0:Int)) - (-h - (0:Int))*((0:Int) - (-k))
     rw [show (-a - (-k))*((0:Int) - (0:Int)) - (-h - (0:Int))*((0:Int) - (-k))=(1)*(h*k) from by grind]
     unfold Qab; omega
   · obtain rfl | rfl | rfl:i=1∨i=2∨i=3:=by
       have h2:i≠0:=h2
       omega
     · show 3*(Qab (-a - (-k)) + Qab (-h - (0:Int)) + Qab (a - (-k)) + Qab (-h - (0:Int))) + 8≤(-a - (-k))*(-h - (0:Int)) - (-h - (0:Int))*(a - (-k))
       rw [show (-a - (-k))*(-h - (0:Int)) - (-h - (0:Int))*(a - (-k))=(2)*(a*h) from by grind]
       unfold Qab; omega
     · show 3*(Qab (-a - (-k)) + Qab (-h - (0:Int)) + Qab (k - (-k)) + Qab ((0:Int) - (0:Int))) + 8≤(-a - (-k))*((0:Int) - (0:Int)) - (-h - (0:Int))*(k - (-k))
       rw [show (-a - (-k))*((0:Int) - (0:Int)) - (-h - (0:Int))*(k - (-k))=(2)*(h*k) from by grind]
       unfold Qab; omega
     · show 3*(Qab (-a - (-k)) + Qab (-h - (0:Int)) + Qab ((0:Int) - (-k)) + Qab (h - (0:Int))) + 8≤(-a - (-k))*(h - (0:Int)) - (-h - (0:Int))*((0:Int) - (-k))
       rw [show (-a - (-k))*(h - (0:Int)) - (-h - (0:Int))*((0:Int) - (-k))=(-1)*(a*h) + (2)*(h*k) from by grind]
       unfold Qab; omega
theorem Znl {k a:Int} (hk:64≤k∧k≤4096) (ha:2*a≤k∧k≤2*a + 1):SG 8 (G8 k a):=by
 have p1:64*k≤k*k:=Int.mul_le_mul_of_nonneg_right hk.1 (by omega)
 have p2:64*a≤a*k:=by have:=Int.mul_le_mul_of_nonneg_right hk.1 (show (0:Int)≤a by omega); grind
 have p3:2*(a*k)≤k*k:=by have:=Int.mul_le_mul_of_nonneg_right ha.1 (show (0:Int)≤k by omega); grind
 have p4:k*k≤2*(a*k) + k:=by have:=Int.mul_le_mul_of_nonneg_right ha.2 (show (0:Int)≤k by omega); grind
 have p5:2*(a*a)≤a*k:=by have:=Int.mul_le_mul_of_nonneg_right ha.1 (show (0:Int)≤a by omega); grind
 have p6:a*k≤2*(a*a) + a:=by have:=Int.mul_le_mul_of_nonneg_right ha.2 (show (0:Int)≤a by omega); grind
 intro j hj
 obtain rfl | rfl | rfl | rfl | rfl | rfl | rfl | rfl:j=0∨j=1∨j=2∨j=3∨j=4∨j=5∨j=6∨j=7:=by omega
 · refine ⟨?_,fun i hi h1 h2=>?_⟩
   · show 3*(Qab (k - k) + Qab (a - (-a)) + Qab ((0:Int) - k) + Qab ((0:Int) - (-a))) + 8≤(k - k)*((0:Int) - (-a)) - (a - (-a))*((0:Int) - k)
     rw [show (k - k)*((0:Int) - (-a)) - (a - (-a))*((0:Int) - k)=(2)*(a*k) from by grind]
     unfold Qab; omega
   · obtain rfl | rfl | rfl | rfl | rfl | rfl:i=2∨i=3∨i=4∨i=5∨i=6∨i=7:=by
       have h2:i≠1:=h2
       omega
     · show 3*(Qab (k - k) + Qab (a - (-a)) + Qab (a - k) + Qab (k - (-a))) + 8≤(k - k)*(k - (-a)) - (a - (-a))*(a - k)
       rw [show (k - k)*(k - (-a)) - (a - (-a))*(a - k)=(-2)*(a*a) + (2)*(a*k) from by grind]
       unfold Qab; omega
     · show 3*(Qab (k - k) + Qab (a - (-a)) + Qab (-a - k) + Qab (k - (-a))) + 8≤(k - k)*(k - (-a)) - (a - (-a))*(-a - k)
       rw [show (k - k)*(k - (-a)) - (a - (-a))*(-a - k)=(2)*(a*a) + (2)*(a*k) from by grind]
       unfold Qab; omega
     · show 3*(Qab (k - k) + Qab (a - (-a)) + Qab (-k - k) + Qab (a - (-a))) + 8≤(k - k)*(a - (-a)) - (a - (-a))*(-k - k)
       rw [show (k - k)*(a - (-a)) - (a - (-a))*(-k - k)=(4)*(a*k) from by grind]
       unfold Qab; omega
     · show 3*(Qab (k - k) + Qab (a - (-a)) + Qab (-k - k) + Qab (-a - (-a))) + 8≤(k - k)*(-a - (-a)) - (a - (-a))*(-k - k)
       rw [show (k - k)*(-a - (-a)) - (a - (-a))*(-k - k)=(4)*(a*k) from by grind]
       unfold Qab; omega
     · show 3*(Qab (k - k) + Qab (a - (-a)) + Qab (-a - k) + Qab (-k - (-a))) + 8≤(k - k)*(-k - (-a)) - (a - (-a))*(-a - k)
       rw [show (k - k)*(-k - (-a)) - (a - (-a))*(-a - k)=(2)*(a*a) + (2)*(a*k) from by grind]
       unfold Qab; omega
     · show 3*(Qab (k - k) + Qab (a - (-a)) + Qab (a - k) + Qab (-k - (-a))) + 8≤(k - k)*(-k - (-a)) - (a - (-a))*(a - k)
       rw [show (k - k)*(-k - (-a)) - (a - (-a))*(a - k)=(-2)*(a*a) + (2)*(a*k) from by grind]
       unfold Qab; omega
 · refine ⟨?_,fun i hi h1 h2=>?_⟩
   · show 3*(Qab (a - k) + Qab (k - a) + Qab ((0:Int) - k) + Qab ((0:Int) - a)) + 8≤(a - k)*((0:Int) - a) - (k - a)*((0:Int) - k)
     rw [show (a - k)*((0:Int) - a) - (k - a)*((0:Int) - k)=(-1)*(a*a) + (1)*(k*k) from by grind]
     unfold Qab; omega
   · obtain rfl | rfl | rfl | rfl | rfl | rfl:i=0∨i=3∨i=4∨i=5∨i=6∨i=7:=by
       have h2:i≠2:=h2
       omega
     · show 3*(Qab (a - k) + Qab (k - a) + Qab (k - k) + Qab (-a - a)) + 8≤(a - k)*(-a - a) - (k - a)*(k - k)
       rw [show (a - k)*(-a - a) - (k - a)*(k - k)=(-2)*(a*a) + (2)*(a*k) from by grind]
       unfold Qab; omega
     · show 3*(Qab (a - k) + Qab (k - a) + Qab (-a - k) + Qab (k - a)) + 8≤(a - k)*(k - a) - (k - a)*(-a - k)
       rw [show (a - k)*(k - a) - (k - a)*(-a - k)=(-2)*(a*a) + (2)*(a*k) from by grind]
       unfold Qab; omega
     · show 3*(Qab (a - k) + Qab (k - a) + Qab (-k - k) + Qab (a - a)) + 8≤(a - k)*(a - a) - (k - a)*(-k - k)
       rw [show (a - k)*(a - a) - (k - a)*(-k - k)=(-2)*(a*k) + (2)*(k*k) from by grind]
       unfold Qab; omega
     · show 3*(Qab (a - k) + Qab (k - a) + Qab (-k - k) + Qab (-a - a)) + 8≤(a - k)*(-a - a) - (k - a)*(-k - k)
       rw [show (a - k)*(-a - a) - (k - a)*(-k - k)=(-2)*(a*a) + (2)*(k*k) from by grind]
       unfold Qab; omega
     · show 3*(Qab (a - k) + Qab (k - a) + Qab (-a - k) + Qab (-k - a)) + 8≤(a - k)*(-k - a) - (k - a)*(-a - k)
       rw [show (a - k)*(-k - a) - (k - a)*(-a - k)=(-2)*(a*a) + (2)*(k*k) from by grind]
       unfold Qab; omega
     · show 3*(Qab (a - k) + Qab (k - a) + Qab (a - k) + Qab (-k - a)) + 8≤(a - k)*(-k - a) - (k - a)*(a - k)
       rw [show (a - k)*(-k - a) - (k - a)*(a - k)=(-2)*(a*k) + (2)*(k*k) from by grind]
       unfold Qab; omega
 · refine ⟨?_,fun i hi h1 h2=>?_⟩
   · show 3*(Qab (-a - a) + Qab (k - k) + Qab ((0:Int) - a) + Qab ((0:Int) - k)) + 8≤(-a - a)*((0:Int) - k) - (k - k)*((0:Int) - a)
     rw [show (-a - a)*((0:Int) - k) - (k - k)*((0:Int) - a)=(2)*(a*k) from by grind]
     unfold Qab; omega
   · obtain rfl | rfl | rfl | rfl | rfl | rfl:i=0∨i=1∨i=4∨i=5∨i=6∨i=7:=by
       have h2:i≠3:=h2
       omega
     · show 3*(Qab (-a - a) + Qab (k - k) + Qab (k - a) + Qab (-a - k)) + 8≤(-a - a)*(-a - k) - (k - k)*(k - a)
       rw [show (-a - a)*(-a - k) - (k - k)*(k - a)=(2)*(a*a) + (2)*(a*k) from by grind]
       unfold Qab; omega
     · show 3*(Qab (-a - a) + Qab (k - k) + Qab (k - a) + Qab (a - k)) + 8≤(-a - a)*(a - k) - (k - k)*(k - a)
       rw [show (-a - a)*(a - k) - (k - k)*(k - a)=(-2)*(a*a) + (2)*(a*k) from by grind]
       unfold Qab; omega
     · show 3*(Qab (-a - a) + Qab (k - k) + Qab (-k - a) + Qab (a - k)) + 8≤(-a - a)*(a - k) - (k - k)*(-k - a)
       rw [show (-a - a)*(a - k) - (k - k)*(-k - a)=(-2)*(a*a) + (2)*(a*k) from by grind]
       unfold Qab; omega
     · show 3*(Qab (-a - a) + Qab (k - k) + Qab (-k - a) + Qab (-a - k)) + 8≤(-a - a)*(-a - k) - (k - k)*(-k - a)
       rw [show (-a - a)*(-a - k) - (k - k)*(-k - a)=(2)*(a*a) + (2)*(a*k) from by grind]
       unfold Qab; omega
     · show 3*(Qab (-a - a) + Qab (k - k) + Qab (-a - a) + Qab (-k - k)) + 8≤(-a - a)*(-k - k) - (k - k)*(-a - a)
       rw [show (-a - a)*(-k - k) - (k - k)*(-a - a)=(4)*(a*k) from by grind]
       unfold Qab; omega
     · show 3*(Qab (-a - a) + Qab (k - k) + Qab (a - a) + Qab (-k - k)) + 8≤(-a - a)*(-k - k) - (k - k)*(a - a)
       rw [show (-a - a)*(-k - k) - (k - k)*(a - a)=(4)*(a*k) from by grind]
       unfold Qab; omega
 · refine ⟨?_,fun i hi h1 h2=>?_⟩
   · show 3*(Qab (-k - (-a)) + Qab (a - k) + Qab ((0:Int) - (-a)) + Qab ((0:Int) - k)) + 8≤(-k - (-a))*((0:Int) - k) - (a - k)*((0:Int) - (-a))
     rw [show (-k - (-a))*((0:Int) - k) - (a - k)*((0:Int) - (-a))=(-1)*(a*a) + (1)*(k*k) from by grind]
     unfold Qab; omega
   · obtain rfl | rfl | rfl | rfl | rfl | rfl:i=0∨i=1∨i=2∨i=5∨i=6∨i=7:=by
       have h2:i≠4:=h2
       omega
     · show 3*(Qab (-k - (-a)) + Qab (a - k) + Qab (k - (-a)) + Qab (-a - k)) + 8≤(-k - (-a))*(-a - k) - (a - k)*(k - (-a))
       rw [show (-k - (-a))*(-a - k) - (a - k)*(k - (-a))=(-2)*(a*a) + (2)*(k*k) from by grind]
       unfold Qab; omega
     · show 3*(Qab (-k - (-a)) + Qab (a - k) + Qab (k - (-a)) + Qab (a - k)) + 8≤(-k - (-a))*(a - k) - (a - k)*(k - (-a))
       rw [show (-k - (-a))*(a - k) - (a - k)*(k - (-a))=(-2)*(a*k) + (2)*(k*k) from by grind]
       unfold Qab; omega
     · show 3*(Qab (-k - (-a)) + Qab (a - k) + Qab (a - (-a)) + Qab (k - k)) + 8≤(-k - (-a))*(k - k) - (a - k)*(a - (-a))
       rw [show (-k - (-a))*(k - k) - (a - k)*(a - (-a))=(-2)*(a*a) + (2)*(a*k) from by grind]
       unfold Qab; omega
     · show 3*(Qab (-k - (-a)) + Qab (a - k) + Qab (-k - (-a)) + Qab (-a - k)) + 8≤(-k - (-a))*(-a - k) - (a - k)*(-k - (-a))
       rw [show (-k - (-a))*(-a - k) - (a - k)*(-k - (-a))=(-2)*(a*a) + (2)*(a*k) from by grind]
       unfold Qab; omega
     · show 3*(Qab (-k - (-a)) + Qab (a - k) + Qab (-a - (-a)) + Qab (-k - k)) + 8≤(-k - (-a))*(-k - k) - (a - k)*(-a - (-a))
       rw [show (-k - (-a))*(-k - k) - (a - k)*(-a - (-a))=(-2)*(a*k) + (2)*(k*k) from by grind]
       unfold Qab; omega
     · show 3*(Qab (-k - (-a)) + Qab (a - k) + Qab (a - (-a)) + Qab (-k - k)) + 8≤(-k - (-a))*(-k - k) - (a - k)*(a - (-a))
       rw [show (-k - (-a))*(-k - k) - (a - k)*(a - (-a))=(-2)*(a*a) + (2)*(k*k) from by grind]
       unfold Qab; omega
 · refine ⟨?_,fun i hi h1 h2=>?_⟩
   · show 3*(Qab (-k - (-k)) + Qab (-a - a) + Qab ((0:Int) - (-k)) + Qab ((0:Int) - a)) + 8≤(-k - (-k))*((0:Int) - a) - (-a - a)*((0:Int) - (-k))
     rw [show (-k - (-k))*((0:Int) - a) - (-a - a)*((0:Int) - (-k))=(2)*(a*k) from by grind]
     unfold Qab; omega
   · obtain rfl | rfl | rfl | rfl | rfl | rfl:i=0∨i=1∨i=2∨i=3∨i=6∨i=7:=by
       have h2:i≠5:=h2
       omega
     · show 3*(Qab (-k - (-k)) + Qab (-a - a) + Qab (k - (-k)) + Qab (-a - a)) + 8≤(-k - (-k))*(-a - a) - (-a - a)*(k - (-k))
       rw [show (-k - (-k))*(-a - a) - (-a - a)*(k - (-k))=(4)*(a*k) from by grind]
       unfold Qab; omega
     · show 3*(Qab (-k - (-k)) + Qab (-a - a) + Qab (k - (-k)) + Qab (a - a)) + 8≤(-k - (-k))*(a - a) - (-a - a)*(k - (-k))
       rw [show (-k - (-k))*(a - a) - (-a - a)*(k - (-k))=(4)*(a*k) from by grind]
       unfold Qab; omega
     · show 3*(Qab (-k - (-k)) + Qab (-a - a) + Qab (a - (-k)) + Qab (k - a)) + 8≤(-k - (-k))*(k - a) - (-a - a)*(a - (-k))
       rw [show (-k - (-k))*(k - a) - (-a - a)*(a - (-k))=(2)*(a*a) + (2)*(a*k) from by grind]
       unfold Qab; omega
     · show 3*(Qab (-k - (-k)) + Qab (-a - a) + Qab (-a - (-k)) + Qab (k - a)) + 8≤(-k - (-k))*(k - a) - (-a - a)*(-a - (-k))
       rw [show (-k - (-k))*(k - a) - (-a - a)*(-a - (-k))=(-2)*(a*a) + (2)*(a*k) from by grind]
       unfold Qab; omega
     · show 3*(Qab (-k - (-k)) + Qab (-a - a) + Qab (-a - (-k)) + Qab (-k - a)) + 8≤(-k - (-k))*(-k - a) - (-a - a)*(-a - (-k))
       rw [show (-k - (-k))*(-k - a) - (-a - a)*(-a - (-k))=(-2)*(a*a) + (2)*(a*k) from by grind]
       unfold Qab; omega
     · show 3*(Qab (-k - (-k)) + Qab (-a - a) + Qab (a - (-k)) + Qab (-k - a)) + 8≤(-k - (-k))*(-k - a) - (-a - a)*(a - (-k))
       rw [show (-k - (-k))*(-k - a) - (-a - a)*(a - (-k))=(2)*(a*a) + (2)*(a*k) from by grind]
       unfold Qab; omega
 · refine ⟨?_,fun i hi h1 h2=>?_⟩
   · show 3*(Qab (-a - (-k)) + Qab (-k - (-a)) + Qab ((0:Int) - (-k)) + Qab ((0:Int) - (-a))) + 8≤(-a - (-k))*((0:Int) - (-a)) - (-k - (-a))*((0:Int) - (-k))
     rw [show (-a - (-k))*((0:Int) - (-a)) - (-k - (-a))*((0:Int) - (-k))=(-1)*(a*a) + (1)*(k*k) from by grind]
     unfold Qab; omega
   · obtain rfl | rfl | rfl | rfl | rfl | rfl:i=0∨i=1∨i=2∨i=3∨i=4∨i=7:=by
       have h2:i≠6:=h2
       omega
     · show 3*(Qab (-a - (-k)) + Qab (-k - (-a)) + Qab (k - (-k)) + Qab (-a - (-a))) + 8≤(-a - (-k))*(-a - (-a)) - (-k - (-a))*(k - (-k))
       rw [show (-a - (-k))*(-a - (-a)) - (-k - (-a))*(k - (-k))=(-2)*(a*k) + (2)*(k*k) from by grind]
       unfold Qab; omega
     · show 3*(Qab (-a - (-k)) + Qab (-k - (-a)) + Qab (k - (-k)) + Qab (a - (-a))) + 8≤(-a - (-k))*(a - (-a)) - (-k - (-a))*(k - (-k))
       rw [show (-a - (-k))*(a - (-a)) - (-k - (-a))*(k - (-k))=(-2)*(a*a) + (2)*(k*k) from by grind]
       unfold Qab; omega
     · show 3*(Qab (-a - (-k)) + Qab (-k - (-a)) + Qab (a - (-k)) + Qab (k - (-a))) + 8≤(-a - (-k))*(k - (-a)) - (-k - (-a))*(a - (-k))
       rw [show (-a - (-k))*(k - (-a)) - (-k - (-a))*(a - (-k))=(-2)*(a*a) + (2)*(k*k) from by grind]
       unfold Qab; omega
     · show 3*(Qab (-a - (-k)) + Qab (-k - (-a)) + Qab (-a - (-k)) + Qab (k - (-a))) + 8≤(-a - (-k))*(k - (-a)) - (-k - (-a))*(-a - (-k))
       rw [show (-a - (-k))*(k - (-a)) - (-k - (-a))*(-a - (-k))=(-2)*(a*k) + (2)*(k*k) from by grind]
       unfold Qab; omega
     · show 3*(Qab (-a - (-k)) + Qab (-k - (-a)) + Qab (-k - (-k)) + Qab (a - (-a))) + 8≤(-a - (-k))*(a - (-a)) - (-k - (-a))*(-k - (-k))
       rw [show (-a - (-k))*(a - (-a)) - (-k - (-a))*(-k - (-k))=(-2)*(a*a) + (2)*(a*k) from by grind]
       unfold Qab; omega
     · show 3*(Qab (-a - (-k)) + Qab (-k - (-a)) + Qab (a - (-k)) + Qab (-k - (-a))) + 8≤(-a - (-k))*(-k - (-a)) - (-k - (-a))*(a - (-k))
       rw [show (-a - (-k))*(-k - (-a)) - (-k - (-a))*(a - (-k))=(-2)*(a*a) + (2)*(a*k) from by grind]
       unfold Qab; omega
 · refine ⟨?_,fun i hi h1 h2=>?_⟩
   · show 3*(Qab (a - (-a)) + Qab (-k - (-k)) + Qab ((0:Int) - (-a)) + Qab ((0:Int) - (-k))) + 8≤(a - (-a))*((0:Int) - (-k)) - (-k - (-k))*((0:Int) - (-a))
     rw [show (a - (-a))*((0:Int) - (-k)) - (-k - (-k))*((0:Int) - (-a))=(2)*(a*k) from by grind]
     unfold Qab; omega
   · obtain rfl | rfl | rfl | rfl | rfl | rfl:i=0∨i=1∨i=2∨i=3∨i=4∨i=5:=by
       have h2:i≠7:=h2
       omega
     · show 3*(Qab (a - (-a)) + Qab (-k - (-k)) + Qab (k - (-a)) + Qab (-a - (-k))) + 8≤(a - (-a))*(-a - (-k)) - (-k - (-k))*(k - (-a))
       rw [show (a - (-a))*(-a - (-k)) - (-k - (-k))*(k - (-a))=(-2)*(a*a) + (2)*(a*k) from by grind]
       unfold Qab; omega
     · show 3*(Qab (a - (-a)) + Qab (-k - (-k)) + Qab (k - (-a)) + Qab (a - (-k))) + 8≤(a - (-a))*(a - (-k)) - (-k - (-k))*(k - (-a))
       rw [show (a - (-a))*(a - (-k)) - (-k - (-k))*(k - (-a))=(2)*(a*a) + (2)*(a*k) from by grind]
       unfold Qab; omega
     · show 3*(Qab (a - (-a)) + Qab (-k - (-k)) + Qab (a - (-a)) + Qab (k - (-k))) + 8≤(a - (-a))*(k - (-k)) - (-k - (-k))*(a - (-a))
       rw [show (a - (-a))*(k - (-k)) - (-k - (-k))*(a - (-a))=(4)*(a*k) from by grind]
       unfold Qab; omega
     · show 3*(Qab (a - (-a)) + Qab (-k - (-k)) + Qab (-a - (-a)) + Qab (k - (-k))) + 8≤(a - (-a))*(k - (-k)) - (-k - (-k))*(-a - (-a))
       rw [show (a - (-a))*(k - (-k)) - (-k - (-k))*(-a - (-a))=(4)*(a*k) from by grind]
       unfold Qab; omega
     · show 3*(Qab (a - (-a)) + Qab (-k - (-k)) + Qab (-k - (-a)) + Qab (a - (-k))) + 8≤(a - (-a))*(a - (-k)) - (-k - (-k))*(-k - (-a))
       rw [show (a - (-a))*(a - (-k)) - (-k - (-k))*(-k - (-a))=(2)*(a*a) + (2)*(a*k) from by grind]
       unfold Qab; omega
     · show 3*(Qab (a - (-a)) + Qab (-k - (-k)) + Qab (-k - (-a)) + Qab (-a - (-k))) + 8≤(a - (-a))*(-a - (-k)) - (-k - (-k))*(-k - (-a))
       rw [show (a - (-a))*(-a - (-k)) - (-k - (-k))*(-k - (-a))=(-2)*(a*a) + (2)*(a*k) from by grind]
       unfold Qab; omega
 · refine ⟨?_,fun i hi h1 h2=>?_⟩
   · show 3*(Qab (k - a) + Qab (-a - (-k)) + Qab ((0:Int) - a) + Qab ((0:Int) - (-k))) + 8≤(k - a)*((0:Int) - (-k)) - (-a - (-k))*((0:Int) - a)
     rw [show (k - a)*((0:Int) - (-k)) - (-a - (-k))*((0:Int) - a)=(-1)*(a*a) + (1)*(k*k) from by grind]
     unfold Qab; omega
   · obtain rfl | rfl | rfl | rfl | rfl | rfl:i=1∨i=2∨i=3∨i=4∨i=5∨i=6:=by
       have h2:i≠0:=h2
       omega
     · show 3*(Qab (k - a) + Qab (-a - (-k)) + Qab (k - a) + Qab (a - (-k))) + 8≤(k - a)*(a - (-k)) - (-a - (-k))*(k - a)
       rw [show (k - a)*(a - (-k)) - (-a - (-k))*(k - a)=(-2)*(a*a) + (2)*(a*k) from by grind]
       unfold Qab; omega
     · show 3*(Qab (k - a) + Qab (-a - (-k)) + Qab (a - a) + Qab (k - (-k))) + 8≤(k - a)*(k - (-k)) - (-a - (-k))*(a - a)
       rw [show (k - a)*(k - (-k)) - (-a - (-k))*(a - a)=(-2)*(a*k) + (2)*(k*k) from by grind]
       unfold Qab; omega
     · show 3*(Qab (k - a) + Qab (-a - (-k)) + Qab (-a - a) + Qab (k - (-k))) + 8≤(k - a)*(k - (-k)) - (-a - (-k))*(-a - a)
       rw [show (k - a)*(k - (-k)) - (-a - (-k))*(-a - a)=(-2)*(a*a) + (2)*(k*k) from by grind]
       unfold Qab; omega
     · show 3*(Qab (k - a) + Qab (-a - (-k)) + Qab (-k - a) + Qab (a - (-k))) + 8≤(k - a)*(a - (-k)) - (-a - (-k))*(-k - a)
       rw [show (k - a)*(a - (-k)) - (-a - (-k))*(-k - a)=(-2)*(a*a) + (2)*(k*k) from by grind]
       unfold Qab; omega
     · show 3*(Qab (k - a) + Qab (-a - (-k)) + Qab (-k - a) + Qab (-a - (-k))) + 8≤(k - a)*(-a - (-k)) - (-a - (-k))*(-k - a)
       rw [show (k - a)*(-a - (-k)) - (-a - (-k))*(-k - a)=(-2)*(a*k) + (2)*(k*k) from by grind]
       unfold Qab; omega
     · show 3*(Qab (k - a) + Qab (-a - (-k)) + Qab (-a - a) + Qab (-k - (-k))) + 8≤(k - a)*(-k - (-k)) - (-a - (-k))*(-a - a)
       rw [show (k - a)*(-k - (-k)) - (-a - (-k))*(-a - a)=(-2)*(a*a) + (2)*(a*k) from by grind]
       unfold Qab; omega
theorem Zfl {w h:Int} (hw:16≤w∧w≤4096) (hh:16≤h∧h≤4096):SG 4 (Zad w h):=by
 have p1:16*w≤h*w:=Int.mul_le_mul_of_nonneg_right hh.1 (by omega)
 have p2:16*h≤h*w:=by have:=Int.mul_le_mul_of_nonneg_right hw.1 (show (0:Int)≤h by omega); grind
 intro j hj
 obtain rfl | rfl | rfl | rfl:j=0∨j=1∨j=2∨j=3:=by omega
 · refine ⟨?_,fun i hi h1 h2=>?_⟩
   · show 3*(Qab (w - (-w)) + Qab (-h - (-h)) + Qab ((0:Int) - (-w)) + Qab ((0:Int) - (-h))) + 8≤(w - (-w))*((0:Int) - (-h)) - (-h - (-h))*((0:Int) - (-w))
     rw [show (w - (-w))*((0:Int) - (-h)) - (-h - (-h))*((0:Int) - (-w))=(2)*(h*w) from by grind]
     unfold Qab; omega
   · obtain rfl | rfl:i=2∨i=3:=by
       have h2:i≠1:=h2
       omega
     · show 3*(Qab (w - (-w)) + Qab (-h - (-h)) + Qab (w - (-w)) + Qab (h - (-h))) + 8≤(w - (-w))*(h - (-h)) - (-h - (-h))*(w - (-w))
       rw [show (w - (-w))*(h - (-h)) - (-h - (-h))*(w - (-w))=(4)*(h*w) from by grind]
       unfold Qab; omega
     · show 3*(Qab (w - (-w)) + Qab (-h - (-h)) + Qab (-w - (-w)) + Qab (h - (-h))) + 8≤(w - (-w))*(h - (-h)) - (-h - (-h))*(-w - (-w))
       rw [show (w - (-w))*(h - (-h)) - (-h - (-h))*(-w - (-w))=(4)*(h*w) from by grind]
       unfold Qab; omega
 · refine ⟨?_,fun i hi h1 h2=>?_⟩
   · show 3*(Qab (w - w) + Qab (h - (-h)) + Qab ((0:Int) - w) + Qab ((0:Int) - (-h))) + 8≤(w - w)*((0:Int) - (-h)) - (h - (-h))*((0:Int) - w)
     rw [show (w - w)*((0:Int) - (-h)) - (h - (-h))*((0:Int) - w)=(2)*(h*w) from by grind]
     unfold Qab; omega
   · obtain rfl | rfl:i=0∨i=3:=by
       have h2:i≠2:=h2
       omega
     · show 3*(Qab (w - w) + Qab (h - (-h)) + Qab (-w - w) + Qab (-h - (-h))) + 8≤(w - w)*(-h - (-h)) - (h - (-h))*(-w - w)
       rw [show (w - w)*(-h - (-h)) - (h - (-h))*(-w - w)=(4)*(h*w) from by grind]
       unfold Qab; omega
     · show 3*(Qab (w - w) + Qab (h - (-h)) + Qab (-w - w) + Qab (h - (-h))) + 8≤(w - w)*(h - (-h)) - (h - (-h))*(-w - w)
       rw [show (w - w)*(h - (-h)) - (h - (-h))*(-w - w)=(4)*(h*w) from by grind]
       unfold Qab; omega
 · refine ⟨?_,fun i hi h1 h2=>?_⟩
   · show 3*(Qab (-w - w) + Qab (h - h) + Qab ((0:Int) - w) + Qab ((0:Int) - h)) + 8≤(-w - w)*((0:Int) - h) - (h - h)*((0:Int) - w)
     rw [show (-w - w)*((0:Int) - h) - (h - h)*((0:Int) - w)=(2)*(h*w) from by grind]
     unfold Qab; omega
   · obtain rfl | rfl:i=0∨i=1:=by
       have h2:i≠3:=h2
       omega
     · show 3*(Qab (-w - w) + Qab (h - h) + Qab (-w - w) + Qab (-h - h)) + 8≤(-w - w)*(-h - h) - (h - h)*(-w - w)
       rw [show (-w - w)*(-h - h) - (h - h)*(-w - w)=(4)*(h*w) from by grind]
       unfold Qab; omega
     · show 3*(Qab (-w - w) + Qab (h - h) + Qab (w - w) + Qab (-h - h)) + 8≤(-w - w)*(-h - h) - (h - h)*(w - w)
       rw [show (-w - w)*(-h - h) - (h - h)*(w - w)=(4)*(h*w) from by grind]
       unfold Qab; omega
 · refine ⟨?_,fun i hi h1 h2=>?_⟩
   · show 3*(Qab (-w - (-w)) + Qab (-h - h) + Qab ((0:Int) - (-w)) + Qab ((0:Int) - h)) + 8≤(-w - (-w))*((0:Int) - h) - (-h - h)*((0:Int) - (-w))
     rw [show (-w - (-w))*((0:Int) - h) - (-h - h)*((0:Int) - (-w))=(2)*(h*w) from by grind]
     unfold Qab; omega
   · obtain rfl | rfl:i=1∨i=2:=by
       have h2:i≠0:=h2
       omega
     · show 3*(Qab (-w - (-w)) + Qab (-h - h) + Qab (w - (-w)) + Qab (-h - h)) + 8≤(-w - (-w))*(-h - h) - (-h - h)*(w - (-w))
       rw [show (-w - (-w))*(-h - h) - (-h - h)*(w - (-w))=(4)*(h*w) from by grind]
       unfold Qab; omega
     · show 3*(Qab (-w - (-w)) + Qab (-h - h) + Qab (w - (-w)) + Qab (h - h)) + 8≤(-w - (-w))*(h - h) - (-h - h)*(w - (-w))
       rw [show (-w - (-w))*(h - h) - (-h - h)*(w - (-w))=(4)*(h*w) from by grind]
       unfold Qab; omega
theorem Zm7 (m:MD) (h:ksS m≠Q3a (ksX m.a m.a)):3≤Qb2 0 (ksS m) (ksN m)∧SG (Qb2 0 (ksS m) (ksN m)) (Qfx (ksS m) (ksG m)):=by
 have hA:=Qr9 m.a m.a
 have hB:=Qr9 m.a m.b
 have hK:=Qwf m.a m.a
 have hH:=Qwf m.a m.b
 have hh:2*(ksM m.a m.a / 2)≤ksM m.a m.a∧ksM m.a m.a≤2*(ksM m.a m.a / 2) + 1:=by omega
 rcases Qjb m with ⟨e1,e2⟩ | ⟨e1,e2⟩ | ⟨e1,e2,e3⟩ | ⟨e1,e2,e3⟩ | ⟨e1,e2,e3⟩
 · exact absurd e1 h
 · rw [e1,e2]
   exact ⟨by show 3≤4; omega,Zfl hA hB⟩
 · rw [e1,e2,e3]
   exact ⟨by show 3≤3; omega,Znn hK hH⟩
 · rw [e1,e2,e3]
   exact ⟨by show 3≤5; omega,Znm hK hH hh⟩
 · rw [e1,e2,e3]
   exact ⟨by show 3≤8; omega,Znl hK hh⟩
end Go.Proofs.YthkihlpeaidlnaaGreat
end
section
namespace Go.Proofs.YthkihlpeaidlnaaGreat
open Go.RowKit Go.SE
def fzR (g:Nat→Int×Int):Nat→List Value:=fun i=>[.int .i64 (g i).1,.int .i64 (g i).2]
structure FM where
 k:Int
 a:Int
 b:Int
 r:Int
 n:Nat
 row:Nat→List Value
def FM.g (f:FM):Nat→Int×Int:=fun i=>gi ((f.row i).map SV.v)
def Zne (m:MD) (s:Int):FM:=⟨Qrv (ksS m),(Qfi (Qk3 m s)).1,(Qfi (Qk3 m s)).2,(ksS m).r,Qb2 0 (ksS m) (ksN m),fzR (Qnr (ksS m) (Qk3 m s) (Qq5 m) (ksG m))⟩
noncomputable def Qba (m:MD):FM:=hid (Zne m 12)
def FM.fine (f:FM):Prop:=(∀ i,i<f.n→f.row i=[.int .i64 (f.g i).1,.int .i64 (f.g i).2])∧Qhj f.k (f.a,f.b) f.r f.n f.g
noncomputable def FM.bx (f:FM):BxI:=hid (fbx f.k (f.a,f.b) f.r f.n f.g)
def fmC (f:FM):List SV:=[.v (.int .i64 f.k),.v (.int .i64 f.a),.v (.int .i64 f.b),.v (.int .i64 f.r),.fz 2 f.n f.row]
def fmE0 (q:Prop) (m:MD):Eff:=.nd q Nat 0 (fun c=>fmS (Qrv (ksS m)) (Qfi (Qk3 m 12)) (ksS m).r (.sl 1000 2 0 (Qb2 0 (ksS m) (ksN m)) (Qb2 0 (ksS m) (ksN m) + c))) fun c=>[(1000,spB (Qb2 0 (ksS m) (ksN m)) (Qb2 0 (ksS m) (ksN m) + c) (Qnr (ksS m) (Qk3 m 12) (Qq5 m) (ksG m)))]
noncomputable def Zgf:Qbz:=Qai (Qai (Qai Qbi 36 (Qcz false Zmf)) 37 (Qao Zcv)) 35 (Qcz false Zmi)
theorem Zb4 (m:MD) (q:Prop):(Qcf Tryz.prog Zgf Qay Tryz.f7 [mdS m,iV 12] (Qaf []) 64 (fun y h'=>Qgb [] (fmE0 q m) y h')) =
((mdI m)∧(∀ c:Nat,((((0:Int)<12)∧((12:Int)<1073741824))∧(((Zfv (ksS m) (Qk3 m 12) (Qq5 m) (ksN m) (Qc1 (Qa1 (Qra (Can.es {es:=[],bs:=[],ro:=true}) 88 (spB (ksN m) (ksN m + c) (ksG m))) 2 0 (ksN m))))∧(Qcu (ksN m) (Qa1 (Qra (Can.es {es:=[],bs:=[],ro:=true}) 88 (spB (ksN m) (ksN m + c) (ksG m))) 2 0 (ksN m))))∧(∀ c_1:Nat,(∃ c_2:Nat,((((yI (Qrv (ksS m)))=(yI (Qrv (ksS m))))∧(((yI (Prod.fst (Qfi (Qk3 m 12))))=(yI (Prod.fst (Qfi (Qk3 m 12)))))∧(((yI (Prod.snd (Qfi (Qk3 m 12))))=(yI (Prod.snd (Qfi (Qk3 m 12)))))∧(((yI (ShB.r (ksS m)))=(yI (ShB.r (ksS m))))∧((SV.sl 120 2 0 (Qb2 0 (ksS m) (ksN m)) (Qb2 0 (ksS m) (ksN m) + c_1))=(SV.sl 120 2 0 (Qb2 0 (ksS m) (ksN m)) (Qb2 0 (ksS m) (ksN m) + c_2)))))))∧((((Qb2 0 (ksS m) (ksN m)):Nat)=(Qb2 0 (ksS m) (ksN m)))∧((((Qb2 0 (ksS m) (ksN m) + c_2):Nat)≤(Qb2 0 (ksS m) (ksN m) + c_1))∧(∀ i:Nat,(((i:Nat)<(Qb2 0 (ksS m) (ksN m)))→([(yI (Prod.fst (Qnr (ksS m) (Qk3 m 12) (Qq5 m) (Qc1 (Qa1 (Qra (Can.es {es:=[],bs:=[],ro:=true}) 88 (spB (ksN m) (ksN m + c) (ksG m))) 2 0 (ksN m))) i))),(yI (Prod.snd (Qnr (ksS m) (Qk3 m 12) (Qq5 m) (Qc1 (Qa1 (Qra (Can.es {es:=[],bs:=[],ro:=true}) 88 (spB (ksN m) (ksN m + c) (ksG m))) 2 0 (ksN m))) i)))]=[(yI (Prod.fst (Qnr (ksS m) (Qk3 m 12) (Qq5 m) (ksG m) i))),(yI (Prod.snd (Qnr (ksS m) (Qk3 m 12) (Qq5 m) (ksG m) i)))])))))))))))):=by kernel_rfl
def Q9m (args:List SV) (bs:List Blk):Option Eff:=match args,bs with
 | [.agg [.v (.int .i64 k),.v (.int .i64 a),.v (.int .i64 b),.v (.int .i64 x),.v (.int .i64 y),.v (.int .i64 w)],.v (.int .i64 s)],[]=>some (fmE0 (mdI ⟨k,a,b,x,y,w⟩∧s=12) ⟨k,a,b,x,y,w⟩)
 | _,_=>none
noncomputable def Q04 (args:List SV) (bs:List Blk):Option Eff:=match args,bs with
 | [.agg [.v (.int .i64 k),.v (.int .i64 a),.v (.int .i64 b),.v (.int .i64 x),.v (.int .i64 y),.v (.int .i64 w)],.v (.int .i64 s)],[]=>some (.det (some (mdI ⟨k,a,b,x,y,w⟩∧s=12)) (.agg (fmC (Qba ⟨k,a,b,x,y,w⟩))) [])
 | _,_=>none
theorem Zio (m:MD):Zf3 (Qk3 m 12):=by
 have h:=Qhd m.x (s:=12) (m:=51539607552) (by rfl) (by decide)
 have k:=Qhd m.y (s:=12) (m:=51539607552) (by rfl) (by decide)
 exact ⟨⟨rfl,rfl⟩,⟨by show _≤(Qgz m.x 12).v; omega,by show (Qgz m.x 12).v≤_; omega⟩,⟨by show _≤(Qgz m.y 12).v; omega,by show (Qgz m.y 12).v≤_; omega⟩⟩
theorem Q6t {x:Int} (h:Q12 x):Q13 x:=⟨by have:=h.1; omega,by have:=h.2; omega⟩
theorem Ze1 {p:VB} (hp:Zf3 p):(-1024001≤(Qfi p).1∧(Qfi p).1≤1024001)∧-1024001≤(Qfi p).2∧(Qfi p).2≤1024001:=by
 have e:p=⟨⟨p.x.v,false⟩,⟨p.y.v,false⟩⟩:=by
   obtain ⟨⟨fx,fy⟩,-⟩:=hp
   obtain ⟨⟨x,f⟩,⟨y,g⟩⟩:=p
   obtain rfl:f=false:=fx
   obtain rfl:g=false:=fy
   rfl
 obtain ⟨-,px,py⟩:=hp
 rw [e]
 unfold Qfi
 simp only
 rw [Qn5 ⟨by omega,by omega⟩,Qn5 ⟨by omega,by omega⟩]
 omega
theorem Znd (m:MD):Qhj (Qrv (ksS m)) (Qfi (Qk3 m 12)) (ksS m).r (Qb2 0 (ksS m) (ksN m)) (Qnr (ksS m) (Qk3 m 12) (Qq5 m) (ksG m)):=by
 show Qhj (Qrv (ksS m)) (Qfi (Qk3 m 12)) (ksS m).r (Qb2 0 (ksS m) (ksN m)) (Qnr (ksS m) (Qk3 m 12) (Qq5 m) (ksG m))
 have hp:=Zio m
 have hr:=Zm1 m
 have hz:Q13 0:=⟨by decide,by decide⟩
 have hcn:=Q7s (r:=Qq5 m) hp
 have f0:=Qr4 (l:=(0,0)) hp hr hz hz hcn
 have hci:=Ze1 hp
 by_cases hk:ksS m=Q3a (ksX m.a m.a)
 · have hN:Qb2 0 (ksS m) (ksN m)=0:=by
     rw [hk]
     rcases Qjb m with ⟨_,e2⟩ | ⟨e1,_⟩ | ⟨e1,_,_⟩ | ⟨e1,_,_⟩ | ⟨e1,_,_⟩
     · rw [e2]; rfl
     all_goals rw [hk] at e1; exact absurd (congrArg ShB.k e1) (by first | exact (by decide:¬ (1:Int)=2) | exact (by decide:¬ (1:Int)=3))
   have hx:=Qr9 m.a m.a
   rw [hN,hk]
   refine Or.inl ⟨rfl,rfl,f0,⟨?_,?_⟩,⟨⟨?_,?_⟩,⟨?_,?_⟩⟩,⟨?_,?_⟩,⟨?_,?_⟩⟩
   all_goals
     show (_:Int)≤_
     simp only [Q3a]
     omega
 · obtain ⟨h3,hg⟩:=Zm7 m hk
   obtain ⟨_,hch,_,_,h8,_⟩:=Quk m
   have hq:=Zjs hch
   have hk2:Qrv (ksS m)=2:=by
     rcases Qjb m with ⟨e1,_⟩ | ⟨e1,_⟩ | ⟨e1,_,_⟩ | ⟨e1,_,_⟩ | ⟨e1,_,_⟩
     · exact absurd e1 hk
     all_goals rw [e1]; rfl
   have hr0:(ksS m).r=0:=by
     rcases Qjb m with ⟨e1,_⟩ | ⟨e1,_⟩ | ⟨e1,_,_⟩ | ⟨e1,_,_⟩ | ⟨e1,_,_⟩
     · exact absurd e1 hk
     all_goals rw [e1]; rfl
   have hnr:∀ i,i<Qb2 0 (ksS m) (ksN m)→Qs5 (Qk3 m 12) (Qq5 m) (Qfx (ksS m) (ksG m) i) (Qnr (ksS m) (Qk3 m 12) (Qq5 m) (ksG m) i):=fun i hi=>Q6w hp hr (Q6t (hq i hi).1) (Q6t (hq i hi).2)
   have hfr:∀ i,i<Qb2 0 (ksS m) (ksN m)→P21 (Qnr (ksS m) (Qk3 m 12) (Qq5 m) (ksG m) i).1∧P21 (Qnr (ksS m) (Qk3 m 12) (Qq5 m) (ksG m) i).2:=fun i hi=>Qr4 hp hr (Q6t (hq i hi).1) (Q6t (hq i hi).2) (hnr i hi)
   have hmod:∀ k,(k + 1) % Qb2 0 (ksS m) (ksN m)<Qb2 0 (ksS m) (ksN m):=fun k=>Nat.mod_lt _ (by omega)
   rw [hk2,hr0]
   exact Or.inr ⟨rfl,rfl,f0,⟨h3,h8⟩,hfr,fun k i hkn hi n1 n2=>Zcc hr (hnr k hkn) (hnr _ (hmod k)) (hnr i hi) ((hg k hkn).2 i hi n1 n2)⟩
theorem Zes (m:MD):(Qba m).fine:=by
 unfold Qba
 rw [Qok]
 exact ⟨fun i hi=>rfl,Znd m⟩
theorem Zds (m:MD):Zfv (ksS m) (Qk3 m 12) (Qq5 m) (ksN m) (ksG m):=by
 obtain ⟨h1,h2,h3,h4,h5,h6⟩:=Quk m
 have ins:∀ x:Int,Q91 (Qgz x 12)=true:=fun x=>by
   have h:=Qhd x (s:=12) (m:=51539607552) (by rfl) (by decide)
   have e:(Qyt (Qgz x 12))=⟨Qab (Qgz x 12).v,false⟩:=by
     unfold Qyt
     rw [Qdf (by omega),Qcp (by omega)]; rfl
   unfold Q91
   rw [e]
   show (!(false||decide (Qab (Qgz x 12).v > 17592186044416)))=true
   rw [decide_eq_false (by unfold Qab; split <;> omega)]; rfl
 have hx:=Qhd m.x (s:=12) (m:=51539607552) (by rfl) (by decide)
 have hy:=Qhd m.y (s:=12) (m:=51539607552) (by rfl) (by decide)
 exact ⟨h1,⟨⟨by show _≤(Qgz m.x 12).v; omega,by show (Qgz m.x 12).v<_; omega⟩,⟨by show _≤(Qgz m.y 12).v; omega,by show (Qgz m.y 12).v<_; omega⟩⟩,Zm0 (Q9o m),h2,(Q9o m).2.2.2.2,ins m.x,ins m.y,by omega⟩
theorem Q5m:∀ f g,Zgf f=some g→g.ok Tryz.prog f:=Qad (Qad (Qad Qam (Qc4 Tryz.func36 (by kernel_rfl) (by kernel_rfl) Q8q)) (Qas Tryz.func37 (by kernel_rfl) (by kernel_rfl) Q4i)) (Qc4 Tryz.func35 (by kernel_rfl) (by kernel_rfl) Q38)
theorem Qyl:Qbv Tryz.prog 7 Q9m:=Qb0 hm Q5m Tryz.func7 (Λ:=fun _ _=>Qay) fun args bs e hs hp=>by
 unfold Q9m at hs
 split at hs <;> try (cases hs; done)
 rename_i k a b x y w s
 cases hs
 obtain ⟨h0,rfl⟩:mdI ⟨k,a,b,x,y,w⟩∧s=12:=hp
 refine ⟨[],trivial,?_⟩
 obtain ⟨m,hm'⟩:∃ m:MD,m=⟨k,a,b,x,y,w⟩:=⟨_,rfl⟩
 have hP:=Zds m
 obtain ⟨h1,h2,h3,h4,h5,h6⟩:=Quk m
 have hn:ksN m<1099511627776:=by omega
 rw [← hm'] at h0 ⊢
 have hv:=Zb4 m (mdI m∧(12:Int)=12)
 subst hm'
 refine Eq.mpr hv ⟨h0,fun c=>?_⟩
 rw [Q5s]
 exact ⟨⟨by decide,by decide⟩,⟨hP,Q6u hn h6⟩,fun c1=>⟨c1,⟨rfl,rfl,rfl,rfl,rfl⟩,rfl,Nat.le_refl _,fun i hi=>rfl⟩⟩
theorem Qyk:Qbv Tryz.prog 7 Q04:=Qur Qyl fun args bs e hs hp=>by
 unfold Q04 at hs
 split at hs <;> try (cases hs; done)
 rename_i k a b x y w s
 cases hs
 have hq:=hp _ rfl
 refine ⟨by show (0:Nat)≤1000; omega,_,rfl,hq,fun x0 u0 ho=>?_⟩
 obtain ⟨c,rfl,rfl⟩:=ho
 unfold Qba
 rw [Qok]
 exact ⟨_,_,⟨rfl,rfl⟩,.inr ⟨_,rfl,rfl,rfl,rfl,fun i hi=>by
   intro z hz
   simp only [spB,Qbw,List.mem_cons,List.not_mem_nil,or_false] at hz
   rcases hz with rfl | rfl <;> exact ⟨_,rfl⟩,rfl,by
   simp only [fmS,fmL,okF,Zfw]
   exact ⟨trivial,trivial,trivial,trivial,.inl ⟨trivial,trivial,rfl,Nat.le_refl _,by omega⟩,trivial⟩⟩⟩
noncomputable def Zgg:Qbz:=Qai Qbi 43 (Qcz false Zkp)
def Znf (k:Int) (c:Int×Int) (r:Int) (nm n cap:Nat) (z:SV→Eff):Eff:=bif k==1 then z (dsS c r) else z (plS nm n cap)
def Zf1 (q:Prop) (k:Int) (c:Int×Int) (r:Int) (n cap:Nat) (k2:Int) (d:Int×Int) (s:Int) (n2 cap2:Nat):Eff:=Znf k c r 0 n cap fun x=>Znf k2 d s 1 n2 cap2 fun y=>.det (some q) (.tup [x,y,.v (.bool true)]) []
def Zdg (args:List SV) (bs:List Blk):Option Eff:=match args,bs with
 | [.agg [.v (.int .i64 k),.v (.int .i64 a),.v (.int .i64 b),.v (.int .i64 r),.sl 0 2 0 n cap],.agg [.v (.int .i64 k2),.v (.int .i64 a2),.v (.int .i64 b2),.v (.int .i64 r2),.sl 1 2 0 n2 cap2]],[B,B2]=>bif okB B&&okB B2 then some (Zf1 ((Qcu n B∧Qhj k (a,b) r n (Qc1 B))∧Qcu n2 B2∧Qhj k2 (a2,b2) r2 n2 (Qc1 B2)) k (a,b) r n cap k2 (a2,b2) r2 n2 cap2) else none
 | _,_=>none
theorem Q55 (c d:Int×Int) (r s:Int) (cap cap2:Nat) (B B2:Blk) (g h:Nat→Int×Int) (q:Prop):(Qcf Tryz.prog Zgg Qay Tryz.f56 [fmS 1 c r (.sl 0 2 0 0 cap),fmS 1 d s (.sl 1 2 0 0 cap2)] (Qaf [rdB B 0 g,rdB B2 0 h]) 64 (fun y h'=>Qgb [rdB B 0 g,rdB B2 0 h] (Zf1 q 1 c r 0 cap 1 d s 0 cap2) y h'))=(((Qcu 0 (Qa1 (rdB B 0 g) 2 0 0))∧(Qhj 1 (Prod.fst c,Prod.snd c) r 0 (Qc1 (Qa1 (rdB B 0 g) 2 0 0))))∧(((Qcu 0 (Qa1 (rdB B2 0 h) 2 0 0))∧(Qhj 1 (Prod.fst d,Prod.snd d) s 0 (Qc1 (Qa1 (rdB B2 0 h) 2 0 0))))∧((((SV.v (Value.iface 201 (Value.agg #[.int .i64 (Prod.fst (Prod.fst c,Prod.snd c)),.int .i64 (Prod.snd (Prod.fst c,Prod.snd c)),.int .i64 r])))=(SV.v (Value.iface 201 (Value.agg #[.int .i64 (Prod.fst c),.int .i64 (Prod.snd c),.int .i64 r]))))∧(((SV.v (Value.iface 201 (Value.agg #[.int .i64 (Prod.fst (Prod.fst d,Prod.snd d)),.int .i64 (Prod.snd (Prod.fst d,Prod.snd d)),.int .i64 s])))=(SV.v (Value.iface 201 (Value.agg #[.int .i64 (Prod.fst d),.int .i64 (Prod.snd d),.int .i64 s]))))∧((yF true)=(yF true))))∧True))):=by kernel_rfl
theorem Q54 (c d:Int×Int) (r:Int) (n2 cap cap2:Nat) (B B2:Blk) (g h:Nat→Int×Int) (q:Prop):(Qcf Tryz.prog Zgg Qay Tryz.f56 [fmS 1 c r (.sl 0 2 0 0 cap),fmS 2 d 0 (.sl 1 2 0 n2 cap2)] (Qaf [rdB B 0 g,rdB B2 n2 h]) 64 (fun y h'=>Qgb [rdB B 0 g,rdB B2 n2 h] (Zf1 q 1 c r 0 cap 2 d 0 n2 cap2) y h'))=(((Qcu 0 (Qa1 (rdB B 0 g) 2 0 0))∧(Qhj 1 (Prod.fst c,Prod.snd c) r 0 (Qc1 (Qa1 (rdB B 0 g) 2 0 0))))∧(((Qcu n2 (Qa1 (rdB B2 n2 h) 2 0 n2))∧(Qhj 2 (Prod.fst d,Prod.snd d) 0 n2 (Qc1 (Qa1 (rdB B2 n2 h) 2 0 n2))))∧((((SV.v (Value.iface 201 (Value.agg #[.int .i64 (Prod.fst (Prod.fst c,Prod.snd c)),.int .i64 (Prod.snd (Prod.fst c,Prod.snd c)),.int .i64 r])))=(SV.v (Value.iface 201 (Value.agg #[.int .i64 (Prod.fst c),.int .i64 (Prod.snd c),.int .i64 r]))))∧(((203=203)∧((SV.sl 1 2 0 n2 cap2)=(SV.sl 1 2 0 n2 cap2)))∧((yF true)=(yF true))))∧True))):=by kernel_rfl
theorem Q53 (c d:Int×Int) (s:Int) (n cap cap2:Nat) (B B2:Blk) (g h:Nat→Int×Int) (q:Prop):(Qcf Tryz.prog Zgg Qay Tryz.f56 [fmS 2 c 0 (.sl 0 2 0 n cap),fmS 1 d s (.sl 1 2 0 0 cap2)] (Qaf [rdB B n g,rdB B2 0 h]) 64 (fun y h'=>Qgb [rdB B n g,rdB B2 0 h] (Zf1 q 2 c 0 n cap 1 d s 0 cap2) y h'))=(((Qcu n (Qa1 (rdB B n g) 2 0 n))∧(Qhj 2 (Prod.fst c,Prod.snd c) 0 n (Qc1 (Qa1 (rdB B n g) 2 0 n))))∧(((Qcu 0 (Qa1 (rdB B2 0 h) 2 0 0))∧(Qhj 1 (Prod.fst d,Prod.snd d) s 0 (Qc1 (Qa1 (rdB B2 0 h) 2 0 0))))∧((((203=203)∧((SV.sl 0 2 0 n cap)=(SV.sl 0 2 0 n cap)))∧(((SV.v (Value.iface 201 (Value.agg #[.int .i64 (Prod.fst (Prod.fst d,Prod.snd d)),.int .i64 (Prod.snd (Prod.fst d,Prod.snd d)),.int .i64 s])))=(SV.v (Value.iface 201 (Value.agg #[.int .i64 (Prod.fst d),.int .i64 (Prod.snd d),.int .i64 s]))))∧((yF true)=(yF true))))∧True))):=by kernel_rfl
theorem Q52 (c d:Int×Int) (n n2 cap cap2:Nat) (B B2:Blk) (g h:Nat→Int×Int) (q:Prop):(Qcf Tryz.prog Zgg Qay Tryz.f56 [fmS 2 c 0 (.sl 0 2 0 n cap),fmS 2 d 0 (.sl 1 2 0 n2 cap2)] (Qaf [rdB B n g,rdB B2 n2 h]) 64 (fun y h'=>Qgb [rdB B n g,rdB B2 n2 h] (Zf1 q 2 c 0 n cap 2 d 0 n2 cap2) y h'))=(((Qcu n (Qa1 (rdB B n g) 2 0 n))∧(Qhj 2 (Prod.fst c,Prod.snd c) 0 n (Qc1 (Qa1 (rdB B n g) 2 0 n))))∧(((Qcu n2 (Qa1 (rdB B2 n2 h) 2 0 n2))∧(Qhj 2 (Prod.fst d,Prod.snd d) 0 n2 (Qc1 (Qa1 (rdB B2 n2 h) 2 0 n2))))∧((((203=203)∧((SV.sl 0 2 0 n cap)=(SV.sl 0 2 0 n cap)))∧(((203=203)∧((SV.sl 1 2 0 n2 cap2)=(SV.sl 1 2 0 n2 cap2)))∧((yF true)=(yF true))))∧True))):=by kernel_rfl
noncomputable def Zgh:Qbz:=Qai (Qai Qbi 56 (Qcz false Zdg)) 57 (Qfc Zmx)
theorem Zh0 (c d:Int×Int) (r s:Int) (cap cap2 n' n2':Nat) (g h:Nat→Int×Int) (R:SV→Prop):(Qcf Tryz.prog Zgh Qay Tryz.f18 [fmS 1 c r (.sl 0 2 0 0 cap),fmS 1 d s (.sl 1 2 0 0 cap2)] (Qbl [⟨2,n',Qbw g⟩,⟨2,n2',Qbw h⟩]) 64 (fun y _=>R y))=((((Qcu 0 (Qa1 (Ro.blk {s:=2,n:=n',row:=fun i=>[yI (Prod.fst (g i)),yI (Prod.snd (g i))]}) 2 0 0))∧(Qhj 1 (Prod.fst c,Prod.snd c) r 0 (Qc1 (Qa1 (Ro.blk {s:=2,n:=n',row:=fun i=>[yI (Prod.fst (g i)),yI (Prod.snd (g i))]}) 2 0 0))))∧((Qcu 0 (Qa1 (Ro.blk {s:=2,n:=n2',row:=fun i=>[yI (Prod.fst (h i)),yI (Prod.snd (h i))]}) 2 0 0))∧(Qhj 1 (Prod.fst d,Prod.snd d) s 0 (Qc1 (Qa1 (Ro.blk {s:=2,n:=n2',row:=fun i=>[yI (Prod.fst (h i)),yI (Prod.snd (h i))]}) 2 0 0)))))∧(((dskP (Prod.fst (Prod.fst c,Prod.snd c),Prod.snd (Prod.fst c,Prod.snd c)) r)∧((dskP (Prod.fst (Prod.fst d,Prod.snd d),Prod.snd (Prod.fst d,Prod.snd d)) s)∧(Qhz (dBx (Prod.fst (Prod.fst c,Prod.snd c),Prod.snd (Prod.fst c,Prod.snd c)) r) (dBx (Prod.fst (Prod.fst d,Prod.snd d),Prod.snd (Prod.fst d,Prod.snd d)) s))))∧(R (yF true)))):=by kernel_rfl
theorem Zhz (c d:Int×Int) (r:Int) (n2 cap cap2 n' n2':Nat) (g h:Nat→Int×Int) (R:SV→Prop):(Qcf Tryz.prog Zgh Qay Tryz.f18 [fmS 1 c r (.sl 0 2 0 0 cap),fmS 2 d 0 (.sl 1 2 0 n2 cap2)] (Qbl [⟨2,n',Qbw g⟩,⟨2,n2',Qbw h⟩]) 64 (fun y _=>R y)) =
((((Qcu 0 (Qa1 (Ro.blk {s:=2,n:=n',row:=fun i=>[yI (Prod.fst (g i)),yI (Prod.snd (g i))]}) 2 0 0))∧(Qhj 1 (Prod.fst c,Prod.snd c) r 0 (Qc1 (Qa1 (Ro.blk {s:=2,n:=n',row:=fun i=>[yI (Prod.fst (g i)),yI (Prod.snd (g i))]}) 2 0 0))))∧((Qcu n2 (Qa1 (Ro.blk {s:=2,n:=n2',row:=fun i=>[yI (Prod.fst (h i)),yI (Prod.snd (h i))]}) 2 0 n2))∧(Qhj 2 (Prod.fst d,Prod.snd d) 0 n2 (Qc1 (Qa1 (Ro.blk {s:=2,n:=n2',row:=fun i=>[yI (Prod.fst (h i)),yI (Prod.snd (h i))]}) 2 0 n2)))))∧((((n2:Nat)=n2)∧((spF n2 fun y=>[yI (Prod.fst (h (0 + y))),yI (Prod.snd (h (0 + y)))])∧((Qpw (0,0) n2 fun i=>gi [yI (Prod.fst (h (0 + i))),yI (Prod.snd (h (0 + i)))])∧((dskP (Prod.fst (Prod.fst c,Prod.snd c),Prod.snd (Prod.fst c,Prod.snd c)) r)∧(Qhz (pBx n2 fun i=>gi [yI (Prod.fst (h (0 + i))),yI (Prod.snd (h (0 + i)))]) (dBx (Prod.fst (Prod.fst c,Prod.snd c),Prod.snd (Prod.fst c,Prod.snd c)) r))))))∧(R (yF true)))):=by kernel_rfl
theorem Zhy (c d:Int×Int) (s:Int) (n cap cap2 n' n2':Nat) (g h:Nat→Int×Int) (R:SV→Prop):(Qcf Tryz.prog Zgh Qay Tryz.f18 [fmS 2 c 0 (.sl 0 2 0 n cap),fmS 1 d s (.sl 1 2 0 0 cap2)] (Qbl [⟨2,n',Qbw g⟩,⟨2,n2',Qbw h⟩]) 64 (fun y _=>R y)) =
((((Qcu n (Qa1 (Ro.blk {s:=2,n:=n',row:=fun i=>[yI (Prod.fst (g i)),yI (Prod.snd (g i))]}) 2 0 n))∧(Qhj 2 (Prod.fst c,Prod.snd c) 0 n (Qc1 (Qa1 (Ro.blk {s:=2,n:=n',row:=fun i=>[yI (Prod.fst (g i)),yI (Prod.snd (g i))]}) 2 0 n))))∧((Qcu 0 (Qa1 (Ro.blk {s:=2,n:=n2',row:=fun i=>[yI (Prod.fst (h i)),yI (Prod.snd (h i))]}) 2 0 0))∧(Qhj 1 (Prod.fst d,Prod.snd d) s 0 (Qc1 (Qa1 (Ro.blk {s:=2,n:=n2',row:=fun i=>[yI (Prod.fst (h i)),yI (Prod.snd (h i))]}) 2 0 0)))))∧((((n:Nat)=n)∧((spF n fun y=>[yI (Prod.fst (g (0 + y))),yI (Prod.snd (g (0 + y)))])∧((Qpw (0,0) n fun i=>gi [yI (Prod.fst (g (0 + i))),yI (Prod.snd (g (0 + i)))])∧((dskP (Prod.fst (Prod.fst d,Prod.snd d),Prod.snd (Prod.fst d,Prod.snd d)) s)∧(Qhz (pBx n fun i=>gi [yI (Prod.fst (g (0 + i))),yI (Prod.snd (g (0 + i)))]) (dBx (Prod.fst (Prod.fst d,Prod.snd d),Prod.snd (Prod.fst d,Prod.snd d)) s))))))∧(R (yF true)))):=by kernel_rfl
theorem Zhx (c d:Int×Int) (n n2 cap cap2 n' n2':Nat) (g h:Nat→Int×Int) (R:SV→Prop):(Qcf Tryz.prog Zgh Qay Tryz.f18 [fmS 2 c 0 (.sl 0 2 0 n cap),fmS 2 d 0 (.sl 1 2 0 n2 cap2)] (Qbl [⟨2,n',Qbw g⟩,⟨2,n2',Qbw h⟩]) 64 (fun y _=>R y)) =
((((Qcu n (Qa1 (Ro.blk {s:=2,n:=n',row:=fun i=>[yI (Prod.fst (g i)),yI (Prod.snd (g i))]}) 2 0 n))∧(Qhj 2 (Prod.fst c,Prod.snd c) 0 n (Qc1 (Qa1 (Ro.blk {s:=2,n:=n',row:=fun i=>[yI (Prod.fst (g i)),yI (Prod.snd (g i))]}) 2 0 n))))∧((Qcu n2 (Qa1 (Ro.blk {s:=2,n:=n2',row:=fun i=>[yI (Prod.fst (h i)),yI (Prod.snd (h i))]}) 2 0 n2))∧(Qhj 2 (Prod.fst d,Prod.snd d) 0 n2 (Qc1 (Qa1 (Ro.blk {s:=2,n:=n2',row:=fun i=>[yI (Prod.fst (h i)),yI (Prod.snd (h i))]}) 2 0 n2)))))∧(((((n:Nat)=n)∧((spF n fun y=>[yI (Prod.fst (g (0 + y))),yI (Prod.snd (g (0 + y)))])∧(Qpw (0,0) n fun i=>gi [yI (Prod.fst (g (0 + i))),yI (Prod.snd (g (0 + i)))])))∧((((n2:Nat)=n2)∧((spF n2 fun y=>[yI (Prod.fst (h (0 + y))),yI (Prod.snd (h (0 + y)))])∧(Qpw (0,0) n2 fun i=>gi [yI (Prod.fst (h (0 + i))),yI (Prod.snd (h (0 + i)))])))∧(Qhz (pBx n fun i=>gi [yI (Prod.fst (g (0 + i))),yI (Prod.snd (g (0 + i)))]) (pBx n2 fun i=>gi [yI (Prod.fst (h (0 + i))),yI (Prod.snd (h (0 + i)))]))))∧(R (yF true)))):=by kernel_rfl
def Zib:List SV→List Ro→Option (Option Prop×SV)
 | [.agg [.v (.int .i64 k),.v (.int .i64 a),.v (.int .i64 b),.v (.int .i64 r),.sl 0 2 0 n _],.agg [.v (.int .i64 k2),.v (.int .i64 a2),.v (.int .i64 b2),.v (.int .i64 r2),.sl 1 2 0 n2 _]],[⟨2,n',row⟩,⟨2,n2',row2⟩]=>some (some ((n'=n∧Qih n row∧Qhj k (a,b) r n (fun i=>gi (row i)))∧(n2'=n2∧Qih n2 row2∧Qhj k2 (a2,b2) r2 n2 (fun i=>gi (row2 i)))∧Qhz (fbx k (a,b) r n fun i=>gi (row i)) (fbx k2 (a2,b2) r2 n2 fun i=>gi (row2 i))),.v (.bool true))
 | _,_=>none
noncomputable def Zdf (args:List SV) (bs:List Blk):Option Eff:=match args,bs with
 | [.agg [.v (.int .i64 k),.v (.int .i64 a),.v (.int .i64 b),.v (.int .i64 r),.fz 2 n row]],[]=>some (.det (some (FM.fine ⟨k,a,b,r,n,row⟩)) (bxS (FM.bx ⟨k,a,b,r,n,row⟩)) [])
 | _,_=>none
noncomputable def Zmy (args:List SV) (bs:List Blk):Option Eff:=match args,bs with
 | [.agg [.v (.int .i64 k),.v (.int .i64 a),.v (.int .i64 b),.v (.int .i64 r),.fz 2 n row],.agg [.v (.int .i64 k2),.v (.int .i64 a2),.v (.int .i64 b2),.v (.int .i64 r2),.fz 2 n2 row2]],[]=>some (.det (some (FM.fine ⟨k,a,b,r,n,row⟩∧FM.fine ⟨k2,a2,b2,r2,n2,row2⟩∧Qhz (FM.bx ⟨k,a,b,r,n,row⟩) (FM.bx ⟨k2,a2,b2,r2,n2,row2⟩))) (.v (.bool true)) [])
 | _,_=>none
theorem Zbf:∀ f g,Zgg f=some g→g.ok Tryz.prog f:=Qad Qam (Qc4 Tryz.func43 (by kernel_rfl) (by kernel_rfl) Qw4)
theorem Qwl {k:Int} {c:Int×Int} {r:Int} {n:Nat} {g:Nat→Int×Int} (h:Qhj k c r n g):n<1099511627776∧∀ i,i<n→I64 (g i).1∧I64 (g i).2:=by
 rcases h with ⟨_,rfl,_⟩ | ⟨_,_,h⟩
 · exact ⟨by decide,fun i hi=>absurd hi (Nat.not_lt_zero _)⟩
 · have:=h.2.1.2
   exact ⟨by omega,fun i hi=>⟨(h.2.2.1 i hi).1.i64,(h.2.2.1 i hi).2.i64⟩⟩
theorem Q9e {B:Blk} {n:Nat} {g:Nat→Int×Int} (h:n<1099511627776∧∀ i,i<n→I64 (g i).1∧I64 (g i).2):Qcu n (Qa1 (rdB B n g) 2 0 n)∧Qc1 (Qa1 (rdB B n g) 2 0 n)=g:=by
 refine Qvc h.1 h.2 fun y=>?_
 rw [Nat.zero_add]; rfl
theorem Q46:Qbv Tryz.prog 56 Zdg:=Qb0 hm Zbf Tryz.func56 (Λ:=fun _ _=>Qay) fun args bs e hs hp=>by
 unfold Zdg at hs
 split at hs <;> try (cases hs; done)
 rename_i k a b r n cap k2 a2 b2 r2 n2 cap2 B B2
 obtain ⟨hB,he⟩:=Qq0 hs
 subst he
 rw [Bool.and_eq_true] at hB
 have hq:(Qcu n B∧Qhj k (a,b) r n (Qc1 B))∧Qcu n2 B2∧Qhj k2 (a2,b2) r2 n2 (Qc1 B2):=by
   unfold Zf1 Znf at hp
   cases hk:(k==1) <;> cases hk2:(k2==1) <;> simp only [hk,hk2,cond_true,cond_false] at hp <;> exact hp _ rfl
 obtain ⟨⟨p1,f1⟩,p2,f2⟩:=hq
 have w1:=Q9e (B:=B) (Qwl f1)
 have w2:=Q9e (B:=B2) (Qwl f2)
 refine ⟨[rdB B n (Qc1 B),rdB B2 n2 (Qc1 B2)],⟨Qju hB.1 p1,Qju hB.2 p2,trivial⟩,?_⟩
 generalize Qc1 B=g at *
 generalize Qc1 B2=h at *
 have g1:=f1
 have g2:=f2
 rcases f1 with ⟨rfl,rfl,d1⟩ | ⟨rfl,rfl,d1⟩ <;> rcases f2 with ⟨rfl,rfl,d2⟩ | ⟨rfl,rfl,d2⟩
 · exact Eq.mpr (Q55 (a,b) (a2,b2) r r2 cap cap2 B B2 g h _) ⟨⟨w1.1,by rw [w1.2]; exact g1⟩,⟨w2.1,by rw [w2.2]; exact g2⟩,⟨rfl,rfl,rfl⟩,trivial⟩
 · exact Eq.mpr (Q54 (a,b) (a2,b2) r n2 cap cap2 B B2 g h _) ⟨⟨w1.1,by rw [w1.2]; exact g1⟩,⟨w2.1,by rw [w2.2]; exact g2⟩,⟨rfl,⟨rfl,rfl⟩,rfl⟩,trivial⟩
 · exact Eq.mpr (Q53 (a,b) (a2,b2) r2 n cap cap2 B B2 g h _) ⟨⟨w1.1,by rw [w1.2]; exact g1⟩,⟨w2.1,by rw [w2.2]; exact g2⟩,⟨⟨rfl,rfl⟩,rfl,rfl⟩,trivial⟩
 · exact Eq.mpr (Q52 (a,b) (a2,b2) n n2 cap cap2 B B2 g h _) ⟨⟨w1.1,by rw [w1.2]; exact g1⟩,⟨w2.1,by rw [w2.2]; exact g2⟩,⟨⟨rfl,rfl⟩,⟨rfl,rfl⟩,rfl⟩,trivial⟩
theorem Zbg:∀ f g,Zgh f=some g→g.ok Tryz.prog f:=Qad (Qad Qam (Qc4 Tryz.func56 (by kernel_rfl) (by kernel_rfl) Q46)) (Qfj Tryz.func57 (by kernel_rfl) (by kernel_rfl) Q87)
theorem Q6v {c:Int×Int} {n:Nat} {g:Nat→Int×Int} (h:Qpw c n g):Qpw (0,0) n g:=⟨⟨⟨by decide,by decide⟩,⟨by decide,by decide⟩⟩,h.2⟩
theorem Q49:Qc7 Tryz.prog 18 Zib:=Qcq hm Zbg Tryz.func18 (Λ:=fun _ _=>Qay) fun args bs p x h hp=>by
 unfold Zib at h
 split at h <;> try (cases h; done)
 rename_i k a b r n cap k2 a2 b2 r2 n2 cap2 n' row n2' row2
 cases h
 obtain ⟨⟨rfl,r1,f1⟩,⟨rfl,r2',f2⟩,hx⟩:=hp _ rfl
 refine ⟨rfl,[⟨2,n',Qbw fun i=>gi (row i)⟩,⟨2,n2',Qbw fun i=>gi (row2 i)⟩],⟨⟨rfl,rfl,fun i hi=>r1 i hi⟩,⟨rfl,rfl,fun i hi=>r2' i hi⟩,trivial⟩,?_⟩
 generalize (fun i=>gi (row i))=g at *
 generalize (fun i=>gi (row2 i))=h at *
 have q1:=Qwl f1
 have q2:=Qwl f2
 have w1:=Qla (n':=n') q1.1 q1.2
 have w2:=Qla (n':=n2') q2.1 q2.2
 have g1:=f1
 have g2:=f2
 rcases f1 with ⟨rfl,rfl,d1⟩ | ⟨rfl,rfl,d1⟩ <;> rcases f2 with ⟨rfl,rfl,d2⟩ | ⟨rfl,rfl,d2⟩
 · refine Eq.mpr (Zh0 (a,b) (a2,b2) r r2 cap cap2 0 0 g h _) ?_
   simp only [Qzj]
   exact ⟨⟨⟨w1,g1⟩,w2,g2⟩,⟨d1,d2,hx⟩,trivial⟩
 · refine Eq.mpr (Zhz (a,b) (a2,b2) r n2' cap cap2 0 n2' g h _) ?_
   simp only [Qzj,gz]
   exact ⟨⟨⟨w1,g1⟩,w2,g2⟩,⟨trivial,Qk2 d2.2.2.1,Q6v d2,d1,Q7k hx⟩,trivial⟩
 · refine Eq.mpr (Zhy (a,b) (a2,b2) r2 n' cap cap2 n' 0 g h _) ?_
   simp only [Qzj,gz]
   exact ⟨⟨⟨w1,g1⟩,w2,g2⟩,⟨trivial,Qk2 d1.2.2.1,Q6v d1,d2,hx⟩,trivial⟩
 · refine Eq.mpr (Zhx (a,b) (a2,b2) n' n2' cap cap2 n' n2' g h _) ?_
   simp only [Qzj,gz]
   exact ⟨⟨⟨w1,g1⟩,w2,g2⟩,⟨⟨trivial,Qk2 d1.2.2.1,Q6v d1⟩,⟨trivial,Qk2 d2.2.2.1,Q6v d2⟩,hx⟩,trivial⟩
theorem Q22 {n:Nat} {row:Nat→List Value} {g:Nat→Int×Int} (h:∀ i,i<n→row i=[.int .i64 (g i).1,.int .i64 (g i).2]) (hg:g=fun i=>gi ((row i).map SV.v)):Qih n fun i=>(row i).map SV.v:=fun i hi=>by
 subst hg
 exact congrArg (List.map SV.v) (h i hi)
theorem Q88:Qbv Tryz.prog 18 Zmy:=Qur Q49 fun args bs e hs hp=>by
 unfold Zmy at hs
 split at hs <;> try (cases hs; done)
 rename_i k a b r n row k2 a2 b2 r2 n2 row2
 cases hs
 obtain ⟨⟨q1,q2⟩,⟨u1,u2⟩,hx⟩:=hp _ rfl
 refine ⟨by show (2:Nat)≤1000; omega,_,rfl,fun q hq=>?_,fun x0 u0 ho=>?_⟩
 · cases hq
   unfold FM.bx at hx
   rw [Qok,Qok] at hx
   exact ⟨⟨rfl,Q22 q1 rfl,q2⟩,⟨rfl,Q22 u1 rfl,u2⟩,hx⟩
 · obtain ⟨rfl,rfl⟩:=ho
   exact ⟨_,_,⟨rfl,rfl⟩,.inl ⟨rfl,rfl,rfl,fun k b h=>by cases h⟩⟩
theorem Q45:Qbv Tryz.prog 10 Zdf:=Qur Qyq fun args bs e hs hp=>by
 unfold Zdf at hs
 split at hs <;> try (cases hs; done)
 rename_i k a b r n row
 cases hs
 obtain ⟨q1,q2⟩:FM.fine ⟨k,a,b,r,n,row⟩:=hp _ rfl
 refine ⟨by show (1:Nat)≤1000; omega,_,rfl,fun q hq=>?_,fun x0 u0 ho=>?_⟩
 · cases hq
   refine ⟨rfl,fun i hi=>?_,q2⟩
   have:=q1 i hi
   show (row i).map SV.v=[.v (.int .i64 (gi ((row i).map SV.v)).1),.v (.int .i64 (gi ((row i).map SV.v)).2)]
   have h2:=congrArg (List.map SV.v) this
   exact h2
 · obtain ⟨rfl,rfl⟩:=ho
   refine ⟨_,_,⟨rfl,rfl⟩,.inl ⟨?_,rfl,rfl,fun k b h=>by cases h⟩⟩
   unfold FM.bx
   rw [Qok]; rfl
def Qoz (p q:Int×Int):Bool:=decide (p.1<q.1∨(p.1=q.1∧p.2<q.2))
def Qa3 (P:List (Int×Int)) (q:Int×Int):Nat:=(P.filter fun p=>Qoz p q).length
theorem Q6q (q:Int×Int):Qa3 [] q=0:=rfl
theorem Qmh (p:Int×Int) (t:List (Int×Int)) (q:Int×Int):Qa3 (p :: t) q=(if Qoz p q=true then 1 else 0) + Qa3 t q:=by
 unfold Qa3
 rw [List.filter_cons]
 by_cases h:Qoz p q=true
 · rw [if_pos h,if_pos h,List.length_cons]; omega
 · rw [if_neg h,if_neg h]; omega
theorem Qru {P:List (Int×Int)} {q:Int×Int} (h:∀ p∈P,Qoz p q=false):Qa3 P q=0:=by
 unfold Qa3
 rw [List.filter_eq_nil_iff.2 fun p hp=>by rw [h p hp]; exact Bool.false_ne_true]; rfl
theorem Q6s {P:List (Int×Int)} {q:Int×Int} (h:∀ p∈P,Qoz p q=true):Qa3 P q=P.length:=by
 unfold Qa3
 rw [List.filter_eq_self.2 h]
theorem Q1i {P:List (Int×Int)} {q:Int×Int} (hs:P.Pairwise Qys) (h:q∈P):Qa3 P q<P.length∧P.getD (Qa3 P q) (0,0)=q:=by
 induction P with
 | nil=>cases h
 | cons p t ih =>
   obtain ⟨h1,h2⟩:=List.pairwise_cons.1 hs
   rw [Qmh]
   rcases List.mem_cons.1 h with rfl | h
   · have e:Qoz q q=false:=by unfold Qoz; exact decide_eq_false (by omega)
     have e2:Qa3 t q=0:=Qru fun p hp=>by
       have:=h1 p hp
       unfold Qys at this
       unfold Qoz; exact decide_eq_false (by omega)
     rw [e2,if_neg (by rw [e]; exact Bool.false_ne_true)]
     exact ⟨by simp,rfl⟩
   · obtain ⟨h3,h4⟩:=ih h2 h
     have e:Qoz p q=true:=by
       have:=h1 q h
       unfold Qys at this
       unfold Qoz; exact decide_eq_true (by omega)
     rw [if_pos e]
     refine ⟨by rw [List.length_cons]; omega,?_⟩
     rw [Nat.add_comm,List.getD_cons_succ]; exact h4
theorem Q67 {P:List (Int×Int)} {q:Int×Int} (h:Qa3 P q<P.length) (e:P.getD (Qa3 P q) (0,0)=q):q∈P:=by
 rw [List.getD_eq_getElem?_getD,List.getElem?_eq_getElem h] at e
 have e:P[Qa3 P q]=q:=e
 rw [← e]
 exact List.getElem_mem _
theorem Qrt {P:List (Int×Int)} (hs:P.Pairwise Qys) (i k:Int):Qa3 P (i,k + 1)=Qa3 P (i,k) + if (i,k)∈P then 1 else 0:=by
 induction P with
 | nil=>simp [Q6q]
 | cons p t ih =>
   obtain ⟨h1,h2⟩:=List.pairwise_cons.1 hs
   rw [Qmh,Qmh,ih h2]
   by_cases e:p=(i,k)
   · subst e
     have a1:Qoz (i,k) (i,k + 1)=true:=by unfold Qoz; exact decide_eq_true (.inr ⟨rfl,by show k<k + 1; omega⟩)
     have a2:¬ Qoz (i,k) (i,k)=true:=by unfold Qoz; simp
     have a3:¬ (i,k)∈t:=fun h=>by
       have:=h1 _ h
       unfold Qys at this
       simp only at this; omega
     rw [if_pos a1,if_neg a2,if_neg a3,if_pos (List.mem_cons_self ..)]; omega
   · have a1:Qoz p (i,k + 1)=Qoz p (i,k):=by
       obtain ⟨a,b⟩:=p
       unfold Qoz
       refine decide_eq_decide.2 ?_
       simp only
       have:¬ (a=i∧b=k):=fun h=>e (by rw [h.1,h.2])
       omega
     have a2:((i,k)∈p :: t)↔(i,k)∈t:=by
       rw [List.mem_cons]
       exact ⟨fun h=>h.resolve_left fun h=>e h.symm,.inr⟩
     rw [a1]
     simp only [a2]; omega
theorem Q1h {P:List (Int×Int)} {i n:Int} (h1:∀ p∈P,p.1<p.2∧p.2<n):Qa3 P (i + 1,i + 1 + 1)=Qa3 P (i,n):=by
 unfold Qa3
 congr 1
 refine List.filter_congr fun p hp=>?_
 obtain ⟨a,b⟩:=h1 p hp
 unfold Qoz
 refine decide_eq_decide.2 ?_
 simp only; omega
theorem Q1g {P:List (Int×Int)} (h:∀ p∈P,0≤p.1∧p.1<p.2):Qa3 P (0,0 + 1)=0:=Qru fun p hp=>by
 have:=h p hp
 unfold Qoz; exact decide_eq_false (by simp only; omega)
theorem Q6r {P:List (Int×Int)} {n:Int} (h:∀ p∈P,p.1<n):Qa3 P (n,n + 1)=P.length:=Q6s fun p hp=>by
 have:=h p hp
 unfold Qoz; exact decide_eq_true (by simp only; omega)
def Qcx (i:Nat):Int:=(2:Int) ^ i - 1
def Zi6:Bool:=((List.range 256).all fun a=>decide (0≤Qg1 (a:Nat))&&decide (Qg1 (a:Nat)≤8)&&(List.range 8).all fun k=>decide (0≤clA (a:Nat) (k:Nat))&&decide (clA (a:Nat) (k:Nat)≤(a:Nat))&&(!(onA (a:Nat) (k:Nat))||Qg1 (clA (a:Nat) (k:Nat)) + 1==Qg1 (a:Nat))&&(List.range 8).all fun j=>onA (clA (a:Nat) (k:Nat)) (j:Nat)==(onA (a:Nat) (j:Nat)&&!(Nat.beq j k))) &&
 (List.range 8).all fun i=>decide (mkA (Qcx i) (i:Nat)=Qcx (i + 1))&&decide (Qg1 (Qcx i)=(i:Nat))&&(List.range 8).all fun j=>onA (Qcx i) (j:Nat)==Nat.blt j i
theorem Zd6:Zi6=true:=by decide +kernel
theorem mk_get:(∀ a,a<256→(0≤Qg1 (a:Nat)∧Qg1 (a:Nat)≤8)∧∀ k,k<8→((0≤clA (a:Nat) (k:Nat)∧clA (a:Nat) (k:Nat)≤(a:Nat))∧(onA (a:Nat) (k:Nat)=true→Qg1 (clA (a:Nat) (k:Nat)) + 1=Qg1 (a:Nat)))∧∀ j,j<8→onA (clA (a:Nat) (k:Nat)) (j:Nat)=(onA (a:Nat) (j:Nat)&&!(Nat.beq j k))) ∧
   ∀ i,i<8→(mkA (Qcx i) (i:Nat)=Qcx (i + 1)∧Qg1 (Qcx i)=(i:Nat))∧∀ j,j<8→onA (Qcx i) (j:Nat)=Nat.blt j i:=by
 have h:=Zd6
 unfold Zi6 at h
 rw [Bool.and_eq_true,List.all_eq_true,List.all_eq_true] at h
 obtain ⟨h1,h2⟩:=h
 refine ⟨fun a ha=>?_,fun i hi=>?_⟩
 · have:=h1 a (List.mem_range.2 ha)
   simp only [Bool.and_eq_true,decide_eq_true_eq,List.all_eq_true,List.mem_range,beq_iff_eq,Bool.or_eq_true,Bool.not_eq_true'] at this
   obtain ⟨⟨q1,q2⟩,q3⟩:=this
   refine ⟨⟨q1,q2⟩,fun k hk=>?_⟩
   obtain ⟨⟨⟨r1,r2⟩,r3⟩,r4⟩:=q3 k hk
   exact ⟨⟨⟨r1,r2⟩,fun h=>r3.resolve_left (by rw [h]; decide)⟩,r4⟩
 · have:=h2 i (List.mem_range.2 hi)
   simp only [Bool.and_eq_true,decide_eq_true_eq,List.all_eq_true,List.mem_range,beq_iff_eq] at this
   exact ⟨⟨this.1.1,this.1.2⟩,this.2⟩
def m8 (a:Int):Prop:=0≤a∧a<256
theorem Qv9 {a:Int} (h:m8 a):∃ n:Nat,n<256∧a=(n:Int):=⟨a.toNat,by have:=h.1; have:=h.2; omega,by have:=h.1; omega⟩
theorem Zfb {a:Int} (h:m8 a):0≤Qg1 a∧Qg1 a≤8:=by
 obtain ⟨n,hn,rfl⟩:=Qv9 h
 exact (mk_get.1 n hn).1
theorem cl_8 {a:Int} {k:Nat} (h:m8 a) (hk:k<8):m8 (clA a k):=by
 obtain ⟨n,hn,rfl⟩:=Qv9 h
 have:=((mk_get.1 n hn).2 k hk).1.1
 exact ⟨this.1,by omega⟩
theorem Zjx {a:Int} {k:Nat} (h:m8 a) (hk:k<8) (ho:onA a k=true):Qg1 (clA a k) + 1=Qg1 a:=by
 obtain ⟨n,hn,rfl⟩:=Qv9 h
 exact ((mk_get.1 n hn).2 k hk).1.2 ho
theorem Zfe {a:Int} {k j:Nat} (h:m8 a) (hk:k<8) (hj:j<8):onA (clA a k) j=(onA a j&&!(Nat.beq j k)):=by
 obtain ⟨n,hn,rfl⟩:=Qv9 h
 exact ((mk_get.1 n hn).2 k hk).2 j hj
theorem Zje {i:Nat} (h:i<8):m8 (Qcx i):=by
 have:∀ i:Fin 8,m8 (Qcx i):=by unfold m8; decide
 exact this ⟨i,h⟩
theorem Zjd {i:Nat} (h:i<8):mkA (Qcx i) i=Qcx (i + 1):=(mk_get.2 i h).1.1
theorem Quj {i:Nat} (h:i<8):Qg1 (Qcx i)=i:=(mk_get.2 i h).1.2
theorem Qmv {i j:Nat} (h:i<8) (hj:j<8):onA (Qcx i) j=Nat.blt j i:=(mk_get.2 i h).2 j hj
def hsA (a x:Int):Bool:=decide (0≤x∧x<8)&&onA a x
def Qbs (F:Nat→BxI) (a:Int):MapC:=⟨(Qg1 a).toNat,fun x=>hsA a x,fun x j=>bop (hsA a x) ([(F x.toNat).a,(F x.toNat).b,(F x.toNat).c,(F x.toNat).d].getD j 0) 0⟩
def mEq (m m':MapC):Prop:=m.cnt=m'.cnt∧(∀ k,m.has k=m'.has k)∧∀ k i,m.val k i=m'.val k i
theorem Qrz {a x:Int} (h:0≤x):onA a x=onA a (x.toNat:Nat):=by
 rw [Int.toNat_of_nonneg h]
theorem Qxw {i j:Nat} (h:j≤i):Nat.blt i j=false:=by
 rw [Bool.eq_false_iff]
 simp only [ne_eq,Nat.blt_eq]; omega
theorem Qwk {a:Int} {k:Nat} (hk:k<8):hsA a k=onA a k:=by
 unfold hsA
 rw [decide_eq_true (by omega),Bool.true_and]
theorem Q2w (x:Int):hsA (Qcx 0) x=false:=by
 unfold hsA
 by_cases h:0≤x∧x<8
 · rw [Qrz h.1,Qmv (by decide) (by omega),Qxw (Nat.zero_le _),Bool.and_false]
 · rw [decide_eq_false h]; rfl
theorem Q92 {i:Nat} (hi:i<7) (k:Int):(k==(i:Int)||hsA (Qcx i) k)=hsA (Qcx (i + 1)) k:=by
 unfold hsA
 by_cases h:0≤k∧k<8
 · rw [Qrz h.1,Qrz (a:=Qcx (i + 1)) h.1,Qmv (by omega) (by omega),Qmv (by omega) (by omega),decide_eq_true h,Bool.true_and,Bool.true_and]
   rw [Bool.eq_iff_iff]
   simp only [Bool.or_eq_true,beq_iff_eq,Nat.blt_eq]; omega
 · rw [decide_eq_false h]
   have:¬ k=(i:Int):=by omega
   simp [this]
theorem Q93 {a:Int} {k:Nat} (h:m8 a) (hk:k<8) (x:Int):(hsA a x&&!(x==(k:Int)))=hsA (clA a k) x:=by
 unfold hsA
 by_cases e:0≤x∧x<8
 · rw [Qrz e.1,Qrz (a:=clA a k) e.1,Zfe h hk (by omega),decide_eq_true e,Bool.true_and,Bool.true_and]
   congr 2
   rw [Bool.eq_iff_iff]
   simp only [beq_iff_eq,Nat.beq_eq]; omega
 · rw [decide_eq_false e]; rfl
theorem Qhy (F:Nat→BxI) {a:Int} (h:m8 a):Quo (Qbs F a):=by
 refine ⟨fun k hk=>?_,?_⟩
 · simp only [Qbs,hsA,Bool.and_eq_true,decide_eq_true_eq] at hk
   exact hk.1
 · have:=Zfb h
   show (Qg1 a).toNat≤8
   omega
theorem Qfo {F:Nat→BxI} {a:Int} {k:Nat} (hk:k<8):(Qbs F a).has k=onA a k:=Qwk hk
theorem Zjc (F:Nat→BxI):mEq m0 (Qbs F (Qcx 0)):=by
 refine ⟨?_,fun k=>(Q2w k).symm,fun k i=>?_⟩
 · show 0=(Qg1 (Qcx 0)).toNat
   rw [Quj (by decide)]; rfl
 · show 0=bop (hsA (Qcx 0) k) _ 0
   rw [Q2w]; rfl
theorem Q7a (F:Nat→BxI) {i:Nat} (hi:i<7):mEq ((Qbs F (Qcx i)).put i [(F i).a,(F i).b,(F i).c,(F i).d]) (Qbs F (Qcx (i + 1))):=by
 have h0:(Qbs F (Qcx i)).has i=false:=by rw [Qfo (by omega),Qmv (by omega) (by omega),Qxw (Nat.le_refl _)]
 refine ⟨?_,fun k=>Q92 hi k,fun k j=>?_⟩
 · show bop ((Qbs F (Qcx i)).has i) _ _=(Qg1 (Qcx (i + 1))).toNat
   rw [h0,Quj (by omega)]
   show (Qg1 (Qcx i)).toNat + 1=_
   rw [Quj (by omega)]; omega
 · show bop (k==(i:Int)) (List.getD _ j 0) (bop (hsA (Qcx i) k) _ 0)=bop (hsA (Qcx (i + 1)) k) (List.getD _ j 0) 0
   rw [← Q92 hi k]
   by_cases h:k=(i:Int)
   · subst h
     rw [show ((i:Int)==(i:Int))=true by simp]
     show List.getD _ j 0=List.getD _ j 0
     rw [Int.toNat_natCast]
   · rw [show (k==(i:Int))=false by simpa using h]; rfl
theorem Q2h (F:Nat→BxI) {a:Int} {k:Nat} (hk:k<8) (ho:onA a k=true) (l:List Int):mEq (((Qbs F a).put k l).put k [(F k).a,(F k).b,(F k).c,(F k).d]) (Qbs F a):=by
 have h0:(Qbs F a).has k=true:=by rw [Qfo hk]; exact ho
 have h1:((Qbs F a).put k l).has k=true:=by
   show ((k:Int)==(k:Int)||_)=true
   simp
 refine ⟨?_,fun x=>?_,fun x j=>?_⟩
 · show bop (((Qbs F a).put k l).has k) _ _=_
   rw [h1]
   show bop ((Qbs F a).has k) _ _=_
   rw [h0]; rfl
 · show (x==(k:Int)||(x==(k:Int)||(Qbs F a).has x))=(Qbs F a).has x
   by_cases e:x=(k:Int)
   · subst e; rw [h0]; simp
   · rw [show (x==(k:Int))=false by simpa using e]; rfl
 · show bop (x==(k:Int)) (List.getD _ j 0) (bop (x==(k:Int)) (List.getD _ j 0) ((Qbs F a).val x j))=(Qbs F a).val x j
   by_cases e:x=(k:Int)
   · subst e
     rw [show ((k:Int)==(k:Int))=true by simp]
     show List.getD _ j 0=bop (hsA a k) (List.getD _ j 0) 0
     rw [Qwk hk,ho,Int.toNat_natCast]; rfl
   · rw [show (x==(k:Int))=false by simpa using e]; rfl
theorem Q7b (F:Nat→BxI) {a:Int} {k:Nat} (h:m8 a) (hk:k<8) (ho:onA a k=true):mEq ((Qbs F a).cut k) (Qbs F (clA a k)):=by
 have h0:(Qbs F a).has k=true:=by rw [Qfo hk]; exact ho
 have hc:=Zjx h hk ho
 refine ⟨?_,fun x=>Q93 h hk x,fun x j=>?_⟩
 · show bop ((Qbs F a).has k) _ _=(Qg1 (clA a k)).toNat
   rw [h0]
   show (Qg1 a).toNat - 1=_
   omega
 · show bop (x==(k:Int)) 0 (bop (hsA a x) _ 0)=bop (hsA (clA a k) x) _ 0
   rw [← Q93 h hk x]
   by_cases e:x=(k:Int)
   · subst e
     rw [show ((k:Int)==(k:Int))=true by simp,Bool.not_true,Bool.and_false]; rfl
   · rw [show (x==(k:Int))=false by simpa using e,Bool.not_false,Bool.and_true]; rfl
theorem Qxm {F:Nat→BxI} {a:Int} (h:m8 a) {i k:Nat} (hik:i<k) (hk:k<8) (h1:onA a i=true) (h2:onA a k=true):((i:Int),(k:Int))∈Qa9 (Qbs F a)↔Qgx (Qbs F a) i k=true:=by
 rw [Qpz (Qhy F h),Qj2 (Qhy F h)]
 simp only [Qfo (show i<8 by omega),Qfo hk,h1,h2,true_and]
 exact ⟨fun h=>h.2,fun h=>⟨by omega,h⟩⟩
theorem Zd9 {F:Nat→BxI} {a:Int} (h:m8 a) {p:Int×Int} (hp:p∈Qa9 (Qbs F a)):(0≤p.1∧p.1<p.2∧p.2<8)∧onA a p.1=true∧onA a p.2=true:=by
 rw [Qpz (Qhy F h),Qj2 (Qhy F h)] at hp
 obtain ⟨h1,h2,h3,_⟩:=hp
 simp only [Qbs,hsA,Bool.and_eq_true,decide_eq_true_eq] at h2 h3
 exact ⟨⟨h2.1.1,h1,h3.1.2⟩,h2.2,h3.2⟩
theorem Q1s {F:Nat→BxI} {a:Int} (h:m8 a):(Qa9 (Qbs F a)).Pairwise Qys:=by
 rw [Qpz (Qhy F h)]; exact Qgh _
noncomputable def Qb8 (G:Nat→MD) (i:Nat):BxI:=(Qba (G i)).bx
def slC (k:Nat) (a:Int):Blk:=Qct 113 [.v (.int .u64 a),.sl k 1 0 8 8]
def gnF (n:Nat):Nat→Int:=fun i=>bop (Nat.blt i n) 1 0
noncomputable def fmB (G:Nat→MD) (n c:Nat):Blk:={elem:=35,size:=5,rw:=true,lock:=false,lit:=false,flat:=true,n,row:=fun i=>fmC (Qba (G i)),ext:=c}
def thB (n:Nat) (f:Nat→Bool):Blk:={elem:=4,size:=1,rw:=true,lock:=false,lit:=false,flat:=true,n,row:=fun i=>[.v (.bool (f i))]}
structure AX where
 i:Nat
 c:Nat
structure BX where
 i:Nat
 a:Int
structure HX where
 i:Nat
 k:Nat
 a:Int
noncomputable def Qcs (G:Nat→MD) (a:Int):List (Int×Int):=Qa9 (Qbs (Qb8 G) a)
noncomputable def atA (G:Nat→MD) (a:Int) (i k:Nat):SV:=.v (.int .i64 (Qa3 (Qcs G a) ((i:Int),(k:Int)):Nat))
noncomputable def Zk7:Qbz:=Qai (Qai (Qai (Qai (Qai (Qai (Qai (Qai (Qai (Qai (Qai (Qai (Qai (Qai (Qai (Qai Qbi 5 (Qcz true Q0z)) 6 (Qcz true Q00)) 7 (Qcz false Q04)) 8 (Qcz true Zcq)) 10 (Qcz false Zdf)) 9 (Qcz true Zcu)) 11 (Qao Q6j)) 12 (Qcz true sAt)) 13 (Qcz true Zc7)) 14 (Qcz true Q07)) 15 (Qcz true Q02)) 16 (Qcz true Q0w)) 17 (Qao Qvn)) 18 (Qcz false Zmy)) 19 (Qcz true Zc5)) 20 (Qcz true Zc4)
noncomputable def Zk0 (G:Nat→MD) (n nb:Nat):Nat→Option LoopSpec :=
 Qo3 (Qlw (Qlw (Qdv (Qdv (Qlx Qay Tryz.f3 0 AX (fun x=>x.i≤n∧x.i≤x.c) (fun x=>n - x.i)
     [(9,fun x=>.v (.int .i64 (x.i:Nat))),(8,fun x=>.sl 40 5 0 x.i x.c)] [(88,fun x=>slC 89 (Qcx x.i)),(89,fun x=>gnB 8 (gnF x.i)),(72,fun _=>sB 73),(73,fun x=>mpB (Qbs (Qb8 G) (Qcx x.i)))]
     [(40,fun x=>fmB G x.i x.c,Qic 8)])
   Tryz.f3 2 Nat (fun i=>i≤n) (fun i=>n - i) [(14,fun i=>.v (.int .i64 (i:Nat)))] [(736,fun i=>thB n fun j=>Nat.blt j i)])
   Tryz.f3 4 BX (fun x=>x.i≤nb∧m8 x.a∧∀ j,n≤j→j<8→onA x.a (j:Nat)=false) (fun x=>nb - x.i) [(15,fun x=>.v (.int .i64 (x.i:Nat)))]
     [(88,fun x=>slC 89 x.a),(89,fun x=>gnB 8 (gnF n)),(72,fun _=>sB 73),(73,fun x=>mpB (Qbs (Qb8 G) x.a)),(736,fun x=>thB n fun j=>onA x.a (j:Nat))])
   Tryz.f3 6 BX (fun x=>x.i≤n) (fun s x=>Zej 88 0 s=.v (.int .u64 x.a)) (fun x=>n - x.i) [(21,fun x=>.v (.int .i64 (x.i:Nat))),(20,fun x=>atA G x.a x.i (x.i + 1))] [(88,fun x=>slC 89 x.a),(89,fun x=>gnB 8 (gnF n))] [])
   Tryz.f3 8 HX (fun x=>x.i<x.k∧x.k≤n) (fun s x=>Zej 88 0 s=.v (.int .u64 x.a)∧Qic 21 s=.v (.int .i64 (x.i:Nat))) (fun x=>n - x.k) [(24,fun x=>.v (.int .i64 (x.k:Nat))),(20,fun x=>atA G x.a x.i x.k)] [] [])
 50 [(6,fun _=>[88,89]),(8,fun _=>[72,73])]
theorem Zlm (G:Nat→MD) (B:Nat→Int) (n n' c nb nb' cb:Nat):(Qcf Tryz.prog Zk7 (Zk0 G n nb) Tryz.f3 [.sl 0 6 0 n c,.sl 1 1 0 nb cb] (Qbl [⟨6,n',fun i=>mdL (G i)⟩,⟨1,nb',fun i=>[.v (.int .i64 (B i))]⟩]) 64 (fun y _=>y=bV true)) =
((((1:Int)≤8)∧((8:Int)≤64))∧
(sel (decide ((↑n:Int) > 7)) ((SV.v (Value.bool true))=(SV.v (Value.bool true))) 
(sel (decide ((↑nb:Int) > 7)) ((SV.v (Value.bool true))=(SV.v (Value.bool true))) ((∃ x:AX,(((((AX.i x):Nat)≤n)∧(((AX.i x):Nat)≤(AX.c x)))∧((((SV.v (Value.int IntKind.i64 0))=(SV.v (Value.int IntKind.i64 ((↑(AX.i x):Int)))))∧(((SV.v (Value.slice none 0 0))=(SV.v (Value.slice none 0 0)))∧(((0:Nat)=0)∧((((AX.i x):Nat)=0)∧(((AX.c x):Nat)=0)))))∧((((1:Nat)=1)∧(((1:Nat)≤1)∧(((SV.v (Value.int IntKind.u64 0))=(SV.v (Value.int IntKind.u64 (Qcx (AX.i x)))))∧((SV.sl 89 1 0 8 8)=(SV.sl 89 1 0 8 8)))))∧((((8:Nat)=8)∧(((8:Nat)≤8)∧(∀ i:Nat,(((i:Nat)<8)→([(SV.v (Value.int IntKind.i64 0))]=[(SV.v (Value.int IntKind.i64 (gnF (AX.i x) i)))])))))∧((((1:Nat)=1)∧(((1:Nat)≤1)∧((SV.mp 73)=(SV.mp 73))))∧((((1:Nat)=1)∧(((1:Nat)≤1)∧(((0:Nat)=(MapC.cnt (Qbs (Qb8 G) (Qcx (AX.i x)))))∧((∀ k:Int,(MapC.has m0 k=MapC.has (Qbs (Qb8 G) (Qcx (AX.i x))) k))∧(∀ k:Int,(∀ i:Nat,(((i:Nat)<4)→(((MapC.val m0 k i):Int)=(MapC.val (Qbs (Qb8 G) (Qcx (AX.i x))) k i)))))))))∧(((((AX.i x):Nat)=0)∧((((AX.c x):Nat)=0)∧True))∧True))))))))∧(∀ x:AX,(((((AX.i x):Nat)≤n)∧(((AX.i x):Nat)≤(AX.c x)))→
(sel (decide ((↑(AX.i x):Int)<(↑n:Int))) ((((0:Int)≤((↑(AX.i x):Int)))∧((((↑(AX.i x):Int)):Int)<((↑n:Int))))∧(((mdI (G (0 + Int.toNat (↑(AX.i x):Int))))∧((12:Int)=12))∧(((slP (Qcx (AX.i x)) 8 {elem:=3,size:=1,rw:=true,lock:=false,lit:=false,flat:=true,n:=8,row:=fun i=>[SV.v (Value.int IntKind.i64 (gnF (AX.i x) i))]})∧(((0:Nat)<8)∧((tkP (Qcx (AX.i x)) (fun i=>i1 [SV.v (Value.int IntKind.i64 (gnF (AX.i x) i))]) (Qom (tkP (Qcx (AX.i x)) fun i=>i1 [SV.v (Value.int IntKind.i64 (gnF (AX.i x) i))]) 0 8)=true)∧((∀ j:Nat,(((j:Nat)<(Qom (tkP (Qcx (AX.i x)) fun i=>i1 [SV.v (Value.int IntKind.i64 (gnF (AX.i x) i))]) 0 8))→(tkP (Qcx (AX.i x)) (fun i=>i1 [SV.v (Value.int IntKind.i64 (gnF (AX.i x) i))]) j=false)))∧(((Qom (tkP (Qcx (AX.i x)) fun i=>i1 [SV.v (Value.int IntKind.i64 (gnF (AX.i x) i))]) 0 8):Nat)<8)))))∧
(sel ((↑(Qom (tkP (Qcx (AX.i x)) fun i=>i1 [SV.v (Value.int IntKind.i64 (gnF (AX.i x) i))]) 0 8):Int) != (↑(AX.i x):Int)) ((SV.v (Value.bool false))=(SV.v (Value.bool true))) ((FM.fine (Qba (G (0 + Int.toNat (↑(AX.i x):Int)))))∧(((idP (↑(Qom (tkP (Qcx (AX.i x)) fun i=>i1 [SV.v (Value.int IntKind.i64 (gnF (AX.i x) i))]) 0 8):Int))∧((bxP (BxI.a (FM.bx (Qba (G (0 + Int.toNat (↑(AX.i x):Int)))))) (BxI.b (FM.bx (Qba (G (0 + Int.toNat (↑(AX.i x):Int)))))) (BxI.c (FM.bx (Qba (G (0 + Int.toNat (↑(AX.i x):Int)))))) (BxI.d (FM.bx (Qba (G (0 + Int.toNat (↑(AX.i x):Int)))))))∧((MapC.has (Qbs (Qb8 G) (Qcx (AX.i x))) (↑(Qom (tkP (Qcx (AX.i x)) fun i=>i1 [SV.v (Value.int IntKind.i64 (gnF (AX.i x) i))]) 0 8):Int)=false)∧(((MapC.cnt (Qbs (Qb8 G) (Qcx (AX.i x)))):Nat)<256))))∧((((((AX.i x + 1)*56):Nat)≤140737488355328)∧((((0 + AX.c x):Nat)≤(AX.c x))∧(∀ y:Nat,(((y:Nat)<1)→True))))∧(∀ c_1:Nat,(∃ x':AX,((((((AX.i x'):Nat)≤n)∧(((AX.i x'):Nat)≤(AX.c x')))∧((((SV.v (Value.int IntKind.i64 (IntKind.wrap IntKind.i64 ((↑(AX.i x):Int) + 1))))=(SV.v (Value.int IntKind.i64 ((↑(AX.i x'):Int)))))∧((SV.sl 680 5 0 (AX.i x + 1) (AX.i x + 1 + c_1))=(SV.sl 680 5 0 (AX.i x') (AX.c x'))))∧((((1:Nat)=1)∧(((1:Nat)≤1)∧(((SV.v (Value.int IntKind.u64 (mkA (Qcx (AX.i x)) (↑(Qom (tkP (Qcx (AX.i x)) fun i=>i1 [SV.v (Value.int IntKind.i64 (gnF (AX.i x) i))]) 0 8):Int))))=(SV.v (Value.int IntKind.u64 (Qcx (AX.i x')))))∧((SV.sl 89 1 0 8 8)=(SV.sl 89 1 0 8 8)))))∧((((8:Nat)=8)∧(((8:Nat)≤8)∧(∀ i:Nat,(((i:Nat)<8)→([(SV.v (Value.int IntKind.i64 (Zei (fun i=>i1 [SV.v (Value.int IntKind.i64 (gnF (AX.i x) i))]) (Qom (tkP (Qcx (AX.i x)) fun i=>i1 [SV.v (Value.int IntKind.i64 (gnF (AX.i x) i))]) 0 8) i)))]=[(SV.v (Value.int IntKind.i64 (gnF (AX.i x') i)))])))))∧((((1:Nat)=1)∧(((1:Nat)≤1)∧((SV.mp 73)=(SV.mp 73))))∧((((1:Nat)=1)∧(((1:Nat)≤1)∧((((MapC.cnt (MapC.put (Qbs (Qb8 G) (Qcx (AX.i x))) (↑(Qom (tkP (Qcx (AX.i x)) fun i=>i1 [SV.v (Value.int IntKind.i64 (gnF (AX.i x) i))]) 0 8):Int) [BxI.a (FM.bx (Qba (G (0 + Int.toNat (↑(AX.i x):Int))))),BxI.b (FM.bx (Qba (G (0 + Int.toNat (↑(AX.i x):Int))))),BxI.c (FM.bx (Qba (G (0 + Int.toNat (↑(AX.i x):Int))))),BxI.d (FM.bx (Qba (G (0 + Int.toNat (↑(AX.i x):Int)))))])):Nat)=(MapC.cnt (Qbs (Qb8 G) (Qcx (AX.i x')))))∧((∀ k:Int,(MapC.has (MapC.put (Qbs (Qb8 G) (Qcx (AX.i x))) (↑(Qom (tkP (Qcx (AX.i x)) fun i=>i1 [SV.v (Value.int IntKind.i64 (gnF (AX.i x) i))]) 0 8):Int) [BxI.a (FM.bx (Qba (G (0 + Int.toNat (↑(AX.i x):Int))))),BxI.b (FM.bx (Qba (G (0 + Int.toNat (↑(AX.i x):Int))))),BxI.c (FM.bx (Qba (G (0 + Int.toNat (↑(AX.i x):Int))))),BxI.d (FM.bx (Qba (G (0 + Int.toNat (↑(AX.i x):Int)))))]) k=MapC.has (Qbs (Qb8 G) (Qcx (AX.i x'))) k))∧(∀ k:Int,(∀ i:Nat,(((i:Nat)<4)→(((MapC.val (MapC.put (Qbs (Qb8 G) (Qcx (AX.i x))) (↑(Qom (tkP (Qcx (AX.i x)) fun i=>i1 [SV.v (Value.int IntKind.i64 (gnF (AX.i x) i))]) 0 8):Int) [BxI.a (FM.bx (Qba (G (0 + Int.toNat (↑(AX.i x):Int))))),BxI.b (FM.bx (Qba (G (0 + Int.toNat (↑(AX.i x):Int))))),BxI.c (FM.bx (Qba (G (0 + Int.toNat (↑(AX.i x):Int))))),BxI.d (FM.bx (Qba (G (0 + Int.toNat (↑(AX.i x):Int)))))]) k i):Int)=(MapC.val (Qbs (Qb8 G) (Qcx (AX.i x'))) k i)))))))))∧((((AX.i x + 1):Nat)=(AX.i x'))∧((((AX.c x'):Nat)≤(AX.i x + 1 + c_1))∧(∀ i:Nat,(((i:Nat)<(AX.i x'))→([(SV.v (Value.int IntKind.i64 (bop (Nat.blt i (AX.i x)) (FM.k (Qba (G (0 + i)))) (FM.k (Qba (G (0 + Int.toNat (↑(AX.i x):Int)))))))),(SV.v (Value.int IntKind.i64 (bop (Nat.blt i (AX.i x)) (FM.a (Qba (G (0 + i)))) (FM.a (Qba (G (0 + Int.toNat (↑(AX.i x):Int)))))))),(SV.v (Value.int IntKind.i64 (bop (Nat.blt i (AX.i x)) (FM.b (Qba (G (0 + i)))) (FM.b (Qba (G (0 + Int.toNat (↑(AX.i x):Int)))))))),(SV.v (Value.int IntKind.i64 (bop (Nat.blt i (AX.i x)) (FM.r (Qba (G (0 + i)))) (FM.r (Qba (G (0 + Int.toNat (↑(AX.i x):Int)))))))),(SV.fz 2 (bop (Nat.blt i (AX.i x)) (FM.n (Qba (G (0 + i)))) (FM.n (Qba (G (0 + Int.toNat (↑(AX.i x):Int)))))) (bop (Nat.blt i (AX.i x)) (FM.row (Qba (G (0 + i)))) (FM.row (Qba (G (0 + Int.toNat (↑(AX.i x):Int)))))))]=[(SV.v (Value.int IntKind.i64 (FM.k (Qba (G i))))),(SV.v (Value.int IntKind.i64 (FM.a (Qba (G i))))),(SV.v (Value.int IntKind.i64 (FM.b (Qba (G i))))),(SV.v (Value.int IntKind.i64 (FM.r (Qba (G i))))),(SV.fz 2 (FM.n (Qba (G i))) (FM.row (Qba (G i))))])))))))))))∧(((n - AX.i x'):Nat)<(n - AX.i x)))))))))))) ((((0:Int)≤((↑(AX.i x):Int)))∧(((((↑(AX.i x):Int)):Int)≤((↑(AX.i x):Int)))∧(((1*(↑(AX.i x):Int)):Int)≤140737488355328)))∧((∃ x_1:Nat,((Nat.le x_1 n)∧(((SV.v (Value.int IntKind.i64 0))=(SV.v (Value.int IntKind.i64 ((↑x_1:Int)))))∧((((Int.toNat (↑(AX.i x):Int)):Nat)=n)∧(((n:Nat)≤(Int.toNat (↑(AX.i x):Int)))∧(∀ i:Nat,(((i:Nat)<n)→([(SV.v (Value.bool false))]=[(SV.v (Value.bool (Nat.blt i x_1)))]))))))))∧(∀ x_1:Nat,((Nat.le x_1 n)→
(sel (decide ((↑x_1:Int)<(↑(AX.i x):Int))) ((((0:Int)≤((↑x_1:Int)))∧((((↑x_1:Int)):Int)<((↑(Int.toNat (↑(AX.i x):Int)):Int))))∧(∃ x':Nat,(((Nat.le x' n)∧(((SV.v (Value.int IntKind.i64 (IntKind.wrap IntKind.i64 ((↑x_1:Int) + 1))))=(SV.v (Value.int IntKind.i64 ((↑x':Int)))))∧(((n:Nat)=n)∧(((n:Nat)≤n)∧(∀ i:Nat,(((i:Nat)<n)→([(SV.v (Value.bool (bop (Nat.beq i (0 + Int.toNat (↑x_1:Int))) true (Nat.blt i x_1))))]=[(SV.v (Value.bool (Nat.blt i x')))])))))))∧(((n - x'):Nat)<(n - x_1))))) ((∃ x_2:BX,(((((BX.i x_2):Nat)≤nb)∧((m8 (BX.a x_2))∧(∀ j:Nat,(((n:Nat)≤j)→(((j:Nat)<8)→(onA (BX.a x_2) (↑j:Int)=false))))))∧(((SV.v (Value.int IntKind.i64 0))=(SV.v (Value.int IntKind.i64 ((↑(BX.i x_2):Int)))))∧((((1:Nat)=1)∧(((1:Nat)≤1)∧(((SV.v (Value.int IntKind.u64 (Qcx (AX.i x))))=(SV.v (Value.int IntKind.u64 (BX.a x_2))))∧((SV.sl 89 1 0 8 8)=(SV.sl 89 1 0 8 8)))))∧((((8:Nat)=8)∧(((8:Nat)≤8)∧(∀ i:Nat,(((i:Nat)<8)→([(SV.v (Value.int IntKind.i64 (gnF (AX.i x) i)))]=[(SV.v (Value.int IntKind.i64 (gnF n i)))])))))∧((((1:Nat)=1)∧(((1:Nat)≤1)∧((SV.mp 73)=(SV.mp 73))))∧((((1:Nat)=1)∧(((1:Nat)≤1)∧((((MapC.cnt (Qbs (Qb8 G) (Qcx (AX.i x)))):Nat)=(MapC.cnt (Qbs (Qb8 G) (BX.a x_2))))∧((∀ k:Int,(MapC.has (Qbs (Qb8 G) (Qcx (AX.i x))) k=MapC.has (Qbs (Qb8 G) (BX.a x_2)) k))∧(∀ k:Int,(∀ i:Nat,(((i:Nat)<4)→(((MapC.val (Qbs (Qb8 G) (Qcx (AX.i x))) k i):Int)=(MapC.val (Qbs (Qb8 G) (BX.a x_2)) k i)))))))))∧(((n:Nat)=n)∧(((n:Nat)≤n)∧(∀ i:Nat,(((i:Nat)<n)→([(SV.v (Value.bool (Nat.blt i x_1)))]=[(SV.v (Value.bool (onA (BX.a x_2) (↑i:Int))))]))))))))))))∧(∀ x_2:BX,(((((BX.i x_2):Nat)≤nb)∧((m8 (BX.a x_2))∧(∀ j:Nat,(((n:Nat)≤j)→(((j:Nat)<8)→(onA (BX.a x_2) (↑j:Int)=false))))))→
(sel (decide ((↑(BX.i x_2):Int)<(↑nb:Int))) 
(sel (decide ((↑(AX.i x):Int) > 0)) ((((0:Int)≤((↑(BX.i x_2):Int)))∧((((↑(BX.i x_2):Int)):Int)<((↑nb:Int))))∧(((I64 (B (0 + Int.toNat (↑(BX.i x_2):Int))))∧(((0:Int)<((↑(AX.i x):Int)))∧(I64 (↑(AX.i x):Int))))∧((((0:Int)≤(B (0 + Int.toNat (↑(BX.i x_2):Int)) % (↑(AX.i x):Int)))∧(((B (0 + Int.toNat (↑(BX.i x_2):Int)) % (↑(AX.i x):Int)):Int)<((↑(Int.toNat (↑(AX.i x):Int)):Int))))∧
(sel (!onA (BX.a x_2) (↑(0 + Int.toNat (B (0 + Int.toNat (↑(BX.i x_2):Int)) % (↑(AX.i x):Int))):Int)) (∃ x':BX,((((((BX.i x'):Nat)≤nb)∧((m8 (BX.a x'))∧(∀ j:Nat,(((n:Nat)≤j)→(((j:Nat)<8)→(onA (BX.a x') (↑j:Int)=false))))))∧(((SV.v (Value.int IntKind.i64 (IntKind.wrap IntKind.i64 ((↑(BX.i x_2):Int) + 1))))=(SV.v (Value.int IntKind.i64 ((↑(BX.i x'):Int)))))∧((((1:Nat)=1)∧(((1:Nat)≤1)∧(((SV.v (Value.int IntKind.u64 (BX.a x_2)))=(SV.v (Value.int IntKind.u64 (BX.a x'))))∧((SV.sl 89 1 0 8 8)=(SV.sl 89 1 0 8 8)))))∧((((8:Nat)=8)∧(((8:Nat)≤8)∧(∀ i:Nat,(((i:Nat)<8)→([(SV.v (Value.int IntKind.i64 (gnF n i)))]=[(SV.v (Value.int IntKind.i64 (gnF n i)))])))))∧((((1:Nat)=1)∧(((1:Nat)≤1)∧((SV.mp 73)=(SV.mp 73))))∧((((1:Nat)=1)∧(((1:Nat)≤1)∧((((MapC.cnt (Qbs (Qb8 G) (BX.a x_2))):Nat)=(MapC.cnt (Qbs (Qb8 G) (BX.a x'))))∧((∀ k:Int,(MapC.has (Qbs (Qb8 G) (BX.a x_2)) k=MapC.has (Qbs (Qb8 G) (BX.a x')) k))∧(∀ k:Int,(∀ i:Nat,(((i:Nat)<4)→(((MapC.val (Qbs (Qb8 G) (BX.a x_2)) k i):Int)=(MapC.val (Qbs (Qb8 G) (BX.a x')) k i)))))))))∧(((n:Nat)=n)∧(((n:Nat)≤n)∧(∀ i:Nat,(((i:Nat)<n)→([(SV.v (Value.bool (onA (BX.a x_2) (↑i:Int))))]=[(SV.v (Value.bool (onA (BX.a x') (↑i:Int))))])))))))))))∧(((nb - BX.i x'):Nat)<(nb - BX.i x_2)))) ((((0:Int)≤((↑(BX.i x_2):Int)))∧((((↑(BX.i x_2):Int)):Int)<((↑nb:Int))))∧
(sel (Int.tmod (B (0 + Int.toNat (↑(BX.i x_2):Int))) 3==0) (((slP (BX.a x_2) 8 {elem:=3,size:=1,rw:=true,lock:=false,lit:=false,flat:=true,n:=8,row:=fun i=>[SV.v (Value.int IntKind.i64 (gnF n i))]})∧(((0:Int)≤(B (0 + Int.toNat (↑(BX.i x_2):Int)) % (↑(AX.i x):Int)))∧(((B (0 + Int.toNat (↑(BX.i x_2):Int)) % (↑(AX.i x):Int)):Int)<8)))∧
(sel (!onA (BX.a x_2) (B (0 + Int.toNat (↑(BX.i x_2):Int)) % (↑(AX.i x):Int))) ((SV.v (Value.bool false))=(SV.v (Value.bool true))) (((slP (BX.a x_2) 8 {elem:=3,size:=1,rw:=true,lock:=false,lit:=false,flat:=true,n:=8,row:=fun i=>[SV.v (Value.int IntKind.i64 ((fun i=>i1 [SV.v (Value.int IntKind.i64 (gnF n i))]) i))]})∧((((0:Int)≤(bif onA (BX.a x_2) (B (0 + Int.toNat (↑(BX.i x_2):Int)) % (↑(AX.i x):Int)) then B (0 + Int.toNat (↑(BX.i x_2):Int)) % (↑(AX.i x):Int) else 0))∧(((bif onA (BX.a x_2) (B (0 + Int.toNat (↑(BX.i x_2):Int)) % (↑(AX.i x):Int)) then B (0 + Int.toNat (↑(BX.i x_2):Int)) % (↑(AX.i x):Int) else 0):Int)<8))∧(((0:Nat)<8)∧(Q2y (BX.a x_2) (fun i=>i1 [SV.v (Value.int IntKind.i64 ((fun i=>i1 [SV.v (Value.int IntKind.i64 (gnF n i))]) i))]) (bif onA (BX.a x_2) (B (0 + Int.toNat (↑(BX.i x_2):Int)) % (↑(AX.i x):Int)) then B (0 + Int.toNat (↑(BX.i x_2):Int)) % (↑(AX.i x):Int) else 0) (bif onA (BX.a x_2) (B (0 + Int.toNat (↑(BX.i x_2):Int)) % (↑(AX.i x):Int)) then i1 [SV.v (Value.int IntKind.i64 (gnF n (Int.toNat (B (0 + Int.toNat (↑(BX.i x_2):Int)) % (↑(AX.i x):Int)))))] else 0)=true))))∧(((idP (B (0 + Int.toNat (↑(BX.i x_2):Int)) % (↑(AX.i x):Int)))∧(MapC.has (Qbs (Qb8 G) (BX.a x_2)) (B (0 + Int.toNat (↑(BX.i x_2):Int)) % (↑(AX.i x):Int))=true))∧((((0:Int)≤(B (0 + Int.toNat (↑(BX.i x_2):Int)) % (↑(AX.i x):Int)))∧(((B (0 + Int.toNat (↑(BX.i x_2):Int)) % (↑(AX.i x):Int)):Int)<((↑(Int.toNat (↑(AX.i x):Int)):Int))))∧(∃ x':BX,((((((BX.i x'):Nat)≤nb)∧((m8 (BX.a x'))∧(∀ j:Nat,(((n:Nat)≤j)→(((j:Nat)<8)→(onA (BX.a x') (↑j:Int)=false))))))∧(((SV.v (Value.int IntKind.i64 (IntKind.wrap IntKind.i64 ((↑(BX.i x_2):Int) + 1))))=(SV.v (Value.int IntKind.i64 ((↑(BX.i x'):Int)))))∧((((1:Nat)=1)∧(((1:Nat)≤1)∧(((SV.v (Value.int IntKind.u64 (clA (BX.a x_2) (bif onA (BX.a x_2) (B (0 + Int.toNat (↑(BX.i x_2):Int)) % (↑(AX.i x):Int)) then B (0 + Int.toNat (↑(BX.i x_2):Int)) % (↑(AX.i x):Int) else 0))))=(SV.v (Value.int IntKind.u64 (BX.a x'))))∧((SV.sl 89 1 0 8 8)=(SV.sl 89 1 0 8 8)))))∧((((8:Nat)=8)∧(((8:Nat)≤8)∧(∀ i:Nat,(((i:Nat)<8)→([(SV.v (Value.int IntKind.i64 (i1 [SV.v (Value.int IntKind.i64 ((fun i=>i1 [SV.v (Value.int IntKind.i64 (gnF n i))]) i))])))]=[(SV.v (Value.int IntKind.i64 (gnF n i)))])))))∧((((1:Nat)=1)∧(((1:Nat)≤1)∧((SV.mp 73)=(SV.mp 73))))∧((((1:Nat)=1)∧(((1:Nat)≤1)∧((((MapC.cnt (MapC.cut (Qbs (Qb8 G) (BX.a x_2)) (B (0 + Int.toNat (↑(BX.i x_2):Int)) % (↑(AX.i x):Int)))):Nat)=(MapC.cnt (Qbs (Qb8 G) (BX.a x'))))∧((∀ k:Int,(MapC.has (MapC.cut (Qbs (Qb8 G) (BX.a x_2)) (B (0 + Int.toNat (↑(BX.i x_2):Int)) % (↑(AX.i x):Int))) k=MapC.has (Qbs (Qb8 G) (BX.a x')) k))∧(∀ k:Int,(∀ i:Nat,(((i:Nat)<4)→(((MapC.val (MapC.cut (Qbs (Qb8 G) (BX.a x_2)) (B (0 + Int.toNat (↑(BX.i x_2):Int)) % (↑(AX.i x):Int))) k i):Int)=(MapC.val (Qbs (Qb8 G) (BX.a x')) k i)))))))))∧(((n:Nat)=n)∧(((n:Nat)≤n)∧(∀ i:Nat,(((i:Nat)<n)→([(SV.v (Value.bool (bop (Nat.beq i (0 + Int.toNat (B (0 + Int.toNat (↑(BX.i x_2):Int)) % (↑(AX.i x):Int)))) false (onA (BX.a x_2) (↑i:Int)))))]=[(SV.v (Value.bool (onA (BX.a x') (↑i:Int))))])))))))))))∧(((nb - BX.i x'):Nat)<(nb - BX.i x_2))))))))) (((idP (B (0 + Int.toNat (↑(BX.i x_2):Int)) % (↑(AX.i x):Int)))∧((bxP 0 0 0 0)∧(MapC.has (Qbs (Qb8 G) (BX.a x_2)) (B (0 + Int.toNat (↑(BX.i x_2):Int)) % (↑(AX.i x):Int))=true)))∧((((0:Int)≤(B (0 + Int.toNat (↑(BX.i x_2):Int)) % (↑(AX.i x):Int)))∧(((B (0 + Int.toNat (↑(BX.i x_2):Int)) % (↑(AX.i x):Int)):Int)<((↑(AX.i x):Int))))∧((FM.fine (Qba (G (0 + Int.toNat (B (0 + Int.toNat (↑(BX.i x_2):Int)) % (↑(AX.i x):Int))))))∧(((idP (B (0 + Int.toNat (↑(BX.i x_2):Int)) % (↑(AX.i x):Int)))∧((bxP (BxI.a (FM.bx (Qba (G (0 + Int.toNat (B (0 + Int.toNat (↑(BX.i x_2):Int)) % (↑(AX.i x):Int))))))) (BxI.b (FM.bx (Qba (G (0 + Int.toNat (B (0 + Int.toNat (↑(BX.i x_2):Int)) % (↑(AX.i x):Int))))))) (BxI.c (FM.bx (Qba (G (0 + Int.toNat (B (0 + Int.toNat (↑(BX.i x_2):Int)) % (↑(AX.i x):Int))))))) (BxI.d (FM.bx (Qba (G (0 + Int.toNat (B (0 + Int.toNat (↑(BX.i x_2):Int)) % (↑(AX.i x):Int))))))))∧(MapC.has (MapC.put (Qbs (Qb8 G) (BX.a x_2)) (B (0 + Int.toNat (↑(BX.i x_2):Int)) % (↑(AX.i x):Int)) [0,0,0,0]) (B (0 + Int.toNat (↑(BX.i x_2):Int)) % (↑(AX.i x):Int))=true)))∧(∃ x':BX,((((((BX.i x'):Nat)≤nb)∧((m8 (BX.a x'))∧(∀ j:Nat,(((n:Nat)≤j)→(((j:Nat)<8)→(onA (BX.a x') (↑j:Int)=false))))))∧(((SV.v (Value.int IntKind.i64 (IntKind.wrap IntKind.i64 ((↑(BX.i x_2):Int) + 1))))=(SV.v (Value.int IntKind.i64 ((↑(BX.i x'):Int)))))∧((((1:Nat)=1)∧(((1:Nat)≤1)∧(((SV.v (Value.int IntKind.u64 (BX.a x_2)))=(SV.v (Value.int IntKind.u64 (BX.a x'))))∧((SV.sl 89 1 0 8 8)=(SV.sl 89 1 0 8 8)))))∧((((8:Nat)=8)∧(((8:Nat)≤8)∧(∀ i:Nat,(((i:Nat)<8)→([(SV.v (Value.int IntKind.i64 (gnF n i)))]=[(SV.v (Value.int IntKind.i64 (gnF n i)))])))))∧((((1:Nat)=1)∧(((1:Nat)≤1)∧((SV.mp 73)=(SV.mp 73))))∧((((1:Nat)=1)∧(((1:Nat)≤1)∧((((MapC.cnt (MapC.put (MapC.put (Qbs (Qb8 G) (BX.a x_2)) (B (0 + Int.toNat (↑(BX.i x_2):Int)) % (↑(AX.i x):Int)) [0,0,0,0]) (B (0 + Int.toNat (↑(BX.i x_2):Int)) % (↑(AX.i x):Int)) [BxI.a (FM.bx (Qba (G (0 + Int.toNat (B (0 + Int.toNat (↑(BX.i x_2):Int)) % (↑(AX.i x):Int)))))),BxI.b (FM.bx (Qba (G (0 + Int.toNat (B (0 + Int.toNat (↑(BX.i x_2):Int)) % (↑(AX.i x):Int)))))),BxI.c (FM.bx (Qba (G (0 + Int.toNat (B (0 + Int.toNat (↑(BX.i x_2):Int)) % (↑(AX.i x):Int)))))),BxI.d (FM.bx (Qba (G (0 + Int.toNat (B (0 + Int.toNat (↑(BX.i x_2):Int)) % (↑(AX.i x):Int))))))])):Nat)=(MapC.cnt (Qbs (Qb8 G) (BX.a x'))))∧((∀ k:Int,(MapC.has (MapC.put (MapC.put (Qbs (Qb8 G) (BX.a x_2)) (B (0 + Int.toNat (↑(BX.i x_2):Int)) % (↑(AX.i x):Int)) [0,0,0,0]) (B (0 + Int.toNat (↑(BX.i x_2):Int)) % (↑(AX.i x):Int)) [BxI.a (FM.bx (Qba (G (0 + Int.toNat (B (0 + Int.toNat (↑(BX.i x_2):Int)) % (↑(AX.i x):Int)))))),BxI.b (FM.bx (Qba (G (0 + Int.toNat (B (0 + Int.toNat (↑(BX.i x_2):Int)) % (↑(AX.i x):Int)))))),BxI.c (FM.bx (Qba (G (0 + Int.toNat (B (0 + Int.toNat (↑(BX.i x_2):Int)) % (↑(AX.i x):Int)))))),BxI.d (FM.bx (Qba (G (0 + Int.toNat (B (0 + Int.toNat (↑(BX.i x_2):Int)) % (↑(AX.i x):Int))))))]) k=MapC.has (Qbs (Qb8 G) (BX.a x')) k))∧(∀ k:Int,(∀ i:Nat,(((i:Nat)<4)→(((MapC.val (MapC.put (MapC.put (Qbs (Qb8 G) (BX.a x_2)) (B (0 + Int.toNat (↑(BX.i x_2):Int)) % (↑(AX.i x):Int)) [0,0,0,0]) (B (0 + Int.toNat (↑(BX.i x_2):Int)) % (↑(AX.i x):Int)) [BxI.a (FM.bx (Qba (G (0 + Int.toNat (B (0 + Int.toNat (↑(BX.i x_2):Int)) % (↑(AX.i x):Int)))))),BxI.b (FM.bx (Qba (G (0 + Int.toNat (B (0 + Int.toNat (↑(BX.i x_2):Int)) % (↑(AX.i x):Int)))))),BxI.c (FM.bx (Qba (G (0 + Int.toNat (B (0 + Int.toNat (↑(BX.i x_2):Int)) % (↑(AX.i x):Int)))))),BxI.d (FM.bx (Qba (G (0 + Int.toNat (B (0 + Int.toNat (↑(BX.i x_2):Int)) % (↑(AX.i x):Int))))))]) k i):Int)=(MapC.val (Qbs (Qb8 G) (BX.a x')) k i)))))))))∧(((n:Nat)=n)∧(((n:Nat)≤n)∧(∀ i:Nat,(((i:Nat)<n)→([(SV.v (Value.bool (onA (BX.a x_2) (↑i:Int))))]=[(SV.v (Value.bool (onA (BX.a x') (↑i:Int))))])))))))))))∧(((nb - BX.i x'):Nat)<(nb - BX.i x_2)))))))))))))) (((Quo (Qbs (Qb8 G) (BX.a x_2)))∧(Zix (Qbs (Qb8 G) (BX.a x_2))))∧(∀ c_1:Nat,((∃ x_3:BX,(((Nat.le (BX.i x_3) n)∧((SV.v (Value.int IntKind.u64 (BX.a x_2)))=(SV.v (Value.int IntKind.u64 (BX.a x_3)))))∧((((SV.v (Value.int IntKind.i64 0))=(SV.v (Value.int IntKind.i64 ((↑(BX.i x_3):Int)))))∧((SV.v (Value.int IntKind.i64 0))=(SV.v (Value.int IntKind.i64 ((↑(Qa3 (Qcs G (BX.a x_3)) ((↑(BX.i x_3):Int),(↑(BX.i x_3 + 1):Int))):Int))))))∧((((1:Nat)=1)∧(((1:Nat)≤1)∧(((SV.v (Value.int IntKind.u64 (BX.a x_2)))=(SV.v (Value.int IntKind.u64 (BX.a x_3))))∧((SV.sl 89 1 0 8 8)=(SV.sl 89 1 0 8 8)))))∧(((8:Nat)=8)∧(((8:Nat)≤8)∧(∀ i:Nat,(((i:Nat)<8)→([(SV.v (Value.int IntKind.i64 (gnF n i)))]=[(SV.v (Value.int IntKind.i64 (gnF n i)))])))))))))∧(∀ x_3:BX,(((Nat.le (BX.i x_3) n)∧((SV.v (Value.int IntKind.u64 (BX.a x_2)))=(SV.v (Value.int IntKind.u64 (BX.a x_3)))))→
(sel (decide ((↑(BX.i x_3):Int)<(↑(AX.i x):Int))) (((slP (BX.a x_3) 8 {elem:=3,size:=1,rw:=true,lock:=false,lit:=false,flat:=true,n:=8,row:=fun i=>[SV.v (Value.int IntKind.i64 (gnF n i))]})∧(((0:Int)≤((↑(BX.i x_3):Int)))∧((((↑(BX.i x_3):Int)):Int)<8)))∧((((0:Int)≤((↑(BX.i x_3):Int)))∧((((↑(BX.i x_3):Int)):Int)<((↑(Int.toNat (↑(AX.i x):Int)):Int))))∧
(sel (!onA (BX.a x_3) (↑(BX.i x_3):Int)==onA (BX.a x_2) (↑(0 + Int.toNat (↑(BX.i x_3):Int)):Int)) ((SV.v (Value.bool false))=(SV.v (Value.bool true))) ((∃ x_4:HX,((((((HX.i x_4):Nat)<(HX.k x_4))∧(((HX.k x_4):Nat)≤n))∧(((SV.v (Value.int IntKind.u64 (BX.a x_3)))=(SV.v (Value.int IntKind.u64 (HX.a x_4))))∧((SV.v (Value.int IntKind.i64 ((↑(BX.i x_3):Int))))=(SV.v (Value.int IntKind.i64 ((↑(HX.i x_4):Int)))))))∧((((SV.v (Value.int IntKind.i64 (IntKind.wrap IntKind.i64 ((↑(BX.i x_3):Int) + 1))))=(SV.v (Value.int IntKind.i64 ((↑(HX.k x_4):Int)))))∧((SV.v (Value.int IntKind.i64 ((↑(Qa3 (Qcs G (BX.a x_3)) ((↑(BX.i x_3):Int),(↑(BX.i x_3 + 1):Int))):Int))))=(SV.v (Value.int IntKind.i64 ((↑(Qa3 (Qcs G (HX.a x_4)) ((↑(HX.i x_4):Int),(↑(HX.k x_4):Int))):Int))))))∧True)))∧(∀ x_4:HX,((((((HX.i x_4):Nat)<(HX.k x_4))∧(((HX.k x_4):Nat)≤n))∧(((SV.v (Value.int IntKind.u64 (BX.a x_3)))=(SV.v (Value.int IntKind.u64 (HX.a x_4))))∧((SV.v (Value.int IntKind.i64 ((↑(BX.i x_3):Int))))=(SV.v (Value.int IntKind.i64 ((↑(HX.i x_4):Int)))))))→
(sel (decide ((↑(HX.k x_4):Int)<(↑(AX.i x):Int))) ((((0:Int)≤((↑(BX.i x_3):Int)))∧((((↑(BX.i x_3):Int)):Int)<((↑(Int.toNat (↑(AX.i x):Int)):Int))))∧
(sel (!onA (BX.a x_2) (↑(0 + Int.toNat (↑(BX.i x_3):Int)):Int)) (∃ x':HX,(((((((HX.i x'):Nat)<(HX.k x'))∧(((HX.k x'):Nat)≤n))∧(((SV.v (Value.int IntKind.u64 (BX.a x_3)))=(SV.v (Value.int IntKind.u64 (HX.a x'))))∧((SV.v (Value.int IntKind.i64 ((↑(BX.i x_3):Int))))=(SV.v (Value.int IntKind.i64 ((↑(HX.i x'):Int)))))))∧((((SV.v (Value.int IntKind.i64 (IntKind.wrap IntKind.i64 ((↑(HX.k x_4):Int) + 1))))=(SV.v (Value.int IntKind.i64 ((↑(HX.k x'):Int)))))∧((SV.v (Value.int IntKind.i64 ((↑(Qa3 (Qcs G (HX.a x_4)) ((↑(HX.i x_4):Int),(↑(HX.k x_4):Int))):Int))))=(SV.v (Value.int IntKind.i64 ((↑(Qa3 (Qcs G (HX.a x')) ((↑(HX.i x'):Int),(↑(HX.k x'):Int))):Int))))))∧True))∧(((n - HX.k x'):Nat)<(n - HX.k x_4)))) ((((0:Int)≤((↑(HX.k x_4):Int)))∧((((↑(HX.k x_4):Int)):Int)<((↑(Int.toNat (↑(AX.i x):Int)):Int))))∧
(sel (!onA (BX.a x_2) (↑(0 + Int.toNat (↑(HX.k x_4):Int)):Int)) (∃ x':HX,(((((((HX.i x'):Nat)<(HX.k x'))∧(((HX.k x'):Nat)≤n))∧(((SV.v (Value.int IntKind.u64 (BX.a x_3)))=(SV.v (Value.int IntKind.u64 (HX.a x'))))∧((SV.v (Value.int IntKind.i64 ((↑(BX.i x_3):Int))))=(SV.v (Value.int IntKind.i64 ((↑(HX.i x'):Int)))))))∧((((SV.v (Value.int IntKind.i64 (IntKind.wrap IntKind.i64 ((↑(HX.k x_4):Int) + 1))))=(SV.v (Value.int IntKind.i64 ((↑(HX.k x'):Int)))))∧((SV.v (Value.int IntKind.i64 ((↑(Qa3 (Qcs G (HX.a x_4)) ((↑(HX.i x_4):Int),(↑(HX.k x_4):Int))):Int))))=(SV.v (Value.int IntKind.i64 ((↑(Qa3 (Qcs G (HX.a x')) ((↑(HX.i x'):Int),(↑(HX.k x'):Int))):Int))))))∧True))∧(((n - HX.k x'):Nat)<(n - HX.k x_4)))) 
(sel (decide ((↑(Qa3 (Qcs G (HX.a x_4)) ((↑(HX.i x_4):Int),(↑(HX.k x_4):Int))):Int)<(↑(List.length (Qa9 (Qbs (Qb8 G) (BX.a x_2)))):Int))) ((((0:Int)≤((↑(Qa3 (Qcs G (HX.a x_4)) ((↑(HX.i x_4):Int),(↑(HX.k x_4):Int))):Int)))∧((((↑(Qa3 (Qcs G (HX.a x_4)) ((↑(HX.i x_4):Int),(↑(HX.k x_4):Int))):Int)):Int)<((↑(List.length (Qa9 (Qbs (Qb8 G) (BX.a x_2)))):Int))))∧
(sel (Prod.fst (List.getD (Qa9 (Qbs (Qb8 G) (BX.a x_2))) (0 + Int.toNat (↑(Qa3 (Qcs G (HX.a x_4)) ((↑(HX.i x_4):Int),(↑(HX.k x_4):Int))):Int)) (0,0))==(↑(BX.i x_3):Int)&&Prod.snd (List.getD (Qa9 (Qbs (Qb8 G) (BX.a x_2))) (0 + Int.toNat (↑(Qa3 (Qcs G (HX.a x_4)) ((↑(HX.i x_4):Int),(↑(HX.k x_4):Int))):Int)) (0,0))==(↑(HX.k x_4):Int)) ((((0:Int)≤((↑(BX.i x_3):Int)))∧((((↑(BX.i x_3):Int)):Int)<((↑(AX.i x):Int))))∧((FM.fine (Qba (G (0 + Int.toNat (↑(BX.i x_3):Int)))))∧((((0:Int)≤((↑(HX.k x_4):Int)))∧((((↑(HX.k x_4):Int)):Int)<((↑(AX.i x):Int))))∧((FM.fine (Qba (G (0 + Int.toNat (↑(HX.k x_4):Int)))))∧(((bxP (BxI.a (FM.bx (Qba (G (0 + Int.toNat (↑(BX.i x_3):Int)))))) (BxI.b (FM.bx (Qba (G (0 + Int.toNat (↑(BX.i x_3):Int)))))) (BxI.c (FM.bx (Qba (G (0 + Int.toNat (↑(BX.i x_3):Int)))))) (BxI.d (FM.bx (Qba (G (0 + Int.toNat (↑(BX.i x_3):Int)))))))∧(bxP (BxI.a (FM.bx (Qba (G (0 + Int.toNat (↑(HX.k x_4):Int)))))) (BxI.b (FM.bx (Qba (G (0 + Int.toNat (↑(HX.k x_4):Int)))))) (BxI.c (FM.bx (Qba (G (0 + Int.toNat (↑(HX.k x_4):Int)))))) (BxI.d (FM.bx (Qba (G (0 + Int.toNat (↑(HX.k x_4):Int))))))))∧
(sel (!(Prod.fst (List.getD (Qa9 (Qbs (Qb8 G) (BX.a x_2))) (0 + Int.toNat (↑(Qa3 (Qcs G (HX.a x_4)) ((↑(HX.i x_4):Int),(↑(HX.k x_4):Int))):Int)) (0,0))==(↑(BX.i x_3):Int)&&Prod.snd (List.getD (Qa9 (Qbs (Qb8 G) (BX.a x_2))) (0 + Int.toNat (↑(Qa3 (Qcs G (HX.a x_4)) ((↑(HX.i x_4):Int),(↑(HX.k x_4):Int))):Int)) (0,0))==(↑(HX.k x_4):Int))==Qgy (BxI.a (FM.bx (Qba (G (0 + Int.toNat (↑(BX.i x_3):Int)))))) (BxI.b (FM.bx (Qba (G (0 + Int.toNat (↑(BX.i x_3):Int)))))) (BxI.c (FM.bx (Qba (G (0 + Int.toNat (↑(BX.i x_3):Int)))))) (BxI.d (FM.bx (Qba (G (0 + Int.toNat (↑(BX.i x_3):Int)))))) (BxI.a (FM.bx (Qba (G (0 + Int.toNat (↑(HX.k x_4):Int)))))) (BxI.b (FM.bx (Qba (G (0 + Int.toNat (↑(HX.k x_4):Int)))))) (BxI.c (FM.bx (Qba (G (0 + Int.toNat (↑(HX.k x_4):Int)))))) (BxI.d (FM.bx (Qba (G (0 + Int.toNat (↑(HX.k x_4):Int))))))) ((SV.v (Value.bool false))=(SV.v (Value.bool true))) 
(sel (!(Prod.fst (List.getD (Qa9 (Qbs (Qb8 G) (BX.a x_2))) (0 + Int.toNat (↑(Qa3 (Qcs G (HX.a x_4)) ((↑(HX.i x_4):Int),(↑(HX.k x_4):Int))):Int)) (0,0))==(↑(BX.i x_3):Int)&&Prod.snd (List.getD (Qa9 (Qbs (Qb8 G) (BX.a x_2))) (0 + Int.toNat (↑(Qa3 (Qcs G (HX.a x_4)) ((↑(HX.i x_4):Int),(↑(HX.k x_4):Int))):Int)) (0,0))==(↑(HX.k x_4):Int))) ((((0:Int)≤((↑(BX.i x_3):Int)))∧((((↑(BX.i x_3):Int)):Int)<((↑(AX.i x):Int))))∧((((0:Int)≤((↑(HX.k x_4):Int)))∧((((↑(HX.k x_4):Int)):Int)<((↑(AX.i x):Int))))∧(((FM.fine (Qba (G (0 + Int.toNat (↑(BX.i x_3):Int)))))∧((FM.fine (Qba (G (0 + Int.toNat (↑(HX.k x_4):Int)))))∧(Qhz (FM.bx (Qba (G (0 + Int.toNat (↑(BX.i x_3):Int))))) (FM.bx (Qba (G (0 + Int.toNat (↑(HX.k x_4):Int))))))))∧(∃ x':HX,(((((((HX.i x'):Nat)<(HX.k x'))∧(((HX.k x'):Nat)≤n))∧(((SV.v (Value.int IntKind.u64 (BX.a x_3)))=(SV.v (Value.int IntKind.u64 (HX.a x'))))∧((SV.v (Value.int IntKind.i64 ((↑(BX.i x_3):Int))))=(SV.v (Value.int IntKind.i64 ((↑(HX.i x'):Int)))))))∧((((SV.v (Value.int IntKind.i64 (IntKind.wrap IntKind.i64 ((↑(HX.k x_4):Int) + 1))))=(SV.v (Value.int IntKind.i64 ((↑(HX.k x'):Int)))))∧((SV.v (Value.int IntKind.i64 (IntKind.wrap IntKind.i64 ((↑(Qa3 (Qcs G (HX.a x_4)) ((↑(HX.i x_4):Int),(↑(HX.k x_4):Int))):Int) + 1))))=(SV.v (Value.int IntKind.i64 ((↑(Qa3 (Qcs G (HX.a x')) ((↑(HX.i x'):Int),(↑(HX.k x'):Int))):Int))))))∧True))∧(((n - HX.k x'):Nat)<(n - HX.k x_4))))))) (∃ x':HX,(((((((HX.i x'):Nat)<(HX.k x'))∧(((HX.k x'):Nat)≤n))∧(((SV.v (Value.int IntKind.u64 (BX.a x_3)))=(SV.v (Value.int IntKind.u64 (HX.a x'))))∧((SV.v (Value.int IntKind.i64 ((↑(BX.i x_3):Int))))=(SV.v (Value.int IntKind.i64 ((↑(HX.i x'):Int)))))))∧((((SV.v (Value.int IntKind.i64 (IntKind.wrap IntKind.i64 ((↑(HX.k x_4):Int) + 1))))=(SV.v (Value.int IntKind.i64 ((↑(HX.k x'):Int)))))∧((SV.v (Value.int IntKind.i64 (IntKind.wrap IntKind.i64 ((↑(Qa3 (Qcs G (HX.a x_4)) ((↑(HX.i x_4):Int),(↑(HX.k x_4):Int))):Int) + 1))))=(SV.v (Value.int IntKind.i64 ((↑(Qa3 (Qcs G (HX.a x')) ((↑(HX.i x'):Int),(↑(HX.k x'):Int))):Int))))))∧True))∧(((n - HX.k x'):Nat)<(n - HX.k x_4))))))))))) ((((0:Int)≤((↑(BX.i x_3):Int)))∧((((↑(BX.i x_3):Int)):Int)<((↑(AX.i x):Int))))∧((FM.fine (Qba (G (0 + Int.toNat (↑(BX.i x_3):Int)))))∧((((0:Int)≤((↑(HX.k x_4):Int)))∧((((↑(HX.k x_4):Int)):Int)<((↑(AX.i x):Int))))∧((FM.fine (Qba (G (0 + Int.toNat (↑(HX.k x_4):Int)))))∧(((bxP (BxI.a (FM.bx (Qba (G (0 + Int.toNat (↑(BX.i x_3):Int)))))) (BxI.b (FM.bx (Qba (G (0 + Int.toNat (↑(BX.i x_3):Int)))))) (BxI.c (FM.bx (Qba (G (0 + Int.toNat (↑(BX.i x_3):Int)))))) (BxI.d (FM.bx (Qba (G (0 + Int.toNat (↑(BX.i x_3):Int)))))))∧(bxP (BxI.a (FM.bx (Qba (G (0 + Int.toNat (↑(HX.k x_4):Int)))))) (BxI.b (FM.bx (Qba (G (0 + Int.toNat (↑(HX.k x_4):Int)))))) (BxI.c (FM.bx (Qba (G (0 + Int.toNat (↑(HX.k x_4):Int)))))) (BxI.d (FM.bx (Qba (G (0 + Int.toNat (↑(HX.k x_4):Int))))))))∧
(sel (!(Prod.fst (List.getD (Qa9 (Qbs (Qb8 G) (BX.a x_2))) (0 + Int.toNat (↑(Qa3 (Qcs G (HX.a x_4)) ((↑(HX.i x_4):Int),(↑(HX.k x_4):Int))):Int)) (0,0))==(↑(BX.i x_3):Int)&&Prod.snd (List.getD (Qa9 (Qbs (Qb8 G) (BX.a x_2))) (0 + Int.toNat (↑(Qa3 (Qcs G (HX.a x_4)) ((↑(HX.i x_4):Int),(↑(HX.k x_4):Int))):Int)) (0,0))==(↑(HX.k x_4):Int))==Qgy (BxI.a (FM.bx (Qba (G (0 + Int.toNat (↑(BX.i x_3):Int)))))) (BxI.b (FM.bx (Qba (G (0 + Int.toNat (↑(BX.i x_3):Int)))))) (BxI.c (FM.bx (Qba (G (0 + Int.toNat (↑(BX.i x_3):Int)))))) (BxI.d (FM.bx (Qba (G (0 + Int.toNat (↑(BX.i x_3):Int)))))) (BxI.a (FM.bx (Qba (G (0 + Int.toNat (↑(HX.k x_4):Int)))))) (BxI.b (FM.bx (Qba (G (0 + Int.toNat (↑(HX.k x_4):Int)))))) (BxI.c (FM.bx (Qba (G (0 + Int.toNat (↑(HX.k x_4):Int)))))) (BxI.d (FM.bx (Qba (G (0 + Int.toNat (↑(HX.k x_4):Int))))))) ((SV.v (Value.bool false))=(SV.v (Value.bool true))) 
(sel (!(Prod.fst (List.getD (Qa9 (Qbs (Qb8 G) (BX.a x_2))) (0 + Int.toNat (↑(Qa3 (Qcs G (HX.a x_4)) ((↑(HX.i x_4):Int),(↑(HX.k x_4):Int))):Int)) (0,0))==(↑(BX.i x_3):Int)&&Prod.snd (List.getD (Qa9 (Qbs (Qb8 G) (BX.a x_2))) (0 + Int.toNat (↑(Qa3 (Qcs G (HX.a x_4)) ((↑(HX.i x_4):Int),(↑(HX.k x_4):Int))):Int)) (0,0))==(↑(HX.k x_4):Int))) ((((0:Int)≤((↑(BX.i x_3):Int)))∧((((↑(BX.i x_3):Int)):Int)<((↑(AX.i x):Int))))∧((((0:Int)≤((↑(HX.k x_4):Int)))∧((((↑(HX.k x_4):Int)):Int)<((↑(AX.i x):Int))))∧(((FM.fine (Qba (G (0 + Int.toNat (↑(BX.i x_3):Int)))))∧((FM.fine (Qba (G (0 + Int.toNat (↑(HX.k x_4):Int)))))∧(Qhz (FM.bx (Qba (G (0 + Int.toNat (↑(BX.i x_3):Int))))) (FM.bx (Qba (G (0 + Int.toNat (↑(HX.k x_4):Int))))))))∧(∃ x':HX,(((((((HX.i x'):Nat)<(HX.k x'))∧(((HX.k x'):Nat)≤n))∧(((SV.v (Value.int IntKind.u64 (BX.a x_3)))=(SV.v (Value.int IntKind.u64 (HX.a x'))))∧((SV.v (Value.int IntKind.i64 ((↑(BX.i x_3):Int))))=(SV.v (Value.int IntKind.i64 ((↑(HX.i x'):Int)))))))∧((((SV.v (Value.int IntKind.i64 (IntKind.wrap IntKind.i64 ((↑(HX.k x_4):Int) + 1))))=(SV.v (Value.int IntKind.i64 ((↑(HX.k x'):Int)))))∧((SV.v (Value.int IntKind.i64 ((↑(Qa3 (Qcs G (HX.a x_4)) ((↑(HX.i x_4):Int),(↑(HX.k x_4):Int))):Int))))=(SV.v (Value.int IntKind.i64 ((↑(Qa3 (Qcs G (HX.a x')) ((↑(HX.i x'):Int),(↑(HX.k x'):Int))):Int))))))∧True))∧(((n - HX.k x'):Nat)<(n - HX.k x_4))))))) (∃ x':HX,(((((((HX.i x'):Nat)<(HX.k x'))∧(((HX.k x'):Nat)≤n))∧(((SV.v (Value.int IntKind.u64 (BX.a x_3)))=(SV.v (Value.int IntKind.u64 (HX.a x'))))∧((SV.v (Value.int IntKind.i64 ((↑(BX.i x_3):Int))))=(SV.v (Value.int IntKind.i64 ((↑(HX.i x'):Int)))))))∧((((SV.v (Value.int IntKind.i64 (IntKind.wrap IntKind.i64 ((↑(HX.k x_4):Int) + 1))))=(SV.v (Value.int IntKind.i64 ((↑(HX.k x'):Int)))))∧((SV.v (Value.int IntKind.i64 ((↑(Qa3 (Qcs G (HX.a x_4)) ((↑(HX.i x_4):Int),(↑(HX.k x_4):Int))):Int))))=(SV.v (Value.int IntKind.i64 ((↑(Qa3 (Qcs G (HX.a x')) ((↑(HX.i x'):Int),(↑(HX.k x'):Int))):Int))))))∧True))∧(((n - HX.k x'):Nat)<(n - HX.k x_4))))))))))))) ((((0:Int)≤((↑(BX.i x_3):Int)))∧((((↑(BX.i x_3):Int)):Int)<((↑(AX.i x):Int))))∧((FM.fine (Qba (G (0 + Int.toNat (↑(BX.i x_3):Int)))))∧((((0:Int)≤((↑(HX.k x_4):Int)))∧((((↑(HX.k x_4):Int)):Int)<((↑(AX.i x):Int))))∧((FM.fine (Qba (G (0 + Int.toNat (↑(HX.k x_4):Int)))))∧(((bxP (BxI.a (FM.bx (Qba (G (0 + Int.toNat (↑(BX.i x_3):Int)))))) (BxI.b (FM.bx (Qba (G (0 + Int.toNat (↑(BX.i x_3):Int)))))) (BxI.c (FM.bx (Qba (G (0 + Int.toNat (↑(BX.i x_3):Int)))))) (BxI.d (FM.bx (Qba (G (0 + Int.toNat (↑(BX.i x_3):Int)))))))∧(bxP (BxI.a (FM.bx (Qba (G (0 + Int.toNat (↑(HX.k x_4):Int)))))) (BxI.b (FM.bx (Qba (G (0 + Int.toNat (↑(HX.k x_4):Int)))))) (BxI.c (FM.bx (Qba (G (0 + Int.toNat (↑(HX.k x_4):Int)))))) (BxI.d (FM.bx (Qba (G (0 + Int.toNat (↑(HX.k x_4):Int))))))))∧
(sel (!false==Qgy (BxI.a (FM.bx (Qba (G (0 + Int.toNat (↑(BX.i x_3):Int)))))) (BxI.b (FM.bx (Qba (G (0 + Int.toNat (↑(BX.i x_3):Int)))))) (BxI.c (FM.bx (Qba (G (0 + Int.toNat (↑(BX.i x_3):Int)))))) (BxI.d (FM.bx (Qba (G (0 + Int.toNat (↑(BX.i x_3):Int)))))) (BxI.a (FM.bx (Qba (G (0 + Int.toNat (↑(HX.k x_4):Int)))))) (BxI.b (FM.bx (Qba (G (0 + Int.toNat (↑(HX.k x_4):Int)))))) (BxI.c (FM.bx (Qba (G (0 + Int.toNat (↑(HX.k x_4):Int)))))) (BxI.d (FM.bx (Qba (G (0 + Int.toNat (↑(HX.k x_4):Int))))))) ((SV.v (Value.bool false))=(SV.v (Value.bool true))) ((((0:Int)≤((↑(BX.i x_3):Int)))∧((((↑(BX.i x_3):Int)):Int)<((↑(AX.i x):Int))))∧((((0:Int)≤((↑(HX.k x_4):Int)))∧((((↑(HX.k x_4):Int)):Int)<((↑(AX.i x):Int))))∧(((FM.fine (Qba (G (0 + Int.toNat (↑(BX.i x_3):Int)))))∧((FM.fine (Qba (G (0 + Int.toNat (↑(HX.k x_4):Int)))))∧(Qhz (FM.bx (Qba (G (0 + Int.toNat (↑(BX.i x_3):Int))))) (FM.bx (Qba (G (0 + Int.toNat (↑(HX.k x_4):Int))))))))∧(∃ x':HX,(((((((HX.i x'):Nat)<(HX.k x'))∧(((HX.k x'):Nat)≤n))∧(((SV.v (Value.int IntKind.u64 (BX.a x_3)))=(SV.v (Value.int IntKind.u64 (HX.a x'))))∧((SV.v (Value.int IntKind.i64 ((↑(BX.i x_3):Int))))=(SV.v (Value.int IntKind.i64 ((↑(HX.i x'):Int)))))))∧((((SV.v (Value.int IntKind.i64 (IntKind.wrap IntKind.i64 ((↑(HX.k x_4):Int) + 1))))=(SV.v (Value.int IntKind.i64 ((↑(HX.k x'):Int)))))∧((SV.v (Value.int IntKind.i64 ((↑(Qa3 (Qcs G (HX.a x_4)) ((↑(HX.i x_4):Int),(↑(HX.k x_4):Int))):Int))))=(SV.v (Value.int IntKind.i64 ((↑(Qa3 (Qcs G (HX.a x')) ((↑(HX.i x'):Int),(↑(HX.k x'):Int))):Int))))))∧True))∧(((n - HX.k x'):Nat)<(n - HX.k x_4)))))))))))))))))) (∃ x':BX,((((Nat.le (BX.i x') n)∧((SV.v (Value.int IntKind.u64 (BX.a x_2)))=(SV.v (Value.int IntKind.u64 (BX.a x')))))∧((((SV.v (Value.int IntKind.i64 (IntKind.wrap IntKind.i64 ((↑(BX.i x_3):Int) + 1))))=(SV.v (Value.int IntKind.i64 ((↑(BX.i x'):Int)))))∧((SV.v (Value.int IntKind.i64 ((↑(Qa3 (Qcs G (HX.a x_4)) ((↑(HX.i x_4):Int),(↑(HX.k x_4):Int))):Int))))=(SV.v (Value.int IntKind.i64 ((↑(Qa3 (Qcs G (BX.a x')) ((↑(BX.i x'):Int),(↑(BX.i x' + 1):Int))):Int))))))∧((((1:Nat)=1)∧(((1:Nat)≤1)∧(((SV.v (Value.int IntKind.u64 (BX.a x_3)))=(SV.v (Value.int IntKind.u64 (BX.a x'))))∧((SV.sl 89 1 0 8 8)=(SV.sl 89 1 0 8 8)))))∧(((8:Nat)=8)∧(((8:Nat)≤8)∧(∀ i:Nat,(((i:Nat)<8)→([(SV.v (Value.int IntKind.i64 (i1 [SV.v (Value.int IntKind.i64 (gnF n i))])))]=[(SV.v (Value.int IntKind.i64 (gnF n i)))]))))))))∧(((n - BX.i x'):Nat)<(n - BX.i x_3))))))))))) 
(sel ((↑(Qa3 (Qcs G (BX.a x_3)) ((↑(BX.i x_3):Int),(↑(BX.i x_3 + 1):Int))):Int)==(↑(List.length (Qa9 (Qbs (Qb8 G) (BX.a x_2)))):Int)) (((slP (BX.a x_3) 8 {elem:=3,size:=1,rw:=true,lock:=false,lit:=false,flat:=true,n:=8,row:=fun i=>[SV.v (Value.int IntKind.i64 (gnF n i))]})∧((0:Nat)<8))∧((SV.v (Value.bool (Qg1 (BX.a x_3)==(↑(MapC.cnt (Qbs (Qb8 G) (BX.a x_2))):Int))))=(SV.v (Value.bool true)))) ((SV.v (Value.bool false))=(SV.v (Value.bool true))))))))))) (((Quo (Qbs (Qb8 G) (BX.a x_2)))∧(Zix (Qbs (Qb8 G) (BX.a x_2))))∧(∀ c_1:Nat,((∃ x_3:BX,(((Nat.le (BX.i x_3) n)∧((SV.v (Value.int IntKind.u64 (BX.a x_2)))=(SV.v (Value.int IntKind.u64 (BX.a x_3)))))∧((((SV.v (Value.int IntKind.i64 0))=(SV.v (Value.int IntKind.i64 ((↑(BX.i x_3):Int)))))∧((SV.v (Value.int IntKind.i64 0))=(SV.v (Value.int IntKind.i64 ((↑(Qa3 (Qcs G (BX.a x_3)) ((↑(BX.i x_3):Int),(↑(BX.i x_3 + 1):Int))):Int))))))∧((((1:Nat)=1)∧(((1:Nat)≤1)∧(((SV.v (Value.int IntKind.u64 (BX.a x_2)))=(SV.v (Value.int IntKind.u64 (BX.a x_3))))∧((SV.sl 89 1 0 8 8)=(SV.sl 89 1 0 8 8)))))∧(((8:Nat)=8)∧(((8:Nat)≤8)∧(∀ i:Nat,(((i:Nat)<8)→([(SV.v (Value.int IntKind.i64 (gnF n i)))]=[(SV.v (Value.int IntKind.i64 (gnF n i)))])))))))))∧(∀ x_3:BX,(((Nat.le (BX.i x_3) n)∧((SV.v (Value.int IntKind.u64 (BX.a x_2)))=(SV.v (Value.int IntKind.u64 (BX.a x_3)))))→
(sel (decide ((↑(BX.i x_3):Int)<(↑(AX.i x):Int))) (((slP (BX.a x_3) 8 {elem:=3,size:=1,rw:=true,lock:=false,lit:=false,flat:=true,n:=8,row:=fun i=>[SV.v (Value.int IntKind.i64 (gnF n i))]})∧(((0:Int)≤((↑(BX.i x_3):Int)))∧((((↑(BX.i x_3):Int)):Int)<8)))∧((((0:Int)≤((↑(BX.i x_3):Int)))∧((((↑(BX.i x_3):Int)):Int)<((↑(Int.toNat (↑(AX.i x):Int)):Int))))∧
(sel (!onA (BX.a x_3) (↑(BX.i x_3):Int)==onA (BX.a x_2) (↑(0 + Int.toNat (↑(BX.i x_3):Int)):Int)) ((SV.v (Value.bool false))=(SV.v (Value.bool true))) ((∃ x_4:HX,((((((HX.i x_4):Nat)<(HX.k x_4))∧(((HX.k x_4):Nat)≤n))∧(((SV.v (Value.int IntKind.u64 (BX.a x_3)))=(SV.v (Value.int IntKind.u64 (HX.a x_4))))∧((SV.v (Value.int IntKind.i64 ((↑(BX.i x_3):Int))))=(SV.v (Value.int IntKind.i64 ((↑(HX.i x_4):Int)))))))∧((((SV.v (Value.int IntKind.i64 (IntKind.wrap IntKind.i64 ((↑(BX.i x_3):Int) + 1))))=(SV.v (Value.int IntKind.i64 ((↑(HX.k x_4):Int)))))∧((SV.v (Value.int IntKind.i64 ((↑(Qa3 (Qcs G (BX.a x_3)) ((↑(BX.i x_3):Int),(↑(BX.i x_3 + 1):Int))):Int))))=(SV.v (Value.int IntKind.i64 ((↑(Qa3 (Qcs G (HX.a x_4)) ((↑(HX.i x_4):Int),(↑(HX.k x_4):Int))):Int))))))∧True)))∧(∀ x_4:HX,((((((HX.i x_4):Nat)<(HX.k x_4))∧(((HX.k x_4):Nat)≤n))∧(((SV.v (Value.int IntKind.u64 (BX.a x_3)))=(SV.v (Value.int IntKind.u64 (HX.a x_4))))∧((SV.v (Value.int IntKind.i64 ((↑(BX.i x_3):Int))))=(SV.v (Value.int IntKind.i64 ((↑(HX.i x_4):Int)))))))→
(sel (decide ((↑(HX.k x_4):Int)<(↑(AX.i x):Int))) ((((0:Int)≤((↑(BX.i x_3):Int)))∧((((↑(BX.i x_3):Int)):Int)<((↑(Int.toNat (↑(AX.i x):Int)):Int))))∧
(sel (!onA (BX.a x_2) (↑(0 + Int.toNat (↑(BX.i x_3):Int)):Int)) (∃ x':HX,(((((((HX.i x'):Nat)<(HX.k x'))∧(((HX.k x'):Nat)≤n))∧(((SV.v (Value.int IntKind.u64 (BX.a x_3)))=(SV.v (Value.int IntKind.u64 (HX.a x'))))∧((SV.v (Value.int IntKind.i64 ((↑(BX.i x_3):Int))))=(SV.v (Value.int IntKind.i64 ((↑(HX.i x'):Int)))))))∧((((SV.v (Value.int IntKind.i64 (IntKind.wrap IntKind.i64 ((↑(HX.k x_4):Int) + 1))))=(SV.v (Value.int IntKind.i64 ((↑(HX.k x'):Int)))))∧((SV.v (Value.int IntKind.i64 ((↑(Qa3 (Qcs G (HX.a x_4)) ((↑(HX.i x_4):Int),(↑(HX.k x_4):Int))):Int))))=(SV.v (Value.int IntKind.i64 ((↑(Qa3 (Qcs G (HX.a x')) ((↑(HX.i x'):Int),(↑(HX.k x'):Int))):Int))))))∧True))∧(((n - HX.k x'):Nat)<(n - HX.k x_4)))) ((((0:Int)≤((↑(HX.k x_4):Int)))∧((((↑(HX.k x_4):Int)):Int)<((↑(Int.toNat (↑(AX.i x):Int)):Int))))∧
(sel (!onA (BX.a x_2) (↑(0 + Int.toNat (↑(HX.k x_4):Int)):Int)) (∃ x':HX,(((((((HX.i x'):Nat)<(HX.k x'))∧(((HX.k x'):Nat)≤n))∧(((SV.v (Value.int IntKind.u64 (BX.a x_3)))=(SV.v (Value.int IntKind.u64 (HX.a x'))))∧((SV.v (Value.int IntKind.i64 ((↑(BX.i x_3):Int))))=(SV.v (Value.int IntKind.i64 ((↑(HX.i x'):Int)))))))∧((((SV.v (Value.int IntKind.i64 (IntKind.wrap IntKind.i64 ((↑(HX.k x_4):Int) + 1))))=(SV.v (Value.int IntKind.i64 ((↑(HX.k x'):Int)))))∧((SV.v (Value.int IntKind.i64 ((↑(Qa3 (Qcs G (HX.a x_4)) ((↑(HX.i x_4):Int),(↑(HX.k x_4):Int))):Int))))=(SV.v (Value.int IntKind.i64 ((↑(Qa3 (Qcs G (HX.a x')) ((↑(HX.i x'):Int),(↑(HX.k x'):Int))):Int))))))∧True))∧(((n - HX.k x'):Nat)<(n - HX.k x_4)))) 
(sel (decide ((↑(Qa3 (Qcs G (HX.a x_4)) ((↑(HX.i x_4):Int),(↑(HX.k x_4):Int))):Int)<(↑(List.length (Qa9 (Qbs (Qb8 G) (BX.a x_2)))):Int))) ((((0:Int)≤((↑(Qa3 (Qcs G (HX.a x_4)) ((↑(HX.i x_4):Int),(↑(HX.k x_4):Int))):Int)))∧((((↑(Qa3 (Qcs G (HX.a x_4)) ((↑(HX.i x_4):Int),(↑(HX.k x_4):Int))):Int)):Int)<((↑(List.length (Qa9 (Qbs (Qb8 G) (BX.a x_2)))):Int))))∧
(sel (Prod.fst (List.getD (Qa9 (Qbs (Qb8 G) (BX.a x_2))) (0 + Int.toNat (↑(Qa3 (Qcs G (HX.a x_4)) ((↑(HX.i x_4):Int),(↑(HX.k x_4):Int))):Int)) (0,0))==(↑(BX.i x_3):Int)&&Prod.snd (List.getD (Qa9 (Qbs (Qb8 G) (BX.a x_2))) (0 + Int.toNat (↑(Qa3 (Qcs G (HX.a x_4)) ((↑(HX.i x_4):Int),(↑(HX.k x_4):Int))):Int)) (0,0))==(↑(HX.k x_4):Int)) ((((0:Int)≤((↑(BX.i x_3):Int)))∧((((↑(BX.i x_3):Int)):Int)<((↑(AX.i x):Int))))∧((FM.fine (Qba (G (0 + Int.toNat (↑(BX.i x_3):Int)))))∧((((0:Int)≤((↑(HX.k x_4):Int)))∧((((↑(HX.k x_4):Int)):Int)<((↑(AX.i x):Int))))∧((FM.fine (Qba (G (0 + Int.toNat (↑(HX.k x_4):Int)))))∧(((bxP (BxI.a (FM.bx (Qba (G (0 + Int.toNat (↑(BX.i x_3):Int)))))) (BxI.b (FM.bx (Qba (G (0 + Int.toNat (↑(BX.i x_3):Int)))))) (BxI.c (FM.bx (Qba (G (0 + Int.toNat (↑(BX.i x_3):Int)))))) (BxI.d (FM.bx (Qba (G (0 + Int.toNat (↑(BX.i x_3):Int)))))))∧(bxP (BxI.a (FM.bx (Qba (G (0 + Int.toNat (↑(HX.k x_4):Int)))))) (BxI.b (FM.bx (Qba (G (0 + Int.toNat (↑(HX.k x_4):Int)))))) (BxI.c (FM.bx (Qba (G (0 + Int.toNat (↑(HX.k x_4):Int)))))) (BxI.d (FM.bx (Qba (G (0 + Int.toNat (↑(HX.k x_4):Int))))))))∧
(sel (!(Prod.fst (List.getD (Qa9 (Qbs (Qb8 G) (BX.a x_2))) (0 + Int.toNat (↑(Qa3 (Qcs G (HX.a x_4)) ((↑(HX.i x_4):Int),(↑(HX.k x_4):Int))):Int)) (0,0))==(↑(BX.i x_3):Int)&&Prod.snd (List.getD (Qa9 (Qbs (Qb8 G) (BX.a x_2))) (0 + Int.toNat (↑(Qa3 (Qcs G (HX.a x_4)) ((↑(HX.i x_4):Int),(↑(HX.k x_4):Int))):Int)) (0,0))==(↑(HX.k x_4):Int))==Qgy (BxI.a (FM.bx (Qba (G (0 + Int.toNat (↑(BX.i x_3):Int)))))) (BxI.b (FM.bx (Qba (G (0 + Int.toNat (↑(BX.i x_3):Int)))))) (BxI.c (FM.bx (Qba (G (0 + Int.toNat (↑(BX.i x_3):Int)))))) (BxI.d (FM.bx (Qba (G (0 + Int.toNat (↑(BX.i x_3):Int)))))) (BxI.a (FM.bx (Qba (G (0 + Int.toNat (↑(HX.k x_4):Int)))))) (BxI.b (FM.bx (Qba (G (0 + Int.toNat (↑(HX.k x_4):Int)))))) (BxI.c (FM.bx (Qba (G (0 + Int.toNat (↑(HX.k x_4):Int)))))) (BxI.d (FM.bx (Qba (G (0 + Int.toNat (↑(HX.k x_4):Int))))))) ((SV.v (Value.bool false))=(SV.v (Value.bool true))) 
(sel (!(Prod.fst (List.getD (Qa9 (Qbs (Qb8 G) (BX.a x_2))) (0 + Int.toNat (↑(Qa3 (Qcs G (HX.a x_4)) ((↑(HX.i x_4):Int),(↑(HX.k x_4):Int))):Int)) (0,0))==(↑(BX.i x_3):Int)&&Prod.snd (List.getD (Qa9 (Qbs (Qb8 G) (BX.a x_2))) (0 + Int.toNat (↑(Qa3 (Qcs G (HX.a x_4)) ((↑(HX.i x_4):Int),(↑(HX.k x_4):Int))):Int)) (0,0))==(↑(HX.k x_4):Int))) ((((0:Int)≤((↑(BX.i x_3):Int)))∧((((↑(BX.i x_3):Int)):Int)<((↑(AX.i x):Int))))∧((((0:Int)≤((↑(HX.k x_4):Int)))∧((((↑(HX.k x_4):Int)):Int)<((↑(AX.i x):Int))))∧(((FM.fine (Qba (G (0 + Int.toNat (↑(BX.i x_3):Int)))))∧((FM.fine (Qba (G (0 + Int.toNat (↑(HX.k x_4):Int)))))∧(Qhz (FM.bx (Qba (G (0 + Int.toNat (↑(BX.i x_3):Int))))) (FM.bx (Qba (G (0 + Int.toNat (↑(HX.k x_4):Int))))))))∧(∃ x':HX,(((((((HX.i x'):Nat)<(HX.k x'))∧(((HX.k x'):Nat)≤n))∧(((SV.v (Value.int IntKind.u64 (BX.a x_3)))=(SV.v (Value.int IntKind.u64 (HX.a x'))))∧((SV.v (Value.int IntKind.i64 ((↑(BX.i x_3):Int))))=(SV.v (Value.int IntKind.i64 ((↑(HX.i x'):Int)))))))∧((((SV.v (Value.int IntKind.i64 (IntKind.wrap IntKind.i64 ((↑(HX.k x_4):Int) + 1))))=(SV.v (Value.int IntKind.i64 ((↑(HX.k x'):Int)))))∧((SV.v (Value.int IntKind.i64 (IntKind.wrap IntKind.i64 ((↑(Qa3 (Qcs G (HX.a x_4)) ((↑(HX.i x_4):Int),(↑(HX.k x_4):Int))):Int) + 1))))=(SV.v (Value.int IntKind.i64 ((↑(Qa3 (Qcs G (HX.a x')) ((↑(HX.i x'):Int),(↑(HX.k x'):Int))):Int))))))∧True))∧(((n - HX.k x'):Nat)<(n - HX.k x_4))))))) (∃ x':HX,(((((((HX.i x'):Nat)<(HX.k x'))∧(((HX.k x'):Nat)≤n))∧(((SV.v (Value.int IntKind.u64 (BX.a x_3)))=(SV.v (Value.int IntKind.u64 (HX.a x'))))∧((SV.v (Value.int IntKind.i64 ((↑(BX.i x_3):Int))))=(SV.v (Value.int IntKind.i64 ((↑(HX.i x'):Int)))))))∧((((SV.v (Value.int IntKind.i64 (IntKind.wrap IntKind.i64 ((↑(HX.k x_4):Int) + 1))))=(SV.v (Value.int IntKind.i64 ((↑(HX.k x'):Int)))))∧((SV.v (Value.int IntKind.i64 (IntKind.wrap IntKind.i64 ((↑(Qa3 (Qcs G (HX.a x_4)) ((↑(HX.i x_4):Int),(↑(HX.k x_4):Int))):Int) + 1))))=(SV.v (Value.int IntKind.i64 ((↑(Qa3 (Qcs G (HX.a x')) ((↑(HX.i x'):Int),(↑(HX.k x'):Int))):Int))))))∧True))∧(((n - HX.k x'):Nat)<(n - HX.k x_4))))))))))) ((((0:Int)≤((↑(BX.i x_3):Int)))∧((((↑(BX.i x_3):Int)):Int)<((↑(AX.i x):Int))))∧((FM.fine (Qba (G (0 + Int.toNat (↑(BX.i x_3):Int)))))∧((((0:Int)≤((↑(HX.k x_4):Int)))∧((((↑(HX.k x_4):Int)):Int)<((↑(AX.i x):Int))))∧((FM.fine (Qba (G (0 + Int.toNat (↑(HX.k x_4):Int)))))∧(((bxP (BxI.a (FM.bx (Qba (G (0 + Int.toNat (↑(BX.i x_3):Int)))))) (BxI.b (FM.bx (Qba (G (0 + Int.toNat (↑(BX.i x_3):Int)))))) (BxI.c (FM.bx (Qba (G (0 + Int.toNat (↑(BX.i x_3):Int)))))) (BxI.d (FM.bx (Qba (G (0 + Int.toNat (↑(BX.i x_3):Int)))))))∧(bxP (BxI.a (FM.bx (Qba (G (0 + Int.toNat (↑(HX.k x_4):Int)))))) (BxI.b (FM.bx (Qba (G (0 + Int.toNat (↑(HX.k x_4):Int)))))) (BxI.c (FM.bx (Qba (G (0 + Int.toNat (↑(HX.k x_4):Int)))))) (BxI.d (FM.bx (Qba (G (0 + Int.toNat (↑(HX.k x_4):Int))))))))∧
(sel (!(Prod.fst (List.getD (Qa9 (Qbs (Qb8 G) (BX.a x_2))) (0 + Int.toNat (↑(Qa3 (Qcs G (HX.a x_4)) ((↑(HX.i x_4):Int),(↑(HX.k x_4):Int))):Int)) (0,0))==(↑(BX.i x_3):Int)&&Prod.snd (List.getD (Qa9 (Qbs (Qb8 G) (BX.a x_2))) (0 + Int.toNat (↑(Qa3 (Qcs G (HX.a x_4)) ((↑(HX.i x_4):Int),(↑(HX.k x_4):Int))):Int)) (0,0))==(↑(HX.k x_4):Int))==Qgy (BxI.a (FM.bx (Qba (G (0 + Int.toNat (↑(BX.i x_3):Int)))))) (BxI.b (FM.bx (Qba (G (0 + Int.toNat (↑(BX.i x_3):Int)))))) (BxI.c (FM.bx (Qba (G (0 + Int.toNat (↑(BX.i x_3):Int)))))) (BxI.d (FM.bx (Qba (G (0 + Int.toNat (↑(BX.i x_3):Int)))))) (BxI.a (FM.bx (Qba (G (0 + Int.toNat (↑(HX.k x_4):Int)))))) (BxI.b (FM.bx (Qba (G (0 + Int.toNat (↑(HX.k x_4):Int)))))) (BxI.c (FM.bx (Qba (G (0 + Int.toNat (↑(HX.k x_4):Int)))))) (BxI.d (FM.bx (Qba (G (0 + Int.toNat (↑(HX.k x_4):Int))))))) ((SV.v (Value.bool false))=(SV.v (Value.bool true))) 
(sel (!(Prod.fst (List.getD (Qa9 (Qbs (Qb8 G) (BX.a x_2))) (0 + Int.toNat (↑(Qa3 (Qcs G (HX.a x_4)) ((↑(HX.i x_4):Int),(↑(HX.k x_4):Int))):Int)) (0,0))==(↑(BX.i x_3):Int)&&Prod.snd (List.getD (Qa9 (Qbs (Qb8 G) (BX.a x_2))) (0 + Int.toNat (↑(Qa3 (Qcs G (HX.a x_4)) ((↑(HX.i x_4):Int),(↑(HX.k x_4):Int))):Int)) (0,0))==(↑(HX.k x_4):Int))) ((((0:Int)≤((↑(BX.i x_3):Int)))∧((((↑(BX.i x_3):Int)):Int)<((↑(AX.i x):Int))))∧((((0:Int)≤((↑(HX.k x_4):Int)))∧((((↑(HX.k x_4):Int)):Int)<((↑(AX.i x):Int))))∧(((FM.fine (Qba (G (0 + Int.toNat (↑(BX.i x_3):Int)))))∧((FM.fine (Qba (G (0 + Int.toNat (↑(HX.k x_4):Int)))))∧(Qhz (FM.bx (Qba (G (0 + Int.toNat (↑(BX.i x_3):Int))))) (FM.bx (Qba (G (0 + Int.toNat (↑(HX.k x_4):Int))))))))∧(∃ x':HX,(((((((HX.i x'):Nat)<(HX.k x'))∧(((HX.k x'):Nat)≤n))∧(((SV.v (Value.int IntKind.u64 (BX.a x_3)))=(SV.v (Value.int IntKind.u64 (HX.a x'))))∧((SV.v (Value.int IntKind.i64 ((↑(BX.i x_3):Int))))=(SV.v (Value.int IntKind.i64 ((↑(HX.i x'):Int)))))))∧((((SV.v (Value.int IntKind.i64 (IntKind.wrap IntKind.i64 ((↑(HX.k x_4):Int) + 1))))=(SV.v (Value.int IntKind.i64 ((↑(HX.k x'):Int)))))∧((SV.v (Value.int IntKind.i64 ((↑(Qa3 (Qcs G (HX.a x_4)) ((↑(HX.i x_4):Int),(↑(HX.k x_4):Int))):Int))))=(SV.v (Value.int IntKind.i64 ((↑(Qa3 (Qcs G (HX.a x')) ((↑(HX.i x'):Int),(↑(HX.k x'):Int))):Int))))))∧True))∧(((n - HX.k x'):Nat)<(n - HX.k x_4))))))) (∃ x':HX,(((((((HX.i x'):Nat)<(HX.k x'))∧(((HX.k x'):Nat)≤n))∧(((SV.v (Value.int IntKind.u64 (BX.a x_3)))=(SV.v (Value.int IntKind.u64 (HX.a x'))))∧((SV.v (Value.int IntKind.i64 ((↑(BX.i x_3):Int))))=(SV.v (Value.int IntKind.i64 ((↑(HX.i x'):Int)))))))∧((((SV.v (Value.int IntKind.i64 (IntKind.wrap IntKind.i64 ((↑(HX.k x_4):Int) + 1))))=(SV.v (Value.int IntKind.i64 ((↑(HX.k x'):Int)))))∧((SV.v (Value.int IntKind.i64 ((↑(Qa3 (Qcs G (HX.a x_4)) ((↑(HX.i x_4):Int),(↑(HX.k x_4):Int))):Int))))=(SV.v (Value.int IntKind.i64 ((↑(Qa3 (Qcs G (HX.a x')) ((↑(HX.i x'):Int),(↑(HX.k x'):Int))):Int))))))∧True))∧(((n - HX.k x'):Nat)<(n - HX.k x_4))))))))))))) ((((0:Int)≤((↑(BX.i x_3):Int)))∧((((↑(BX.i x_3):Int)):Int)<((↑(AX.i x):Int))))∧((FM.fine (Qba (G (0 + Int.toNat (↑(BX.i x_3):Int)))))∧((((0:Int)≤((↑(HX.k x_4):Int)))∧((((↑(HX.k x_4):Int)):Int)<((↑(AX.i x):Int))))∧((FM.fine (Qba (G (0 + Int.toNat (↑(HX.k x_4):Int)))))∧(((bxP (BxI.a (FM.bx (Qba (G (0 + Int.toNat (↑(BX.i x_3):Int)))))) (BxI.b (FM.bx (Qba (G (0 + Int.toNat (↑(BX.i x_3):Int)))))) (BxI.c (FM.bx (Qba (G (0 + Int.toNat (↑(BX.i x_3):Int)))))) (BxI.d (FM.bx (Qba (G (0 + Int.toNat (↑(BX.i x_3):Int)))))))∧(bxP (BxI.a (FM.bx (Qba (G (0 + Int.toNat (↑(HX.k x_4):Int)))))) (BxI.b (FM.bx (Qba (G (0 + Int.toNat (↑(HX.k x_4):Int)))))) (BxI.c (FM.bx (Qba (G (0 + Int.toNat (↑(HX.k x_4):Int)))))) (BxI.d (FM.bx (Qba (G (0 + Int.toNat (↑(HX.k x_4):Int))))))))∧
(sel (!false==Qgy (BxI.a (FM.bx (Qba (G (0 + Int.toNat (↑(BX.i x_3):Int)))))) (BxI.b (FM.bx (Qba (G (0 + Int.toNat (↑(BX.i x_3):Int)))))) (BxI.c (FM.bx (Qba (G (0 + Int.toNat (↑(BX.i x_3):Int)))))) (BxI.d (FM.bx (Qba (G (0 + Int.toNat (↑(BX.i x_3):Int)))))) (BxI.a (FM.bx (Qba (G (0 + Int.toNat (↑(HX.k x_4):Int)))))) (BxI.b (FM.bx (Qba (G (0 + Int.toNat (↑(HX.k x_4):Int)))))) (BxI.c (FM.bx (Qba (G (0 + Int.toNat (↑(HX.k x_4):Int)))))) (BxI.d (FM.bx (Qba (G (0 + Int.toNat (↑(HX.k x_4):Int))))))) ((SV.v (Value.bool false))=(SV.v (Value.bool true))) ((((0:Int)≤((↑(BX.i x_3):Int)))∧((((↑(BX.i x_3):Int)):Int)<((↑(AX.i x):Int))))∧((((0:Int)≤((↑(HX.k x_4):Int)))∧((((↑(HX.k x_4):Int)):Int)<((↑(AX.i x):Int))))∧(((FM.fine (Qba (G (0 + Int.toNat (↑(BX.i x_3):Int)))))∧((FM.fine (Qba (G (0 + Int.toNat (↑(HX.k x_4):Int)))))∧(Qhz (FM.bx (Qba (G (0 + Int.toNat (↑(BX.i x_3):Int))))) (FM.bx (Qba (G (0 + Int.toNat (↑(HX.k x_4):Int))))))))∧(∃ x':HX,(((((((HX.i x'):Nat)<(HX.k x'))∧(((HX.k x'):Nat)≤n))∧(((SV.v (Value.int IntKind.u64 (BX.a x_3)))=(SV.v (Value.int IntKind.u64 (HX.a x'))))∧((SV.v (Value.int IntKind.i64 ((↑(BX.i x_3):Int))))=(SV.v (Value.int IntKind.i64 ((↑(HX.i x'):Int)))))))∧((((SV.v (Value.int IntKind.i64 (IntKind.wrap IntKind.i64 ((↑(HX.k x_4):Int) + 1))))=(SV.v (Value.int IntKind.i64 ((↑(HX.k x'):Int)))))∧((SV.v (Value.int IntKind.i64 ((↑(Qa3 (Qcs G (HX.a x_4)) ((↑(HX.i x_4):Int),(↑(HX.k x_4):Int))):Int))))=(SV.v (Value.int IntKind.i64 ((↑(Qa3 (Qcs G (HX.a x')) ((↑(HX.i x'):Int),(↑(HX.k x'):Int))):Int))))))∧True))∧(((n - HX.k x'):Nat)<(n - HX.k x_4)))))))))))))))))) (∃ x':BX,((((Nat.le (BX.i x') n)∧((SV.v (Value.int IntKind.u64 (BX.a x_2)))=(SV.v (Value.int IntKind.u64 (BX.a x')))))∧((((SV.v (Value.int IntKind.i64 (IntKind.wrap IntKind.i64 ((↑(BX.i x_3):Int) + 1))))=(SV.v (Value.int IntKind.i64 ((↑(BX.i x'):Int)))))∧((SV.v (Value.int IntKind.i64 ((↑(Qa3 (Qcs G (HX.a x_4)) ((↑(HX.i x_4):Int),(↑(HX.k x_4):Int))):Int))))=(SV.v (Value.int IntKind.i64 ((↑(Qa3 (Qcs G (BX.a x')) ((↑(BX.i x'):Int),(↑(BX.i x' + 1):Int))):Int))))))∧((((1:Nat)=1)∧(((1:Nat)≤1)∧(((SV.v (Value.int IntKind.u64 (BX.a x_3)))=(SV.v (Value.int IntKind.u64 (BX.a x'))))∧((SV.sl 89 1 0 8 8)=(SV.sl 89 1 0 8 8)))))∧(((8:Nat)=8)∧(((8:Nat)≤8)∧(∀ i:Nat,(((i:Nat)<8)→([(SV.v (Value.int IntKind.i64 (i1 [SV.v (Value.int IntKind.i64 (gnF n i))])))]=[(SV.v (Value.int IntKind.i64 (gnF n i)))]))))))))∧(((n - BX.i x'):Nat)<(n - BX.i x_3))))))))))) 
(sel ((↑(Qa3 (Qcs G (BX.a x_3)) ((↑(BX.i x_3):Int),(↑(BX.i x_3 + 1):Int))):Int)==(↑(List.length (Qa9 (Qbs (Qb8 G) (BX.a x_2)))):Int)) (((slP (BX.a x_3) 8 {elem:=3,size:=1,rw:=true,lock:=false,lit:=false,flat:=true,n:=8,row:=fun i=>[SV.v (Value.int IntKind.i64 (gnF n i))]})∧((0:Nat)<8))∧((SV.v (Value.bool (Qg1 (BX.a x_3)==(↑(MapC.cnt (Qbs (Qb8 G) (BX.a x_2))):Int))))=(SV.v (Value.bool true)))) ((SV.v (Value.bool false))=(SV.v (Value.bool true)))))))))))))))))))))))))):=by kernel_rfl
example:True:=trivial
def Qz5:Bool:=(List.range 7).all fun i=>Nat.beq (Qom (tkP (Qcx i) (gnF i)) 0 8) i&&tkP (Qcx i) (gnF i) i&&((List.range i).all fun j=>!tkP (Qcx i) (gnF i) j)&&(List.range 8).all fun j=>decide (Zei (gnF i) i j=gnF (i + 1) j)
theorem Qz4:Qz5=true:=by decide +kernel
theorem Q6c {i:Nat} (hi:i<7):Qom (tkP (Qcx i) fun j=>i1 [SV.v (.int .i64 (gnF i j))]) 0 8=i∧tkP (Qcx i) (fun j=>i1 [SV.v (.int .i64 (gnF i j))]) i=true∧(∀ j,j<i→tkP (Qcx i) (fun j=>i1 [SV.v (.int .i64 (gnF i j))]) j=false)∧∀ j,j<8→Zei (fun j=>i1 [SV.v (.int .i64 (gnF i j))]) i j=gnF (i + 1) j:=by
 show Qom (tkP (Qcx i) (gnF i)) 0 8=i∧tkP (Qcx i) (gnF i) i=true∧(∀ j,j<i→tkP (Qcx i) (gnF i) j=false)∧∀ j,j<8→Zei (gnF i) i j=gnF (i + 1) j
 have h:=Qz4
 unfold Qz5 at h
 rw [List.all_eq_true] at h
 have:=h i (List.mem_range.2 hi)
 simp only [Bool.and_eq_true,List.all_eq_true,List.mem_range,Bool.not_eq_true',decide_eq_true_eq,Nat.beq_eq] at this
 exact ⟨this.1.1.1,this.1.1.2,this.1.2,this.2⟩
theorem Zeq (n i:Nat):I64 (gnF n i):=by
 unfold gnF
 cases Nat.blt i n
 · exact ⟨by show -9223372036854775808≤(0:Int); decide,by show (0:Int)<9223372036854775808; decide⟩
 · exact ⟨by show -9223372036854775808≤(1:Int); decide,by show (1:Int)<9223372036854775808; decide⟩
theorem Qsf {a:Int} (h:m8 a) (n:Nat):slP a 8 (gnB 8 (gnF n)):=Qgu ⟨h.1,by have:=h.2; omega⟩ (by decide) fun i _=>Zeq n i
theorem Zd5 (f:Nat→Int):∀ n,0<n→(∀ i,i<n→P21 (f i))→P21 (mnI f n)
 | 0,h,_=>absurd h (Nat.not_lt_zero _)
 | 1,_,h=>h 0 (by decide)
 | n + 2,_,h=>by
   have h1:=Zd5 f (n + 1) (Nat.succ_pos _) fun i hi=>h i (by omega)
   have h2:=h (n + 1) (by omega)
   show P21 (min (mnI f (n + 1)) (f (n + 1)))
   unfold P21 at *; omega
theorem Zd3 (f:Nat→Int):∀ n,0<n→(∀ i,i<n→P21 (f i))→P21 (mxI f n)
 | 0,h,_=>absurd h (Nat.not_lt_zero _)
 | 1,_,h=>h 0 (by decide)
 | n + 2,_,h=>by
   have h1:=Zd3 f (n + 1) (Nat.succ_pos _) fun i hi=>h i (by omega)
   have h2:=h (n + 1) (by omega)
   show P21 (max (mxI f (n + 1)) (f (n + 1)))
   unfold P21 at *; omega
theorem Zj2 {f:FM} (h:f.fine):bxP f.bx.a f.bx.b f.bx.c f.bx.d:=by
 unfold FM.bx
 rw [Qok]
 obtain ⟨k,a,b,r,n,row⟩:=f
 obtain ⟨_,h⟩:=h
 generalize FM.g ⟨k,a,b,r,n,row⟩=g at *
 have h:Qhj k (a,b) r n g:=h
 show bxP (fbx k (a,b) r n g).a (fbx k (a,b) r n g).b (fbx k (a,b) r n g).c (fbx k (a,b) r n g).d
 rcases h with ⟨rfl,rfl,h1,h2,h3,h4⟩ | ⟨rfl,rfl,_,h2,h3,_⟩
 · refine ⟨h3,h4,?_,?_⟩
   · show a - r≤a + r; omega
   · show b - r≤b + r; omega
 · have q1:=Zd5 (fun i=>(g i).1) n (by omega) fun i hi=>(h3 i hi).1
   have q2:=Zd5 (fun i=>(g i).2) n (by omega) fun i hi=>(h3 i hi).2
   have q3:=Zd3 (fun i=>(g i).1) n (by omega) fun i hi=>(h3 i hi).1
   have q4:=Zd3 (fun i=>(g i).2) n (by omega) fun i hi=>(h3 i hi).2
   refine ⟨⟨q1,q2⟩,⟨q3,q4⟩,?_,?_⟩
   · exact Int.le_trans (Qi9 (fun i=>(g i).1) n 0 (by omega)) (Qi8 (fun i=>(g i).1) n 0 (by omega))
   · exact Int.le_trans (Qi9 (fun i=>(g i).2) n 0 (by omega)) (Qi8 (fun i=>(g i).2) n 0 (by omega))
theorem Q68 {a b:BxI} (h:Qgy a.a a.b a.c a.d b.a b.b b.c b.d=false) (ha:bxP a.a a.b a.c a.d) (hb:bxP b.a b.b b.c b.d):Qhz a b:=by
 have ha:=ha.2.2
 have hb:=hb.2.2
 unfold Qhz
 unfold Qgy at h
 rw [Bool.and_eq_false_iff,decide_eq_false_iff_not,decide_eq_false_iff_not] at h
 omega
theorem Qp7 {F:Nat→BxI} {a:Int} {k:Nat} (hk:k<8) (ho:onA a k=true):(Qbs F a).val k 0=(F k).a∧(Qbs F a).val k 1=(F k).b∧(Qbs F a).val k 2=(F k).c∧(Qbs F a).val k 3=(F k).d:=by
 unfold Qbs
 simp only [Qwk hk,ho,Int.toNat_natCast]
 exact ⟨rfl,rfl,rfl,rfl⟩
theorem Q2i {F:Nat→BxI} {a:Int} {i k:Nat} (hi:i<8) (hk:k<8) (h1:onA a i=true) (h2:onA a k=true):Qgx (Qbs F a) i k=Qgy (F i).a (F i).b (F i).c (F i).d (F k).a (F k).b (F k).c (F k).d:=by
 obtain ⟨a1,a2,a3,a4⟩:=Qp7 (F:=F) hi h1
 obtain ⟨b1,b2,b3,b4⟩:=Qp7 (F:=F) hk h2
 unfold Qgx
 rw [a1,a2,a3,a4,b1,b2,b3,b4]
theorem Zd8 {F:Nat→BxI} (hF:∀ i,bxP (F i).a (F i).b (F i).c (F i).d) {a:Int}:Zix (Qbs F a):=fun k hk=>by
 have hk':hsA a k=true:=hk
 have h8:0≤k∧k<8:=by
   unfold hsA at hk'
   rw [Bool.and_eq_true,decide_eq_true_eq] at hk'
   exact hk'.1
 have e:k=(k.toNat:Int):=(Int.toNat_of_nonneg h8.1).symm
 rw [e] at hk' ⊢
 rw [Qwk (by omega)] at hk'
 obtain ⟨a1,a2,a3,a4⟩:=Qp7 (F:=F) (k:=k.toNat) (by omega) hk'
 rw [a1,a2,a3,a4]
 exact hF _
theorem Zdp {F:Nat→BxI} {a:Int}:(Qa9 (Qbs F a)).length≤64:=by
 have h:(Qa9 (Qbs F a)).length=(Qcc (Qbs F a) (Qd9 (Qbs F a) (Qak (Qbs F a))) (Qak (Qbs F a)).length).length:=Qpl _
 have h8:=Q2u (m:=Qbs F a)
 have:=Qua (Qbs F a) (Qd9 (Qbs F a) (Qak (Qbs F a))) (Qak (Qbs F a)).length h8
 omega
theorem rk_t {P:List (Int×Int)} (hs:P.Pairwise Qys) {i:Int} {k:Nat} (h:(i,(k:Int))∈P):Qa3 P (i,((k + 1:Nat):Int))=Qa3 P (i,(k:Int)) + 1:=by
 have:=Qrt hs i k
 rw [if_pos h] at this
 exact this
theorem rk_f {P:List (Int×Int)} (hs:P.Pairwise Qys) {i:Int} {k:Nat} (h:¬ (i,(k:Int))∈P):Qa3 P (i,((k + 1:Nat):Int))=Qa3 P (i,(k:Int)):=by
 have:=Qrt hs i k
 rw [if_neg h] at this
 exact this
theorem Zj4 {P:List (Int×Int)} (hs:P.Pairwise Qys) {q:Int×Int} (h:Qa3 P q<P.length):((P.getD (Qa3 P q) (0,0)).1==q.1&&(P.getD (Qa3 P q) (0,0)).2==q.2)=true↔q∈P:=by
 rw [Bool.and_eq_true,beq_iff_eq,beq_iff_eq]
 constructor
 · rintro ⟨h1,h2⟩
   exact Q67 h (Prod.ext h1 h2)
 · intro hq
   rw [(Q1i hs hq).2]
   exact ⟨rfl,rfl⟩
theorem sel2 {a b:Bool} {X Y:Prop} (hx:a=true→b=true→X) (hy:Y):sel a (sel b X Y) Y:=Qag (fun h1=>Qag (fun h2=>hx h1 h2) fun _=>hy) fun _=>hy
theorem Qzz {a b:Int} (h:SV.v (.int .u64 a)=SV.v (.int .u64 b)):a=b:=by
 injection h with h
 injection h with _ h
theorem Zen {a b:Int} (h:SV.v (.int .i64 a)=SV.v (.int .i64 b)):a=b:=by
 injection h with h
 injection h with _ h
theorem Q11 {G:Nat→MD} {a v:Int} {i k n:Nat} (h1:i<k) (hk:k<n) (hn:n≤7) (hv:v=(Qa3 (Qcs G a) ((i:Int),((k + 1:Nat):Int)):Nat)) :
   ∃ x':HX,(((x'.i<x'.k∧x'.k≤n)∧SV.v (.int .u64 a)=SV.v (.int .u64 x'.a)∧SV.v (.int .i64 (i:Int))=SV.v (.int .i64 (x'.i:Int)))∧(SV.v (.int .i64 (IntKind.i64.wrap ((k:Int) + 1)))=SV.v (.int .i64 (x'.k:Int))∧SV.v (.int .i64 v)=SV.v (.int .i64 (Qa3 (Qcs G x'.a) ((x'.i:Int),(x'.k:Int)):Nat)))∧True)∧n - x'.k<n - k :=
 ⟨⟨i,k + 1,a⟩,⟨⟨⟨by simp only; omega,hk⟩,rfl,rfl⟩,⟨by rw [Qc2 (by omega)],by rw [hv]⟩,trivial⟩,by simp only; omega⟩
theorem Qqy {x y:Bool} (h:x=y):(!(x==y))=false:=by rw [h]; cases y <;> rfl
theorem Zh5 {G:Nat→MD} {B:Nat→Int} {n c nb cb:Nat} (hG:∀ i,i<n→mdI (G i)) (hB:∀ i,i<nb→I64 (B i)):Qcf Tryz.prog Zk7 (Zk0 G n nb) Tryz.f3 [.sl 0 6 0 n c,.sl 1 1 0 nb cb] (Qbl [⟨6,n,fun i=>mdL (G i)⟩,⟨1,nb,fun i=>[.v (.int .i64 (B i))]⟩]) 64 (fun y _=>y=bV true):=by
 refine Eq.mpr (Zlm G B n n c nb nb cb) ?_
 refine ⟨⟨by decide,by decide⟩,Qag (fun _=>rfl) fun h1=>Qag (fun _=>rfl) fun h2=>?_⟩
 have hn:n≤7:=by have:=of_decide_eq_false h1; omega
 have hnb:nb≤7:=by have:=of_decide_eq_false h2; omega
 have fin:∀ i,(Qba (G i)).fine:=fun i=>Zes _
 have hbx:∀ i,bxP (Qb8 G i).a (Qb8 G i).b (Qb8 G i).c (Qb8 G i).d:=fun i=>Zj2 (fin i)
 have m0e:=Zjc (Qb8 G)
 refine ⟨⟨⟨0,0⟩,⟨Nat.zero_le _,Nat.le_refl _⟩,⟨rfl,rfl,rfl,rfl,rfl⟩,⟨rfl,Nat.le_refl _,rfl,rfl⟩,⟨rfl,Nat.le_refl _,fun i hi=>rfl⟩,⟨rfl,Nat.le_refl _,rfl⟩,⟨rfl,Nat.le_refl _,m0e.1,m0e.2.1,fun k i _=>m0e.2.2 k i⟩,⟨rfl,rfl,trivial⟩,trivial⟩,fun x hx=>?_⟩
 obtain ⟨xi,xc⟩:=x
 obtain ⟨hxn,hxc⟩:=hx
 dsimp only at hxn hxc ⊢
 refine Qag (fun e=>?_) fun e=>?_
 · have hlt:xi<n:=by have:=of_decide_eq_true e; omega
   rw [show 0 + Int.toNat (xi:Int)=xi by omega]
   obtain ⟨t1,t2,t3,t4⟩:=Q6c (i:=xi) (by omega)
   rw [t1]
   have hput:=Q7a (Qb8 G) (i:=xi) (by omega)
   have hm8:=Zje (i:=xi) (by omega)
   have hhas:(Qbs (Qb8 G) (Qcx xi)).has xi=false:=by rw [Qfo (by omega),Qmv (by omega) (by omega),Qxw (Nat.le_refl _)]
   have hcnt:(Qbs (Qb8 G) (Qcx xi)).cnt<256:=by
     have:=Zfb hm8
     show (Qg1 (Qcx xi)).toNat<256
     omega
   refine ⟨⟨by omega,by omega⟩,⟨hG xi hlt,rfl⟩,⟨Qsf hm8 xi,by decide,t2,t3,by omega⟩,sF (by simp) ⟨fin xi,⟨⟨by omega,by omega⟩,hbx xi,hhas,hcnt⟩,⟨by omega,by omega,fun _ _=>trivial⟩,fun c1=>⟨⟨xi + 1,xi + 1 + c1⟩,⟨⟨hlt,by simp only; omega⟩,⟨by rw [Qc2 (by omega)],rfl⟩,⟨rfl,Nat.le_refl _,by rw [Zjd (by omega)],rfl⟩,⟨rfl,Nat.le_refl _,fun i hi=>by rw [t4 i hi]⟩,⟨rfl,Nat.le_refl _,rfl⟩,⟨rfl,Nat.le_refl _,hput.1,hput.2.1,fun k i _=>hput.2.2 k i⟩,rfl,Nat.le_refl _,fun i hi=>?_⟩,by simp only; omega⟩⟩⟩
   rw [Nat.zero_add]
   cases hb:Nat.blt i xi with
   | true=>rfl
   | false =>
     have hi:i<xi + 1:=hi
     have:¬ i<xi:=fun h=>by rw [Bool.eq_false_iff] at hb; exact hb (by simpa using h)
     obtain rfl:i=xi:=by omega
     rfl
 · obtain rfl:n=xi:=by have:=of_decide_eq_false e; omega
   rw [Int.toNat_natCast]
   refine ⟨⟨by omega,Int.le_refl _,by omega⟩,⟨0,Nat.zero_le _,rfl,rfl,Nat.le_refl _,fun i hi=>rfl⟩,fun j hj=>?_⟩
   refine Qag (fun e2=>?_) fun e2=>?_
   · have hjn:j<n:=by have:=of_decide_eq_true e2; omega
     rw [show 0 + Int.toNat (j:Int)=j by omega]
     refine ⟨⟨by omega,by omega⟩,j + 1,⟨hjn,by rw [Qc2 (by omega)],rfl,Nat.le_refl _,fun i hi=>?_⟩,by omega⟩
     rcases Nat.lt_trichotomy i j with h | h | h
     · rw [Go.SE.Qbc (by omega),show Nat.blt i j=true by simpa using h,show Nat.blt i (j + 1)=true by simp only [Nat.blt_eq]; omega]; rfl
     · subst h
       rw [show Nat.beq i i=true by simp,show Nat.blt i (i + 1)=true by simp only [Nat.blt_eq]; omega]; rfl
     · rw [Go.SE.Qbc (by omega),Qxw (by omega),Qxw (by omega)]; rfl
   · obtain rfl:n=j:=by have:=of_decide_eq_false e2; have hj:j≤n:=hj; omega
     refine ⟨⟨⟨0,Qcx n⟩,⟨Nat.zero_le _,Zje (by omega),fun j h1 h2=>by rw [Qmv (by omega) h2,Qxw h1]⟩,rfl,⟨rfl,Nat.le_refl _,rfl,rfl⟩,⟨rfl,Nat.le_refl _,fun _ _=>rfl⟩,⟨rfl,Nat.le_refl _,rfl⟩,⟨rfl,Nat.le_refl _,rfl,fun _=>rfl,fun _ _ _=>rfl⟩,rfl,Nat.le_refl _,fun i hi=>by rw [Qmv (by omega) (by omega)]⟩,fun x hx=>?_⟩
     obtain ⟨bi,a⟩:=x
     obtain ⟨hbi,ha,haz⟩:=hx
     dsimp only at hbi ha haz ⊢
     refine sel2 (fun e3 e4=>?_) ?_
     · have hbn:bi<nb:=by have:=of_decide_eq_true e3; omega
       have hn0:0<n:=by have:=of_decide_eq_true e4; omega
       rw [show 0 + Int.toNat (bi:Int)=bi by omega]
       obtain ⟨k,hk⟩:∃ k:Nat,B bi % (n:Int)=(k:Int):=⟨(B bi % (n:Int)).toNat,by have:=Int.emod_nonneg (B bi) (show (n:Int)≠0 by omega); omega⟩
       have hkn:k<n:=by have:=Int.emod_lt_of_pos (B bi) (show 0<(n:Int) by omega); omega
       rw [hk]
       rw [show 0 + Int.toNat (k:Int)=k by omega]
       have hws:IntKind.i64.wrap ((bi:Int) + 1)=((bi + 1:Nat):Int):=Qc2 (by omega)
       refine ⟨⟨by omega,by omega⟩,⟨hB bi hbn,by omega,⟨by omega,by omega⟩⟩,⟨by omega,by omega⟩,Qag (fun e5=>?_) fun e5=>⟨⟨by omega,by omega⟩,?_⟩⟩
       · exact ⟨⟨bi + 1,a⟩,⟨⟨hbn,ha,haz⟩,by rw [hws],⟨rfl,Nat.le_refl _,rfl,rfl⟩,⟨rfl,Nat.le_refl _,fun _ _=>rfl⟩,⟨rfl,Nat.le_refl _,rfl⟩,⟨rfl,Nat.le_refl _,rfl,fun _=>rfl,fun _ _ _=>rfl⟩,rfl,Nat.le_refl _,fun i hi=>rfl⟩,by simp only; omega⟩
       · have ho:onA a k=true:=by simpa using e5
         refine Qag (fun e6=>⟨⟨Qsf ha n,by omega,by omega⟩,sF (by rw [ho]; rfl) ?_⟩) fun e6=>?_
         · have hh:Q2y a (fun i=>i1 [SV.v (.int .i64 ((fun i=>i1 [SV.v (.int .i64 (gnF n i))]) i))]) k (i1 [SV.v (.int .i64 (gnF n (Int.toNat (k:Int))))])=true:=by
             unfold Q2y
             rw [ho]
             exact beq_self_eq_true _
           have hcut:=Q7b (Qb8 G) ha (show k<8 by omega) ho
           rw [ho]
           rw [cond_true,cond_true]
           refine ⟨⟨Qsf ha n,⟨by omega,by omega⟩,by decide,hh⟩,⟨⟨by omega,by omega⟩,by rw [Qfo (by omega)]; exact ho⟩,⟨by omega,by omega⟩,⟨bi + 1,clA a k⟩,⟨⟨hbn,cl_8 ha (by omega),fun j h1 h2=>by rw [Zfe ha (by omega) h2,haz j h1 h2]; rfl⟩,by rw [hws],⟨rfl,Nat.le_refl _,rfl,rfl⟩,⟨rfl,Nat.le_refl _,fun _ _=>rfl⟩,⟨rfl,Nat.le_refl _,rfl⟩,⟨rfl,Nat.le_refl _,hcut.1,hcut.2.1,fun k i _=>hcut.2.2 k i⟩,rfl,Nat.le_refl _,fun i hi=>?_⟩,by simp only; omega⟩
           rw [Zfe ha (by omega) (by omega)]
           cases hb:Nat.beq i k with
           | true=>rw [Bool.not_true,Bool.and_false]; rfl
           | false=>rw [Bool.not_false,Bool.and_true]; rfl
         · have hmv:=Q2h (Qb8 G) (show k<8 by omega) ho [0,0,0,0]
           have hhas:(Qbs (Qb8 G) a).has k=true:=by rw [Qfo (by omega)]; exact ho
           have hhas2:((Qbs (Qb8 G) a).put k [0,0,0,0]).has k=true:=by
             show ((k:Int)==(k:Int)||_)=true
             simp
           exact ⟨⟨⟨by omega,by omega⟩,by unfold bxP P21; omega,hhas⟩,⟨by omega,by omega⟩,fin k,⟨⟨by omega,by omega⟩,hbx k,hhas2⟩,⟨bi + 1,a⟩,⟨⟨hbn,ha,haz⟩,by rw [hws],⟨rfl,Nat.le_refl _,rfl,rfl⟩,⟨rfl,Nat.le_refl _,fun _ _=>rfl⟩,⟨rfl,Nat.le_refl _,rfl⟩,⟨rfl,Nat.le_refl _,hmv.1,hmv.2.1,fun k i _=>hmv.2.2 k i⟩,rfl,Nat.le_refl _,fun i hi=>rfl⟩,by simp only; omega⟩
     · have hlex:=Q1s (F:=Qb8 G) ha
       have hin:=fun p=>Zd9 (F:=Qb8 G) ha (p:=p)
       have hprs:=fun i k h1 h2 h3 h4=>Qxm (F:=Qb8 G) ha (i:=i) (k:=k) h1 h2 h3 h4
       have hlen:(Qa9 (Qbs (Qb8 G) a)).length≤64:=Zdp
       have hcn:=Zfb ha
       refine ⟨⟨Qhy _ ha,Zd8 hbx⟩,fun c1=>⟨⟨⟨0,a⟩,⟨Nat.zero_le _,rfl⟩,⟨rfl,?_⟩,⟨rfl,Nat.le_refl _,rfl,rfl⟩,rfl,Nat.le_refl _,fun _ _=>rfl⟩,fun y hy=>?_⟩⟩
       · have:Qa3 (Qcs G a) (0,0 + 1)=0:=Q1g fun p hp=>⟨(hin p hp).1.1,(hin p hp).1.2.1⟩
         show SV.v (.int .i64 0)=SV.v (.int .i64 (Qa3 (Qcs G a) (0,0 + 1):Nat))
         rw [this]; rfl
       obtain ⟨i,a'⟩:=y
       obtain ⟨hy,ea⟩:=hy
       have ea:=Qzz ea
       dsimp only at hy ea ⊢
       subst ea
       have hy:i≤n:=hy
       refine Qag (fun e5=>?_) fun e5=>?_
       · have hi:i<n:=by have:=of_decide_eq_true e5; omega
         rw [show 0 + Int.toNat (i:Int)=i by omega]
         refine ⟨⟨Qsf ha n,by omega,by omega⟩,⟨by omega,by omega⟩,sF (Qqy rfl) ⟨⟨⟨i,i + 1,a⟩,⟨⟨by simp only; omega,hi⟩,rfl,rfl⟩,⟨by rw [Qc2 (by omega)],rfl⟩,trivial⟩,fun z hz=>?_⟩⟩
         obtain ⟨i',k,a'⟩:=z
         obtain ⟨⟨hik,hkn⟩,ez,ei⟩:=hz
         have ez:=Qzz ez
         have ei:=Zen ei
         dsimp only at hik hkn ez ei ⊢
         subst ez
         obtain rfl:i'=i:=by omega
         refine Qag (fun e6=>?_) fun e6=>?_
         · have hk:k<n:=by have:=of_decide_eq_true e6; omega
           have nm:¬ ((i':Int),(k:Int))∈Qa9 (Qbs (Qb8 G) a)→Qa3 (Qa9 (Qbs (Qb8 G) a)) ((i':Int),((k + 1:Nat):Int))=Qa3 (Qa9 (Qbs (Qb8 G) a)) ((i':Int),(k:Int)):=rk_f hlex
           have nt:((i':Int),(k:Int))∈Qa9 (Qbs (Qb8 G) a)→Qa3 (Qa9 (Qbs (Qb8 G) a)) ((i':Int),((k + 1:Nat):Int))=Qa3 (Qa9 (Qbs (Qb8 G) a)) ((i':Int),(k:Int)) + 1:=rk_t hlex
           rw [show 0 + Int.toNat (k:Int)=k by omega]
           refine ⟨⟨by omega,by omega⟩,Qag (fun e7=>?_) fun e7=>⟨⟨by omega,by omega⟩,Qag (fun e8=>?_) fun e8=>?_⟩⟩
           · have e7:onA a i'=false:=by simpa using e7
             refine Q11 hik hk hn ?_
             rw [show Qcs G a=Qa9 (Qbs (Qb8 G) a) from rfl,nm fun hp=>by have:=(hin _ hp).2.1; rw [show onA a ((i':Int),(k:Int)).1=onA a i' from rfl,e7] at this; cases this]
           · have e8:onA a k=false:=by simpa using e8
             refine Q11 hik hk hn ?_
             rw [show Qcs G a=Qa9 (Qbs (Qb8 G) a) from rfl,nm fun hp=>by have:=(hin _ hp).2.2; rw [show onA a ((i':Int),(k:Int)).2=onA a k from rfl,e8] at this; cases this]
           · have o1:onA a i'=true:=by simpa using e7
             have o2:onA a k=true:=by simpa using e8
             have hmt:((i':Int),(k:Int))∈Qa9 (Qbs (Qb8 G) a)↔Qgy (Qba (G i')).bx.a (Qba (G i')).bx.b (Qba (G i')).bx.c (Qba (G i')).bx.d (Qba (G k)).bx.a (Qba (G k)).bx.b (Qba (G k)).bx.c (Qba (G k)).bx.d=true:=by
               rw [hprs i' k hik (by omega) o1 o2,Q2i (by omega) (by omega) o1 o2]; exact Iff.rfl
             rw [show Qcs G a=Qa9 (Qbs (Qb8 G) a) from rfl]
             have nx:=fun v=>Q11 (G:=G) (a:=a) (v:=v) (i:=i') (k:=k) (n:=n) hik hk hn
             rw [show Qcs G a=Qa9 (Qbs (Qb8 G) a) from rfl] at nx
             obtain ⟨P,hP⟩:∃ P,Qa9 (Qbs (Qb8 G) a)=P:=⟨_,rfl⟩
             rw [hP] at hmt nm nt hlex hlen nx ⊢
             have hai:=Zj4 (P:=P) (q:=((i':Int),(k:Int))) hlex
             obtain ⟨r,hr⟩:∃ r,Qa3 P ((i':Int),(k:Int))=r:=⟨_,rfl⟩
             rw [hr] at nm nt hai ⊢
             rw [show 0 + Int.toNat (r:Int)=r by omega]
             have bi:(0:Int)≤(i':Int)∧(i':Int)<(n:Int):=⟨by omega,by omega⟩
             have bk:(0:Int)≤(k:Int)∧(k:Int)<(n:Int):=⟨by omega,by omega⟩
             have gap:Qgy (Qba (G i')).bx.a (Qba (G i')).bx.b (Qba (G i')).bx.c (Qba (G i')).bx.d (Qba (G k)).bx.a (Qba (G k)).bx.b (Qba (G k)).bx.c (Qba (G k)).bx.d=false→Qhz (Qba (G i')).bx (Qba (G k)).bx:=fun h=>Q68 h (hbx i') (hbx k)
             refine Qag (fun e9=>?_) fun e9=>?_
             · have hrl:r<P.length:=by have:=of_decide_eq_true e9; omega
               have hai:=hai hrl
               refine ⟨⟨by omega,by omega⟩,Qag (fun e10=>?_) fun e10=>?_⟩
               · have hmem:=hai.1 e10
                 have hm:=hmt.1 hmem
                 refine ⟨bi,fin i',bk,fin k,⟨hbx i',hbx k⟩,sF (Qqy (e10.trans hm.symm)) (sF (by rw [e10]; rfl) (nx _ ?_))⟩
                 rw [nt hmem,Qaj ⟨by omega,by omega⟩]; rfl
               · have hmem:¬ ((i':Int),(k:Int))∈P:=fun h=>by rw [hai.2 h] at e10; cases e10
                 have hm:=Bool.eq_false_iff.2 fun h=>hmem (hmt.2 h)
                 refine ⟨bi,fin i',bk,fin k,⟨hbx i',hbx k⟩,sF (Qqy (e10.trans hm.symm)) (sT (by rw [e10]; rfl) ⟨bi,bk,⟨fin i',fin k,gap hm⟩,nx _ ?_⟩)⟩
                 rw [nm hmem]
             · have hrl:¬ r<P.length:=by have:=of_decide_eq_false e9; omega
               have hmem:¬ ((i':Int),(k:Int))∈P:=fun h=>hrl (by have:=(Q1i hlex h).1; rw [hr] at this; exact this)
               have hm:=Bool.eq_false_iff.2 fun h=>hmem (hmt.2 h)
               refine ⟨bi,fin i',bk,fin k,⟨hbx i',hbx k⟩,sF (Qqy hm.symm) ⟨bi,bk,⟨fin i',fin k,gap hm⟩,nx _ ?_⟩⟩
               rw [nm hmem]
         · obtain rfl:k=n:=by have:=of_decide_eq_false e6; omega
           refine ⟨⟨i' + 1,a⟩,⟨⟨hi,rfl⟩,⟨by rw [Qc2 (by omega)],?_⟩,⟨rfl,Nat.le_refl _,rfl,rfl⟩,rfl,Nat.le_refl _,fun _ _=>rfl⟩,by simp only; omega⟩
           have:Qa3 (Qcs G a) ((i':Int) + 1,(i':Int) + 1 + 1)=Qa3 (Qcs G a) ((i':Int),(k:Int)):=Q1h fun p hp=>by
             obtain ⟨⟨q1,q2,q3⟩,q4,q5⟩:=hin p hp
             refine ⟨q2,?_⟩
             rcases Int.lt_or_le p.2 k with h | h
             · exact h
             · have:=haz p.2.toNat (by omega) (by omega)
               rw [Int.toNat_of_nonneg (by omega),q5] at this; cases this
           show SV.v (.int .i64 (Qa3 (Qcs G a) ((i':Int),(k:Int)):Nat))=SV.v (.int .i64 (Qa3 (Qcs G a) ((i':Int) + 1,(i':Int) + 1 + 1):Nat))
           rw [this]
       · obtain rfl:i=n:=by have:=of_decide_eq_false e5; omega
         have hend:Qa3 (Qcs G a) ((i:Int),(i:Int) + 1)=(Qa9 (Qbs (Qb8 G) a)).length:=Q6r fun p hp=>by
           obtain ⟨⟨q1,q2,q3⟩,q4,q5⟩:=hin p hp
           rcases Int.lt_or_le p.1 i with h | h
           · exact h
           · have:=haz p.1.toNat (by omega) (by omega)
             rw [Int.toNat_of_nonneg (by omega),q4] at this; cases this
         refine sT ?_ ⟨⟨Qsf ha i,by decide⟩,?_⟩
         · show ((Qa3 (Qcs G a) ((i:Int),(i:Int) + 1):Int)==((Qa9 (Qbs (Qb8 G) a)).length:Int))=true
           rw [hend]
           exact beq_self_eq_true _
         · show SV.v (.bool (Qg1 a==(((Qg1 a).toNat:Nat):Int)))=SV.v (.bool true)
           rw [Int.toNat_of_nonneg hcn.1,beq_self_eq_true]
def sTpq:List SV→List Ro→Option (Option Prop×SV)
 | [.sl 0 6 0 n _,.sl 1 1 0 nb _],[⟨6,n',row⟩,⟨1,nb',row2⟩]=>some (some ((n'=n∧∀ i,i<n→∃ m:MD,row i=mdL m∧mdI m)∧nb'=nb∧∀ i,i<nb→∃ a:Int,row2 i=[.v (.int .i64 a)]∧I64 a),.v (.bool true))
 | _,_=>none
def md1 (r:List SV):MD:=match r with
 | [.v (.int _ k),.v (.int _ a),.v (.int _ b),.v (.int _ x),.v (.int _ y),.v (.int _ w)]=>⟨k,a,b,x,y,w⟩
 | _=>⟨0,0,0,0,0,0⟩
theorem Zay:∀ f g,Zk7 f=some g→g.ok Tryz.prog f:=Qad (Qad (Qad (Qad (Qad (Qad (Qad (Qad (Qad (Qad (Qad (Qad (Qad (Qad (Qad (Qad Qam
 (Qc4 Tryz.func5 (by kernel_rfl) (by kernel_rfl) Qyd)) (Qc4 Tryz.func6 (by kernel_rfl) (by kernel_rfl) Qye)) (Qc4 Tryz.func7 (by kernel_rfl) (by kernel_rfl) Qyk)) (Qc4 Tryz.func8 (by kernel_rfl) (by kernel_rfl) Q35)) (Qc4 Tryz.func10 (by kernel_rfl) (by kernel_rfl) Q45)) (Qc4 Tryz.func9 (by kernel_rfl) (by kernel_rfl) Q4h)) (Qas Tryz.func11 (by kernel_rfl) (by kernel_rfl) Qs6)) (Qc4 Tryz.func12 (by kernel_rfl) (by kernel_rfl) Q47)) (Qc4 Tryz.func13 (by kernel_rfl) (by kernel_rfl) Q4w)) (Qc4 Tryz.func14 (by kernel_rfl) (by kernel_rfl) Qyn)) (Qc4 Tryz.func15 (by kernel_rfl) (by kernel_rfl) Qyi)) (Qc4 Tryz.func16 (by kernel_rfl) (by kernel_rfl) Qya)) (Qas Tryz.func17 (by kernel_rfl) (by kernel_rfl) Qo5)) (Qc4 Tryz.func18 (by kernel_rfl) (by kernel_rfl) Q88)) (Qc4 Tryz.func19 (by kernel_rfl) (by kernel_rfl) Q4u)) (Qc4 Tryz.func20 (by kernel_rfl) (by kernel_rfl) Q4t)
theorem Q8k:Qc7 Tryz.prog 3 sTpq:=Qcq hm Zay Tryz.func3 (Λ:=fun args bs=>match args,bs with | [.sl 0 6 0 n _,.sl 1 1 0 nb _],[⟨6,_,row⟩,_]=>Zk0 (fun i=>md1 (row i)) n nb | _,_=>Qay) fun args bs p x h hp=>by
 unfold sTpq at h
 split at h <;> try (cases h; done)
 rename_i n c nb cb n' row nb' row2
 cases h
 obtain ⟨⟨rfl,h0⟩,rfl,h1⟩:=hp _ rfl
 refine ⟨rfl,[⟨6,n',fun i=>mdL (md1 (row i))⟩,⟨1,nb',fun i=>[.v (.int .i64 (i1 (row2 i)))]⟩],⟨⟨rfl,rfl,fun i hi=>?_⟩,⟨rfl,rfl,fun i hi=>?_⟩,trivial⟩,Zh5 (fun i hi=>?_) fun i hi=>?_⟩
 · obtain ⟨m,e,_⟩:=h0 i hi
   show row i=mdL (md1 (row i))
   rw [e]; rfl
 · obtain ⟨a,e,_⟩:=h1 i hi
   show row2 i=[.v (.int .i64 (i1 (row2 i)))]
   rw [e]; rfl
 · obtain ⟨m,e,hm⟩:=h0 i hi
   rw [e]; exact hm
 · obtain ⟨a,e,ha⟩:=h1 i hi
   rw [e]; exact ha
end Go.Proofs.YthkihlpeaidlnaaGreat
end
