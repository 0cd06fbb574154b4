import Derived.Test.YtjdldadmaaeimaaWiCg

section
/-
  The reference's shape.
-/
set_option maxRecDepth 100000
set_option linter.unusedSimpArgs false
set_option linter.unusedVariables false
namespace Go.Proofs.Ytjdldadmaaeimaa
open Go.SE Go.RowKit

def hdS (k r w h : Int) (n : Nat) : List Int := [k % 256] ++ (i8 r ++ (i8 w ++ (i8 h ++ [(n : Int) % 256])))
def rShS (s : ByteArray) (b : Bool) (k r w h : Int) (n : Nat) (x y : Nat → Int) : ByteArray := s ++ strOfNums (hdS k r w h n) ++ (bif b then emp else strOfNums (spotsL x y n))
def sRShape (args : List SV) (bs : List Blk) : Option Eff := match args, bs with
  | [.vp 0 0, .agg [.v (.int .i64 k), .v (.int .i64 r), .v (.int .i64 w), .v (.int .i64 h), .sl 1 2 0 n _]], [B, S] => match B.row 0 with
    | [.v (.string s), .v (.bool b0)] => bif rOk B && okB S then some (.det (some (((I64 k ∧ I64 r ∧ I64 w ∧ I64 h) ∧ spPre n S ∧ n < 100) ∧ s.size ≤ 800000000)) (.tup []) [(0, rB (rShS s (b0 || shBad k n) k r w h n (gX S) (gY S)) (b0 || shBad k n))]) else none
    | _ => none
  | _, _ => none
noncomputable def ΛRSh (s : ByteArray) (b : Bool) (k r w h : Int) (n : Nat) (x y : Nat → Int) : Nat → Option LoopSpec := addLoop noΛ Try.f109 0 Nat (fun i => i ≤ n ∧ (b = true → i = 0)) (fun i => n - i) [(4, fun i => .v (.int .i64 i))] [(0, fun i => rB (s ++ strOfNums (hdS k r w h n) ++ strOfNums (spotsL x y i)) b)]
def ΓRs : Ctrs := addCtr ΓE1 117 (hpCtr true (sRApp 1000000000 fRSpot))
theorem vcRShape (q : Option Prop) (s : ByteArray) (b0 : Bool) (k r w h : Int) (e n m cap xt : Nat) (x y : Nat → Int) (wh : Bool) : (vcFn Try.prog ΓRs (ΛRSh s (b0 || shBad k n) k r w h n x y) Try.f109 [.vp 0 0, .agg [.v (.int .i64 k), .v (.int .i64 r), .v (.int .i64 w), .v (.int .i64 h), .sl 1 2 0 n cap]] (heapOf [rB s b0, ptB e m x y xt wh]) 64 (fun y' h' => FinE [rB s b0, ptB e m x y xt wh] (.det q (.tup []) [(0, rB (rShS s (b0 || shBad k n) k r w h n x y) (b0 || shBad k n))]) y' h')) =
((((I64 k) ∧ (((0 : Int) ≤ 1) ∧ ((1 : Int) ≤ 8))) ∧ (((ByteArray.size s) : Nat) ≤ M0)) ∧ (((I64 r) ∧ (((ByteArray.size (s ++ strOfNums (be (k % 18446744073709551616) 1))) : Nat) ≤ M0)) ∧ (((I64 w) ∧ (((ByteArray.size (s ++ strOfNums (be (k % 18446744073709551616) 1) ++ strOfNums (i8 r))) : Nat) ≤ M0)) ∧ (((I64 h) ∧ (((ByteArray.size (s ++ strOfNums (be (k % 18446744073709551616) 1) ++ strOfNums (i8 r) ++ strOfNums (i8 w))) : Nat) ≤ M0)) ∧ ((((I64 (↑n : Int)) ∧ (((0 : Int) ≤ 1) ∧ ((1 : Int) ≤ 8))) ∧ (((ByteArray.size (s ++ strOfNums (be (k % 18446744073709551616) 1) ++ strOfNums (i8 r) ++ strOfNums (i8 w) ++ strOfNums (i8 h))) : Nat) ≤ M0)) ∧ ((∃ x_1 : Nat, ((((x_1 : Nat) ≤ n) ∧ (((b0 || shBad k n) = true) → ((x_1 : Nat) = 0))) ∧ (((SV.v (Value.int IntKind.i64 0)) = (SV.v (Value.int IntKind.i64 ((↑x_1 : Int))))) ∧ (((1 : Nat) = 1) ∧ (((1 : Nat) ≤ 1) ∧ (∀ i : Nat, (((i : Nat) < 1) → ([(SV.v (Value.string (s ++ strOfNums (be (k % 18446744073709551616) 1) ++ strOfNums (i8 r) ++ strOfNums (i8 w) ++ strOfNums (i8 h) ++ strOfNums (be ((↑n : Int) % 18446744073709551616) 1)))), (SV.v (Value.bool (b0 || notIn k 255 || false || false || false || notIn (↑n : Int) 8)))] = [(SV.v (Value.string (s ++ strOfNums (hdS k r w h n) ++ strOfNums (spotsL x y x_1)))), (SV.v (Value.bool (b0 || shBad k n)))])))))))) ∧ (∀ x_1 : Nat, ((((x_1 : Nat) ≤ n) ∧ (((b0 || shBad k n) = true) → ((x_1 : Nat) = 0))) → 
(sel (decide ((↑x_1 : Int) < (↑n : Int))) 
(sel (!(b0 || shBad k n)) ((((0 : Int) ≤ ((↑x_1 : Int))) ∧ ((((↑x_1 : Int)) : Int) < ((↑n : Int)))) ∧ ((((I64 (x (0 + Int.toNat (↑x_1 : Int)))) ∧ (I64 (y (0 + Int.toNat (↑x_1 : Int))))) ∧ (((ByteArray.size (s ++ strOfNums (hdS k r w h n) ++ strOfNums (spotsL x y x_1))) : Nat) ≤ 1000000000)) ∧ (∃ x' : Nat, (((((x' : Nat) ≤ n) ∧ (((b0 || shBad k n) = true) → ((x' : Nat) = 0))) ∧ (((SV.v (Value.int IntKind.i64 (IntKind.wrap IntKind.i64 ((↑x_1 : Int) + 1)))) = (SV.v (Value.int IntKind.i64 ((↑x' : Int))))) ∧ (((1 : Nat) = 1) ∧ (((1 : Nat) ≤ 1) ∧ (∀ i : Nat, (((i : Nat) < 1) → ([(SV.v (Value.string (s ++ strOfNums (hdS k r w h n) ++ strOfNums (spotsL x y x_1) ++ strOfNums (i8 (x (0 + Int.toNat (↑x_1 : Int))) ++ i8 (y (0 + Int.toNat (↑x_1 : Int))))))), (SV.v (Value.bool (b0 || shBad k n || false)))] = [(SV.v (Value.string (s ++ strOfNums (hdS k r w h n) ++ strOfNums (spotsL x y x')))), (SV.v (Value.bool (b0 || shBad k n)))]))))))) ∧ (((n - x') : Nat) < (n - x_1)))))) (True ∧ (((1 : Nat) = 1) ∧ (((1 : Nat) ≤ 1) ∧ (∀ i : Nat, (((i : Nat) < 1) → ([(SV.v (Value.string (s ++ strOfNums (hdS k r w h n) ++ strOfNums (spotsL x y x_1)))), (SV.v (Value.bool (b0 || shBad k n)))] = [(SV.v (Value.string (rShS s (b0 || shBad k n) k r w h n x y))), (SV.v (Value.bool (b0 || shBad k n)))]))))))) (True ∧ (((1 : Nat) = 1) ∧ (((1 : Nat) ≤ 1) ∧ (∀ i : Nat, (((i : Nat) < 1) → ([(SV.v (Value.string (s ++ strOfNums (hdS k r w h n) ++ strOfNums (spotsL x y x_1)))), (SV.v (Value.bool (b0 || shBad k n)))] = [(SV.v (Value.string (rShS s (b0 || shBad k n) k r w h n x y))), (SV.v (Value.bool (b0 || shBad k n)))]))))))))))))))) := by kernel_rfl
theorem hd_str (s : ByteArray) (k r w h : Int) (n : Nat) : s ++ strOfNums (be (k % 18446744073709551616) 1) ++ strOfNums (i8 r) ++ strOfNums (i8 w) ++ strOfNums (i8 h) ++ strOfNums (be ((n : Int) % 18446744073709551616) 1) = s ++ strOfNums (hdS k r w h n) := by
  rw [be_one, be_one, str_app2, str_app2, str_app2, str_app2]
  unfold hdS
  simp only [List.append_assoc]
theorem hdl (k r w h : Int) (n : Nat) : (hdS k r w h n).length = 26 := by
  unfold hdS
  simp only [List.length_append, i8l, List.length_cons, List.length_nil]
theorem ΓRs_ok : ∀ f g, ΓRs f = some g → g.ok Try.prog f := addCtr_ok ΓE1_ok (hp_ok Try.func117 (by kernel_rfl) (by kernel_rfl) RSpot_spec)
theorem rshape {q : Option Prop} {s : ByteArray} {b0 : Bool} {k r w h : Int} {e n m cap xt : Nat} {x y : Nat → Int} {wh : Bool} (hk : I64 k) (hr : I64 r) (hw : I64 w) (hh : I64 h) (hn : n < 100) (hv : ∀ i, i < n → I64 (x i) ∧ I64 (y i)) (hs : s.size ≤ 800000000) : vcFn Try.prog ΓRs (ΛRSh s (b0 || shBad k n) k r w h n x y) Try.f109 [.vp 0 0, .agg [.v (.int .i64 k), .v (.int .i64 r), .v (.int .i64 w), .v (.int .i64 h), .sl 1 2 0 n cap]] (heapOf [rB s b0, ptB e m x y xt wh]) 64 (fun y' h' => FinE [rB s b0, ptB e m x y xt wh] (.det q (.tup []) [(0, rB (rShS s (b0 || shBad k n) k r w h n x y) (b0 || shBad k n))]) y' h') := by
  have b1 : ∀ v : Int, (be v 1).length = 1 := fun v => be_len v 1
  refine Eq.mpr (vcRShape q s b0 k r w h e n m cap xt x y wh) ⟨⟨⟨hk, by omega, by omega⟩, by show s.size ≤ 1099511627776; omega⟩, ⟨hr, ?_⟩, ⟨hw, ?_⟩, ⟨hh, ?_⟩, ⟨⟨⟨by omega, by omega⟩, by omega, by omega⟩, ?_⟩, ⟨0, ⟨Nat.zero_le _, fun _ => rfl⟩, rfl, rfl, Nat.le_refl _, fun i _ => ?_⟩, fun z ⟨h1, h2⟩ => sel_of (fun hlt => sel_of (fun hb => ?_) fun hb => ?_) fun hge => ?_⟩
  · rw [size_app, size_str, b1]; show _ ≤ 1099511627776; omega
  · rw [size_app, size_app, size_str, size_str, b1, i8l]; show _ ≤ 1099511627776; omega
  · rw [size_app, size_app, size_app, size_str, size_str, size_str, b1, i8l, i8l]; show _ ≤ 1099511627776; omega
  · rw [size_app, size_app, size_app, size_app, size_str, size_str, size_str, size_str, b1, i8l, i8l, i8l]; show _ ≤ 1099511627776; omega
  · rw [hd_str]
    show [SV.v (.string _), _] = [SV.v (.string (_ ++ strOfNums [])), _]
    rw [str_nil, app_emp]
    simp only [Bool.or_false, shBad, Bool.or_assoc]
  · have hlt := of_decide_eq_true hlt
    have hlt : z < n := by omega
    rw [show 0 + Int.toNat (z : Int) = z by omega]
    refine ⟨⟨by omega, by omega⟩, ⟨hv z hlt, ?_⟩, z + 1, ⟨⟨hlt, fun hc => ?_⟩, int_mk (wrap_i64 ⟨by omega, by omega⟩), rfl, Nat.le_refl _, fun i _ => ?_⟩, by omega⟩
    · rw [size_app, size_app, size_str, size_str, hdl, spotsL_len]; omega
    · rw [hc] at hb; cases hb
    · rw [str_app2, Bool.or_false]
      rfl
  · refine ⟨trivial, rfl, Nat.le_refl _, fun i _ => ?_⟩
    have hb : (b0 || shBad k n) = true := by
      cases hc : (b0 || shBad k n) with
      | true => rfl
      | false => rw [hc] at hb; cases hb
    have hz := h2 hb
    subst hz
    unfold rShS
    rw [hb]
    show [SV.v (.string (_ ++ strOfNums [])), _] = [SV.v (.string (_ ++ emp)), _]
    rw [str_nil]
  · have hge := of_decide_eq_false hge
    have hz : z = n := by omega
    refine ⟨trivial, rfl, Nat.le_refl _, fun i _ => ?_⟩
    unfold rShS
    cases hb : (b0 || shBad k n) with
    | false => rw [hz]; rfl
    | true =>
      have h0 := h2 hb
      subst h0
      show [SV.v (.string (_ ++ strOfNums [])), _] = [SV.v (.string (_ ++ emp)), _]
      rw [str_nil]
theorem RShape_spec : HpSpec Try.prog 109 sRShape := hp_spec hm ΓRs_ok Try.func109 (Λ := fun args bs => match args, bs with
    | [.vp 0 0, .agg [.v (.int _ k), .v (.int _ r), .v (.int _ w), .v (.int _ h), .sl _ _ _ n _]], [B, S] => match B.row 0 with
      | [.v (.string s), .v (.bool b0)] => ΛRSh s (b0 || shBad k n) k r w h n (gX S) (gY S)
      | _ => noΛ
    | _, _ => noΛ) fun args bs e hs hp => by
  unfold sRShape at hs
  split at hs
  · rename_i k r w h n cap B S
    split at hs
    · rename_i s b0 hB
      obtain ⟨hb, he⟩ := bif_some2' hs
      have he := Option.some.inj he
      subst he
      rw [Bool.and_eq_true] at hb
      obtain ⟨⟨⟨hk, hr, hw, hh⟩, hsp, hn⟩, hsz⟩ := hp _ rfl
      refine ⟨[rB s b0, ptB S.elem n (gX S) (gY S) S.ext S.whole], ⟨rOk_same hb.1 hB, same_ptB hb.2 hsp, trivial⟩, ?_⟩
      simp only [hB]
      exact rshape hk hr hw hh hn (pre_of hsp).2 hsz
    · cases hs
  · cases hs
end Go.Proofs.Ytjdldadmaaeimaa
end

section
/-
  The reference's calls, in general: the conditions.
-/
set_option maxRecDepth 100000
set_option linter.unusedSimpArgs false
set_option linter.unusedVariables false
namespace Go.Proofs.Ytjdldadmaaeimaa
open Go.SE Go.RowKit

noncomputable def ΛRUsed : Nat → Option LoopSpec := (addPr (addPr (addPr (addPr (addPr (addPr noΛ 4 [(13, fun _ => 120), (15, fun _ => 120), (17, fun _ => 120), (19, fun _ => 120), (21, fun _ => 120), (23, fun _ => 120)]) 6 [(5, fun _ => 120), (7, fun _ => 120)]) 8 [(9, fun _ => 120), (11, fun _ => 120), (13, fun _ => 120), (15, fun _ => 120)]) 10 [(7, fun _ => 120), (9, fun _ => 120), (11, fun _ => 120)]) 12 [(5, fun _ => 120), (7, fun _ => 120)]) 20 [(5, fun _ => 120), (7, fun _ => 120)])
theorem vcRUsed1 (q : Option Prop) (c : CV) (e n m cap xt : Nat) (x y : Nat → Int) (wh : Bool) : (vcFn Try.prog noCtrs ΛRUsed Try.f75 [caS 1 c (.sl 0 2 0 n cap)] (heapOf [ptB e m x y xt wh]) 64 (fun y' h' => FinE [ptB e m x y xt wh] (.det q (caS 1 (uc1 c) (.sl 0 2 0 n cap)) []) y' h')) =
((((SV.v (Value.int IntKind.i64 1)) = (SV.v (Value.int IntKind.i64 1))) ∧ (((SV.v (Value.int IntKind.i64 (CV.id c))) = (SV.v (Value.int IntKind.i64 (CV.id (uc1 c))))) ∧ (((SV.v (Value.int IntKind.i64 0)) = (SV.v (Value.int IntKind.i64 (CV.bs (uc1 c))))) ∧ (((SV.v (Value.int IntKind.i64 0)) = (SV.v (Value.int IntKind.i64 (CV.bg (uc1 c))))) ∧ (((SV.v (Value.int IntKind.i64 0)) = (SV.v (Value.int IntKind.i64 (CV.ver (uc1 c))))) ∧ (((SV.v (Value.int IntKind.i64 (CV.sk c))) = (SV.v (Value.int IntKind.i64 (CV.sk (uc1 c))))) ∧ (((SV.v (Value.int IntKind.i64 (CV.sr c))) = (SV.v (Value.int IntKind.i64 (CV.sr (uc1 c))))) ∧ (((SV.v (Value.int IntKind.i64 (CV.sw c))) = (SV.v (Value.int IntKind.i64 (CV.sw (uc1 c))))) ∧ (((SV.v (Value.int IntKind.i64 (CV.sh c))) = (SV.v (Value.int IntKind.i64 (CV.sh (uc1 c))))) ∧ (((SV.sl 0 2 0 n cap) = (SV.sl 0 2 0 n cap)) ∧ (((SV.v (Value.int IntKind.i64 (CV.p0v c))) = (SV.v (Value.int IntKind.i64 (CV.p0v (uc1 c))))) ∧ (((SV.v (Value.bool (CV.p0f c))) = (SV.v (Value.bool (CV.p0f (uc1 c))))) ∧ (((SV.v (Value.int IntKind.i64 (CV.p1v c))) = (SV.v (Value.int IntKind.i64 (CV.p1v (uc1 c))))) ∧ (((SV.v (Value.bool (CV.p1f c))) = (SV.v (Value.bool (CV.p1f (uc1 c))))) ∧ (((SV.v (Value.int IntKind.i64 (CV.p2v c))) = (SV.v (Value.int IntKind.i64 (CV.p2v (uc1 c))))) ∧ (((SV.v (Value.bool (CV.p2f c))) = (SV.v (Value.bool (CV.p2f (uc1 c))))) ∧ (((SV.v (Value.int IntKind.i64 (CV.p3v c))) = (SV.v (Value.int IntKind.i64 (CV.p3v (uc1 c))))) ∧ (((SV.v (Value.bool (CV.p3f c))) = (SV.v (Value.bool (CV.p3f (uc1 c))))) ∧ (((SV.v (Value.int IntKind.i64 (CV.v0v c))) = (SV.v (Value.int IntKind.i64 (CV.v0v (uc1 c))))) ∧ (((SV.v (Value.bool (CV.v0f c))) = (SV.v (Value.bool (CV.v0f (uc1 c))))) ∧ (((SV.v (Value.int IntKind.i64 (CV.v1v c))) = (SV.v (Value.int IntKind.i64 (CV.v1v (uc1 c))))) ∧ (((SV.v (Value.bool (CV.v1f c))) = (SV.v (Value.bool (CV.v1f (uc1 c))))) ∧ (((SV.v (Value.int IntKind.i64 (CV.w0v c))) = (SV.v (Value.int IntKind.i64 (CV.w0v (uc1 c))))) ∧ (((SV.v (Value.bool (CV.w0f c))) = (SV.v (Value.bool (CV.w0f (uc1 c))))) ∧ (((SV.v (Value.int IntKind.i64 (CV.dn c))) = (SV.v (Value.int IntKind.i64 (CV.dn (uc1 c))))) ∧ (((SV.v (Value.bool (CV.mv c))) = (SV.v (Value.bool (CV.mv (uc1 c))))) ∧ (((SV.v (Value.int IntKind.i64 0)) = (SV.v (Value.int IntKind.i64 (CV.a0v (uc1 c))))) ∧ (((SV.v (Value.bool false)) = (SV.v (Value.bool false))) ∧ (((SV.v (Value.int IntKind.i64 0)) = (SV.v (Value.int IntKind.i64 (CV.a1v (uc1 c))))) ∧ (((SV.v (Value.bool false)) = (SV.v (Value.bool false))) ∧ (((SV.v (Value.int IntKind.i64 0)) = (SV.v (Value.int IntKind.i64 (CV.t0v (uc1 c))))) ∧ (((SV.v (Value.bool false)) = (SV.v (Value.bool false))) ∧ (((SV.v (Value.int IntKind.i64 0)) = (SV.v (Value.int IntKind.i64 (CV.t1v (uc1 c))))) ∧ (((SV.v (Value.bool false)) = (SV.v (Value.bool false))) ∧ (((SV.v (Value.int IntKind.i64 0)) = (SV.v (Value.int IntKind.i64 (CV.gr (uc1 c))))) ∧ (((SV.v (Value.int IntKind.i64 0)) = (SV.v (Value.int IntKind.i64 (CV.b0 (uc1 c))))) ∧ (((SV.v (Value.int IntKind.i64 0)) = (SV.v (Value.int IntKind.i64 (CV.b1 (uc1 c))))) ∧ (((SV.v (Value.int IntKind.i64 0)) = (SV.v (Value.int IntKind.i64 (CV.b2 (uc1 c))))) ∧ (((SV.v (Value.int IntKind.i64 0)) = (SV.v (Value.int IntKind.i64 (CV.b3 (uc1 c))))) ∧ (((SV.v (Value.int IntKind.i64 0)) = (SV.v (Value.int IntKind.i64 (CV.f0 (uc1 c))))) ∧ (((SV.v (Value.int IntKind.i64 0)) = (SV.v (Value.int IntKind.i64 (CV.f1 (uc1 c))))) ∧ (((SV.v (Value.int IntKind.i64 0)) = (SV.v (Value.int IntKind.i64 (CV.u0 (uc1 c))))) ∧ ((SV.v (Value.int IntKind.i64 0)) = (SV.v (Value.int IntKind.i64 (CV.u1 (uc1 c))))))))))))))))))))))))))))))))))))))))))))))) ∧ True) := by kernel_rfl
theorem vcRUsed2 (q : Option Prop) (c : CV) (e n m cap xt : Nat) (x y : Nat → Int) (wh : Bool) : (vcFn Try.prog noCtrs ΛRUsed Try.f75 [caS 2 c (.sl 0 2 0 n cap)] (heapOf [ptB e m x y xt wh]) 64 (fun y' h' => FinE [ptB e m x y xt wh] (.det q (caS 2 (uc2 c) (nilS)) []) y' h')) =
((((SV.v (Value.int IntKind.i64 2)) = (SV.v (Value.int IntKind.i64 2))) ∧ (((SV.v (Value.int IntKind.i64 (CV.id c))) = (SV.v (Value.int IntKind.i64 (CV.id (uc2 c))))) ∧ (((SV.v (Value.int IntKind.i64 (CV.bs c))) = (SV.v (Value.int IntKind.i64 (CV.bs (uc2 c))))) ∧ (((SV.v (Value.int IntKind.i64 (CV.bg c))) = (SV.v (Value.int IntKind.i64 (CV.bg (uc2 c))))) ∧ (((SV.v (Value.int IntKind.i64 (CV.ver c))) = (SV.v (Value.int IntKind.i64 (CV.ver (uc2 c))))) ∧ (((SV.v (Value.int IntKind.i64 0)) = (SV.v (Value.int IntKind.i64 (CV.sk (uc2 c))))) ∧ (((SV.v (Value.int IntKind.i64 0)) = (SV.v (Value.int IntKind.i64 (CV.sr (uc2 c))))) ∧ (((SV.v (Value.int IntKind.i64 0)) = (SV.v (Value.int IntKind.i64 (CV.sw (uc2 c))))) ∧ (((SV.v (Value.int IntKind.i64 0)) = (SV.v (Value.int IntKind.i64 (CV.sh (uc2 c))))) ∧ (((SV.v (Value.slice none 0 0)) = (SV.v (Value.slice none 0 0))) ∧ (((SV.v (Value.int IntKind.i64 0)) = (SV.v (Value.int IntKind.i64 (CV.p0v (uc2 c))))) ∧ (((SV.v (Value.bool false)) = (SV.v (Value.bool false))) ∧ (((SV.v (Value.int IntKind.i64 0)) = (SV.v (Value.int IntKind.i64 (CV.p1v (uc2 c))))) ∧ (((SV.v (Value.bool false)) = (SV.v (Value.bool false))) ∧ (((SV.v (Value.int IntKind.i64 0)) = (SV.v (Value.int IntKind.i64 (CV.p2v (uc2 c))))) ∧ (((SV.v (Value.bool false)) = (SV.v (Value.bool false))) ∧ (((SV.v (Value.int IntKind.i64 0)) = (SV.v (Value.int IntKind.i64 (CV.p3v (uc2 c))))) ∧ (((SV.v (Value.bool false)) = (SV.v (Value.bool false))) ∧ (((SV.v (Value.int IntKind.i64 0)) = (SV.v (Value.int IntKind.i64 (CV.v0v (uc2 c))))) ∧ (((SV.v (Value.bool false)) = (SV.v (Value.bool false))) ∧ (((SV.v (Value.int IntKind.i64 0)) = (SV.v (Value.int IntKind.i64 (CV.v1v (uc2 c))))) ∧ (((SV.v (Value.bool false)) = (SV.v (Value.bool false))) ∧ (((SV.v (Value.int IntKind.i64 0)) = (SV.v (Value.int IntKind.i64 (CV.w0v (uc2 c))))) ∧ (((SV.v (Value.bool false)) = (SV.v (Value.bool false))) ∧ (((SV.v (Value.int IntKind.i64 0)) = (SV.v (Value.int IntKind.i64 (CV.dn (uc2 c))))) ∧ (((SV.v (Value.bool false)) = (SV.v (Value.bool false))) ∧ (((SV.v (Value.int IntKind.i64 0)) = (SV.v (Value.int IntKind.i64 (CV.a0v (uc2 c))))) ∧ (((SV.v (Value.bool false)) = (SV.v (Value.bool false))) ∧ (((SV.v (Value.int IntKind.i64 0)) = (SV.v (Value.int IntKind.i64 (CV.a1v (uc2 c))))) ∧ (((SV.v (Value.bool false)) = (SV.v (Value.bool false))) ∧ (((SV.v (Value.int IntKind.i64 0)) = (SV.v (Value.int IntKind.i64 (CV.t0v (uc2 c))))) ∧ (((SV.v (Value.bool false)) = (SV.v (Value.bool false))) ∧ (((SV.v (Value.int IntKind.i64 0)) = (SV.v (Value.int IntKind.i64 (CV.t1v (uc2 c))))) ∧ (((SV.v (Value.bool false)) = (SV.v (Value.bool false))) ∧ (((SV.v (Value.int IntKind.i64 0)) = (SV.v (Value.int IntKind.i64 (CV.gr (uc2 c))))) ∧ (((SV.v (Value.int IntKind.i64 0)) = (SV.v (Value.int IntKind.i64 (CV.b0 (uc2 c))))) ∧ (((SV.v (Value.int IntKind.i64 0)) = (SV.v (Value.int IntKind.i64 (CV.b1 (uc2 c))))) ∧ (((SV.v (Value.int IntKind.i64 0)) = (SV.v (Value.int IntKind.i64 (CV.b2 (uc2 c))))) ∧ (((SV.v (Value.int IntKind.i64 0)) = (SV.v (Value.int IntKind.i64 (CV.b3 (uc2 c))))) ∧ (((SV.v (Value.int IntKind.i64 0)) = (SV.v (Value.int IntKind.i64 (CV.f0 (uc2 c))))) ∧ (((SV.v (Value.int IntKind.i64 0)) = (SV.v (Value.int IntKind.i64 (CV.f1 (uc2 c))))) ∧ (((SV.v (Value.int IntKind.i64 0)) = (SV.v (Value.int IntKind.i64 (CV.u0 (uc2 c))))) ∧ ((SV.v (Value.int IntKind.i64 0)) = (SV.v (Value.int IntKind.i64 (CV.u1 (uc2 c))))))))))))))))))))))))))))))))))))))))))))))) ∧ True) := by kernel_rfl
theorem vcRUsed3 (q : Option Prop) (c : CV) (e n m cap xt : Nat) (x y : Nat → Int) (wh : Bool) : (vcFn Try.prog noCtrs ΛRUsed Try.f75 [caS 3 c (.sl 0 2 0 n cap)] (heapOf [ptB e m x y xt wh]) 64 (fun y' h' => FinE [ptB e m x y xt wh] (.det q (caS 3 (uc3 c) (nilS)) []) y' h')) =
((((SV.v (Value.int IntKind.i64 3)) = (SV.v (Value.int IntKind.i64 3))) ∧ (((SV.v (Value.int IntKind.i64 (CV.id c))) = (SV.v (Value.int IntKind.i64 (CV.id (uc3 c))))) ∧ (((SV.v (Value.int IntKind.i64 (CV.bs c))) = (SV.v (Value.int IntKind.i64 (CV.bs (uc3 c))))) ∧ (((SV.v (Value.int IntKind.i64 (CV.bg c))) = (SV.v (Value.int IntKind.i64 (CV.bg (uc3 c))))) ∧ (((SV.v (Value.int IntKind.i64 (CV.ver c))) = (SV.v (Value.int IntKind.i64 (CV.ver (uc3 c))))) ∧ (((SV.v (Value.int IntKind.i64 0)) = (SV.v (Value.int IntKind.i64 (CV.sk (uc3 c))))) ∧ (((SV.v (Value.int IntKind.i64 0)) = (SV.v (Value.int IntKind.i64 (CV.sr (uc3 c))))) ∧ (((SV.v (Value.int IntKind.i64 0)) = (SV.v (Value.int IntKind.i64 (CV.sw (uc3 c))))) ∧ (((SV.v (Value.int IntKind.i64 0)) = (SV.v (Value.int IntKind.i64 (CV.sh (uc3 c))))) ∧ (((SV.v (Value.slice none 0 0)) = (SV.v (Value.slice none 0 0))) ∧ (((SV.v (Value.int IntKind.i64 0)) = (SV.v (Value.int IntKind.i64 (CV.p0v (uc3 c))))) ∧ (((SV.v (Value.bool false)) = (SV.v (Value.bool false))) ∧ (((SV.v (Value.int IntKind.i64 0)) = (SV.v (Value.int IntKind.i64 (CV.p1v (uc3 c))))) ∧ (((SV.v (Value.bool false)) = (SV.v (Value.bool false))) ∧ (((SV.v (Value.int IntKind.i64 0)) = (SV.v (Value.int IntKind.i64 (CV.p2v (uc3 c))))) ∧ (((SV.v (Value.bool false)) = (SV.v (Value.bool false))) ∧ (((SV.v (Value.int IntKind.i64 0)) = (SV.v (Value.int IntKind.i64 (CV.p3v (uc3 c))))) ∧ (((SV.v (Value.bool false)) = (SV.v (Value.bool false))) ∧ (((SV.v (Value.int IntKind.i64 0)) = (SV.v (Value.int IntKind.i64 (CV.v0v (uc3 c))))) ∧ (((SV.v (Value.bool false)) = (SV.v (Value.bool false))) ∧ (((SV.v (Value.int IntKind.i64 0)) = (SV.v (Value.int IntKind.i64 (CV.v1v (uc3 c))))) ∧ (((SV.v (Value.bool false)) = (SV.v (Value.bool false))) ∧ (((SV.v (Value.int IntKind.i64 0)) = (SV.v (Value.int IntKind.i64 (CV.w0v (uc3 c))))) ∧ (((SV.v (Value.bool false)) = (SV.v (Value.bool false))) ∧ (((SV.v (Value.int IntKind.i64 0)) = (SV.v (Value.int IntKind.i64 (CV.dn (uc3 c))))) ∧ (((SV.v (Value.bool false)) = (SV.v (Value.bool false))) ∧ (((SV.v (Value.int IntKind.i64 (CV.a0v c))) = (SV.v (Value.int IntKind.i64 (CV.a0v (uc3 c))))) ∧ (((SV.v (Value.bool (CV.a0f c))) = (SV.v (Value.bool (CV.a0f (uc3 c))))) ∧ (((SV.v (Value.int IntKind.i64 (CV.a1v c))) = (SV.v (Value.int IntKind.i64 (CV.a1v (uc3 c))))) ∧ (((SV.v (Value.bool (CV.a1f c))) = (SV.v (Value.bool (CV.a1f (uc3 c))))) ∧ (((SV.v (Value.int IntKind.i64 (CV.t0v c))) = (SV.v (Value.int IntKind.i64 (CV.t0v (uc3 c))))) ∧ (((SV.v (Value.bool (CV.t0f c))) = (SV.v (Value.bool (CV.t0f (uc3 c))))) ∧ (((SV.v (Value.int IntKind.i64 (CV.t1v c))) = (SV.v (Value.int IntKind.i64 (CV.t1v (uc3 c))))) ∧ (((SV.v (Value.bool (CV.t1f c))) = (SV.v (Value.bool (CV.t1f (uc3 c))))) ∧ (((SV.v (Value.int IntKind.i64 0)) = (SV.v (Value.int IntKind.i64 (CV.gr (uc3 c))))) ∧ (((SV.v (Value.int IntKind.i64 0)) = (SV.v (Value.int IntKind.i64 (CV.b0 (uc3 c))))) ∧ (((SV.v (Value.int IntKind.i64 0)) = (SV.v (Value.int IntKind.i64 (CV.b1 (uc3 c))))) ∧ (((SV.v (Value.int IntKind.i64 0)) = (SV.v (Value.int IntKind.i64 (CV.b2 (uc3 c))))) ∧ (((SV.v (Value.int IntKind.i64 0)) = (SV.v (Value.int IntKind.i64 (CV.b3 (uc3 c))))) ∧ (((SV.v (Value.int IntKind.i64 0)) = (SV.v (Value.int IntKind.i64 (CV.f0 (uc3 c))))) ∧ (((SV.v (Value.int IntKind.i64 0)) = (SV.v (Value.int IntKind.i64 (CV.f1 (uc3 c))))) ∧ (((SV.v (Value.int IntKind.i64 0)) = (SV.v (Value.int IntKind.i64 (CV.u0 (uc3 c))))) ∧ ((SV.v (Value.int IntKind.i64 0)) = (SV.v (Value.int IntKind.i64 (CV.u1 (uc3 c))))))))))))))))))))))))))))))))))))))))))))))) ∧ True) := by kernel_rfl
theorem vcRUsed4 (q : Option Prop) (c : CV) (e n m cap xt : Nat) (x y : Nat → Int) (wh : Bool) : (vcFn Try.prog noCtrs ΛRUsed Try.f75 [caS 4 c (.sl 0 2 0 n cap)] (heapOf [ptB e m x y xt wh]) 64 (fun y' h' => FinE [ptB e m x y xt wh] (.det q (caS 4 (uc4 c) (nilS)) []) y' h')) =
((((SV.v (Value.int IntKind.i64 4)) = (SV.v (Value.int IntKind.i64 4))) ∧ (((SV.v (Value.int IntKind.i64 (CV.id c))) = (SV.v (Value.int IntKind.i64 (CV.id (uc4 c))))) ∧ (((SV.v (Value.int IntKind.i64 (CV.bs c))) = (SV.v (Value.int IntKind.i64 (CV.bs (uc4 c))))) ∧ (((SV.v (Value.int IntKind.i64 (CV.bg c))) = (SV.v (Value.int IntKind.i64 (CV.bg (uc4 c))))) ∧ (((SV.v (Value.int IntKind.i64 (CV.ver c))) = (SV.v (Value.int IntKind.i64 (CV.ver (uc4 c))))) ∧ (((SV.v (Value.int IntKind.i64 0)) = (SV.v (Value.int IntKind.i64 (CV.sk (uc4 c))))) ∧ (((SV.v (Value.int IntKind.i64 0)) = (SV.v (Value.int IntKind.i64 (CV.sr (uc4 c))))) ∧ (((SV.v (Value.int IntKind.i64 0)) = (SV.v (Value.int IntKind.i64 (CV.sw (uc4 c))))) ∧ (((SV.v (Value.int IntKind.i64 0)) = (SV.v (Value.int IntKind.i64 (CV.sh (uc4 c))))) ∧ (((SV.v (Value.slice none 0 0)) = (SV.v (Value.slice none 0 0))) ∧ (((SV.v (Value.int IntKind.i64 0)) = (SV.v (Value.int IntKind.i64 (CV.p0v (uc4 c))))) ∧ (((SV.v (Value.bool false)) = (SV.v (Value.bool false))) ∧ (((SV.v (Value.int IntKind.i64 0)) = (SV.v (Value.int IntKind.i64 (CV.p1v (uc4 c))))) ∧ (((SV.v (Value.bool false)) = (SV.v (Value.bool false))) ∧ (((SV.v (Value.int IntKind.i64 0)) = (SV.v (Value.int IntKind.i64 (CV.p2v (uc4 c))))) ∧ (((SV.v (Value.bool false)) = (SV.v (Value.bool false))) ∧ (((SV.v (Value.int IntKind.i64 0)) = (SV.v (Value.int IntKind.i64 (CV.p3v (uc4 c))))) ∧ (((SV.v (Value.bool false)) = (SV.v (Value.bool false))) ∧ (((SV.v (Value.int IntKind.i64 0)) = (SV.v (Value.int IntKind.i64 (CV.v0v (uc4 c))))) ∧ (((SV.v (Value.bool false)) = (SV.v (Value.bool false))) ∧ (((SV.v (Value.int IntKind.i64 0)) = (SV.v (Value.int IntKind.i64 (CV.v1v (uc4 c))))) ∧ (((SV.v (Value.bool false)) = (SV.v (Value.bool false))) ∧ (((SV.v (Value.int IntKind.i64 0)) = (SV.v (Value.int IntKind.i64 (CV.w0v (uc4 c))))) ∧ (((SV.v (Value.bool false)) = (SV.v (Value.bool false))) ∧ (((SV.v (Value.int IntKind.i64 0)) = (SV.v (Value.int IntKind.i64 (CV.dn (uc4 c))))) ∧ (((SV.v (Value.bool false)) = (SV.v (Value.bool false))) ∧ (((SV.v (Value.int IntKind.i64 (CV.a0v c))) = (SV.v (Value.int IntKind.i64 (CV.a0v (uc4 c))))) ∧ (((SV.v (Value.bool (CV.a0f c))) = (SV.v (Value.bool (CV.a0f (uc4 c))))) ∧ (((SV.v (Value.int IntKind.i64 (CV.a1v c))) = (SV.v (Value.int IntKind.i64 (CV.a1v (uc4 c))))) ∧ (((SV.v (Value.bool (CV.a1f c))) = (SV.v (Value.bool (CV.a1f (uc4 c))))) ∧ (((SV.v (Value.int IntKind.i64 0)) = (SV.v (Value.int IntKind.i64 (CV.t0v (uc4 c))))) ∧ (((SV.v (Value.bool false)) = (SV.v (Value.bool false))) ∧ (((SV.v (Value.int IntKind.i64 0)) = (SV.v (Value.int IntKind.i64 (CV.t1v (uc4 c))))) ∧ (((SV.v (Value.bool false)) = (SV.v (Value.bool false))) ∧ (((SV.v (Value.int IntKind.i64 0)) = (SV.v (Value.int IntKind.i64 (CV.gr (uc4 c))))) ∧ (((SV.v (Value.int IntKind.i64 0)) = (SV.v (Value.int IntKind.i64 (CV.b0 (uc4 c))))) ∧ (((SV.v (Value.int IntKind.i64 0)) = (SV.v (Value.int IntKind.i64 (CV.b1 (uc4 c))))) ∧ (((SV.v (Value.int IntKind.i64 0)) = (SV.v (Value.int IntKind.i64 (CV.b2 (uc4 c))))) ∧ (((SV.v (Value.int IntKind.i64 0)) = (SV.v (Value.int IntKind.i64 (CV.b3 (uc4 c))))) ∧ (((SV.v (Value.int IntKind.i64 0)) = (SV.v (Value.int IntKind.i64 (CV.f0 (uc4 c))))) ∧ (((SV.v (Value.int IntKind.i64 0)) = (SV.v (Value.int IntKind.i64 (CV.f1 (uc4 c))))) ∧ (((SV.v (Value.int IntKind.i64 0)) = (SV.v (Value.int IntKind.i64 (CV.u0 (uc4 c))))) ∧ ((SV.v (Value.int IntKind.i64 0)) = (SV.v (Value.int IntKind.i64 (CV.u1 (uc4 c))))))))))))))))))))))))))))))))))))))))))))))) ∧ True) := by kernel_rfl
theorem vcRUsed5 (q : Option Prop) (c : CV) (e n m cap xt : Nat) (x y : Nat → Int) (wh : Bool) : (vcFn Try.prog noCtrs ΛRUsed Try.f75 [caS 5 c (.sl 0 2 0 n cap)] (heapOf [ptB e m x y xt wh]) 64 (fun y' h' => FinE [ptB e m x y xt wh] (.det q (caS 5 (uc5 c) (nilS)) []) y' h')) =
((((SV.v (Value.int IntKind.i64 5)) = (SV.v (Value.int IntKind.i64 5))) ∧ (((SV.v (Value.int IntKind.i64 (CV.id c))) = (SV.v (Value.int IntKind.i64 (CV.id (uc5 c))))) ∧ (((SV.v (Value.int IntKind.i64 0)) = (SV.v (Value.int IntKind.i64 (CV.bs (uc5 c))))) ∧ (((SV.v (Value.int IntKind.i64 0)) = (SV.v (Value.int IntKind.i64 (CV.bg (uc5 c))))) ∧ (((SV.v (Value.int IntKind.i64 0)) = (SV.v (Value.int IntKind.i64 (CV.ver (uc5 c))))) ∧ (((SV.v (Value.int IntKind.i64 0)) = (SV.v (Value.int IntKind.i64 (CV.sk (uc5 c))))) ∧ (((SV.v (Value.int IntKind.i64 0)) = (SV.v (Value.int IntKind.i64 (CV.sr (uc5 c))))) ∧ (((SV.v (Value.int IntKind.i64 0)) = (SV.v (Value.int IntKind.i64 (CV.sw (uc5 c))))) ∧ (((SV.v (Value.int IntKind.i64 0)) = (SV.v (Value.int IntKind.i64 (CV.sh (uc5 c))))) ∧ (((SV.v (Value.slice none 0 0)) = (SV.v (Value.slice none 0 0))) ∧ (((SV.v (Value.int IntKind.i64 0)) = (SV.v (Value.int IntKind.i64 (CV.p0v (uc5 c))))) ∧ (((SV.v (Value.bool false)) = (SV.v (Value.bool false))) ∧ (((SV.v (Value.int IntKind.i64 0)) = (SV.v (Value.int IntKind.i64 (CV.p1v (uc5 c))))) ∧ (((SV.v (Value.bool false)) = (SV.v (Value.bool false))) ∧ (((SV.v (Value.int IntKind.i64 0)) = (SV.v (Value.int IntKind.i64 (CV.p2v (uc5 c))))) ∧ (((SV.v (Value.bool false)) = (SV.v (Value.bool false))) ∧ (((SV.v (Value.int IntKind.i64 0)) = (SV.v (Value.int IntKind.i64 (CV.p3v (uc5 c))))) ∧ (((SV.v (Value.bool false)) = (SV.v (Value.bool false))) ∧ (((SV.v (Value.int IntKind.i64 0)) = (SV.v (Value.int IntKind.i64 (CV.v0v (uc5 c))))) ∧ (((SV.v (Value.bool false)) = (SV.v (Value.bool false))) ∧ (((SV.v (Value.int IntKind.i64 0)) = (SV.v (Value.int IntKind.i64 (CV.v1v (uc5 c))))) ∧ (((SV.v (Value.bool false)) = (SV.v (Value.bool false))) ∧ (((SV.v (Value.int IntKind.i64 0)) = (SV.v (Value.int IntKind.i64 (CV.w0v (uc5 c))))) ∧ (((SV.v (Value.bool false)) = (SV.v (Value.bool false))) ∧ (((SV.v (Value.int IntKind.i64 0)) = (SV.v (Value.int IntKind.i64 (CV.dn (uc5 c))))) ∧ (((SV.v (Value.bool false)) = (SV.v (Value.bool false))) ∧ (((SV.v (Value.int IntKind.i64 0)) = (SV.v (Value.int IntKind.i64 (CV.a0v (uc5 c))))) ∧ (((SV.v (Value.bool false)) = (SV.v (Value.bool false))) ∧ (((SV.v (Value.int IntKind.i64 0)) = (SV.v (Value.int IntKind.i64 (CV.a1v (uc5 c))))) ∧ (((SV.v (Value.bool false)) = (SV.v (Value.bool false))) ∧ (((SV.v (Value.int IntKind.i64 (CV.t0v c))) = (SV.v (Value.int IntKind.i64 (CV.t0v (uc5 c))))) ∧ (((SV.v (Value.bool (CV.t0f c))) = (SV.v (Value.bool (CV.t0f (uc5 c))))) ∧ (((SV.v (Value.int IntKind.i64 (CV.t1v c))) = (SV.v (Value.int IntKind.i64 (CV.t1v (uc5 c))))) ∧ (((SV.v (Value.bool (CV.t1f c))) = (SV.v (Value.bool (CV.t1f (uc5 c))))) ∧ (((SV.v (Value.int IntKind.i64 (CV.gr c))) = (SV.v (Value.int IntKind.i64 (CV.gr (uc5 c))))) ∧ (((SV.v (Value.int IntKind.i64 0)) = (SV.v (Value.int IntKind.i64 (CV.b0 (uc5 c))))) ∧ (((SV.v (Value.int IntKind.i64 0)) = (SV.v (Value.int IntKind.i64 (CV.b1 (uc5 c))))) ∧ (((SV.v (Value.int IntKind.i64 0)) = (SV.v (Value.int IntKind.i64 (CV.b2 (uc5 c))))) ∧ (((SV.v (Value.int IntKind.i64 0)) = (SV.v (Value.int IntKind.i64 (CV.b3 (uc5 c))))) ∧ (((SV.v (Value.int IntKind.i64 0)) = (SV.v (Value.int IntKind.i64 (CV.f0 (uc5 c))))) ∧ (((SV.v (Value.int IntKind.i64 0)) = (SV.v (Value.int IntKind.i64 (CV.f1 (uc5 c))))) ∧ (((SV.v (Value.int IntKind.i64 0)) = (SV.v (Value.int IntKind.i64 (CV.u0 (uc5 c))))) ∧ ((SV.v (Value.int IntKind.i64 0)) = (SV.v (Value.int IntKind.i64 (CV.u1 (uc5 c))))))))))))))))))))))))))))))))))))))))))))))) ∧ True) := by kernel_rfl
theorem vcRUsed6 (q : Option Prop) (c : CV) (e n m cap xt : Nat) (x y : Nat → Int) (wh : Bool) : (vcFn Try.prog noCtrs ΛRUsed Try.f75 [caS 6 c (.sl 0 2 0 n cap)] (heapOf [ptB e m x y xt wh]) 64 (fun y' h' => FinE [ptB e m x y xt wh] (.det q (caS 6 (uc6 c) (nilS)) []) y' h')) =
((((SV.v (Value.int IntKind.i64 6)) = (SV.v (Value.int IntKind.i64 6))) ∧ (((SV.v (Value.int IntKind.i64 (CV.id c))) = (SV.v (Value.int IntKind.i64 (CV.id (uc6 c))))) ∧ (((SV.v (Value.int IntKind.i64 0)) = (SV.v (Value.int IntKind.i64 (CV.bs (uc6 c))))) ∧ (((SV.v (Value.int IntKind.i64 0)) = (SV.v (Value.int IntKind.i64 (CV.bg (uc6 c))))) ∧ (((SV.v (Value.int IntKind.i64 0)) = (SV.v (Value.int IntKind.i64 (CV.ver (uc6 c))))) ∧ (((SV.v (Value.int IntKind.i64 0)) = (SV.v (Value.int IntKind.i64 (CV.sk (uc6 c))))) ∧ (((SV.v (Value.int IntKind.i64 0)) = (SV.v (Value.int IntKind.i64 (CV.sr (uc6 c))))) ∧ (((SV.v (Value.int IntKind.i64 0)) = (SV.v (Value.int IntKind.i64 (CV.sw (uc6 c))))) ∧ (((SV.v (Value.int IntKind.i64 0)) = (SV.v (Value.int IntKind.i64 (CV.sh (uc6 c))))) ∧ (((SV.v (Value.slice none 0 0)) = (SV.v (Value.slice none 0 0))) ∧ (((SV.v (Value.int IntKind.i64 0)) = (SV.v (Value.int IntKind.i64 (CV.p0v (uc6 c))))) ∧ (((SV.v (Value.bool false)) = (SV.v (Value.bool false))) ∧ (((SV.v (Value.int IntKind.i64 0)) = (SV.v (Value.int IntKind.i64 (CV.p1v (uc6 c))))) ∧ (((SV.v (Value.bool false)) = (SV.v (Value.bool false))) ∧ (((SV.v (Value.int IntKind.i64 0)) = (SV.v (Value.int IntKind.i64 (CV.p2v (uc6 c))))) ∧ (((SV.v (Value.bool false)) = (SV.v (Value.bool false))) ∧ (((SV.v (Value.int IntKind.i64 0)) = (SV.v (Value.int IntKind.i64 (CV.p3v (uc6 c))))) ∧ (((SV.v (Value.bool false)) = (SV.v (Value.bool false))) ∧ (((SV.v (Value.int IntKind.i64 0)) = (SV.v (Value.int IntKind.i64 (CV.v0v (uc6 c))))) ∧ (((SV.v (Value.bool false)) = (SV.v (Value.bool false))) ∧ (((SV.v (Value.int IntKind.i64 0)) = (SV.v (Value.int IntKind.i64 (CV.v1v (uc6 c))))) ∧ (((SV.v (Value.bool false)) = (SV.v (Value.bool false))) ∧ (((SV.v (Value.int IntKind.i64 0)) = (SV.v (Value.int IntKind.i64 (CV.w0v (uc6 c))))) ∧ (((SV.v (Value.bool false)) = (SV.v (Value.bool false))) ∧ (((SV.v (Value.int IntKind.i64 0)) = (SV.v (Value.int IntKind.i64 (CV.dn (uc6 c))))) ∧ (((SV.v (Value.bool false)) = (SV.v (Value.bool false))) ∧ (((SV.v (Value.int IntKind.i64 0)) = (SV.v (Value.int IntKind.i64 (CV.a0v (uc6 c))))) ∧ (((SV.v (Value.bool false)) = (SV.v (Value.bool false))) ∧ (((SV.v (Value.int IntKind.i64 0)) = (SV.v (Value.int IntKind.i64 (CV.a1v (uc6 c))))) ∧ (((SV.v (Value.bool false)) = (SV.v (Value.bool false))) ∧ (((SV.v (Value.int IntKind.i64 0)) = (SV.v (Value.int IntKind.i64 (CV.t0v (uc6 c))))) ∧ (((SV.v (Value.bool false)) = (SV.v (Value.bool false))) ∧ (((SV.v (Value.int IntKind.i64 0)) = (SV.v (Value.int IntKind.i64 (CV.t1v (uc6 c))))) ∧ (((SV.v (Value.bool false)) = (SV.v (Value.bool false))) ∧ (((SV.v (Value.int IntKind.i64 (CV.gr c))) = (SV.v (Value.int IntKind.i64 (CV.gr (uc6 c))))) ∧ (((SV.v (Value.int IntKind.i64 0)) = (SV.v (Value.int IntKind.i64 (CV.b0 (uc6 c))))) ∧ (((SV.v (Value.int IntKind.i64 0)) = (SV.v (Value.int IntKind.i64 (CV.b1 (uc6 c))))) ∧ (((SV.v (Value.int IntKind.i64 0)) = (SV.v (Value.int IntKind.i64 (CV.b2 (uc6 c))))) ∧ (((SV.v (Value.int IntKind.i64 0)) = (SV.v (Value.int IntKind.i64 (CV.b3 (uc6 c))))) ∧ (((SV.v (Value.int IntKind.i64 0)) = (SV.v (Value.int IntKind.i64 (CV.f0 (uc6 c))))) ∧ (((SV.v (Value.int IntKind.i64 0)) = (SV.v (Value.int IntKind.i64 (CV.f1 (uc6 c))))) ∧ (((SV.v (Value.int IntKind.i64 0)) = (SV.v (Value.int IntKind.i64 (CV.u0 (uc6 c))))) ∧ ((SV.v (Value.int IntKind.i64 0)) = (SV.v (Value.int IntKind.i64 (CV.u1 (uc6 c))))))))))))))))))))))))))))))))))))))))))))))) ∧ True) := by kernel_rfl
theorem vcRUsed7 (q : Option Prop) (c : CV) (e n m cap xt : Nat) (x y : Nat → Int) (wh : Bool) : (vcFn Try.prog noCtrs ΛRUsed Try.f75 [caS 7 c (.sl 0 2 0 n cap)] (heapOf [ptB e m x y xt wh]) 64 (fun y' h' => FinE [ptB e m x y xt wh] (.det q (caS 7 (uc7 c) (nilS)) []) y' h')) =
((((SV.v (Value.int IntKind.i64 7)) = (SV.v (Value.int IntKind.i64 7))) ∧ (((SV.v (Value.int IntKind.i64 (CV.id c))) = (SV.v (Value.int IntKind.i64 (CV.id (uc7 c))))) ∧ (((SV.v (Value.int IntKind.i64 (CV.bs c))) = (SV.v (Value.int IntKind.i64 (CV.bs (uc7 c))))) ∧ (((SV.v (Value.int IntKind.i64 (CV.bg c))) = (SV.v (Value.int IntKind.i64 (CV.bg (uc7 c))))) ∧ (((SV.v (Value.int IntKind.i64 0)) = (SV.v (Value.int IntKind.i64 (CV.ver (uc7 c))))) ∧ (((SV.v (Value.int IntKind.i64 0)) = (SV.v (Value.int IntKind.i64 (CV.sk (uc7 c))))) ∧ (((SV.v (Value.int IntKind.i64 0)) = (SV.v (Value.int IntKind.i64 (CV.sr (uc7 c))))) ∧ (((SV.v (Value.int IntKind.i64 0)) = (SV.v (Value.int IntKind.i64 (CV.sw (uc7 c))))) ∧ (((SV.v (Value.int IntKind.i64 0)) = (SV.v (Value.int IntKind.i64 (CV.sh (uc7 c))))) ∧ (((SV.v (Value.slice none 0 0)) = (SV.v (Value.slice none 0 0))) ∧ (((SV.v (Value.int IntKind.i64 0)) = (SV.v (Value.int IntKind.i64 (CV.p0v (uc7 c))))) ∧ (((SV.v (Value.bool false)) = (SV.v (Value.bool false))) ∧ (((SV.v (Value.int IntKind.i64 0)) = (SV.v (Value.int IntKind.i64 (CV.p1v (uc7 c))))) ∧ (((SV.v (Value.bool false)) = (SV.v (Value.bool false))) ∧ (((SV.v (Value.int IntKind.i64 0)) = (SV.v (Value.int IntKind.i64 (CV.p2v (uc7 c))))) ∧ (((SV.v (Value.bool false)) = (SV.v (Value.bool false))) ∧ (((SV.v (Value.int IntKind.i64 0)) = (SV.v (Value.int IntKind.i64 (CV.p3v (uc7 c))))) ∧ (((SV.v (Value.bool false)) = (SV.v (Value.bool false))) ∧ (((SV.v (Value.int IntKind.i64 0)) = (SV.v (Value.int IntKind.i64 (CV.v0v (uc7 c))))) ∧ (((SV.v (Value.bool false)) = (SV.v (Value.bool false))) ∧ (((SV.v (Value.int IntKind.i64 0)) = (SV.v (Value.int IntKind.i64 (CV.v1v (uc7 c))))) ∧ (((SV.v (Value.bool false)) = (SV.v (Value.bool false))) ∧ (((SV.v (Value.int IntKind.i64 0)) = (SV.v (Value.int IntKind.i64 (CV.w0v (uc7 c))))) ∧ (((SV.v (Value.bool false)) = (SV.v (Value.bool false))) ∧ (((SV.v (Value.int IntKind.i64 0)) = (SV.v (Value.int IntKind.i64 (CV.dn (uc7 c))))) ∧ (((SV.v (Value.bool false)) = (SV.v (Value.bool false))) ∧ (((SV.v (Value.int IntKind.i64 0)) = (SV.v (Value.int IntKind.i64 (CV.a0v (uc7 c))))) ∧ (((SV.v (Value.bool false)) = (SV.v (Value.bool false))) ∧ (((SV.v (Value.int IntKind.i64 0)) = (SV.v (Value.int IntKind.i64 (CV.a1v (uc7 c))))) ∧ (((SV.v (Value.bool false)) = (SV.v (Value.bool false))) ∧ (((SV.v (Value.int IntKind.i64 0)) = (SV.v (Value.int IntKind.i64 (CV.t0v (uc7 c))))) ∧ (((SV.v (Value.bool false)) = (SV.v (Value.bool false))) ∧ (((SV.v (Value.int IntKind.i64 0)) = (SV.v (Value.int IntKind.i64 (CV.t1v (uc7 c))))) ∧ (((SV.v (Value.bool false)) = (SV.v (Value.bool false))) ∧ (((SV.v (Value.int IntKind.i64 0)) = (SV.v (Value.int IntKind.i64 (CV.gr (uc7 c))))) ∧ (((SV.v (Value.int IntKind.i64 0)) = (SV.v (Value.int IntKind.i64 (CV.b0 (uc7 c))))) ∧ (((SV.v (Value.int IntKind.i64 0)) = (SV.v (Value.int IntKind.i64 (CV.b1 (uc7 c))))) ∧ (((SV.v (Value.int IntKind.i64 0)) = (SV.v (Value.int IntKind.i64 (CV.b2 (uc7 c))))) ∧ (((SV.v (Value.int IntKind.i64 0)) = (SV.v (Value.int IntKind.i64 (CV.b3 (uc7 c))))) ∧ (((SV.v (Value.int IntKind.i64 0)) = (SV.v (Value.int IntKind.i64 (CV.f0 (uc7 c))))) ∧ (((SV.v (Value.int IntKind.i64 0)) = (SV.v (Value.int IntKind.i64 (CV.f1 (uc7 c))))) ∧ (((SV.v (Value.int IntKind.i64 0)) = (SV.v (Value.int IntKind.i64 (CV.u0 (uc7 c))))) ∧ ((SV.v (Value.int IntKind.i64 0)) = (SV.v (Value.int IntKind.i64 (CV.u1 (uc7 c))))))))))))))))))))))))))))))))))))))))))))))) ∧ True) := by kernel_rfl
theorem vcRUsed8 (q : Option Prop) (c : CV) (e n m cap xt : Nat) (x y : Nat → Int) (wh : Bool) : (vcFn Try.prog noCtrs ΛRUsed Try.f75 [caS 8 c (.sl 0 2 0 n cap)] (heapOf [ptB e m x y xt wh]) 64 (fun y' h' => FinE [ptB e m x y xt wh] (.det q (caS 8 (uc8 c) (nilS)) []) y' h')) =
((((SV.v (Value.int IntKind.i64 8)) = (SV.v (Value.int IntKind.i64 8))) ∧ (((SV.v (Value.int IntKind.i64 (CV.id c))) = (SV.v (Value.int IntKind.i64 (CV.id (uc8 c))))) ∧ (((SV.v (Value.int IntKind.i64 0)) = (SV.v (Value.int IntKind.i64 (CV.bs (uc8 c))))) ∧ (((SV.v (Value.int IntKind.i64 0)) = (SV.v (Value.int IntKind.i64 (CV.bg (uc8 c))))) ∧ (((SV.v (Value.int IntKind.i64 0)) = (SV.v (Value.int IntKind.i64 (CV.ver (uc8 c))))) ∧ (((SV.v (Value.int IntKind.i64 0)) = (SV.v (Value.int IntKind.i64 (CV.sk (uc8 c))))) ∧ (((SV.v (Value.int IntKind.i64 0)) = (SV.v (Value.int IntKind.i64 (CV.sr (uc8 c))))) ∧ (((SV.v (Value.int IntKind.i64 0)) = (SV.v (Value.int IntKind.i64 (CV.sw (uc8 c))))) ∧ (((SV.v (Value.int IntKind.i64 0)) = (SV.v (Value.int IntKind.i64 (CV.sh (uc8 c))))) ∧ (((SV.v (Value.slice none 0 0)) = (SV.v (Value.slice none 0 0))) ∧ (((SV.v (Value.int IntKind.i64 0)) = (SV.v (Value.int IntKind.i64 (CV.p0v (uc8 c))))) ∧ (((SV.v (Value.bool false)) = (SV.v (Value.bool false))) ∧ (((SV.v (Value.int IntKind.i64 0)) = (SV.v (Value.int IntKind.i64 (CV.p1v (uc8 c))))) ∧ (((SV.v (Value.bool false)) = (SV.v (Value.bool false))) ∧ (((SV.v (Value.int IntKind.i64 0)) = (SV.v (Value.int IntKind.i64 (CV.p2v (uc8 c))))) ∧ (((SV.v (Value.bool false)) = (SV.v (Value.bool false))) ∧ (((SV.v (Value.int IntKind.i64 0)) = (SV.v (Value.int IntKind.i64 (CV.p3v (uc8 c))))) ∧ (((SV.v (Value.bool false)) = (SV.v (Value.bool false))) ∧ (((SV.v (Value.int IntKind.i64 0)) = (SV.v (Value.int IntKind.i64 (CV.v0v (uc8 c))))) ∧ (((SV.v (Value.bool false)) = (SV.v (Value.bool false))) ∧ (((SV.v (Value.int IntKind.i64 0)) = (SV.v (Value.int IntKind.i64 (CV.v1v (uc8 c))))) ∧ (((SV.v (Value.bool false)) = (SV.v (Value.bool false))) ∧ (((SV.v (Value.int IntKind.i64 0)) = (SV.v (Value.int IntKind.i64 (CV.w0v (uc8 c))))) ∧ (((SV.v (Value.bool false)) = (SV.v (Value.bool false))) ∧ (((SV.v (Value.int IntKind.i64 0)) = (SV.v (Value.int IntKind.i64 (CV.dn (uc8 c))))) ∧ (((SV.v (Value.bool false)) = (SV.v (Value.bool false))) ∧ (((SV.v (Value.int IntKind.i64 0)) = (SV.v (Value.int IntKind.i64 (CV.a0v (uc8 c))))) ∧ (((SV.v (Value.bool false)) = (SV.v (Value.bool false))) ∧ (((SV.v (Value.int IntKind.i64 0)) = (SV.v (Value.int IntKind.i64 (CV.a1v (uc8 c))))) ∧ (((SV.v (Value.bool false)) = (SV.v (Value.bool false))) ∧ (((SV.v (Value.int IntKind.i64 0)) = (SV.v (Value.int IntKind.i64 (CV.t0v (uc8 c))))) ∧ (((SV.v (Value.bool false)) = (SV.v (Value.bool false))) ∧ (((SV.v (Value.int IntKind.i64 0)) = (SV.v (Value.int IntKind.i64 (CV.t1v (uc8 c))))) ∧ (((SV.v (Value.bool false)) = (SV.v (Value.bool false))) ∧ (((SV.v (Value.int IntKind.i64 0)) = (SV.v (Value.int IntKind.i64 (CV.gr (uc8 c))))) ∧ (((SV.v (Value.int IntKind.i64 (CV.b0 c))) = (SV.v (Value.int IntKind.i64 (CV.b0 (uc8 c))))) ∧ (((SV.v (Value.int IntKind.i64 (CV.b1 c))) = (SV.v (Value.int IntKind.i64 (CV.b1 (uc8 c))))) ∧ (((SV.v (Value.int IntKind.i64 (CV.b2 c))) = (SV.v (Value.int IntKind.i64 (CV.b2 (uc8 c))))) ∧ (((SV.v (Value.int IntKind.i64 (CV.b3 c))) = (SV.v (Value.int IntKind.i64 (CV.b3 (uc8 c))))) ∧ (((SV.v (Value.int IntKind.i64 0)) = (SV.v (Value.int IntKind.i64 (CV.f0 (uc8 c))))) ∧ (((SV.v (Value.int IntKind.i64 0)) = (SV.v (Value.int IntKind.i64 (CV.f1 (uc8 c))))) ∧ (((SV.v (Value.int IntKind.i64 0)) = (SV.v (Value.int IntKind.i64 (CV.u0 (uc8 c))))) ∧ ((SV.v (Value.int IntKind.i64 0)) = (SV.v (Value.int IntKind.i64 (CV.u1 (uc8 c))))))))))))))))))))))))))))))))))))))))))))))) ∧ True) := by kernel_rfl
theorem vcRUsed9 (q : Option Prop) (c : CV) (e n m cap xt : Nat) (x y : Nat → Int) (wh : Bool) : (vcFn Try.prog noCtrs ΛRUsed Try.f75 [caS 9 c (.sl 0 2 0 n cap)] (heapOf [ptB e m x y xt wh]) 64 (fun y' h' => FinE [ptB e m x y xt wh] (.det q (caS 9 (uc9 c) (nilS)) []) y' h')) =
((((SV.v (Value.int IntKind.i64 9)) = (SV.v (Value.int IntKind.i64 9))) ∧ (((SV.v (Value.int IntKind.i64 (CV.id c))) = (SV.v (Value.int IntKind.i64 (CV.id (uc9 c))))) ∧ (((SV.v (Value.int IntKind.i64 0)) = (SV.v (Value.int IntKind.i64 (CV.bs (uc9 c))))) ∧ (((SV.v (Value.int IntKind.i64 0)) = (SV.v (Value.int IntKind.i64 (CV.bg (uc9 c))))) ∧ (((SV.v (Value.int IntKind.i64 0)) = (SV.v (Value.int IntKind.i64 (CV.ver (uc9 c))))) ∧ (((SV.v (Value.int IntKind.i64 0)) = (SV.v (Value.int IntKind.i64 (CV.sk (uc9 c))))) ∧ (((SV.v (Value.int IntKind.i64 0)) = (SV.v (Value.int IntKind.i64 (CV.sr (uc9 c))))) ∧ (((SV.v (Value.int IntKind.i64 0)) = (SV.v (Value.int IntKind.i64 (CV.sw (uc9 c))))) ∧ (((SV.v (Value.int IntKind.i64 0)) = (SV.v (Value.int IntKind.i64 (CV.sh (uc9 c))))) ∧ (((SV.v (Value.slice none 0 0)) = (SV.v (Value.slice none 0 0))) ∧ (((SV.v (Value.int IntKind.i64 0)) = (SV.v (Value.int IntKind.i64 (CV.p0v (uc9 c))))) ∧ (((SV.v (Value.bool false)) = (SV.v (Value.bool false))) ∧ (((SV.v (Value.int IntKind.i64 0)) = (SV.v (Value.int IntKind.i64 (CV.p1v (uc9 c))))) ∧ (((SV.v (Value.bool false)) = (SV.v (Value.bool false))) ∧ (((SV.v (Value.int IntKind.i64 0)) = (SV.v (Value.int IntKind.i64 (CV.p2v (uc9 c))))) ∧ (((SV.v (Value.bool false)) = (SV.v (Value.bool false))) ∧ (((SV.v (Value.int IntKind.i64 0)) = (SV.v (Value.int IntKind.i64 (CV.p3v (uc9 c))))) ∧ (((SV.v (Value.bool false)) = (SV.v (Value.bool false))) ∧ (((SV.v (Value.int IntKind.i64 0)) = (SV.v (Value.int IntKind.i64 (CV.v0v (uc9 c))))) ∧ (((SV.v (Value.bool false)) = (SV.v (Value.bool false))) ∧ (((SV.v (Value.int IntKind.i64 0)) = (SV.v (Value.int IntKind.i64 (CV.v1v (uc9 c))))) ∧ (((SV.v (Value.bool false)) = (SV.v (Value.bool false))) ∧ (((SV.v (Value.int IntKind.i64 0)) = (SV.v (Value.int IntKind.i64 (CV.w0v (uc9 c))))) ∧ (((SV.v (Value.bool false)) = (SV.v (Value.bool false))) ∧ (((SV.v (Value.int IntKind.i64 0)) = (SV.v (Value.int IntKind.i64 (CV.dn (uc9 c))))) ∧ (((SV.v (Value.bool false)) = (SV.v (Value.bool false))) ∧ (((SV.v (Value.int IntKind.i64 0)) = (SV.v (Value.int IntKind.i64 (CV.a0v (uc9 c))))) ∧ (((SV.v (Value.bool false)) = (SV.v (Value.bool false))) ∧ (((SV.v (Value.int IntKind.i64 0)) = (SV.v (Value.int IntKind.i64 (CV.a1v (uc9 c))))) ∧ (((SV.v (Value.bool false)) = (SV.v (Value.bool false))) ∧ (((SV.v (Value.int IntKind.i64 0)) = (SV.v (Value.int IntKind.i64 (CV.t0v (uc9 c))))) ∧ (((SV.v (Value.bool false)) = (SV.v (Value.bool false))) ∧ (((SV.v (Value.int IntKind.i64 0)) = (SV.v (Value.int IntKind.i64 (CV.t1v (uc9 c))))) ∧ (((SV.v (Value.bool false)) = (SV.v (Value.bool false))) ∧ (((SV.v (Value.int IntKind.i64 0)) = (SV.v (Value.int IntKind.i64 (CV.gr (uc9 c))))) ∧ (((SV.v (Value.int IntKind.i64 0)) = (SV.v (Value.int IntKind.i64 (CV.b0 (uc9 c))))) ∧ (((SV.v (Value.int IntKind.i64 0)) = (SV.v (Value.int IntKind.i64 (CV.b1 (uc9 c))))) ∧ (((SV.v (Value.int IntKind.i64 0)) = (SV.v (Value.int IntKind.i64 (CV.b2 (uc9 c))))) ∧ (((SV.v (Value.int IntKind.i64 0)) = (SV.v (Value.int IntKind.i64 (CV.b3 (uc9 c))))) ∧ (((SV.v (Value.int IntKind.i64 (CV.f0 c))) = (SV.v (Value.int IntKind.i64 (CV.f0 (uc9 c))))) ∧ (((SV.v (Value.int IntKind.i64 (CV.f1 c))) = (SV.v (Value.int IntKind.i64 (CV.f1 (uc9 c))))) ∧ (((SV.v (Value.int IntKind.i64 (CV.u0 c))) = (SV.v (Value.int IntKind.i64 (CV.u0 (uc9 c))))) ∧ ((SV.v (Value.int IntKind.i64 (CV.u1 c))) = (SV.v (Value.int IntKind.i64 (CV.u1 (uc9 c))))))))))))))))))))))))))))))))))))))))))))))) ∧ True) := by kernel_rfl
theorem vcRUsed10 (q : Option Prop) (c : CV) (e n m cap xt : Nat) (x y : Nat → Int) (wh : Bool) : (vcFn Try.prog noCtrs ΛRUsed Try.f75 [caS 10 c (.sl 0 2 0 n cap)] (heapOf [ptB e m x y xt wh]) 64 (fun y' h' => FinE [ptB e m x y xt wh] (.det q (caS 10 (uc10 c) (nilS)) []) y' h')) =
((((SV.v (Value.int IntKind.i64 10)) = (SV.v (Value.int IntKind.i64 10))) ∧ (((SV.v (Value.int IntKind.i64 (CV.id c))) = (SV.v (Value.int IntKind.i64 (CV.id (uc10 c))))) ∧ (((SV.v (Value.int IntKind.i64 0)) = (SV.v (Value.int IntKind.i64 (CV.bs (uc10 c))))) ∧ (((SV.v (Value.int IntKind.i64 0)) = (SV.v (Value.int IntKind.i64 (CV.bg (uc10 c))))) ∧ (((SV.v (Value.int IntKind.i64 0)) = (SV.v (Value.int IntKind.i64 (CV.ver (uc10 c))))) ∧ (((SV.v (Value.int IntKind.i64 0)) = (SV.v (Value.int IntKind.i64 (CV.sk (uc10 c))))) ∧ (((SV.v (Value.int IntKind.i64 0)) = (SV.v (Value.int IntKind.i64 (CV.sr (uc10 c))))) ∧ (((SV.v (Value.int IntKind.i64 0)) = (SV.v (Value.int IntKind.i64 (CV.sw (uc10 c))))) ∧ (((SV.v (Value.int IntKind.i64 0)) = (SV.v (Value.int IntKind.i64 (CV.sh (uc10 c))))) ∧ (((SV.v (Value.slice none 0 0)) = (SV.v (Value.slice none 0 0))) ∧ (((SV.v (Value.int IntKind.i64 0)) = (SV.v (Value.int IntKind.i64 (CV.p0v (uc10 c))))) ∧ (((SV.v (Value.bool false)) = (SV.v (Value.bool false))) ∧ (((SV.v (Value.int IntKind.i64 0)) = (SV.v (Value.int IntKind.i64 (CV.p1v (uc10 c))))) ∧ (((SV.v (Value.bool false)) = (SV.v (Value.bool false))) ∧ (((SV.v (Value.int IntKind.i64 0)) = (SV.v (Value.int IntKind.i64 (CV.p2v (uc10 c))))) ∧ (((SV.v (Value.bool false)) = (SV.v (Value.bool false))) ∧ (((SV.v (Value.int IntKind.i64 0)) = (SV.v (Value.int IntKind.i64 (CV.p3v (uc10 c))))) ∧ (((SV.v (Value.bool false)) = (SV.v (Value.bool false))) ∧ (((SV.v (Value.int IntKind.i64 0)) = (SV.v (Value.int IntKind.i64 (CV.v0v (uc10 c))))) ∧ (((SV.v (Value.bool false)) = (SV.v (Value.bool false))) ∧ (((SV.v (Value.int IntKind.i64 0)) = (SV.v (Value.int IntKind.i64 (CV.v1v (uc10 c))))) ∧ (((SV.v (Value.bool false)) = (SV.v (Value.bool false))) ∧ (((SV.v (Value.int IntKind.i64 0)) = (SV.v (Value.int IntKind.i64 (CV.w0v (uc10 c))))) ∧ (((SV.v (Value.bool false)) = (SV.v (Value.bool false))) ∧ (((SV.v (Value.int IntKind.i64 0)) = (SV.v (Value.int IntKind.i64 (CV.dn (uc10 c))))) ∧ (((SV.v (Value.bool false)) = (SV.v (Value.bool false))) ∧ (((SV.v (Value.int IntKind.i64 0)) = (SV.v (Value.int IntKind.i64 (CV.a0v (uc10 c))))) ∧ (((SV.v (Value.bool false)) = (SV.v (Value.bool false))) ∧ (((SV.v (Value.int IntKind.i64 0)) = (SV.v (Value.int IntKind.i64 (CV.a1v (uc10 c))))) ∧ (((SV.v (Value.bool false)) = (SV.v (Value.bool false))) ∧ (((SV.v (Value.int IntKind.i64 0)) = (SV.v (Value.int IntKind.i64 (CV.t0v (uc10 c))))) ∧ (((SV.v (Value.bool false)) = (SV.v (Value.bool false))) ∧ (((SV.v (Value.int IntKind.i64 0)) = (SV.v (Value.int IntKind.i64 (CV.t1v (uc10 c))))) ∧ (((SV.v (Value.bool false)) = (SV.v (Value.bool false))) ∧ (((SV.v (Value.int IntKind.i64 0)) = (SV.v (Value.int IntKind.i64 (CV.gr (uc10 c))))) ∧ (((SV.v (Value.int IntKind.i64 0)) = (SV.v (Value.int IntKind.i64 (CV.b0 (uc10 c))))) ∧ (((SV.v (Value.int IntKind.i64 0)) = (SV.v (Value.int IntKind.i64 (CV.b1 (uc10 c))))) ∧ (((SV.v (Value.int IntKind.i64 0)) = (SV.v (Value.int IntKind.i64 (CV.b2 (uc10 c))))) ∧ (((SV.v (Value.int IntKind.i64 0)) = (SV.v (Value.int IntKind.i64 (CV.b3 (uc10 c))))) ∧ (((SV.v (Value.int IntKind.i64 0)) = (SV.v (Value.int IntKind.i64 (CV.f0 (uc10 c))))) ∧ (((SV.v (Value.int IntKind.i64 0)) = (SV.v (Value.int IntKind.i64 (CV.f1 (uc10 c))))) ∧ (((SV.v (Value.int IntKind.i64 0)) = (SV.v (Value.int IntKind.i64 (CV.u0 (uc10 c))))) ∧ ((SV.v (Value.int IntKind.i64 0)) = (SV.v (Value.int IntKind.i64 (CV.u1 (uc10 c))))))))))))))))))))))))))))))))))))))))))))))) ∧ True) := by kernel_rfl
def ΓRc : Ctrs := addCtr (addCtr (addCtr (addCtr (addCtr ΓE3 109 (hpCtr true sRShape)) 110 (hpCtr true (sRApp 800000000 fRPose))) 117 (hpCtr true (sRApp 1000000000 fRSpot))) 115 (hpCtr true (sRApp 1000000000 fRHandle))) 107 (hpCtr true (sRApp M0 fRSmall))
theorem vcRCallW1 (c : CV) (n m cap : Nat) (g : Nat → Int × Int) (R : SV → Prop) : (vcFn Try.prog ΓRc noΛ Try.f74 [caS 1 c (.sl 0 2 0 n cap)] (roHeap [⟨2, m, rowsP g⟩]) 64 (fun y _ => R y)) =
((((I64 1) ∧ (((0 : Int) ≤ 1) ∧ ((1 : Int) ≤ 8))) ∧ ((0 : Nat) ≤ M0)) ∧ (((I64 (CV.id c)) ∧ ((1 : Nat) ≤ M0)) ∧ (((((I64 (CV.sk c)) ∧ ((I64 (CV.sr c)) ∧ ((I64 (CV.sw c)) ∧ (I64 (CV.sh c))))) ∧ ((spPre n (winBlk (Ro.blk { s := 2, n := m, row := fun i => [SV.v (Value.int IntKind.i64 (Prod.fst (g i))), SV.v (Value.int IntKind.i64 (Prod.snd (g i)))] }) 2 0 n)) ∧ ((n : Nat) < 100))) ∧ (((ByteArray.size ({ data := #[] } ++ strOfNums (be 1 1) ++ strOfNums (c4 (CV.id c)))) : Nat) ≤ 800000000)) ∧ ((((I64 (CV.p0v c)) ∧ ((I64 (CV.p1v c)) ∧ ((I64 (CV.p2v c)) ∧ (I64 (CV.p3v c))))) ∧ (((ByteArray.size (rShS ({ data := #[] } ++ strOfNums (be 1 1) ++ strOfNums (c4 (CV.id c))) (false || notIn (CV.id c) 2147483647 || shBad (CV.sk c) n) (CV.sk c) (CV.sr c) (CV.sw c) (CV.sh c) n (gX (winBlk (Ro.blk { s := 2, n := m, row := fun i => [SV.v (Value.int IntKind.i64 (Prod.fst (g i))), SV.v (Value.int IntKind.i64 (Prod.snd (g i)))] }) 2 0 n)) (gY (winBlk (Ro.blk { s := 2, n := m, row := fun i => [SV.v (Value.int IntKind.i64 (Prod.fst (g i))), SV.v (Value.int IntKind.i64 (Prod.snd (g i)))] }) 2 0 n)))) : Nat) ≤ 800000000)) ∧ ((((I64 (CV.v0v c)) ∧ (I64 (CV.v1v c))) ∧ (((ByteArray.size (rShS ({ data := #[] } ++ strOfNums (be 1 1) ++ strOfNums (c4 (CV.id c))) (false || notIn (CV.id c) 2147483647 || shBad (CV.sk c) n) (CV.sk c) (CV.sr c) (CV.sw c) (CV.sh c) n (gX (winBlk (Ro.blk { s := 2, n := m, row := fun i => [SV.v (Value.int IntKind.i64 (Prod.fst (g i))), SV.v (Value.int IntKind.i64 (Prod.snd (g i)))] }) 2 0 n)) (gY (winBlk (Ro.blk { s := 2, n := m, row := fun i => [SV.v (Value.int IntKind.i64 (Prod.fst (g i))), SV.v (Value.int IntKind.i64 (Prod.snd (g i)))] }) 2 0 n)) ++ strOfNums (vecL (CV.p0v c) (CV.p0f c) (CV.p1v c) (CV.p1f c) ++ (numL (CV.p2v c) (CV.p2f c) ++ numL (CV.p3v c) (CV.p3f c))))) : Nat) ≤ 900000000)) ∧ (((I64 (CV.w0v c)) ∧ (((ByteArray.size (rShS ({ data := #[] } ++ strOfNums (be 1 1) ++ strOfNums (c4 (CV.id c))) (false || notIn (CV.id c) 2147483647 || shBad (CV.sk c) n) (CV.sk c) (CV.sr c) (CV.sw c) (CV.sh c) n (gX (winBlk (Ro.blk { s := 2, n := m, row := fun i => [SV.v (Value.int IntKind.i64 (Prod.fst (g i))), SV.v (Value.int IntKind.i64 (Prod.snd (g i)))] }) 2 0 n)) (gY (winBlk (Ro.blk { s := 2, n := m, row := fun i => [SV.v (Value.int IntKind.i64 (Prod.fst (g i))), SV.v (Value.int IntKind.i64 (Prod.snd (g i)))] }) 2 0 n)) ++ strOfNums (vecL (CV.p0v c) (CV.p0f c) (CV.p1v c) (CV.p1f c) ++ (numL (CV.p2v c) (CV.p2f c) ++ numL (CV.p3v c) (CV.p3f c))) ++ strOfNums (vecL (CV.v0v c) (CV.v0f c) (CV.v1v c) (CV.v1f c)))) : Nat) ≤ 1000000000)) ∧ (((I64 (CV.dn c)) ∧ (((ByteArray.size (rShS ({ data := #[] } ++ strOfNums (be 1 1) ++ strOfNums (c4 (CV.id c))) (false || notIn (CV.id c) 2147483647 || shBad (CV.sk c) n) (CV.sk c) (CV.sr c) (CV.sw c) (CV.sh c) n (gX (winBlk (Ro.blk { s := 2, n := m, row := fun i => [SV.v (Value.int IntKind.i64 (Prod.fst (g i))), SV.v (Value.int IntKind.i64 (Prod.snd (g i)))] }) 2 0 n)) (gY (winBlk (Ro.blk { s := 2, n := m, row := fun i => [SV.v (Value.int IntKind.i64 (Prod.fst (g i))), SV.v (Value.int IntKind.i64 (Prod.snd (g i)))] }) 2 0 n)) ++ strOfNums (vecL (CV.p0v c) (CV.p0f c) (CV.p1v c) (CV.p1f c) ++ (numL (CV.p2v c) (CV.p2f c) ++ numL (CV.p3v c) (CV.p3f c))) ++ strOfNums (vecL (CV.v0v c) (CV.v0f c) (CV.v1v c) (CV.v1f c)) ++ strOfNums (numL (CV.w0v c) (CV.w0f c)))) : Nat) ≤ M0)) ∧ ((True ∧ (((ByteArray.size (rShS ({ data := #[] } ++ strOfNums (be 1 1) ++ strOfNums (c4 (CV.id c))) (false || notIn (CV.id c) 2147483647 || shBad (CV.sk c) n) (CV.sk c) (CV.sr c) (CV.sw c) (CV.sh c) n (gX (winBlk (Ro.blk { s := 2, n := m, row := fun i => [SV.v (Value.int IntKind.i64 (Prod.fst (g i))), SV.v (Value.int IntKind.i64 (Prod.snd (g i)))] }) 2 0 n)) (gY (winBlk (Ro.blk { s := 2, n := m, row := fun i => [SV.v (Value.int IntKind.i64 (Prod.fst (g i))), SV.v (Value.int IntKind.i64 (Prod.snd (g i)))] }) 2 0 n)) ++ strOfNums (vecL (CV.p0v c) (CV.p0f c) (CV.p1v c) (CV.p1f c) ++ (numL (CV.p2v c) (CV.p2f c) ++ numL (CV.p3v c) (CV.p3f c))) ++ strOfNums (vecL (CV.v0v c) (CV.v0f c) (CV.v1v c) (CV.v1f c)) ++ strOfNums (numL (CV.w0v c) (CV.w0f c)) ++ strOfNums (i8 (CV.dn c)))) : Nat) ≤ M0)) ∧ (R (SV.agg [(SV.v (Value.string (rShS ({ data := #[] } ++ strOfNums (be 1 1) ++ strOfNums (c4 (CV.id c))) (false || notIn (CV.id c) 2147483647 || shBad (CV.sk c) n) (CV.sk c) (CV.sr c) (CV.sw c) (CV.sh c) n (gX (winBlk (Ro.blk { s := 2, n := m, row := fun i => [SV.v (Value.int IntKind.i64 (Prod.fst (g i))), SV.v (Value.int IntKind.i64 (Prod.snd (g i)))] }) 2 0 n)) (gY (winBlk (Ro.blk { s := 2, n := m, row := fun i => [SV.v (Value.int IntKind.i64 (Prod.fst (g i))), SV.v (Value.int IntKind.i64 (Prod.snd (g i)))] }) 2 0 n)) ++ strOfNums (vecL (CV.p0v c) (CV.p0f c) (CV.p1v c) (CV.p1f c) ++ (numL (CV.p2v c) (CV.p2f c) ++ numL (CV.p3v c) (CV.p3f c))) ++ strOfNums (vecL (CV.v0v c) (CV.v0f c) (CV.v1v c) (CV.v1f c)) ++ strOfNums (numL (CV.w0v c) (CV.w0f c)) ++ strOfNums (i8 (CV.dn c)) ++ strOfNums (flB (CV.mv c))))), (SV.v (Value.bool (false || notIn (CV.id c) 2147483647 || shBad (CV.sk c) n || (isMin (CV.p0v c) || isMin (CV.p1v c) || (isMin (CV.p2v c) || isMin (CV.p3v c))) || (isMin (CV.v0v c) || isMin (CV.v1v c)) || isMin (CV.w0v c) || false || false)))])))))))))) := by kernel_rfl
theorem vcRCallW2 (c : CV) (n m cap : Nat) (g : Nat → Int × Int) (R : SV → Prop) : (vcFn Try.prog ΓRc noΛ Try.f74 [caS 2 c (.sl 0 2 0 n cap)] (roHeap [⟨2, m, rowsP g⟩]) 64 (fun y _ => R y)) =
((((I64 2) ∧ (((0 : Int) ≤ 1) ∧ ((1 : Int) ≤ 8))) ∧ ((0 : Nat) ≤ M0)) ∧ (((I64 (CV.id c)) ∧ ((1 : Nat) ≤ M0)) ∧ ((((I64 (CV.bs c)) ∧ (I64 (CV.bg c))) ∧ (((ByteArray.size ({ data := #[] } ++ strOfNums (be 2 1) ++ strOfNums (c4 (CV.id c)))) : Nat) ≤ 1000000000)) ∧ (((I64 (CV.ver c)) ∧ (((ByteArray.size ({ data := #[] } ++ strOfNums (be 2 1) ++ strOfNums (c4 (CV.id c)) ++ strOfNums (c4 (CV.bs c) ++ c4 (CV.bg c)))) : Nat) ≤ M0)) ∧ (R (SV.agg [(SV.v (Value.string ({ data := #[] } ++ strOfNums (be 2 1) ++ strOfNums (c4 (CV.id c)) ++ strOfNums (c4 (CV.bs c) ++ c4 (CV.bg c)) ++ strOfNums (i8 (CV.ver c))))), (SV.v (Value.bool (false || notIn (CV.id c) 2147483647 || (notIn (CV.bs c) 2147483647 || notIn (CV.bg c) 2147483647) || notIn (CV.ver c) 1099511627776)))])))))) := by kernel_rfl
theorem vcRCallW3 (c : CV) (n m cap : Nat) (g : Nat → Int × Int) (R : SV → Prop) : (vcFn Try.prog ΓRc noΛ Try.f74 [caS 3 c (.sl 0 2 0 n cap)] (roHeap [⟨2, m, rowsP g⟩]) 64 (fun y _ => R y)) =
((((I64 3) ∧ (((0 : Int) ≤ 1) ∧ ((1 : Int) ≤ 8))) ∧ ((0 : Nat) ≤ M0)) ∧ (((I64 (CV.id c)) ∧ ((1 : Nat) ≤ M0)) ∧ ((((I64 (CV.bs c)) ∧ (I64 (CV.bg c))) ∧ (((ByteArray.size ({ data := #[] } ++ strOfNums (be 3 1) ++ strOfNums (c4 (CV.id c)))) : Nat) ≤ 1000000000)) ∧ (((I64 (CV.ver c)) ∧ (((ByteArray.size ({ data := #[] } ++ strOfNums (be 3 1) ++ strOfNums (c4 (CV.id c)) ++ strOfNums (c4 (CV.bs c) ++ c4 (CV.bg c)))) : Nat) ≤ M0)) ∧ ((((I64 (CV.a0v c)) ∧ (I64 (CV.a1v c))) ∧ (((ByteArray.size ({ data := #[] } ++ strOfNums (be 3 1) ++ strOfNums (c4 (CV.id c)) ++ strOfNums (c4 (CV.bs c) ++ c4 (CV.bg c)) ++ strOfNums (i8 (CV.ver c)))) : Nat) ≤ 900000000)) ∧ ((((I64 (CV.t0v c)) ∧ (I64 (CV.t1v c))) ∧ (((ByteArray.size ({ data := #[] } ++ strOfNums (be 3 1) ++ strOfNums (c4 (CV.id c)) ++ strOfNums (c4 (CV.bs c) ++ c4 (CV.bg c)) ++ strOfNums (i8 (CV.ver c)) ++ strOfNums (vecL (CV.a0v c) (CV.a0f c) (CV.a1v c) (CV.a1f c)))) : Nat) ≤ 900000000)) ∧ (R (SV.agg [(SV.v (Value.string ({ data := #[] } ++ strOfNums (be 3 1) ++ strOfNums (c4 (CV.id c)) ++ strOfNums (c4 (CV.bs c) ++ c4 (CV.bg c)) ++ strOfNums (i8 (CV.ver c)) ++ strOfNums (vecL (CV.a0v c) (CV.a0f c) (CV.a1v c) (CV.a1f c)) ++ strOfNums (vecL (CV.t0v c) (CV.t0f c) (CV.t1v c) (CV.t1f c))))), (SV.v (Value.bool (false || notIn (CV.id c) 2147483647 || (notIn (CV.bs c) 2147483647 || notIn (CV.bg c) 2147483647) || notIn (CV.ver c) 1099511627776 || (isMin (CV.a0v c) || isMin (CV.a1v c)) || (isMin (CV.t0v c) || isMin (CV.t1v c)))))])))))))) := by kernel_rfl
theorem vcRCallW4 (c : CV) (n m cap : Nat) (g : Nat → Int × Int) (R : SV → Prop) : (vcFn Try.prog ΓRc noΛ Try.f74 [caS 4 c (.sl 0 2 0 n cap)] (roHeap [⟨2, m, rowsP g⟩]) 64 (fun y _ => R y)) =
((((I64 4) ∧ (((0 : Int) ≤ 1) ∧ ((1 : Int) ≤ 8))) ∧ ((0 : Nat) ≤ M0)) ∧ (((I64 (CV.id c)) ∧ ((1 : Nat) ≤ M0)) ∧ ((((I64 (CV.bs c)) ∧ (I64 (CV.bg c))) ∧ (((ByteArray.size ({ data := #[] } ++ strOfNums (be 4 1) ++ strOfNums (c4 (CV.id c)))) : Nat) ≤ 1000000000)) ∧ (((I64 (CV.ver c)) ∧ (((ByteArray.size ({ data := #[] } ++ strOfNums (be 4 1) ++ strOfNums (c4 (CV.id c)) ++ strOfNums (c4 (CV.bs c) ++ c4 (CV.bg c)))) : Nat) ≤ M0)) ∧ ((((I64 (CV.a0v c)) ∧ (I64 (CV.a1v c))) ∧ (((ByteArray.size ({ data := #[] } ++ strOfNums (be 4 1) ++ strOfNums (c4 (CV.id c)) ++ strOfNums (c4 (CV.bs c) ++ c4 (CV.bg c)) ++ strOfNums (i8 (CV.ver c)))) : Nat) ≤ 900000000)) ∧ (R (SV.agg [(SV.v (Value.string ({ data := #[] } ++ strOfNums (be 4 1) ++ strOfNums (c4 (CV.id c)) ++ strOfNums (c4 (CV.bs c) ++ c4 (CV.bg c)) ++ strOfNums (i8 (CV.ver c)) ++ strOfNums (vecL (CV.a0v c) (CV.a0f c) (CV.a1v c) (CV.a1f c))))), (SV.v (Value.bool (false || notIn (CV.id c) 2147483647 || (notIn (CV.bs c) 2147483647 || notIn (CV.bg c) 2147483647) || notIn (CV.ver c) 1099511627776 || (isMin (CV.a0v c) || isMin (CV.a1v c)))))]))))))) := by kernel_rfl
theorem vcRCallW5 (c : CV) (n m cap : Nat) (g : Nat → Int × Int) (R : SV → Prop) : (vcFn Try.prog ΓRc noΛ Try.f74 [caS 5 c (.sl 0 2 0 n cap)] (roHeap [⟨2, m, rowsP g⟩]) 64 (fun y _ => R y)) =
((((I64 5) ∧ (((0 : Int) ≤ 1) ∧ ((1 : Int) ≤ 8))) ∧ ((0 : Nat) ≤ M0)) ∧ (((I64 (CV.id c)) ∧ ((1 : Nat) ≤ M0)) ∧ (((I64 (CV.gr c)) ∧ (((ByteArray.size ({ data := #[] } ++ strOfNums (be 5 1) ++ strOfNums (c4 (CV.id c)))) : Nat) ≤ M0)) ∧ ((((I64 (CV.t0v c)) ∧ (I64 (CV.t1v c))) ∧ (((ByteArray.size ({ data := #[] } ++ strOfNums (be 5 1) ++ strOfNums (c4 (CV.id c)) ++ strOfNums (c4 (CV.gr c)))) : Nat) ≤ 900000000)) ∧ (R (SV.agg [(SV.v (Value.string ({ data := #[] } ++ strOfNums (be 5 1) ++ strOfNums (c4 (CV.id c)) ++ strOfNums (c4 (CV.gr c)) ++ strOfNums (vecL (CV.t0v c) (CV.t0f c) (CV.t1v c) (CV.t1f c))))), (SV.v (Value.bool (false || notIn (CV.id c) 2147483647 || notIn (CV.gr c) 2147483647 || (isMin (CV.t0v c) || isMin (CV.t1v c)))))])))))) := by kernel_rfl
theorem vcRCallW6 (c : CV) (n m cap : Nat) (g : Nat → Int × Int) (R : SV → Prop) : (vcFn Try.prog ΓRc noΛ Try.f74 [caS 6 c (.sl 0 2 0 n cap)] (roHeap [⟨2, m, rowsP g⟩]) 64 (fun y _ => R y)) =
((((I64 6) ∧ (((0 : Int) ≤ 1) ∧ ((1 : Int) ≤ 8))) ∧ ((0 : Nat) ≤ M0)) ∧ (((I64 (CV.id c)) ∧ ((1 : Nat) ≤ M0)) ∧ (((I64 (CV.gr c)) ∧ (((ByteArray.size ({ data := #[] } ++ strOfNums (be 6 1) ++ strOfNums (c4 (CV.id c)))) : Nat) ≤ M0)) ∧ (R (SV.agg [(SV.v (Value.string ({ data := #[] } ++ strOfNums (be 6 1) ++ strOfNums (c4 (CV.id c)) ++ strOfNums (c4 (CV.gr c))))), (SV.v (Value.bool (false || notIn (CV.id c) 2147483647 || notIn (CV.gr c) 2147483647)))]))))) := by kernel_rfl
theorem vcRCallW7 (c : CV) (n m cap : Nat) (g : Nat → Int × Int) (R : SV → Prop) : (vcFn Try.prog ΓRc noΛ Try.f74 [caS 7 c (.sl 0 2 0 n cap)] (roHeap [⟨2, m, rowsP g⟩]) 64 (fun y _ => R y)) =
((((I64 7) ∧ (((0 : Int) ≤ 1) ∧ ((1 : Int) ≤ 8))) ∧ ((0 : Nat) ≤ M0)) ∧ (((I64 (CV.id c)) ∧ ((1 : Nat) ≤ M0)) ∧ ((((I64 (CV.bs c)) ∧ (I64 (CV.bg c))) ∧ (((ByteArray.size ({ data := #[] } ++ strOfNums (be 7 1) ++ strOfNums (c4 (CV.id c)))) : Nat) ≤ 1000000000)) ∧ (R (SV.agg [(SV.v (Value.string ({ data := #[] } ++ strOfNums (be 7 1) ++ strOfNums (c4 (CV.id c)) ++ strOfNums (c4 (CV.bs c) ++ c4 (CV.bg c))))), (SV.v (Value.bool (false || notIn (CV.id c) 2147483647 || (notIn (CV.bs c) 2147483647 || notIn (CV.bg c) 2147483647))))]))))) := by kernel_rfl
theorem vcRCallW8 (c : CV) (n m cap : Nat) (g : Nat → Int × Int) (R : SV → Prop) : (vcFn Try.prog ΓRc noΛ Try.f74 [caS 8 c (.sl 0 2 0 n cap)] (roHeap [⟨2, m, rowsP g⟩]) 64 (fun y _ => R y)) =
((((I64 8) ∧ (((0 : Int) ≤ 1) ∧ ((1 : Int) ≤ 8))) ∧ ((0 : Nat) ≤ M0)) ∧ (((I64 (CV.id c)) ∧ ((1 : Nat) ≤ M0)) ∧ (((I64 (CV.b0 c)) ∧ (((ByteArray.size ({ data := #[] } ++ strOfNums (be 8 1) ++ strOfNums (c4 (CV.id c)))) : Nat) ≤ M0)) ∧ (((I64 (CV.b1 c)) ∧ (((ByteArray.size ({ data := #[] } ++ strOfNums (be 8 1) ++ strOfNums (c4 (CV.id c)) ++ strOfNums (i8 (CV.b0 c)))) : Nat) ≤ M0)) ∧ (((I64 (CV.b2 c)) ∧ (((ByteArray.size ({ data := #[] } ++ strOfNums (be 8 1) ++ strOfNums (c4 (CV.id c)) ++ strOfNums (i8 (CV.b0 c)) ++ strOfNums (i8 (CV.b1 c)))) : Nat) ≤ M0)) ∧ (((I64 (CV.b3 c)) ∧ (((ByteArray.size ({ data := #[] } ++ strOfNums (be 8 1) ++ strOfNums (c4 (CV.id c)) ++ strOfNums (i8 (CV.b0 c)) ++ strOfNums (i8 (CV.b1 c)) ++ strOfNums (i8 (CV.b2 c)))) : Nat) ≤ M0)) ∧ (R (SV.agg [(SV.v (Value.string ({ data := #[] } ++ strOfNums (be 8 1) ++ strOfNums (c4 (CV.id c)) ++ strOfNums (i8 (CV.b0 c)) ++ strOfNums (i8 (CV.b1 c)) ++ strOfNums (i8 (CV.b2 c)) ++ strOfNums (i8 (CV.b3 c))))), (SV.v (Value.bool (false || notIn (CV.id c) 2147483647 || false || false || false || false)))])))))))) := by kernel_rfl
theorem vcRCallW9 (c : CV) (n m cap : Nat) (g : Nat → Int × Int) (R : SV → Prop) : (vcFn Try.prog ΓRc noΛ Try.f74 [caS 9 c (.sl 0 2 0 n cap)] (roHeap [⟨2, m, rowsP g⟩]) 64 (fun y _ => R y)) =
((((I64 9) ∧ (((0 : Int) ≤ 1) ∧ ((1 : Int) ≤ 8))) ∧ ((0 : Nat) ≤ M0)) ∧ (((I64 (CV.id c)) ∧ ((1 : Nat) ≤ M0)) ∧ ((((I64 (CV.f0 c)) ∧ (I64 (CV.f1 c))) ∧ (((ByteArray.size ({ data := #[] } ++ strOfNums (be 9 1) ++ strOfNums (c4 (CV.id c)))) : Nat) ≤ 1000000000)) ∧ ((((I64 (CV.u0 c)) ∧ (I64 (CV.u1 c))) ∧ (((ByteArray.size ({ data := #[] } ++ strOfNums (be 9 1) ++ strOfNums (c4 (CV.id c)) ++ strOfNums (i8 (CV.f0 c) ++ i8 (CV.f1 c)))) : Nat) ≤ 1000000000)) ∧ (R (SV.agg [(SV.v (Value.string ({ data := #[] } ++ strOfNums (be 9 1) ++ strOfNums (c4 (CV.id c)) ++ strOfNums (i8 (CV.f0 c) ++ i8 (CV.f1 c)) ++ strOfNums (i8 (CV.u0 c) ++ i8 (CV.u1 c))))), (SV.v (Value.bool (false || notIn (CV.id c) 2147483647 || false || false)))])))))) := by kernel_rfl
theorem vcRCallW10 (c : CV) (n m cap : Nat) (g : Nat → Int × Int) (R : SV → Prop) : (vcFn Try.prog ΓRc noΛ Try.f74 [caS 10 c (.sl 0 2 0 n cap)] (roHeap [⟨2, m, rowsP g⟩]) 64 (fun y _ => R y)) =
((((I64 10) ∧ (((0 : Int) ≤ 1) ∧ ((1 : Int) ≤ 8))) ∧ ((0 : Nat) ≤ M0)) ∧ (((I64 (CV.id c)) ∧ ((1 : Nat) ≤ M0)) ∧ (R (SV.agg [(SV.v (Value.string ({ data := #[] } ++ strOfNums (be 10 1) ++ strOfNums (c4 (CV.id c))))), (SV.v (Value.bool (false || notIn (CV.id c) 2147483647)))])))) := by kernel_rfl
end Go.Proofs.Ytjdldadmaaeimaa
end

section
/-
  The reference's calls, in general.
-/
set_option maxRecDepth 100000
set_option linter.unusedSimpArgs false
set_option linter.unusedVariables false
namespace Go.Proofs.Ytjdldadmaaeimaa
open Go.SE Go.RowKit

def sRUsed (args : List SV) (bs : List Blk) : Option Eff := match args with
  | [.agg l] => match cellsOf l with
    | some (k, c, .sl 0 2 0 n cap) => match bs with
      | [S] => bif okB S then (bif decide (k = 1) then some (.det (some (spPre n S)) (caS 1 (uc1 c) (.sl 0 2 0 n cap)) []) else bif decide (k = 2) then some (.det (some (spPre n S)) (caS 2 (uc2 c) nilS) []) else bif decide (k = 3) then some (.det (some (spPre n S)) (caS 3 (uc3 c) nilS) []) else bif decide (k = 4) then some (.det (some (spPre n S)) (caS 4 (uc4 c) nilS) []) else bif decide (k = 5) then some (.det (some (spPre n S)) (caS 5 (uc5 c) nilS) []) else bif decide (k = 6) then some (.det (some (spPre n S)) (caS 6 (uc6 c) nilS) []) else bif decide (k = 7) then some (.det (some (spPre n S)) (caS 7 (uc7 c) nilS) []) else bif decide (k = 8) then some (.det (some (spPre n S)) (caS 8 (uc8 c) nilS) []) else bif decide (k = 9) then some (.det (some (spPre n S)) (caS 9 (uc9 c) nilS) []) else bif decide (k = 10) then some (.det (some (spPre n S)) (caS 10 (uc10 c) nilS) []) else none) else none
      | _ => none
    | _ => none
  | _ => none
def r1S (c : CV) (n : Nat) (x y : Nat → Int) : ByteArray := rShS (emp ++ strOfNums (be 1 1) ++ strOfNums (c4 c.id)) (false || notIn c.id 2147483647 || shBad c.sk n) c.sk c.sr c.sw c.sh n x y ++ strOfNums (poL c) ++ strOfNums (vL c) ++ strOfNums (numL c.w0v c.w0f) ++ strOfNums (i8 c.dn) ++ strOfNums (flB c.mv)
def rcS (k : Int) (c : CV) (n : Nat) (g : Nat → Int × Int) : ByteArray := bif decide (k = 1) then r1S c n (fun i => (g i).1) (fun i => (g i).2) else strOfNums (caL k c (kT k c n (fun i => (g i).1) (fun i => (g i).2)))
def sRCallW : List SV → List Ro → Option (Option Prop × SV)
  | [.agg l], rs => match cellsOf l, rs with
    | some (k, c, .sl 0 2 0 n _), [⟨2, n', row⟩] => some (some (calPre k c n n' row ∧ 1 ≤ k ∧ k ≤ 10), .agg [strS (rcS k c n fun i => gi (row i)), bV (badB k c n)])
    | _, _ => none
  | _, _ => none
def ΓRk : Ctrs := addCtr (addCtr (addCtr noCtrs 75 (hpCtr false sRUsed)) 30 (roCtr sRSameC)) 74 (roCtr sRCallW)
theorem vcRChk1 (c : CV) (n m cap : Nat) (g : Nat → Int × Int) (R : SV → Prop) : (vcFn Try.prog ΓRk noΛ Try.f29 [caS 1 c (.sl 0 2 0 n cap)] (roHeap [⟨2, m, rowsP g⟩]) 64 (fun y _ => R y)) =
((spPre n (winBlk (Ro.blk { s := 2, n := m, row := fun i => [SV.v (Value.int IntKind.i64 (Prod.fst (g i))), SV.v (Value.int IntKind.i64 (Prod.snd (g i)))] }) 2 0 n)) ∧ (((rowsPre n n fun y => [SV.v (Value.int IntKind.i64 (Prod.fst (g (0 + y)))), SV.v (Value.int IntKind.i64 (Prod.snd (g (0 + y))))]) ∧ (rowsPre n n fun y => [SV.v (Value.int IntKind.i64 (Prod.fst (g (0 + y)))), SV.v (Value.int IntKind.i64 (Prod.snd (g (0 + y))))])) ∧ 
(sel (!sameCB 1 1 c (uc1 c) (sameS (shOf c) n (fun i => gi [SV.v (Value.int IntKind.i64 (Prod.fst (g (0 + i)))), SV.v (Value.int IntKind.i64 (Prod.snd (g (0 + i))))]) (shOf (uc1 c)) n fun i => gi [SV.v (Value.int IntKind.i64 (Prod.fst (g (0 + i)))), SV.v (Value.int IntKind.i64 (Prod.snd (g (0 + i))))])) (R (SV.v (Value.int IntKind.i64 4))) (((calPre 1 c n n fun y => [SV.v (Value.int IntKind.i64 (Prod.fst (g (0 + y)))), SV.v (Value.int IntKind.i64 (Prod.snd (g (0 + y))))]) ∧ (((1 : Int) ≤ 1) ∧ ((1 : Int) ≤ 10))) ∧ 
(sel (badB 1 c n) (R (SV.v (Value.int IntKind.i64 3))) (R (SV.v (Value.int IntKind.i64 0)))))))) := by kernel_rfl
theorem vcRChk2 (c : CV) (n m cap : Nat) (g : Nat → Int × Int) (R : SV → Prop) : (vcFn Try.prog ΓRk noΛ Try.f29 [caS 2 c (.sl 0 2 0 n cap)] (roHeap [⟨2, m, rowsP g⟩]) 64 (fun y _ => R y)) =
((spPre n (winBlk (Ro.blk { s := 2, n := m, row := fun i => [SV.v (Value.int IntKind.i64 (Prod.fst (g i))), SV.v (Value.int IntKind.i64 (Prod.snd (g i)))] }) 2 0 n)) ∧ ((rowsPre n n fun y => [SV.v (Value.int IntKind.i64 (Prod.fst (g (0 + y)))), SV.v (Value.int IntKind.i64 (Prod.snd (g (0 + y))))]) ∧ 
(sel (!sameCB 2 2 c (uc2 c) (eqSh (shOf c) (shOf (uc2 c)) && Nat.beq n 0)) (R (SV.v (Value.int IntKind.i64 4))) (((calPre 2 c n n fun y => [SV.v (Value.int IntKind.i64 (Prod.fst (g (0 + y)))), SV.v (Value.int IntKind.i64 (Prod.snd (g (0 + y))))]) ∧ (((1 : Int) ≤ 2) ∧ ((2 : Int) ≤ 10))) ∧ 
(sel (badB 2 c n) (R (SV.v (Value.int IntKind.i64 3))) (R (SV.v (Value.int IntKind.i64 0)))))))) := by kernel_rfl
theorem vcRChk3 (c : CV) (n m cap : Nat) (g : Nat → Int × Int) (R : SV → Prop) : (vcFn Try.prog ΓRk noΛ Try.f29 [caS 3 c (.sl 0 2 0 n cap)] (roHeap [⟨2, m, rowsP g⟩]) 64 (fun y _ => R y)) =
((spPre n (winBlk (Ro.blk { s := 2, n := m, row := fun i => [SV.v (Value.int IntKind.i64 (Prod.fst (g i))), SV.v (Value.int IntKind.i64 (Prod.snd (g i)))] }) 2 0 n)) ∧ ((rowsPre n n fun y => [SV.v (Value.int IntKind.i64 (Prod.fst (g (0 + y)))), SV.v (Value.int IntKind.i64 (Prod.snd (g (0 + y))))]) ∧ 
(sel (!sameCB 3 3 c (uc3 c) (eqSh (shOf c) (shOf (uc3 c)) && Nat.beq n 0)) (R (SV.v (Value.int IntKind.i64 4))) (((calPre 3 c n n fun y => [SV.v (Value.int IntKind.i64 (Prod.fst (g (0 + y)))), SV.v (Value.int IntKind.i64 (Prod.snd (g (0 + y))))]) ∧ (((1 : Int) ≤ 3) ∧ ((3 : Int) ≤ 10))) ∧ 
(sel (badB 3 c n) (R (SV.v (Value.int IntKind.i64 3))) (R (SV.v (Value.int IntKind.i64 0)))))))) := by kernel_rfl
theorem vcRChk4 (c : CV) (n m cap : Nat) (g : Nat → Int × Int) (R : SV → Prop) : (vcFn Try.prog ΓRk noΛ Try.f29 [caS 4 c (.sl 0 2 0 n cap)] (roHeap [⟨2, m, rowsP g⟩]) 64 (fun y _ => R y)) =
((spPre n (winBlk (Ro.blk { s := 2, n := m, row := fun i => [SV.v (Value.int IntKind.i64 (Prod.fst (g i))), SV.v (Value.int IntKind.i64 (Prod.snd (g i)))] }) 2 0 n)) ∧ ((rowsPre n n fun y => [SV.v (Value.int IntKind.i64 (Prod.fst (g (0 + y)))), SV.v (Value.int IntKind.i64 (Prod.snd (g (0 + y))))]) ∧ 
(sel (!sameCB 4 4 c (uc4 c) (eqSh (shOf c) (shOf (uc4 c)) && Nat.beq n 0)) (R (SV.v (Value.int IntKind.i64 4))) (((calPre 4 c n n fun y => [SV.v (Value.int IntKind.i64 (Prod.fst (g (0 + y)))), SV.v (Value.int IntKind.i64 (Prod.snd (g (0 + y))))]) ∧ (((1 : Int) ≤ 4) ∧ ((4 : Int) ≤ 10))) ∧ 
(sel (badB 4 c n) (R (SV.v (Value.int IntKind.i64 3))) (R (SV.v (Value.int IntKind.i64 0)))))))) := by kernel_rfl
theorem vcRChk5 (c : CV) (n m cap : Nat) (g : Nat → Int × Int) (R : SV → Prop) : (vcFn Try.prog ΓRk noΛ Try.f29 [caS 5 c (.sl 0 2 0 n cap)] (roHeap [⟨2, m, rowsP g⟩]) 64 (fun y _ => R y)) =
((spPre n (winBlk (Ro.blk { s := 2, n := m, row := fun i => [SV.v (Value.int IntKind.i64 (Prod.fst (g i))), SV.v (Value.int IntKind.i64 (Prod.snd (g i)))] }) 2 0 n)) ∧ ((rowsPre n n fun y => [SV.v (Value.int IntKind.i64 (Prod.fst (g (0 + y)))), SV.v (Value.int IntKind.i64 (Prod.snd (g (0 + y))))]) ∧ 
(sel (!sameCB 5 5 c (uc5 c) (eqSh (shOf c) (shOf (uc5 c)) && Nat.beq n 0)) (R (SV.v (Value.int IntKind.i64 4))) (((calPre 5 c n n fun y => [SV.v (Value.int IntKind.i64 (Prod.fst (g (0 + y)))), SV.v (Value.int IntKind.i64 (Prod.snd (g (0 + y))))]) ∧ (((1 : Int) ≤ 5) ∧ ((5 : Int) ≤ 10))) ∧ 
(sel (badB 5 c n) (R (SV.v (Value.int IntKind.i64 3))) (R (SV.v (Value.int IntKind.i64 0)))))))) := by kernel_rfl
theorem vcRChk6 (c : CV) (n m cap : Nat) (g : Nat → Int × Int) (R : SV → Prop) : (vcFn Try.prog ΓRk noΛ Try.f29 [caS 6 c (.sl 0 2 0 n cap)] (roHeap [⟨2, m, rowsP g⟩]) 64 (fun y _ => R y)) =
((spPre n (winBlk (Ro.blk { s := 2, n := m, row := fun i => [SV.v (Value.int IntKind.i64 (Prod.fst (g i))), SV.v (Value.int IntKind.i64 (Prod.snd (g i)))] }) 2 0 n)) ∧ ((rowsPre n n fun y => [SV.v (Value.int IntKind.i64 (Prod.fst (g (0 + y)))), SV.v (Value.int IntKind.i64 (Prod.snd (g (0 + y))))]) ∧ 
(sel (!sameCB 6 6 c (uc6 c) (eqSh (shOf c) (shOf (uc6 c)) && Nat.beq n 0)) (R (SV.v (Value.int IntKind.i64 4))) (((calPre 6 c n n fun y => [SV.v (Value.int IntKind.i64 (Prod.fst (g (0 + y)))), SV.v (Value.int IntKind.i64 (Prod.snd (g (0 + y))))]) ∧ (((1 : Int) ≤ 6) ∧ ((6 : Int) ≤ 10))) ∧ 
(sel (badB 6 c n) (R (SV.v (Value.int IntKind.i64 3))) (R (SV.v (Value.int IntKind.i64 0)))))))) := by kernel_rfl
theorem vcRChk7 (c : CV) (n m cap : Nat) (g : Nat → Int × Int) (R : SV → Prop) : (vcFn Try.prog ΓRk noΛ Try.f29 [caS 7 c (.sl 0 2 0 n cap)] (roHeap [⟨2, m, rowsP g⟩]) 64 (fun y _ => R y)) =
((spPre n (winBlk (Ro.blk { s := 2, n := m, row := fun i => [SV.v (Value.int IntKind.i64 (Prod.fst (g i))), SV.v (Value.int IntKind.i64 (Prod.snd (g i)))] }) 2 0 n)) ∧ ((rowsPre n n fun y => [SV.v (Value.int IntKind.i64 (Prod.fst (g (0 + y)))), SV.v (Value.int IntKind.i64 (Prod.snd (g (0 + y))))]) ∧ 
(sel (!sameCB 7 7 c (uc7 c) (eqSh (shOf c) (shOf (uc7 c)) && Nat.beq n 0)) (R (SV.v (Value.int IntKind.i64 4))) (((calPre 7 c n n fun y => [SV.v (Value.int IntKind.i64 (Prod.fst (g (0 + y)))), SV.v (Value.int IntKind.i64 (Prod.snd (g (0 + y))))]) ∧ (((1 : Int) ≤ 7) ∧ ((7 : Int) ≤ 10))) ∧ 
(sel (badB 7 c n) (R (SV.v (Value.int IntKind.i64 3))) (R (SV.v (Value.int IntKind.i64 0)))))))) := by kernel_rfl
theorem vcRChk8 (c : CV) (n m cap : Nat) (g : Nat → Int × Int) (R : SV → Prop) : (vcFn Try.prog ΓRk noΛ Try.f29 [caS 8 c (.sl 0 2 0 n cap)] (roHeap [⟨2, m, rowsP g⟩]) 64 (fun y _ => R y)) =
((spPre n (winBlk (Ro.blk { s := 2, n := m, row := fun i => [SV.v (Value.int IntKind.i64 (Prod.fst (g i))), SV.v (Value.int IntKind.i64 (Prod.snd (g i)))] }) 2 0 n)) ∧ ((rowsPre n n fun y => [SV.v (Value.int IntKind.i64 (Prod.fst (g (0 + y)))), SV.v (Value.int IntKind.i64 (Prod.snd (g (0 + y))))]) ∧ 
(sel (!sameCB 8 8 c (uc8 c) (eqSh (shOf c) (shOf (uc8 c)) && Nat.beq n 0)) (R (SV.v (Value.int IntKind.i64 4))) (((calPre 8 c n n fun y => [SV.v (Value.int IntKind.i64 (Prod.fst (g (0 + y)))), SV.v (Value.int IntKind.i64 (Prod.snd (g (0 + y))))]) ∧ (((1 : Int) ≤ 8) ∧ ((8 : Int) ≤ 10))) ∧ 
(sel (badB 8 c n) (R (SV.v (Value.int IntKind.i64 3))) (R (SV.v (Value.int IntKind.i64 0)))))))) := by kernel_rfl
theorem vcRChk9 (c : CV) (n m cap : Nat) (g : Nat → Int × Int) (R : SV → Prop) : (vcFn Try.prog ΓRk noΛ Try.f29 [caS 9 c (.sl 0 2 0 n cap)] (roHeap [⟨2, m, rowsP g⟩]) 64 (fun y _ => R y)) =
((spPre n (winBlk (Ro.blk { s := 2, n := m, row := fun i => [SV.v (Value.int IntKind.i64 (Prod.fst (g i))), SV.v (Value.int IntKind.i64 (Prod.snd (g i)))] }) 2 0 n)) ∧ ((rowsPre n n fun y => [SV.v (Value.int IntKind.i64 (Prod.fst (g (0 + y)))), SV.v (Value.int IntKind.i64 (Prod.snd (g (0 + y))))]) ∧ 
(sel (!sameCB 9 9 c (uc9 c) (eqSh (shOf c) (shOf (uc9 c)) && Nat.beq n 0)) (R (SV.v (Value.int IntKind.i64 4))) (((calPre 9 c n n fun y => [SV.v (Value.int IntKind.i64 (Prod.fst (g (0 + y)))), SV.v (Value.int IntKind.i64 (Prod.snd (g (0 + y))))]) ∧ (((1 : Int) ≤ 9) ∧ ((9 : Int) ≤ 10))) ∧ 
(sel (badB 9 c n) (R (SV.v (Value.int IntKind.i64 3))) (R (SV.v (Value.int IntKind.i64 0)))))))) := by kernel_rfl
theorem vcRChk10 (c : CV) (n m cap : Nat) (g : Nat → Int × Int) (R : SV → Prop) : (vcFn Try.prog ΓRk noΛ Try.f29 [caS 10 c (.sl 0 2 0 n cap)] (roHeap [⟨2, m, rowsP g⟩]) 64 (fun y _ => R y)) =
((spPre n (winBlk (Ro.blk { s := 2, n := m, row := fun i => [SV.v (Value.int IntKind.i64 (Prod.fst (g i))), SV.v (Value.int IntKind.i64 (Prod.snd (g i)))] }) 2 0 n)) ∧ ((rowsPre n n fun y => [SV.v (Value.int IntKind.i64 (Prod.fst (g (0 + y)))), SV.v (Value.int IntKind.i64 (Prod.snd (g (0 + y))))]) ∧ 
(sel (!sameCB 10 10 c (uc10 c) (eqSh (shOf c) (shOf (uc10 c)) && Nat.beq n 0)) (R (SV.v (Value.int IntKind.i64 4))) (((calPre 10 c n n fun y => [SV.v (Value.int IntKind.i64 (Prod.fst (g (0 + y)))), SV.v (Value.int IntKind.i64 (Prod.snd (g (0 + y))))]) ∧ (((1 : Int) ≤ 10) ∧ ((10 : Int) ≤ 10))) ∧ 
(sel (badB 10 c n) (R (SV.v (Value.int IntKind.i64 3))) (R (SV.v (Value.int IntKind.i64 0)))))))) := by kernel_rfl
theorem vcRChkO (k : Int) (c : CV) (n m cap : Nat) (g : Nat → Int × Int) (R : SV → Prop) : (vcFn Try.prog noCtrs noΛ Try.f29 [caS k c (.sl 0 2 0 n cap)] (roHeap [⟨2, m, rowsP g⟩]) 64 (fun y _ => R y)) =

(sel (decide (k < 1)) (R (SV.v (Value.int IntKind.i64 8))) 
(sel (decide (k > 10)) (R (SV.v (Value.int IntKind.i64 8))) False)) := by kernel_rfl
def ΓRl : Ctrs := addCtr (addCtr noCtrs 29 (roCtr sCheckG)) 74 (roCtr sRCallW)
theorem vcRCall (k : Int) (c : CV) (n m cap : Nat) (g : Nat → Int × Int) (R : SV → Prop) : (vcFn Try.prog ΓRl noΛ Try.f27 [caS k c (.sl 0 2 0 n cap)] (roHeap [⟨2, m, rowsP g⟩]) 64 (fun y _ => R y)) =
((calPre k c n n fun y => [SV.v (Value.int IntKind.i64 (Prod.fst (g (0 + y)))), SV.v (Value.int IntKind.i64 (Prod.snd (g (0 + y))))]) ∧ 
(sel ((callE k c n fun i => gi [SV.v (Value.int IntKind.i64 (Prod.fst (g (0 + i)))), SV.v (Value.int IntKind.i64 (Prod.snd (g (0 + i))))]) != 0) (R (SV.tup [(SV.v (Value.string ({ data := #[] }))), (SV.v (Value.int IntKind.i64 (callE k c n fun i => gi [SV.v (Value.int IntKind.i64 (Prod.fst (g (0 + i)))), SV.v (Value.int IntKind.i64 (Prod.snd (g (0 + i))))])))])) (((calPre k c n n fun y => [SV.v (Value.int IntKind.i64 (Prod.fst (g (0 + y)))), SV.v (Value.int IntKind.i64 (Prod.snd (g (0 + y))))]) ∧ (((1 : Int) ≤ k) ∧ ((k : Int) ≤ 10))) ∧ (R (SV.tup [(SV.v (Value.string (rcS k c n fun i => gi [SV.v (Value.int IntKind.i64 (Prod.fst (g (0 + i)))), SV.v (Value.int IntKind.i64 (Prod.snd (g (0 + i))))]))), (SV.v (Value.int IntKind.i64 0))]))))) := by kernel_rfl
def ΓOw : Ctrs := addCtr noCtrs 73 (hpCtr true sCopyS)
def ownE (q : Prop) (k : Int) (c : CV) (n : Nat) (g : Nat → Int × Int) : Eff := .nd q Nat 0 (fun c' => caS k c (.sl 1000 2 0 n (n + c'))) fun c' => [(1000, spW n (n + c') g)]
theorem vcOwnC (q : Prop) (k : Int) (c : CV) (b : Blk) (n cap : Nat) (g : Nat → Int × Int) : (vcFn Try.prog ΓOw noΛ Try.f26 [caS k c (.sl 0 2 0 n cap)] (heapOf [rdS b n g]) 64 (fun y h' => FinE [rdS b n g] (ownE q k c n g) y h')) =
((spPre n (winBlk (rdS b n g) 2 0 n)) ∧ (∀ c_1 : Nat, (∃ c_2 : Nat, ((((SV.v (Value.int IntKind.i64 k)) = (SV.v (Value.int IntKind.i64 k))) ∧ (((SV.v (Value.int IntKind.i64 (CV.id c))) = (SV.v (Value.int IntKind.i64 (CV.id c)))) ∧ (((SV.v (Value.int IntKind.i64 (CV.bs c))) = (SV.v (Value.int IntKind.i64 (CV.bs c)))) ∧ (((SV.v (Value.int IntKind.i64 (CV.bg c))) = (SV.v (Value.int IntKind.i64 (CV.bg c)))) ∧ (((SV.v (Value.int IntKind.i64 (CV.ver c))) = (SV.v (Value.int IntKind.i64 (CV.ver c)))) ∧ (((SV.v (Value.int IntKind.i64 (ShB.k { k := CV.sk c, r := CV.sr c, w := CV.sw c, h := CV.sh c }))) = (SV.v (Value.int IntKind.i64 (CV.sk c)))) ∧ (((SV.v (Value.int IntKind.i64 (ShB.r { k := CV.sk c, r := CV.sr c, w := CV.sw c, h := CV.sh c }))) = (SV.v (Value.int IntKind.i64 (CV.sr c)))) ∧ (((SV.v (Value.int IntKind.i64 (ShB.w { k := CV.sk c, r := CV.sr c, w := CV.sw c, h := CV.sh c }))) = (SV.v (Value.int IntKind.i64 (CV.sw c)))) ∧ (((SV.v (Value.int IntKind.i64 (ShB.h { k := CV.sk c, r := CV.sr c, w := CV.sw c, h := CV.sh c }))) = (SV.v (Value.int IntKind.i64 (CV.sh c)))) ∧ (((SV.sl 96 2 0 n (n + c_1)) = (SV.sl 96 2 0 n (n + c_2))) ∧ (((SV.v (Value.int IntKind.i64 (CV.p0v c))) = (SV.v (Value.int IntKind.i64 (CV.p0v c)))) ∧ (((SV.v (Value.bool (CV.p0f c))) = (SV.v (Value.bool (CV.p0f c)))) ∧ (((SV.v (Value.int IntKind.i64 (CV.p1v c))) = (SV.v (Value.int IntKind.i64 (CV.p1v c)))) ∧ (((SV.v (Value.bool (CV.p1f c))) = (SV.v (Value.bool (CV.p1f c)))) ∧ (((SV.v (Value.int IntKind.i64 (CV.p2v c))) = (SV.v (Value.int IntKind.i64 (CV.p2v c)))) ∧ (((SV.v (Value.bool (CV.p2f c))) = (SV.v (Value.bool (CV.p2f c)))) ∧ (((SV.v (Value.int IntKind.i64 (CV.p3v c))) = (SV.v (Value.int IntKind.i64 (CV.p3v c)))) ∧ (((SV.v (Value.bool (CV.p3f c))) = (SV.v (Value.bool (CV.p3f c)))) ∧ (((SV.v (Value.int IntKind.i64 (CV.v0v c))) = (SV.v (Value.int IntKind.i64 (CV.v0v c)))) ∧ (((SV.v (Value.bool (CV.v0f c))) = (SV.v (Value.bool (CV.v0f c)))) ∧ (((SV.v (Value.int IntKind.i64 (CV.v1v c))) = (SV.v (Value.int IntKind.i64 (CV.v1v c)))) ∧ (((SV.v (Value.bool (CV.v1f c))) = (SV.v (Value.bool (CV.v1f c)))) ∧ (((SV.v (Value.int IntKind.i64 (CV.w0v c))) = (SV.v (Value.int IntKind.i64 (CV.w0v c)))) ∧ (((SV.v (Value.bool (CV.w0f c))) = (SV.v (Value.bool (CV.w0f c)))) ∧ (((SV.v (Value.int IntKind.i64 (CV.dn c))) = (SV.v (Value.int IntKind.i64 (CV.dn c)))) ∧ (((SV.v (Value.bool (CV.mv c))) = (SV.v (Value.bool (CV.mv c)))) ∧ (((SV.v (Value.int IntKind.i64 (CV.a0v c))) = (SV.v (Value.int IntKind.i64 (CV.a0v c)))) ∧ (((SV.v (Value.bool (CV.a0f c))) = (SV.v (Value.bool (CV.a0f c)))) ∧ (((SV.v (Value.int IntKind.i64 (CV.a1v c))) = (SV.v (Value.int IntKind.i64 (CV.a1v c)))) ∧ (((SV.v (Value.bool (CV.a1f c))) = (SV.v (Value.bool (CV.a1f c)))) ∧ (((SV.v (Value.int IntKind.i64 (CV.t0v c))) = (SV.v (Value.int IntKind.i64 (CV.t0v c)))) ∧ (((SV.v (Value.bool (CV.t0f c))) = (SV.v (Value.bool (CV.t0f c)))) ∧ (((SV.v (Value.int IntKind.i64 (CV.t1v c))) = (SV.v (Value.int IntKind.i64 (CV.t1v c)))) ∧ (((SV.v (Value.bool (CV.t1f c))) = (SV.v (Value.bool (CV.t1f c)))) ∧ (((SV.v (Value.int IntKind.i64 (CV.gr c))) = (SV.v (Value.int IntKind.i64 (CV.gr c)))) ∧ (((SV.v (Value.int IntKind.i64 (CV.b0 c))) = (SV.v (Value.int IntKind.i64 (CV.b0 c)))) ∧ (((SV.v (Value.int IntKind.i64 (CV.b1 c))) = (SV.v (Value.int IntKind.i64 (CV.b1 c)))) ∧ (((SV.v (Value.int IntKind.i64 (CV.b2 c))) = (SV.v (Value.int IntKind.i64 (CV.b2 c)))) ∧ (((SV.v (Value.int IntKind.i64 (CV.b3 c))) = (SV.v (Value.int IntKind.i64 (CV.b3 c)))) ∧ (((SV.v (Value.int IntKind.i64 (CV.f0 c))) = (SV.v (Value.int IntKind.i64 (CV.f0 c)))) ∧ (((SV.v (Value.int IntKind.i64 (CV.f1 c))) = (SV.v (Value.int IntKind.i64 (CV.f1 c)))) ∧ (((SV.v (Value.int IntKind.i64 (CV.u0 c))) = (SV.v (Value.int IntKind.i64 (CV.u0 c)))) ∧ ((SV.v (Value.int IntKind.i64 (CV.u1 c))) = (SV.v (Value.int IntKind.i64 (CV.u1 c)))))))))))))))))))))))))))))))))))))))))))))) ∧ (((n : Nat) = n) ∧ ((((n + c_2) : Nat) ≤ (n + c_1)) ∧ (∀ i : Nat, (((i : Nat) < n) → ([(SV.v (Value.int IntKind.i64 (Prod.fst (rowG (winBlk (rdS b n g) 2 0 n) i)))), (SV.v (Value.int IntKind.i64 (Prod.snd (rowG (winBlk (rdS b n g) 2 0 n) i))))] = [(SV.v (Value.int IntKind.i64 (Prod.fst (g i)))), (SV.v (Value.int IntKind.i64 (Prod.snd (g i))))]))))))))) := by kernel_rfl
theorem rused_1 {q : Option Prop} {c : CV} {e n m cap xt : Nat} {x y : Nat → Int} {wh : Bool} : vcFn Try.prog noCtrs ΛRUsed Try.f75 [caS 1 c (.sl 0 2 0 n cap)] (heapOf [ptB e m x y xt wh]) 64 (fun y' h' => FinE [ptB e m x y xt wh] (.det q (caS 1 (uc1 c) (.sl 0 2 0 n cap)) []) y' h') := by
  rw [vcRUsed1]
  refine ⟨?_, trivial⟩
  repeat (first | exact rfl | refine ⟨rfl, ?_⟩)
theorem rused_2 {q : Option Prop} {c : CV} {e n m cap xt : Nat} {x y : Nat → Int} {wh : Bool} : vcFn Try.prog noCtrs ΛRUsed Try.f75 [caS 2 c (.sl 0 2 0 n cap)] (heapOf [ptB e m x y xt wh]) 64 (fun y' h' => FinE [ptB e m x y xt wh] (.det q (caS 2 (uc2 c) (nilS)) []) y' h') := by
  rw [vcRUsed2]
  refine ⟨?_, trivial⟩
  repeat (first | exact rfl | refine ⟨rfl, ?_⟩)
theorem rused_3 {q : Option Prop} {c : CV} {e n m cap xt : Nat} {x y : Nat → Int} {wh : Bool} : vcFn Try.prog noCtrs ΛRUsed Try.f75 [caS 3 c (.sl 0 2 0 n cap)] (heapOf [ptB e m x y xt wh]) 64 (fun y' h' => FinE [ptB e m x y xt wh] (.det q (caS 3 (uc3 c) (nilS)) []) y' h') := by
  rw [vcRUsed3]
  refine ⟨?_, trivial⟩
  repeat (first | exact rfl | refine ⟨rfl, ?_⟩)
theorem rused_4 {q : Option Prop} {c : CV} {e n m cap xt : Nat} {x y : Nat → Int} {wh : Bool} : vcFn Try.prog noCtrs ΛRUsed Try.f75 [caS 4 c (.sl 0 2 0 n cap)] (heapOf [ptB e m x y xt wh]) 64 (fun y' h' => FinE [ptB e m x y xt wh] (.det q (caS 4 (uc4 c) (nilS)) []) y' h') := by
  rw [vcRUsed4]
  refine ⟨?_, trivial⟩
  repeat (first | exact rfl | refine ⟨rfl, ?_⟩)
theorem rused_5 {q : Option Prop} {c : CV} {e n m cap xt : Nat} {x y : Nat → Int} {wh : Bool} : vcFn Try.prog noCtrs ΛRUsed Try.f75 [caS 5 c (.sl 0 2 0 n cap)] (heapOf [ptB e m x y xt wh]) 64 (fun y' h' => FinE [ptB e m x y xt wh] (.det q (caS 5 (uc5 c) (nilS)) []) y' h') := by
  rw [vcRUsed5]
  refine ⟨?_, trivial⟩
  repeat (first | exact rfl | refine ⟨rfl, ?_⟩)
theorem rused_6 {q : Option Prop} {c : CV} {e n m cap xt : Nat} {x y : Nat → Int} {wh : Bool} : vcFn Try.prog noCtrs ΛRUsed Try.f75 [caS 6 c (.sl 0 2 0 n cap)] (heapOf [ptB e m x y xt wh]) 64 (fun y' h' => FinE [ptB e m x y xt wh] (.det q (caS 6 (uc6 c) (nilS)) []) y' h') := by
  rw [vcRUsed6]
  refine ⟨?_, trivial⟩
  repeat (first | exact rfl | refine ⟨rfl, ?_⟩)
theorem rused_7 {q : Option Prop} {c : CV} {e n m cap xt : Nat} {x y : Nat → Int} {wh : Bool} : vcFn Try.prog noCtrs ΛRUsed Try.f75 [caS 7 c (.sl 0 2 0 n cap)] (heapOf [ptB e m x y xt wh]) 64 (fun y' h' => FinE [ptB e m x y xt wh] (.det q (caS 7 (uc7 c) (nilS)) []) y' h') := by
  rw [vcRUsed7]
  refine ⟨?_, trivial⟩
  repeat (first | exact rfl | refine ⟨rfl, ?_⟩)
theorem rused_8 {q : Option Prop} {c : CV} {e n m cap xt : Nat} {x y : Nat → Int} {wh : Bool} : vcFn Try.prog noCtrs ΛRUsed Try.f75 [caS 8 c (.sl 0 2 0 n cap)] (heapOf [ptB e m x y xt wh]) 64 (fun y' h' => FinE [ptB e m x y xt wh] (.det q (caS 8 (uc8 c) (nilS)) []) y' h') := by
  rw [vcRUsed8]
  refine ⟨?_, trivial⟩
  repeat (first | exact rfl | refine ⟨rfl, ?_⟩)
theorem rused_9 {q : Option Prop} {c : CV} {e n m cap xt : Nat} {x y : Nat → Int} {wh : Bool} : vcFn Try.prog noCtrs ΛRUsed Try.f75 [caS 9 c (.sl 0 2 0 n cap)] (heapOf [ptB e m x y xt wh]) 64 (fun y' h' => FinE [ptB e m x y xt wh] (.det q (caS 9 (uc9 c) (nilS)) []) y' h') := by
  rw [vcRUsed9]
  refine ⟨?_, trivial⟩
  repeat (first | exact rfl | refine ⟨rfl, ?_⟩)
theorem rused_10 {q : Option Prop} {c : CV} {e n m cap xt : Nat} {x y : Nat → Int} {wh : Bool} : vcFn Try.prog noCtrs ΛRUsed Try.f75 [caS 10 c (.sl 0 2 0 n cap)] (heapOf [ptB e m x y xt wh]) 64 (fun y' h' => FinE [ptB e m x y xt wh] (.det q (caS 10 (uc10 c) (nilS)) []) y' h') := by
  rw [vcRUsed10]
  refine ⟨?_, trivial⟩
  repeat (first | exact rfl | refine ⟨rfl, ?_⟩)
theorem RUsed_spec : HpSpec Try.prog 75 sRUsed := hp_spec hm noCtrs_ok Try.func75 (Λ := fun _ _ => ΛRUsed) fun args bs e hs hp => by
  unfold sRUsed at hs
  split at hs
  · rename_i l
    split at hs
    · rename_i k c n cap hl
      split at hs
      · rename_i S
        obtain ⟨hS, hs⟩ := bif_some2' hs
        by_cases hk : 1 ≤ k ∧ k ≤ 10
        · rcases ten hk with rfl | rfl | rfl | rfl | rfl | rfl | rfl | rfl | rfl | rfl
          · have he := Option.some.inj hs
            subst he
            have hsp := hp _ rfl
            refine ⟨[ptB S.elem n (gX S) (gY S) S.ext S.whole], ⟨same_ptB hS hsp, trivial⟩, ?_⟩
            rw [cells_eq hl]
            exact rused_1
          · have he := Option.some.inj hs
            subst he
            have hsp := hp _ rfl
            refine ⟨[ptB S.elem n (gX S) (gY S) S.ext S.whole], ⟨same_ptB hS hsp, trivial⟩, ?_⟩
            rw [cells_eq hl]
            exact rused_2
          · have he := Option.some.inj hs
            subst he
            have hsp := hp _ rfl
            refine ⟨[ptB S.elem n (gX S) (gY S) S.ext S.whole], ⟨same_ptB hS hsp, trivial⟩, ?_⟩
            rw [cells_eq hl]
            exact rused_3
          · have he := Option.some.inj hs
            subst he
            have hsp := hp _ rfl
            refine ⟨[ptB S.elem n (gX S) (gY S) S.ext S.whole], ⟨same_ptB hS hsp, trivial⟩, ?_⟩
            rw [cells_eq hl]
            exact rused_4
          · have he := Option.some.inj hs
            subst he
            have hsp := hp _ rfl
            refine ⟨[ptB S.elem n (gX S) (gY S) S.ext S.whole], ⟨same_ptB hS hsp, trivial⟩, ?_⟩
            rw [cells_eq hl]
            exact rused_5
          · have he := Option.some.inj hs
            subst he
            have hsp := hp _ rfl
            refine ⟨[ptB S.elem n (gX S) (gY S) S.ext S.whole], ⟨same_ptB hS hsp, trivial⟩, ?_⟩
            rw [cells_eq hl]
            exact rused_6
          · have he := Option.some.inj hs
            subst he
            have hsp := hp _ rfl
            refine ⟨[ptB S.elem n (gX S) (gY S) S.ext S.whole], ⟨same_ptB hS hsp, trivial⟩, ?_⟩
            rw [cells_eq hl]
            exact rused_7
          · have he := Option.some.inj hs
            subst he
            have hsp := hp _ rfl
            refine ⟨[ptB S.elem n (gX S) (gY S) S.ext S.whole], ⟨same_ptB hS hsp, trivial⟩, ?_⟩
            rw [cells_eq hl]
            exact rused_8
          · have he := Option.some.inj hs
            subst he
            have hsp := hp _ rfl
            refine ⟨[ptB S.elem n (gX S) (gY S) S.ext S.whole], ⟨same_ptB hS hsp, trivial⟩, ?_⟩
            rw [cells_eq hl]
            exact rused_9
          · have he := Option.some.inj hs
            subst he
            have hsp := hp _ rfl
            refine ⟨[ptB S.elem n (gX S) (gY S) S.ext S.whole], ⟨same_ptB hS hsp, trivial⟩, ?_⟩
            rw [cells_eq hl]
            exact rused_10
        · rw [show decide (k = 1) = false from decide_eq_false (by omega), show decide (k = 2) = false from decide_eq_false (by omega), show decide (k = 3) = false from decide_eq_false (by omega), show decide (k = 4) = false from decide_eq_false (by omega), show decide (k = 5) = false from decide_eq_false (by omega), show decide (k = 6) = false from decide_eq_false (by omega), show decide (k = 7) = false from decide_eq_false (by omega), show decide (k = 8) = false from decide_eq_false (by omega), show decide (k = 9) = false from decide_eq_false (by omega), show decide (k = 10) = false from decide_eq_false (by omega)] at hs
          cases hs
      · cases hs
    · cases hs
  · cases hs
end Go.Proofs.Ytjdldadmaaeimaa
end

section
/-
  The reference's calls, in general: CheckCall, Call; OwnCall.
-/
set_option maxRecDepth 100000
set_option linter.unusedSimpArgs false
set_option linter.unusedVariables false
namespace Go.Proofs.Ytjdldadmaaeimaa
open Go.SE Go.RowKit
theorem bcI (a b : Int) : (a == b) = (b == a) := BEq.comm
theorem bcB (a b : Bool) : (a == b) = (b == a) := BEq.comm
theorem sameCB_comm (k1 k2 : Int) (a b : CV) (s : Bool) : sameCB k1 k2 a b s = sameCB k2 k1 b a s := by
  unfold sameCB
  rw [bcI k1 k2, bcI a.id b.id, bcI a.bs b.bs, bcI a.bg b.bg, bcI a.ver b.ver, bcI a.p0v b.p0v, bcB a.p0f b.p0f, bcI a.p1v b.p1v, bcB a.p1f b.p1f, bcI a.p2v b.p2v, bcB a.p2f b.p2f, bcI a.p3v b.p3v, bcB a.p3f b.p3f, bcI a.v0v b.v0v, bcB a.v0f b.v0f, bcI a.v1v b.v1v, bcB a.v1f b.v1f, bcI a.w0v b.w0v, bcB a.w0f b.w0f, bcI a.dn b.dn, bcB a.mv b.mv, bcI a.a0v b.a0v, bcB a.a0f b.a0f, bcI a.a1v b.a1v, bcB a.a1f b.a1f, bcI a.t0v b.t0v, bcB a.t0f b.t0f, bcI a.t1v b.t1v, bcB a.t1f b.t1f, bcI a.gr b.gr, bcI a.b0 b.b0, bcI a.b1 b.b1, bcI a.b2 b.b2, bcI a.b3 b.b3, bcI a.f0 b.f0, bcI a.f1 b.f1, bcI a.u0 b.u0, bcI a.u1 b.u1]
theorem eqSh_comm (a b : ShB) : eqSh a b = eqSh b a := by
  unfold eqSh
  rw [bcI a.k b.k, bcI a.r b.r, bcI a.w b.w, bcI a.h b.h]
theorem caT1_len (c : CV) (n : Nat) (x y : Nat → Int) : (caT1 c n x y).length = caN1 n := by
  unfold caT1 caN1
  first | rfl | (simp only [List.length_append, hLl, i8l, c4l, vLl, aLl, tLl, poLl, shLl, numl, vecl, List.length_cons, List.length_nil, flB_len]; done) | (simp only [List.length_append, hLl, i8l, c4l, vLl, aLl, tLl, poLl, shLl, numl, vecl, List.length_cons, List.length_nil, flB_len]; omega)
theorem caT2_len (c : CV) (n : Nat) (x y : Nat → Int) : (caT2 c n x y).length = caN2 n := by
  unfold caT2 caN2
  first | rfl | (simp only [List.length_append, hLl, i8l, c4l, vLl, aLl, tLl, poLl, shLl, numl, vecl, List.length_cons, List.length_nil, flB_len]; done) | (simp only [List.length_append, hLl, i8l, c4l, vLl, aLl, tLl, poLl, shLl, numl, vecl, List.length_cons, List.length_nil, flB_len]; omega)
theorem caT3_len (c : CV) (n : Nat) (x y : Nat → Int) : (caT3 c n x y).length = caN3 n := by
  unfold caT3 caN3
  first | rfl | (simp only [List.length_append, hLl, i8l, c4l, vLl, aLl, tLl, poLl, shLl, numl, vecl, List.length_cons, List.length_nil, flB_len]; done) | (simp only [List.length_append, hLl, i8l, c4l, vLl, aLl, tLl, poLl, shLl, numl, vecl, List.length_cons, List.length_nil, flB_len]; omega)
theorem caT4_len (c : CV) (n : Nat) (x y : Nat → Int) : (caT4 c n x y).length = caN4 n := by
  unfold caT4 caN4
  first | rfl | (simp only [List.length_append, hLl, i8l, c4l, vLl, aLl, tLl, poLl, shLl, numl, vecl, List.length_cons, List.length_nil, flB_len]; done) | (simp only [List.length_append, hLl, i8l, c4l, vLl, aLl, tLl, poLl, shLl, numl, vecl, List.length_cons, List.length_nil, flB_len]; omega)
theorem caT5_len (c : CV) (n : Nat) (x y : Nat → Int) : (caT5 c n x y).length = caN5 n := by
  unfold caT5 caN5
  first | rfl | (simp only [List.length_append, hLl, i8l, c4l, vLl, aLl, tLl, poLl, shLl, numl, vecl, List.length_cons, List.length_nil, flB_len]; done) | (simp only [List.length_append, hLl, i8l, c4l, vLl, aLl, tLl, poLl, shLl, numl, vecl, List.length_cons, List.length_nil, flB_len]; omega)
theorem caT6_len (c : CV) (n : Nat) (x y : Nat → Int) : (caT6 c n x y).length = caN6 n := by
  unfold caT6 caN6
  first | rfl | (simp only [List.length_append, hLl, i8l, c4l, vLl, aLl, tLl, poLl, shLl, numl, vecl, List.length_cons, List.length_nil, flB_len]; done) | (simp only [List.length_append, hLl, i8l, c4l, vLl, aLl, tLl, poLl, shLl, numl, vecl, List.length_cons, List.length_nil, flB_len]; omega)
theorem caT7_len (c : CV) (n : Nat) (x y : Nat → Int) : (caT7 c n x y).length = caN7 n := by
  unfold caT7 caN7
  first | rfl | (simp only [List.length_append, hLl, i8l, c4l, vLl, aLl, tLl, poLl, shLl, numl, vecl, List.length_cons, List.length_nil, flB_len]; done) | (simp only [List.length_append, hLl, i8l, c4l, vLl, aLl, tLl, poLl, shLl, numl, vecl, List.length_cons, List.length_nil, flB_len]; omega)
theorem caT8_len (c : CV) (n : Nat) (x y : Nat → Int) : (caT8 c n x y).length = caN8 n := by
  unfold caT8 caN8
  first | rfl | (simp only [List.length_append, hLl, i8l, c4l, vLl, aLl, tLl, poLl, shLl, numl, vecl, List.length_cons, List.length_nil, flB_len]; done) | (simp only [List.length_append, hLl, i8l, c4l, vLl, aLl, tLl, poLl, shLl, numl, vecl, List.length_cons, List.length_nil, flB_len]; omega)
theorem caT9_len (c : CV) (n : Nat) (x y : Nat → Int) : (caT9 c n x y).length = caN9 n := by
  unfold caT9 caN9
  first | rfl | (simp only [List.length_append, hLl, i8l, c4l, vLl, aLl, tLl, poLl, shLl, numl, vecl, List.length_cons, List.length_nil, flB_len]; done) | (simp only [List.length_append, hLl, i8l, c4l, vLl, aLl, tLl, poLl, shLl, numl, vecl, List.length_cons, List.length_nil, flB_len]; omega)
theorem caT10_len (c : CV) (n : Nat) (x y : Nat → Int) : (caT10 c n x y).length = caN10 n := by
  unfold caT10 caN10
  first | rfl | (simp only [List.length_append, hLl, i8l, c4l, vLl, aLl, tLl, poLl, shLl, numl, vecl, List.length_cons, List.length_nil, flB_len]; done) | (simp only [List.length_append, hLl, i8l, c4l, vLl, aLl, tLl, poLl, shLl, numl, vecl, List.length_cons, List.length_nil, flB_len]; omega)
theorem kT_len {k : Int} (hk : 1 ≤ k ∧ k ≤ 10) (c : CV) (n : Nat) (x y : Nat → Int) : (kT k c n x y).length = kN k n := by
  rcases ten hk with rfl | rfl | rfl | rfl | rfl | rfl | rfl | rfl | rfl | rfl
  · exact caT1_len c n x y
  · exact caT2_len c n x y
  · exact caT3_len c n x y
  · exact caT4_len c n x y
  · exact caT5_len c n x y
  · exact caT6_len c n x y
  · exact caT7_len c n x y
  · exact caT8_len c n x y
  · exact caT9_len c n x y
  · exact caT10_len c n x y
theorem callBs_eq {k : Int} (hk : 1 ≤ k ∧ k ≤ 10) (c : CV) (n : Nat) (g : Nat → Int × Int) : callBs k c n g = strOfNums (caL k c (kT k c n (fun i => (g i).1) (fun i => (g i).2))) := by
  unfold callBs
  have hl : (caL k c (kT k c n (fun i => (g i).1) (fun i => (g i).2))).length = 5 + kN k n := by
    unfold caL
    simp only [List.length_append, c4l, kT_len hk, List.length_cons, List.length_nil]
    omega
  rw [strOf_lst]
  congr 1
  have := lstG_list (caL k c (kT k c n (fun i => (g i).1) (fun i => (g i).2)))
  rw [hl] at this
  exact this
theorem r1_ok {c : CV} {n : Nat} {x y : Nat → Int} (h : badB 1 c n = false) : r1S c n x y = strOfNums (caL 1 c (caT1 c n x y)) := by
  have h : (notIn c.id 2147483647 || ((notIn c.sk 255 || notIn (n : Int) 8) || ((isMin c.p0v || isMin c.p1v || (isMin c.p2v || isMin c.p3v)) || ((isMin c.v0v || isMin c.v1v) || isMin c.w0v)))) = false := h
  simp only [Bool.or_eq_false_iff] at h
  have hb : (false || notIn c.id 2147483647 || shBad c.sk n) = false := by
    unfold shBad
    rw [h.1, h.2.1.1, h.2.1.2]
    rfl
  have hn : Nat.ble n 8 = true := by
    have h8 := h.2.1.2
    unfold notIn at h8
    simp only [Bool.not_eq_false', Bool.and_eq_true, decide_eq_true_eq] at h8
    exact Nat.ble_eq_true_of_le (by omega)
  unfold r1S rShS
  rw [hb, cond_false, emp_app, str_append, str_append, str_append, str_append, str_append, str_append, str_append, str_append]
  congr 1
  unfold caL caT1 shL hdS
  rw [hn, cond_true]
  simp only [List.append_assoc]
  rfl
theorem rcS_ok {k : Int} (hk : 1 ≤ k ∧ k ≤ 10) {c : CV} {n : Nat} {g : Nat → Int × Int} (h : badB k c n = false) : rcS k c n g = callBs k c n g := by
  rw [callBs_eq hk]
  unfold rcS
  by_cases h1 : k = 1
  · subst h1
    exact r1_ok h
  · rw [decide_eq_false h1]
    rfl
theorem formR (c : CV) (n : Nat) (g : Nat → Int × Int) : sameCB 1 1 c (uc1 c) (sameS (shOf c) n g (shOf (uc1 c)) n g) = formB 1 c n g := by
  rw [sameCB_comm]
  rfl
theorem formR2 (c : CV) (n : Nat) (g : Nat → Int × Int) : sameCB 2 2 c (uc2 c) (eqSh (shOf c) (shOf (uc2 c)) && Nat.beq n 0) = formB 2 c n g := by
  rw [sameCB_comm, eqSh_comm]
  rfl
theorem formR3 (c : CV) (n : Nat) (g : Nat → Int × Int) : sameCB 3 3 c (uc3 c) (eqSh (shOf c) (shOf (uc3 c)) && Nat.beq n 0) = formB 3 c n g := by
  rw [sameCB_comm, eqSh_comm]
  rfl
theorem formR4 (c : CV) (n : Nat) (g : Nat → Int × Int) : sameCB 4 4 c (uc4 c) (eqSh (shOf c) (shOf (uc4 c)) && Nat.beq n 0) = formB 4 c n g := by
  rw [sameCB_comm, eqSh_comm]
  rfl
theorem formR5 (c : CV) (n : Nat) (g : Nat → Int × Int) : sameCB 5 5 c (uc5 c) (eqSh (shOf c) (shOf (uc5 c)) && Nat.beq n 0) = formB 5 c n g := by
  rw [sameCB_comm, eqSh_comm]
  rfl
theorem formR6 (c : CV) (n : Nat) (g : Nat → Int × Int) : sameCB 6 6 c (uc6 c) (eqSh (shOf c) (shOf (uc6 c)) && Nat.beq n 0) = formB 6 c n g := by
  rw [sameCB_comm, eqSh_comm]
  rfl
theorem formR7 (c : CV) (n : Nat) (g : Nat → Int × Int) : sameCB 7 7 c (uc7 c) (eqSh (shOf c) (shOf (uc7 c)) && Nat.beq n 0) = formB 7 c n g := by
  rw [sameCB_comm, eqSh_comm]
  rfl
theorem formR8 (c : CV) (n : Nat) (g : Nat → Int × Int) : sameCB 8 8 c (uc8 c) (eqSh (shOf c) (shOf (uc8 c)) && Nat.beq n 0) = formB 8 c n g := by
  rw [sameCB_comm, eqSh_comm]
  rfl
theorem formR9 (c : CV) (n : Nat) (g : Nat → Int × Int) : sameCB 9 9 c (uc9 c) (eqSh (shOf c) (shOf (uc9 c)) && Nat.beq n 0) = formB 9 c n g := by
  rw [sameCB_comm, eqSh_comm]
  rfl
theorem formR10 (c : CV) (n : Nat) (g : Nat → Int × Int) : sameCB 10 10 c (uc10 c) (eqSh (shOf c) (shOf (uc10 c)) && Nat.beq n 0) = formB 10 c n g := by
  rw [sameCB_comm, eqSh_comm]
  rfl
end Go.Proofs.Ytjdldadmaaeimaa
end

section
/-
  The reference's calls, in general: the contracts.
-/
set_option maxRecDepth 100000
set_option linter.unusedSimpArgs false
set_option linter.unusedVariables false
namespace Go.Proofs.Ytjdldadmaaeimaa
open Go.SE Go.RowKit
theorem esz : (({ data := #[] } : ByteArray)).size = 0 := rfl
theorem b1l (v : Int) : (be v 1).length = 1 := be_len v 1
theorem rShS_size (s : ByteArray) (b : Bool) (k r w h : Int) (n : Nat) (x y : Nat → Int) (hn : n < 100) : (rShS s b k r w h n x y).size ≤ s.size + 1700 := by
  unfold rShS
  rw [size_app, size_app, size_str, hdl]
  cases b with
  | true => show _ + _ + 0 ≤ _; omega
  | false =>
    rw [cond_false, size_str, spotsL_len]; omega
theorem ΓRc_ok : ∀ f g, ΓRc f = some g → g.ok Try.prog f := addCtr_ok (addCtr_ok (addCtr_ok (addCtr_ok (addCtr_ok ΓE3_ok (hp_ok Try.func109 (by kernel_rfl) (by kernel_rfl) RShape_spec)) (hp_ok Try.func110 (by kernel_rfl) (by kernel_rfl) RPose_spec)) (hp_ok Try.func117 (by kernel_rfl) (by kernel_rfl) RSpot_spec)) (hp_ok Try.func115 (by kernel_rfl) (by kernel_rfl) RHandle_spec)) (hp_ok Try.func107 (by kernel_rfl) (by kernel_rfl) RSmall_spec)
theorem rcall_1 {c : CV} {n cap : Nat} {g : Nat → Int × Int} (hc : cvOk c) (hn : n < 1099511627776) (h100 : n < 100) (hg : ∀ i, i < n → I64 (g i).1 ∧ I64 (g i).2) : vcFn Try.prog ΓRc noΛ Try.f74 [caS 1 c (.sl 0 2 0 n cap)] (roHeap [⟨2, n, rowsP g⟩]) 64 (fun y _ => y = .agg [strS (rcS 1 c n g), bV (badB 1 c n)]) := by
  obtain ⟨h_id, h_bs, h_bg, h_ver, h_sk, h_sr, h_sw, h_sh, h_p0v, h_p1v, h_p2v, h_p3v, h_v0v, h_v1v, h_w0v, h_dn, h_a0v, h_a1v, h_t0v, h_t1v, h_gr, h_b0, h_b1, h_b2, h_b3, h_f0, h_f1, h_u0, h_u1⟩ := hc
  refine Eq.mpr (vcRCallW1 c n n cap g _) ?_
  rw [win_gX, win_gY]
  have hz := rShS_size ({ data := #[] } ++ strOfNums (be 1 1) ++ strOfNums (c4 c.id)) (false || notIn c.id 2147483647 || shBad c.sk n) c.sk c.sr c.sw c.sh n (fun i => (g i).1) (fun i => (g i).2) h100
  have hz0 : (({ data := #[] } : ByteArray) ++ strOfNums (be 1 1) ++ strOfNums (c4 c.id)).size = 5 := by
    simp only [size_app, size_str, esz, b1l, c4l]
  rw [hz0] at hz
  refine ⟨⟨⟨⟨by omega, by omega⟩, by omega, by omega⟩, Nat.zero_le _⟩, ⟨h_id, by show 1 ≤ 1099511627776; omega⟩, ⟨⟨⟨h_sk, h_sr, h_sw, h_sh⟩, win_sp hn hg, h100⟩, by rw [hz0]; omega⟩, ⟨⟨h_p0v, h_p1v, h_p2v, h_p3v⟩, by omega⟩, ⟨⟨h_v0v, h_v1v⟩, ?_⟩, ⟨h_w0v, ?_⟩, ⟨h_dn, ?_⟩, ⟨trivial, ?_⟩, ?_⟩
  · simp only [size_app (rShS _ _ _ _ _ _ _ _ _), size_str, List.length_append, numl, vecl]; omega
  · rw [size_app, size_app, size_str, size_str]
    simp only [List.length_append, numl, vecl]; omega
  · show _ ≤ 1099511627776
    rw [size_app, size_app, size_app, size_str, size_str, size_str]
    simp only [List.length_append, numl, vecl]; omega
  · show _ ≤ 1099511627776
    rw [size_app, size_app, size_app, size_app, size_str, size_str, size_str, size_str]
    simp only [List.length_append, numl, vecl, i8l]; omega
  · show SV.agg [.v (.string (r1S c n (fun i => (g i).1) (fun i => (g i).2))), .v (.bool _)] = SV.agg [.v (.string (r1S c n (fun i => (g i).1) (fun i => (g i).2))), .v (.bool (caB c (caB1 c n)))]
    simp only [Bool.or_false, Bool.false_or, caB, caB1, shBad, Bool.or_assoc]
theorem rcall_2 {c : CV} {n cap : Nat} {g : Nat → Int × Int} (hc : cvOk c) (hn : n < 1099511627776) (h100 : n < 100) (hg : ∀ i, i < n → I64 (g i).1 ∧ I64 (g i).2) : vcFn Try.prog ΓRc noΛ Try.f74 [caS 2 c (.sl 0 2 0 n cap)] (roHeap [⟨2, n, rowsP g⟩]) 64 (fun y _ => y = .agg [strS (rcS 2 c n g), bV (badB 2 c n)]) := by
  obtain ⟨h_id, h_bs, h_bg, h_ver, h_sk, h_sr, h_sw, h_sh, h_p0v, h_p1v, h_p2v, h_p3v, h_v0v, h_v1v, h_w0v, h_dn, h_a0v, h_a1v, h_t0v, h_t1v, h_gr, h_b0, h_b1, h_b2, h_b3, h_f0, h_f1, h_u0, h_u1⟩ := hc
  refine Eq.mpr (vcRCallW2 c n n cap g _) ⟨⟨⟨⟨by omega, by omega⟩, by omega, by omega⟩, Nat.zero_le _⟩, ⟨h_id, by show 1 ≤ 1099511627776; omega⟩, ⟨⟨h_bs, h_bg⟩, (by first | (show _ ≤ 1099511627776; simp only [size_app, size_str, esz, b1l, hLl, i8l, c4l, numl, vecl, List.length_append]; omega) | (show _ ≤ 1000000000; simp only [size_app, size_str, esz, b1l, hLl, i8l, c4l, numl, vecl, List.length_append]; omega) | (show _ ≤ 900000000; simp only [size_app, size_str, esz, b1l, hLl, i8l, c4l, numl, vecl, List.length_append]; omega))⟩, ⟨h_ver, (by first | (show _ ≤ 1099511627776; simp only [size_app, size_str, esz, b1l, hLl, i8l, c4l, numl, vecl, List.length_append]; omega) | (show _ ≤ 1000000000; simp only [size_app, size_str, esz, b1l, hLl, i8l, c4l, numl, vecl, List.length_append]; omega) | (show _ ≤ 900000000; simp only [size_app, size_str, esz, b1l, hLl, i8l, c4l, numl, vecl, List.length_append]; omega))⟩, ?_⟩
  have hs : rcS 2 c n g = strOfNums (caL 2 c (caT2 c n (fun i => (g i).1) (fun i => (g i).2))) := rfl
  rw [hs]
  have e1 : ∀ (s : ByteArray) (b : Bool), s = strOfNums (caL 2 c (caT2 c n (fun i => (g i).1) (fun i => (g i).2))) → b = caB c (caB2 c n) → SV.agg [.v (.string s), .v (.bool b)] = SV.agg [strS (strOfNums (caL 2 c (caT2 c n (fun i => (g i).1) (fun i => (g i).2)))), bV (caB c (caB2 c n))] := fun s b h1 h2 => by rw [h1, h2]; rfl
  refine e1 _ _ ?_ ?_
  · show emp ++ _ ++ _ ++ _ ++ _ = _
    rw [emp_app, str_append, str_append, str_append]
    congr 1
  · simp only [Bool.or_false, Bool.false_or, caB, caB2, hBad, Bool.or_assoc]
theorem rcall_3 {c : CV} {n cap : Nat} {g : Nat → Int × Int} (hc : cvOk c) (hn : n < 1099511627776) (h100 : n < 100) (hg : ∀ i, i < n → I64 (g i).1 ∧ I64 (g i).2) : vcFn Try.prog ΓRc noΛ Try.f74 [caS 3 c (.sl 0 2 0 n cap)] (roHeap [⟨2, n, rowsP g⟩]) 64 (fun y _ => y = .agg [strS (rcS 3 c n g), bV (badB 3 c n)]) := by
  obtain ⟨h_id, h_bs, h_bg, h_ver, h_sk, h_sr, h_sw, h_sh, h_p0v, h_p1v, h_p2v, h_p3v, h_v0v, h_v1v, h_w0v, h_dn, h_a0v, h_a1v, h_t0v, h_t1v, h_gr, h_b0, h_b1, h_b2, h_b3, h_f0, h_f1, h_u0, h_u1⟩ := hc
  refine Eq.mpr (vcRCallW3 c n n cap g _) ⟨⟨⟨⟨by omega, by omega⟩, by omega, by omega⟩, Nat.zero_le _⟩, ⟨h_id, by show 1 ≤ 1099511627776; omega⟩, ⟨⟨h_bs, h_bg⟩, (by first | (show _ ≤ 1099511627776; simp only [size_app, size_str, esz, b1l, hLl, i8l, c4l, numl, vecl, List.length_append]; omega) | (show _ ≤ 1000000000; simp only [size_app, size_str, esz, b1l, hLl, i8l, c4l, numl, vecl, List.length_append]; omega) | (show _ ≤ 900000000; simp only [size_app, size_str, esz, b1l, hLl, i8l, c4l, numl, vecl, List.length_append]; omega))⟩, ⟨h_ver, (by first | (show _ ≤ 1099511627776; simp only [size_app, size_str, esz, b1l, hLl, i8l, c4l, numl, vecl, List.length_append]; omega) | (show _ ≤ 1000000000; simp only [size_app, size_str, esz, b1l, hLl, i8l, c4l, numl, vecl, List.length_append]; omega) | (show _ ≤ 900000000; simp only [size_app, size_str, esz, b1l, hLl, i8l, c4l, numl, vecl, List.length_append]; omega))⟩, ⟨⟨h_a0v, h_a1v⟩, (by first | (show _ ≤ 1099511627776; simp only [size_app, size_str, esz, b1l, hLl, i8l, c4l, numl, vecl, List.length_append]; omega) | (show _ ≤ 1000000000; simp only [size_app, size_str, esz, b1l, hLl, i8l, c4l, numl, vecl, List.length_append]; omega) | (show _ ≤ 900000000; simp only [size_app, size_str, esz, b1l, hLl, i8l, c4l, numl, vecl, List.length_append]; omega))⟩, ⟨⟨h_t0v, h_t1v⟩, (by first | (show _ ≤ 1099511627776; simp only [size_app, size_str, esz, b1l, hLl, i8l, c4l, numl, vecl, List.length_append]; omega) | (show _ ≤ 1000000000; simp only [size_app, size_str, esz, b1l, hLl, i8l, c4l, numl, vecl, List.length_append]; omega) | (show _ ≤ 900000000; simp only [size_app, size_str, esz, b1l, hLl, i8l, c4l, numl, vecl, List.length_append]; omega))⟩, ?_⟩
  have hs : rcS 3 c n g = strOfNums (caL 3 c (caT3 c n (fun i => (g i).1) (fun i => (g i).2))) := rfl
  rw [hs]
  have e1 : ∀ (s : ByteArray) (b : Bool), s = strOfNums (caL 3 c (caT3 c n (fun i => (g i).1) (fun i => (g i).2))) → b = caB c (caB3 c n) → SV.agg [.v (.string s), .v (.bool b)] = SV.agg [strS (strOfNums (caL 3 c (caT3 c n (fun i => (g i).1) (fun i => (g i).2)))), bV (caB c (caB3 c n))] := fun s b h1 h2 => by rw [h1, h2]; rfl
  refine e1 _ _ ?_ ?_
  · show emp ++ _ ++ _ ++ _ ++ _ ++ _ ++ _ = _
    rw [emp_app, str_append, str_append, str_append, str_append, str_append]
    congr 1
  · simp only [Bool.or_false, Bool.false_or, caB, caB3, hBad, Bool.or_assoc]
theorem rcall_4 {c : CV} {n cap : Nat} {g : Nat → Int × Int} (hc : cvOk c) (hn : n < 1099511627776) (h100 : n < 100) (hg : ∀ i, i < n → I64 (g i).1 ∧ I64 (g i).2) : vcFn Try.prog ΓRc noΛ Try.f74 [caS 4 c (.sl 0 2 0 n cap)] (roHeap [⟨2, n, rowsP g⟩]) 64 (fun y _ => y = .agg [strS (rcS 4 c n g), bV (badB 4 c n)]) := by
  obtain ⟨h_id, h_bs, h_bg, h_ver, h_sk, h_sr, h_sw, h_sh, h_p0v, h_p1v, h_p2v, h_p3v, h_v0v, h_v1v, h_w0v, h_dn, h_a0v, h_a1v, h_t0v, h_t1v, h_gr, h_b0, h_b1, h_b2, h_b3, h_f0, h_f1, h_u0, h_u1⟩ := hc
  refine Eq.mpr (vcRCallW4 c n n cap g _) ⟨⟨⟨⟨by omega, by omega⟩, by omega, by omega⟩, Nat.zero_le _⟩, ⟨h_id, by show 1 ≤ 1099511627776; omega⟩, ⟨⟨h_bs, h_bg⟩, (by first | (show _ ≤ 1099511627776; simp only [size_app, size_str, esz, b1l, hLl, i8l, c4l, numl, vecl, List.length_append]; omega) | (show _ ≤ 1000000000; simp only [size_app, size_str, esz, b1l, hLl, i8l, c4l, numl, vecl, List.length_append]; omega) | (show _ ≤ 900000000; simp only [size_app, size_str, esz, b1l, hLl, i8l, c4l, numl, vecl, List.length_append]; omega))⟩, ⟨h_ver, (by first | (show _ ≤ 1099511627776; simp only [size_app, size_str, esz, b1l, hLl, i8l, c4l, numl, vecl, List.length_append]; omega) | (show _ ≤ 1000000000; simp only [size_app, size_str, esz, b1l, hLl, i8l, c4l, numl, vecl, List.length_append]; omega) | (show _ ≤ 900000000; simp only [size_app, size_str, esz, b1l, hLl, i8l, c4l, numl, vecl, List.length_append]; omega))⟩, ⟨⟨h_a0v, h_a1v⟩, (by first | (show _ ≤ 1099511627776; simp only [size_app, size_str, esz, b1l, hLl, i8l, c4l, numl, vecl, List.length_append]; omega) | (show _ ≤ 1000000000; simp only [size_app, size_str, esz, b1l, hLl, i8l, c4l, numl, vecl, List.length_append]; omega) | (show _ ≤ 900000000; simp only [size_app, size_str, esz, b1l, hLl, i8l, c4l, numl, vecl, List.length_append]; omega))⟩, ?_⟩
  have hs : rcS 4 c n g = strOfNums (caL 4 c (caT4 c n (fun i => (g i).1) (fun i => (g i).2))) := rfl
  rw [hs]
  have e1 : ∀ (s : ByteArray) (b : Bool), s = strOfNums (caL 4 c (caT4 c n (fun i => (g i).1) (fun i => (g i).2))) → b = caB c (caB4 c n) → SV.agg [.v (.string s), .v (.bool b)] = SV.agg [strS (strOfNums (caL 4 c (caT4 c n (fun i => (g i).1) (fun i => (g i).2)))), bV (caB c (caB4 c n))] := fun s b h1 h2 => by rw [h1, h2]; rfl
  refine e1 _ _ ?_ ?_
  · show emp ++ _ ++ _ ++ _ ++ _ ++ _ = _
    rw [emp_app, str_append, str_append, str_append, str_append]
    congr 1
  · simp only [Bool.or_false, Bool.false_or, caB, caB4, hBad, Bool.or_assoc]
theorem rcall_5 {c : CV} {n cap : Nat} {g : Nat → Int × Int} (hc : cvOk c) (hn : n < 1099511627776) (h100 : n < 100) (hg : ∀ i, i < n → I64 (g i).1 ∧ I64 (g i).2) : vcFn Try.prog ΓRc noΛ Try.f74 [caS 5 c (.sl 0 2 0 n cap)] (roHeap [⟨2, n, rowsP g⟩]) 64 (fun y _ => y = .agg [strS (rcS 5 c n g), bV (badB 5 c n)]) := by
  obtain ⟨h_id, h_bs, h_bg, h_ver, h_sk, h_sr, h_sw, h_sh, h_p0v, h_p1v, h_p2v, h_p3v, h_v0v, h_v1v, h_w0v, h_dn, h_a0v, h_a1v, h_t0v, h_t1v, h_gr, h_b0, h_b1, h_b2, h_b3, h_f0, h_f1, h_u0, h_u1⟩ := hc
  refine Eq.mpr (vcRCallW5 c n n cap g _) ⟨⟨⟨⟨by omega, by omega⟩, by omega, by omega⟩, Nat.zero_le _⟩, ⟨h_id, by show 1 ≤ 1099511627776; omega⟩, ⟨h_gr, (by first | (show _ ≤ 1099511627776; simp only [size_app, size_str, esz, b1l, hLl, i8l, c4l, numl, vecl, List.length_append]; omega) | (show _ ≤ 1000000000; simp only [size_app, size_str, esz, b1l, hLl, i8l, c4l, numl, vecl, List.length_append]; omega) | (show _ ≤ 900000000; simp only [size_app, size_str, esz, b1l, hLl, i8l, c4l, numl, vecl, List.length_append]; omega))⟩, ⟨⟨h_t0v, h_t1v⟩, (by first | (show _ ≤ 1099511627776; simp only [size_app, size_str, esz, b1l, hLl, i8l, c4l, numl, vecl, List.length_append]; omega) | (show _ ≤ 1000000000; simp only [size_app, size_str, esz, b1l, hLl, i8l, c4l, numl, vecl, List.length_append]; omega) | (show _ ≤ 900000000; simp only [size_app, size_str, esz, b1l, hLl, i8l, c4l, numl, vecl, List.length_append]; omega))⟩, ?_⟩
  have hs : rcS 5 c n g = strOfNums (caL 5 c (caT5 c n (fun i => (g i).1) (fun i => (g i).2))) := rfl
  rw [hs]
  have e1 : ∀ (s : ByteArray) (b : Bool), s = strOfNums (caL 5 c (caT5 c n (fun i => (g i).1) (fun i => (g i).2))) → b = caB c (caB5 c n) → SV.agg [.v (.string s), .v (.bool b)] = SV.agg [strS (strOfNums (caL 5 c (caT5 c n (fun i => (g i).1) (fun i => (g i).2)))), bV (caB c (caB5 c n))] := fun s b h1 h2 => by rw [h1, h2]; rfl
  refine e1 _ _ ?_ ?_
  · show emp ++ _ ++ _ ++ _ ++ _ = _
    rw [emp_app, str_append, str_append, str_append]
    congr 1
  · simp only [Bool.or_false, Bool.false_or, caB, caB5, hBad, Bool.or_assoc]
theorem rcall_6 {c : CV} {n cap : Nat} {g : Nat → Int × Int} (hc : cvOk c) (hn : n < 1099511627776) (h100 : n < 100) (hg : ∀ i, i < n → I64 (g i).1 ∧ I64 (g i).2) : vcFn Try.prog ΓRc noΛ Try.f74 [caS 6 c (.sl 0 2 0 n cap)] (roHeap [⟨2, n, rowsP g⟩]) 64 (fun y _ => y = .agg [strS (rcS 6 c n g), bV (badB 6 c n)]) := by
  obtain ⟨h_id, h_bs, h_bg, h_ver, h_sk, h_sr, h_sw, h_sh, h_p0v, h_p1v, h_p2v, h_p3v, h_v0v, h_v1v, h_w0v, h_dn, h_a0v, h_a1v, h_t0v, h_t1v, h_gr, h_b0, h_b1, h_b2, h_b3, h_f0, h_f1, h_u0, h_u1⟩ := hc
  refine Eq.mpr (vcRCallW6 c n n cap g _) ⟨⟨⟨⟨by omega, by omega⟩, by omega, by omega⟩, Nat.zero_le _⟩, ⟨h_id, by show 1 ≤ 1099511627776; omega⟩, ⟨h_gr, (by first | (show _ ≤ 1099511627776; simp only [size_app, size_str, esz, b1l, hLl, i8l, c4l, numl, vecl, List.length_append]; omega) | (show _ ≤ 1000000000; simp only [size_app, size_str, esz, b1l, hLl, i8l, c4l, numl, vecl, List.length_append]; omega) | (show _ ≤ 900000000; simp only [size_app, size_str, esz, b1l, hLl, i8l, c4l, numl, vecl, List.length_append]; omega))⟩, ?_⟩
  have hs : rcS 6 c n g = strOfNums (caL 6 c (caT6 c n (fun i => (g i).1) (fun i => (g i).2))) := rfl
  rw [hs]
  have e1 : ∀ (s : ByteArray) (b : Bool), s = strOfNums (caL 6 c (caT6 c n (fun i => (g i).1) (fun i => (g i).2))) → b = caB c (caB6 c n) → SV.agg [.v (.string s), .v (.bool b)] = SV.agg [strS (strOfNums (caL 6 c (caT6 c n (fun i => (g i).1) (fun i => (g i).2)))), bV (caB c (caB6 c n))] := fun s b h1 h2 => by rw [h1, h2]; rfl
  refine e1 _ _ ?_ ?_
  · show emp ++ _ ++ _ ++ _ = _
    rw [emp_app, str_append, str_append]
    congr 1
  · simp only [Bool.or_false, Bool.false_or, caB, caB6, hBad, Bool.or_assoc]
theorem rcall_7 {c : CV} {n cap : Nat} {g : Nat → Int × Int} (hc : cvOk c) (hn : n < 1099511627776) (h100 : n < 100) (hg : ∀ i, i < n → I64 (g i).1 ∧ I64 (g i).2) : vcFn Try.prog ΓRc noΛ Try.f74 [caS 7 c (.sl 0 2 0 n cap)] (roHeap [⟨2, n, rowsP g⟩]) 64 (fun y _ => y = .agg [strS (rcS 7 c n g), bV (badB 7 c n)]) := by
  obtain ⟨h_id, h_bs, h_bg, h_ver, h_sk, h_sr, h_sw, h_sh, h_p0v, h_p1v, h_p2v, h_p3v, h_v0v, h_v1v, h_w0v, h_dn, h_a0v, h_a1v, h_t0v, h_t1v, h_gr, h_b0, h_b1, h_b2, h_b3, h_f0, h_f1, h_u0, h_u1⟩ := hc
  refine Eq.mpr (vcRCallW7 c n n cap g _) ⟨⟨⟨⟨by omega, by omega⟩, by omega, by omega⟩, Nat.zero_le _⟩, ⟨h_id, by show 1 ≤ 1099511627776; omega⟩, ⟨⟨h_bs, h_bg⟩, (by first | (show _ ≤ 1099511627776; simp only [size_app, size_str, esz, b1l, hLl, i8l, c4l, numl, vecl, List.length_append]; omega) | (show _ ≤ 1000000000; simp only [size_app, size_str, esz, b1l, hLl, i8l, c4l, numl, vecl, List.length_append]; omega) | (show _ ≤ 900000000; simp only [size_app, size_str, esz, b1l, hLl, i8l, c4l, numl, vecl, List.length_append]; omega))⟩, ?_⟩
  have hs : rcS 7 c n g = strOfNums (caL 7 c (caT7 c n (fun i => (g i).1) (fun i => (g i).2))) := rfl
  rw [hs]
  have e1 : ∀ (s : ByteArray) (b : Bool), s = strOfNums (caL 7 c (caT7 c n (fun i => (g i).1) (fun i => (g i).2))) → b = caB c (caB7 c n) → SV.agg [.v (.string s), .v (.bool b)] = SV.agg [strS (strOfNums (caL 7 c (caT7 c n (fun i => (g i).1) (fun i => (g i).2)))), bV (caB c (caB7 c n))] := fun s b h1 h2 => by rw [h1, h2]; rfl
  refine e1 _ _ ?_ ?_
  · show emp ++ _ ++ _ ++ _ = _
    rw [emp_app, str_append, str_append]
    congr 1
  · simp only [Bool.or_false, Bool.false_or, caB, caB7, hBad, Bool.or_assoc]
theorem rcall_8 {c : CV} {n cap : Nat} {g : Nat → Int × Int} (hc : cvOk c) (hn : n < 1099511627776) (h100 : n < 100) (hg : ∀ i, i < n → I64 (g i).1 ∧ I64 (g i).2) : vcFn Try.prog ΓRc noΛ Try.f74 [caS 8 c (.sl 0 2 0 n cap)] (roHeap [⟨2, n, rowsP g⟩]) 64 (fun y _ => y = .agg [strS (rcS 8 c n g), bV (badB 8 c n)]) := by
  obtain ⟨h_id, h_bs, h_bg, h_ver, h_sk, h_sr, h_sw, h_sh, h_p0v, h_p1v, h_p2v, h_p3v, h_v0v, h_v1v, h_w0v, h_dn, h_a0v, h_a1v, h_t0v, h_t1v, h_gr, h_b0, h_b1, h_b2, h_b3, h_f0, h_f1, h_u0, h_u1⟩ := hc
  refine Eq.mpr (vcRCallW8 c n n cap g _) ⟨⟨⟨⟨by omega, by omega⟩, by omega, by omega⟩, Nat.zero_le _⟩, ⟨h_id, by show 1 ≤ 1099511627776; omega⟩, ⟨h_b0, (by first | (show _ ≤ 1099511627776; simp only [size_app, size_str, esz, b1l, hLl, i8l, c4l, numl, vecl, List.length_append]; omega) | (show _ ≤ 1000000000; simp only [size_app, size_str, esz, b1l, hLl, i8l, c4l, numl, vecl, List.length_append]; omega) | (show _ ≤ 900000000; simp only [size_app, size_str, esz, b1l, hLl, i8l, c4l, numl, vecl, List.length_append]; omega))⟩, ⟨h_b1, (by first | (show _ ≤ 1099511627776; simp only [size_app, size_str, esz, b1l, hLl, i8l, c4l, numl, vecl, List.length_append]; omega) | (show _ ≤ 1000000000; simp only [size_app, size_str, esz, b1l, hLl, i8l, c4l, numl, vecl, List.length_append]; omega) | (show _ ≤ 900000000; simp only [size_app, size_str, esz, b1l, hLl, i8l, c4l, numl, vecl, List.length_append]; omega))⟩, ⟨h_b2, (by first | (show _ ≤ 1099511627776; simp only [size_app, size_str, esz, b1l, hLl, i8l, c4l, numl, vecl, List.length_append]; omega) | (show _ ≤ 1000000000; simp only [size_app, size_str, esz, b1l, hLl, i8l, c4l, numl, vecl, List.length_append]; omega) | (show _ ≤ 900000000; simp only [size_app, size_str, esz, b1l, hLl, i8l, c4l, numl, vecl, List.length_append]; omega))⟩, ⟨h_b3, (by first | (show _ ≤ 1099511627776; simp only [size_app, size_str, esz, b1l, hLl, i8l, c4l, numl, vecl, List.length_append]; omega) | (show _ ≤ 1000000000; simp only [size_app, size_str, esz, b1l, hLl, i8l, c4l, numl, vecl, List.length_append]; omega) | (show _ ≤ 900000000; simp only [size_app, size_str, esz, b1l, hLl, i8l, c4l, numl, vecl, List.length_append]; omega))⟩, ?_⟩
  have hs : rcS 8 c n g = strOfNums (caL 8 c (caT8 c n (fun i => (g i).1) (fun i => (g i).2))) := rfl
  rw [hs]
  have e1 : ∀ (s : ByteArray) (b : Bool), s = strOfNums (caL 8 c (caT8 c n (fun i => (g i).1) (fun i => (g i).2))) → b = caB c (caB8 c n) → SV.agg [.v (.string s), .v (.bool b)] = SV.agg [strS (strOfNums (caL 8 c (caT8 c n (fun i => (g i).1) (fun i => (g i).2)))), bV (caB c (caB8 c n))] := fun s b h1 h2 => by rw [h1, h2]; rfl
  refine e1 _ _ ?_ ?_
  · show emp ++ _ ++ _ ++ _ ++ _ ++ _ ++ _ = _
    rw [emp_app, str_append, str_append, str_append, str_append, str_append]
    congr 1
  · simp only [Bool.or_false, Bool.false_or, caB, caB8, hBad, Bool.or_assoc]
theorem rcall_9 {c : CV} {n cap : Nat} {g : Nat → Int × Int} (hc : cvOk c) (hn : n < 1099511627776) (h100 : n < 100) (hg : ∀ i, i < n → I64 (g i).1 ∧ I64 (g i).2) : vcFn Try.prog ΓRc noΛ Try.f74 [caS 9 c (.sl 0 2 0 n cap)] (roHeap [⟨2, n, rowsP g⟩]) 64 (fun y _ => y = .agg [strS (rcS 9 c n g), bV (badB 9 c n)]) := by
  obtain ⟨h_id, h_bs, h_bg, h_ver, h_sk, h_sr, h_sw, h_sh, h_p0v, h_p1v, h_p2v, h_p3v, h_v0v, h_v1v, h_w0v, h_dn, h_a0v, h_a1v, h_t0v, h_t1v, h_gr, h_b0, h_b1, h_b2, h_b3, h_f0, h_f1, h_u0, h_u1⟩ := hc
  refine Eq.mpr (vcRCallW9 c n n cap g _) ⟨⟨⟨⟨by omega, by omega⟩, by omega, by omega⟩, Nat.zero_le _⟩, ⟨h_id, by show 1 ≤ 1099511627776; omega⟩, ⟨⟨h_f0, h_f1⟩, (by first | (show _ ≤ 1099511627776; simp only [size_app, size_str, esz, b1l, hLl, i8l, c4l, numl, vecl, List.length_append]; omega) | (show _ ≤ 1000000000; simp only [size_app, size_str, esz, b1l, hLl, i8l, c4l, numl, vecl, List.length_append]; omega) | (show _ ≤ 900000000; simp only [size_app, size_str, esz, b1l, hLl, i8l, c4l, numl, vecl, List.length_append]; omega))⟩, ⟨⟨h_u0, h_u1⟩, (by first | (show _ ≤ 1099511627776; simp only [size_app, size_str, esz, b1l, hLl, i8l, c4l, numl, vecl, List.length_append]; omega) | (show _ ≤ 1000000000; simp only [size_app, size_str, esz, b1l, hLl, i8l, c4l, numl, vecl, List.length_append]; omega) | (show _ ≤ 900000000; simp only [size_app, size_str, esz, b1l, hLl, i8l, c4l, numl, vecl, List.length_append]; omega))⟩, ?_⟩
  have hs : rcS 9 c n g = strOfNums (caL 9 c (caT9 c n (fun i => (g i).1) (fun i => (g i).2))) := rfl
  rw [hs]
  have e1 : ∀ (s : ByteArray) (b : Bool), s = strOfNums (caL 9 c (caT9 c n (fun i => (g i).1) (fun i => (g i).2))) → b = caB c (caB9 c n) → SV.agg [.v (.string s), .v (.bool b)] = SV.agg [strS (strOfNums (caL 9 c (caT9 c n (fun i => (g i).1) (fun i => (g i).2)))), bV (caB c (caB9 c n))] := fun s b h1 h2 => by rw [h1, h2]; rfl
  refine e1 _ _ ?_ ?_
  · show emp ++ _ ++ _ ++ _ ++ _ = _
    rw [emp_app, str_append, str_append, str_append]
    congr 1
  · simp only [Bool.or_false, Bool.false_or, caB, caB9, hBad, Bool.or_assoc]
theorem rcall_10 {c : CV} {n cap : Nat} {g : Nat → Int × Int} (hc : cvOk c) (hn : n < 1099511627776) (h100 : n < 100) (hg : ∀ i, i < n → I64 (g i).1 ∧ I64 (g i).2) : vcFn Try.prog ΓRc noΛ Try.f74 [caS 10 c (.sl 0 2 0 n cap)] (roHeap [⟨2, n, rowsP g⟩]) 64 (fun y _ => y = .agg [strS (rcS 10 c n g), bV (badB 10 c n)]) := by
  obtain ⟨h_id, h_bs, h_bg, h_ver, h_sk, h_sr, h_sw, h_sh, h_p0v, h_p1v, h_p2v, h_p3v, h_v0v, h_v1v, h_w0v, h_dn, h_a0v, h_a1v, h_t0v, h_t1v, h_gr, h_b0, h_b1, h_b2, h_b3, h_f0, h_f1, h_u0, h_u1⟩ := hc
  refine Eq.mpr (vcRCallW10 c n n cap g _) ⟨⟨⟨⟨by omega, by omega⟩, by omega, by omega⟩, Nat.zero_le _⟩, ⟨h_id, by show 1 ≤ 1099511627776; omega⟩, ?_⟩
  have hs : rcS 10 c n g = strOfNums (caL 10 c (caT10 c n (fun i => (g i).1) (fun i => (g i).2))) := rfl
  rw [hs]
  have e1 : ∀ (s : ByteArray) (b : Bool), s = strOfNums (caL 10 c (caT10 c n (fun i => (g i).1) (fun i => (g i).2))) → b = caB c (caB10 c n) → SV.agg [.v (.string s), .v (.bool b)] = SV.agg [strS (strOfNums (caL 10 c (caT10 c n (fun i => (g i).1) (fun i => (g i).2)))), bV (caB c (caB10 c n))] := fun s b h1 h2 => by rw [h1, h2]; rfl
  refine e1 _ _ ?_ ?_
  · show emp ++ _ ++ _ = _
    rw [emp_app, str_append]
    congr 1
  · simp only [Bool.or_false, Bool.false_or, caB, caB10, hBad, Bool.or_assoc]
theorem RCallW_spec : RoSpec Try.prog 74 sRCallW := ro_spec hm ΓRc_ok Try.func74 (Λ := fun _ _ => noΛ) fun args bs p x hs hp => by
  unfold sRCallW at hs
  split at hs
  · rename_i l
    split at hs
    · rename_i k c n cap n' row hl
      have hs := Option.some.inj hs
      obtain ⟨rfl, rfl⟩ := Prod.mk.inj hs
      obtain ⟨⟨⟨h0, rfl, hn⟩, hc, hki, h100⟩, hk⟩ := hp _ rfl
      have h0 := okAll_rows.1 h0
      refine ⟨rfl, [⟨2, n', rowsP fun i => gi (row i)⟩], ⟨⟨rfl, rfl, fun i hi => (isPI_row (h0 i hi)).1⟩, trivial⟩, ?_⟩
      rw [cells_eq hl]
      have hg : ∀ i, i < n' → I64 ((fun i => gi (row i)) i).1 ∧ I64 ((fun i => gi (row i)) i).2 := fun i hi => (isPI_row (h0 i hi)).2
      rcases ten hk with rfl | rfl | rfl | rfl | rfl | rfl | rfl | rfl | rfl | rfl
      · exact rcall_1 hc hn h100 hg
      · exact rcall_2 hc hn h100 hg
      · exact rcall_3 hc hn h100 hg
      · exact rcall_4 hc hn h100 hg
      · exact rcall_5 hc hn h100 hg
      · exact rcall_6 hc hn h100 hg
      · exact rcall_7 hc hn h100 hg
      · exact rcall_8 hc hn h100 hg
      · exact rcall_9 hc hn h100 hg
      · exact rcall_10 hc hn h100 hg
    · cases hs
  · cases hs
theorem ΓRk_ok : ∀ f g, ΓRk f = some g → g.ok Try.prog f := addCtr_ok (addCtr_ok (addCtr_ok noCtrs_ok (hp_ok Try.func75 (by kernel_rfl) (by kernel_rfl) RUsed_spec)) (ro_ok Try.func30 (by kernel_rfl) (by kernel_rfl) RSameC_spec)) (ro_ok Try.func74 (by kernel_rfl) (by kernel_rfl) RCallW_spec)
theorem rchk_1 {c : CV} {n cap : Nat} {g : Nat → Int × Int} (hc : cvOk c) (hn : n < 1099511627776) (h100 : n < 100) (hg : ∀ i, i < n → I64 (g i).1 ∧ I64 (g i).2) : vcFn Try.prog ΓRk noΛ Try.f29 [caS 1 c (.sl 0 2 0 n cap)] (roHeap [⟨2, n, rowsP g⟩]) 64 (fun y _ => y = iV (callE 1 c n g)) := by
  refine Eq.mpr (vcRChk1 c n n cap g _) ⟨win_sp hn hg, ⟨pre_rows hn hg, pre_rows hn hg⟩, ?_⟩
  rw [gi_rows, formR]
  unfold callE
  rw [show kindOk 1 = true from rfl, cond_true]
  refine sel_of (fun e => ?_) fun e => ⟨⟨⟨pre_rows hn hg, hc, ⟨by omega, by omega⟩, h100⟩, by omega, by omega⟩, ?_⟩
  · rw [show formB 1 c n g = false by simpa using e]
    rfl
  · rw [show formB 1 c n g = true by simpa using e, cond_true]
    exact sel_of (fun e => by rw [e]; rfl) fun e => by rw [e]; rfl
theorem rchk_2 {c : CV} {n cap : Nat} {g : Nat → Int × Int} (hc : cvOk c) (hn : n < 1099511627776) (h100 : n < 100) (hg : ∀ i, i < n → I64 (g i).1 ∧ I64 (g i).2) : vcFn Try.prog ΓRk noΛ Try.f29 [caS 2 c (.sl 0 2 0 n cap)] (roHeap [⟨2, n, rowsP g⟩]) 64 (fun y _ => y = iV (callE 2 c n g)) := by
  refine Eq.mpr (vcRChk2 c n n cap g _) ⟨win_sp hn hg, pre_rows hn hg, ?_⟩
  rw [formR2 c n g]
  unfold callE
  rw [show kindOk 2 = true from rfl, cond_true]
  refine sel_of (fun e => ?_) fun e => ⟨⟨⟨pre_rows hn hg, hc, ⟨by omega, by omega⟩, h100⟩, by omega, by omega⟩, ?_⟩
  · rw [show formB 2 c n g = false by simpa using e]
    rfl
  · rw [show formB 2 c n g = true by simpa using e, cond_true]
    exact sel_of (fun e => by rw [e]; rfl) fun e => by rw [e]; rfl
theorem rchk_3 {c : CV} {n cap : Nat} {g : Nat → Int × Int} (hc : cvOk c) (hn : n < 1099511627776) (h100 : n < 100) (hg : ∀ i, i < n → I64 (g i).1 ∧ I64 (g i).2) : vcFn Try.prog ΓRk noΛ Try.f29 [caS 3 c (.sl 0 2 0 n cap)] (roHeap [⟨2, n, rowsP g⟩]) 64 (fun y _ => y = iV (callE 3 c n g)) := by
  refine Eq.mpr (vcRChk3 c n n cap g _) ⟨win_sp hn hg, pre_rows hn hg, ?_⟩
  rw [formR3 c n g]
  unfold callE
  rw [show kindOk 3 = true from rfl, cond_true]
  refine sel_of (fun e => ?_) fun e => ⟨⟨⟨pre_rows hn hg, hc, ⟨by omega, by omega⟩, h100⟩, by omega, by omega⟩, ?_⟩
  · rw [show formB 3 c n g = false by simpa using e]
    rfl
  · rw [show formB 3 c n g = true by simpa using e, cond_true]
    exact sel_of (fun e => by rw [e]; rfl) fun e => by rw [e]; rfl
theorem rchk_4 {c : CV} {n cap : Nat} {g : Nat → Int × Int} (hc : cvOk c) (hn : n < 1099511627776) (h100 : n < 100) (hg : ∀ i, i < n → I64 (g i).1 ∧ I64 (g i).2) : vcFn Try.prog ΓRk noΛ Try.f29 [caS 4 c (.sl 0 2 0 n cap)] (roHeap [⟨2, n, rowsP g⟩]) 64 (fun y _ => y = iV (callE 4 c n g)) := by
  refine Eq.mpr (vcRChk4 c n n cap g _) ⟨win_sp hn hg, pre_rows hn hg, ?_⟩
  rw [formR4 c n g]
  unfold callE
  rw [show kindOk 4 = true from rfl, cond_true]
  refine sel_of (fun e => ?_) fun e => ⟨⟨⟨pre_rows hn hg, hc, ⟨by omega, by omega⟩, h100⟩, by omega, by omega⟩, ?_⟩
  · rw [show formB 4 c n g = false by simpa using e]
    rfl
  · rw [show formB 4 c n g = true by simpa using e, cond_true]
    exact sel_of (fun e => by rw [e]; rfl) fun e => by rw [e]; rfl
theorem rchk_5 {c : CV} {n cap : Nat} {g : Nat → Int × Int} (hc : cvOk c) (hn : n < 1099511627776) (h100 : n < 100) (hg : ∀ i, i < n → I64 (g i).1 ∧ I64 (g i).2) : vcFn Try.prog ΓRk noΛ Try.f29 [caS 5 c (.sl 0 2 0 n cap)] (roHeap [⟨2, n, rowsP g⟩]) 64 (fun y _ => y = iV (callE 5 c n g)) := by
  refine Eq.mpr (vcRChk5 c n n cap g _) ⟨win_sp hn hg, pre_rows hn hg, ?_⟩
  rw [formR5 c n g]
  unfold callE
  rw [show kindOk 5 = true from rfl, cond_true]
  refine sel_of (fun e => ?_) fun e => ⟨⟨⟨pre_rows hn hg, hc, ⟨by omega, by omega⟩, h100⟩, by omega, by omega⟩, ?_⟩
  · rw [show formB 5 c n g = false by simpa using e]
    rfl
  · rw [show formB 5 c n g = true by simpa using e, cond_true]
    exact sel_of (fun e => by rw [e]; rfl) fun e => by rw [e]; rfl
theorem rchk_6 {c : CV} {n cap : Nat} {g : Nat → Int × Int} (hc : cvOk c) (hn : n < 1099511627776) (h100 : n < 100) (hg : ∀ i, i < n → I64 (g i).1 ∧ I64 (g i).2) : vcFn Try.prog ΓRk noΛ Try.f29 [caS 6 c (.sl 0 2 0 n cap)] (roHeap [⟨2, n, rowsP g⟩]) 64 (fun y _ => y = iV (callE 6 c n g)) := by
  refine Eq.mpr (vcRChk6 c n n cap g _) ⟨win_sp hn hg, pre_rows hn hg, ?_⟩
  rw [formR6 c n g]
  unfold callE
  rw [show kindOk 6 = true from rfl, cond_true]
  refine sel_of (fun e => ?_) fun e => ⟨⟨⟨pre_rows hn hg, hc, ⟨by omega, by omega⟩, h100⟩, by omega, by omega⟩, ?_⟩
  · rw [show formB 6 c n g = false by simpa using e]
    rfl
  · rw [show formB 6 c n g = true by simpa using e, cond_true]
    exact sel_of (fun e => by rw [e]; rfl) fun e => by rw [e]; rfl
theorem rchk_7 {c : CV} {n cap : Nat} {g : Nat → Int × Int} (hc : cvOk c) (hn : n < 1099511627776) (h100 : n < 100) (hg : ∀ i, i < n → I64 (g i).1 ∧ I64 (g i).2) : vcFn Try.prog ΓRk noΛ Try.f29 [caS 7 c (.sl 0 2 0 n cap)] (roHeap [⟨2, n, rowsP g⟩]) 64 (fun y _ => y = iV (callE 7 c n g)) := by
  refine Eq.mpr (vcRChk7 c n n cap g _) ⟨win_sp hn hg, pre_rows hn hg, ?_⟩
  rw [formR7 c n g]
  unfold callE
  rw [show kindOk 7 = true from rfl, cond_true]
  refine sel_of (fun e => ?_) fun e => ⟨⟨⟨pre_rows hn hg, hc, ⟨by omega, by omega⟩, h100⟩, by omega, by omega⟩, ?_⟩
  · rw [show formB 7 c n g = false by simpa using e]
    rfl
  · rw [show formB 7 c n g = true by simpa using e, cond_true]
    exact sel_of (fun e => by rw [e]; rfl) fun e => by rw [e]; rfl
theorem rchk_8 {c : CV} {n cap : Nat} {g : Nat → Int × Int} (hc : cvOk c) (hn : n < 1099511627776) (h100 : n < 100) (hg : ∀ i, i < n → I64 (g i).1 ∧ I64 (g i).2) : vcFn Try.prog ΓRk noΛ Try.f29 [caS 8 c (.sl 0 2 0 n cap)] (roHeap [⟨2, n, rowsP g⟩]) 64 (fun y _ => y = iV (callE 8 c n g)) := by
  refine Eq.mpr (vcRChk8 c n n cap g _) ⟨win_sp hn hg, pre_rows hn hg, ?_⟩
  rw [formR8 c n g]
  unfold callE
  rw [show kindOk 8 = true from rfl, cond_true]
  refine sel_of (fun e => ?_) fun e => ⟨⟨⟨pre_rows hn hg, hc, ⟨by omega, by omega⟩, h100⟩, by omega, by omega⟩, ?_⟩
  · rw [show formB 8 c n g = false by simpa using e]
    rfl
  · rw [show formB 8 c n g = true by simpa using e, cond_true]
    exact sel_of (fun e => by rw [e]; rfl) fun e => by rw [e]; rfl
theorem rchk_9 {c : CV} {n cap : Nat} {g : Nat → Int × Int} (hc : cvOk c) (hn : n < 1099511627776) (h100 : n < 100) (hg : ∀ i, i < n → I64 (g i).1 ∧ I64 (g i).2) : vcFn Try.prog ΓRk noΛ Try.f29 [caS 9 c (.sl 0 2 0 n cap)] (roHeap [⟨2, n, rowsP g⟩]) 64 (fun y _ => y = iV (callE 9 c n g)) := by
  refine Eq.mpr (vcRChk9 c n n cap g _) ⟨win_sp hn hg, pre_rows hn hg, ?_⟩
  rw [formR9 c n g]
  unfold callE
  rw [show kindOk 9 = true from rfl, cond_true]
  refine sel_of (fun e => ?_) fun e => ⟨⟨⟨pre_rows hn hg, hc, ⟨by omega, by omega⟩, h100⟩, by omega, by omega⟩, ?_⟩
  · rw [show formB 9 c n g = false by simpa using e]
    rfl
  · rw [show formB 9 c n g = true by simpa using e, cond_true]
    exact sel_of (fun e => by rw [e]; rfl) fun e => by rw [e]; rfl
theorem rchk_10 {c : CV} {n cap : Nat} {g : Nat → Int × Int} (hc : cvOk c) (hn : n < 1099511627776) (h100 : n < 100) (hg : ∀ i, i < n → I64 (g i).1 ∧ I64 (g i).2) : vcFn Try.prog ΓRk noΛ Try.f29 [caS 10 c (.sl 0 2 0 n cap)] (roHeap [⟨2, n, rowsP g⟩]) 64 (fun y _ => y = iV (callE 10 c n g)) := by
  refine Eq.mpr (vcRChk10 c n n cap g _) ⟨win_sp hn hg, pre_rows hn hg, ?_⟩
  rw [formR10 c n g]
  unfold callE
  rw [show kindOk 10 = true from rfl, cond_true]
  refine sel_of (fun e => ?_) fun e => ⟨⟨⟨pre_rows hn hg, hc, ⟨by omega, by omega⟩, h100⟩, by omega, by omega⟩, ?_⟩
  · rw [show formB 10 c n g = false by simpa using e]
    rfl
  · rw [show formB 10 c n g = true by simpa using e, cond_true]
    exact sel_of (fun e => by rw [e]; rfl) fun e => by rw [e]; rfl
end Go.Proofs.Ytjdldadmaaeimaa
end
