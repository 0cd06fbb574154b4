/-
  What the proof uses, part 13.
-/
import Derived.Test.YtjdldadmaaeimaaZr12

section
set_option maxRecDepth 100000
set_option linter.unusedSimpArgs false
set_option linter.unusedVariables false
namespace Go.Proofs.Ytjdldadmaaeimaa
open Go.SE Go.RowKit
theorem poBl (b : BV) : (poB b).length = 36 := by unfold poB; rw [List.length_append, vecl, List.length_append, numl, numl]
theorem voBl (b : BV) : (voB b).length = 18 := vecl _ _ _ _
theorem wmBl (b : BV) : (wmB b).length = 27 := by unfold wmB; rw [List.length_append, List.length_append, numl, numl, numl]
theorem bo_row (o : BV) (n0 : Nat) (g : Nat → Int) (n : Nat) (x y : Nat → Int) (mk : Int) (h : mk = bmk o) (i : Nat) : (apG (n0 + shN n + 36 + 18 + 27 + 4 + 1) (apG (n0 + shN n + 36 + 18 + 27 + 4) (apG (n0 + shN n + 36 + 18 + 27) (apG (n0 + shN n + 36 + 18) (apG (n0 + shN n + 36) (apG (n0 + shN n) (apG n0 g (shL o.sk o.sr o.sw o.sh n (fun i => x (0 + i)) (fun i => y (0 + i)))) (poB o)) (voB o)) (wmB o)) (c4 o.st)) [mk]) (i8 o.bv)) i = apG n0 g (boL o n x y) i := by
  subst h
  rw [show (fun i => x (0 + i)) = x from funext fun i => by rw [Nat.zero_add], show (fun i => y (0 + i)) = y from funext fun i => by rw [Nat.zero_add]]
  rw [apG_ap (n := n0 + shN n + 36 + 18 + 27 + 4) (m := n0 + shN n + 36 + 18 + 27 + 4 + 1) (L := [bmk o]) rfl]
  rw [apG_ap (n := n0 + shN n + 36 + 18 + 27) (m := n0 + shN n + 36 + 18 + 27 + 4) (add_ap (c4l _) rfl)]
  rw [apG_ap (n := n0 + shN n + 36 + 18) (m := n0 + shN n + 36 + 18 + 27) (add_ap (wmBl o) rfl)]
  rw [apG_ap (n := n0 + shN n + 36) (m := n0 + shN n + 36 + 18) (add_ap (voBl o) rfl)]
  rw [apG_ap (n := n0 + shN n) (m := n0 + shN n + 36) (add_ap (poBl o) rfl)]
  rw [apG_ap (n := n0) (m := n0 + shN n) (add_ap (shLl _ _ _ _ _ _ _) rfl)]
  rfl
theorem body_used {b : Bool} {n0 : Nat} {g : Nat → Int} {c : Nat} {o : BV} {e n m cap xt : Nat} {x y : Nat → Int} {wh : Bool} (hc : bvOk o) (hn0 : n0 ≤ 800000000) (hn : n < 100) (hv : ∀ i, i < n → I64 (x i) ∧ I64 (y i)) : vcFn Try.prog ΓPb noΛ Try.f93 [.vp 0 0, boS o (.sl 2 2 0 n cap)] (heapOf [wB (some b) false (.sl 1 1 0 n0 c), bG n0 g c, ptB e m x y xt wh]) 64 (fun y' h' => FinE [wB (some b) false (.sl 1 1 0 n0 c), bG n0 g c, ptB e m x y xt wh] (apE (.used (some b) n0 g c True) 0 True (boN n) (boL o n x y) (boBad o n)) y' h') := by
  have hsn := shN_le n
  obtain ⟨h_sk, h_sr, h_sw, h_sh, h_p0v, h_p1v, h_p2v, h_p3v, h_v0v, h_v1v, h_w0v, h_m0v, h_m1v, h_st, h_bv⟩ := hc
  refine Eq.mpr (vcBodyU b n0 g c o e n m cap xt x y wh) ⟨⟨⟨bytesOk_bG _ _ _ (by omega), (by first | (show _ ≤ 1099511627776; omega) | (show _ ≤ 1000000000; omega) | (show _ ≤ 900000000; omega) | (show _ ≤ 800000000; omega))⟩, ⟨⟨h_sk, h_sr, h_sw, h_sh⟩, rfl, hn⟩, fun i hi => by rw [Nat.zero_add]; exact hv i hi⟩, fun d1 => ⟨⟨⟨bytesOk_bG _ _ _ (by omega), (by first | (show _ ≤ 1099511627776; omega) | (show _ ≤ 1000000000; omega) | (show _ ≤ 900000000; omega) | (show _ ≤ 800000000; omega))⟩, ⟨h_p0v, h_p1v, h_p2v, h_p3v⟩⟩, fun d2 => ⟨⟨⟨bytesOk_bG _ _ _ (by omega), (by first | (show _ ≤ 1099511627776; omega) | (show _ ≤ 1000000000; omega) | (show _ ≤ 900000000; omega) | (show _ ≤ 800000000; omega))⟩, ⟨h_v0v, h_v1v⟩⟩, fun d3 => ⟨⟨⟨bytesOk_bG _ _ _ (by omega), (by first | (show _ ≤ 1099511627776; omega) | (show _ ≤ 1000000000; omega) | (show _ ≤ 900000000; omega) | (show _ ≤ 800000000; omega))⟩, ⟨rfl, by omega, by omega, fun i hi => by
    have : i = 0 ∨ i = 1 ∨ i = 2 := by omega
    rcases this with rfl | rfl | rfl
    · exact h_w0v
    · exact h_m0v
    · exact h_m1v⟩⟩, fun d4 => ⟨⟨⟨bytesOk_bG _ _ _ (by omega), (by first | (show _ ≤ 1099511627776; omega) | (show _ ≤ 1000000000; omega) | (show _ ≤ 900000000; omega) | (show _ ≤ 800000000; omega))⟩, h_st⟩, fun d5 => sel_of (fun ea => sel_of (fun ef => ⟨⟨⟨bytesOk_bG _ _ _ (by omega), (by first | (show _ ≤ 1099511627776; omega) | (show _ ≤ 1000000000; omega) | (show _ ≤ 900000000; omega) | (show _ ≤ 800000000; omega))⟩, ⟨by omega, by omega⟩⟩, fun d6 => ⟨⟨⟨bytesOk_bG _ _ _ (by omega), (by first | (show _ ≤ 1099511627776; omega) | (show _ ≤ 1000000000; omega) | (show _ ≤ 900000000; omega) | (show _ ≤ 800000000; omega))⟩, h_bv⟩, fun d7 => tailU ?_ ?_ fun i hi => bo_row o n0 g n x y 3 (by unfold bmk; rw [ea, ef]; rfl) i⟩⟩) fun ef => ⟨⟨⟨bytesOk_bG _ _ _ (by omega), (by first | (show _ ≤ 1099511627776; omega) | (show _ ≤ 1000000000; omega) | (show _ ≤ 900000000; omega) | (show _ ≤ 800000000; omega))⟩, ⟨by omega, by omega⟩⟩, fun d6 => ⟨⟨⟨bytesOk_bG _ _ _ (by omega), (by first | (show _ ≤ 1099511627776; omega) | (show _ ≤ 1000000000; omega) | (show _ ≤ 900000000; omega) | (show _ ≤ 800000000; omega))⟩, h_bv⟩, fun d7 => tailU ?_ ?_ fun i hi => bo_row o n0 g n x y 1 (by unfold bmk; rw [ea, ef]; rfl) i⟩⟩) fun ea => sel_of (fun ef => ⟨⟨⟨bytesOk_bG _ _ _ (by omega), (by first | (show _ ≤ 1099511627776; omega) | (show _ ≤ 1000000000; omega) | (show _ ≤ 900000000; omega) | (show _ ≤ 800000000; omega))⟩, ⟨by omega, by omega⟩⟩, fun d6 => ⟨⟨⟨bytesOk_bG _ _ _ (by omega), (by first | (show _ ≤ 1099511627776; omega) | (show _ ≤ 1000000000; omega) | (show _ ≤ 900000000; omega) | (show _ ≤ 800000000; omega))⟩, h_bv⟩, fun d7 => tailU ?_ ?_ fun i hi => bo_row o n0 g n x y 2 (by unfold bmk; rw [ea, ef]; rfl) i⟩⟩) fun ef => ⟨⟨⟨bytesOk_bG _ _ _ (by omega), (by first | (show _ ≤ 1099511627776; omega) | (show _ ≤ 1000000000; omega) | (show _ ≤ 900000000; omega) | (show _ ≤ 800000000; omega))⟩, ⟨by omega, by omega⟩⟩, fun d6 => ⟨⟨⟨bytesOk_bG _ _ _ (by omega), (by first | (show _ ≤ 1099511627776; omega) | (show _ ≤ 1000000000; omega) | (show _ ≤ 900000000; omega) | (show _ ≤ 800000000; omega))⟩, h_bv⟩, fun d7 => tailU ?_ ?_ fun i hi => bo_row o n0 g n x y 0 (by unfold bmk; rw [ea, ef]; rfl) i⟩⟩⟩⟩⟩⟩⟩
  · show _ = n0 + (shN n + 94)
    omega
  · simp only [Bool.or_false, boBad, shBad, anyMin, nV, bop, Bool.false_or, Bool.or_assoc]
    first | rfl | skip
  · show _ = n0 + (shN n + 94)
    omega
  · simp only [Bool.or_false, boBad, shBad, anyMin, nV, bop, Bool.false_or, Bool.or_assoc]
    first | rfl | skip
  · show _ = n0 + (shN n + 94)
    omega
  · simp only [Bool.or_false, boBad, shBad, anyMin, nV, bop, Bool.false_or, Bool.or_assoc]
    first | rfl | skip
  · show _ = n0 + (shN n + 94)
    omega
  · simp only [Bool.or_false, boBad, shBad, anyMin, nV, bop, Bool.false_or, Bool.or_assoc]
    first | rfl | skip
theorem ΓPb_ok : ∀ f g, ΓPb f = some g → g.ok Try.prog f := addCtr_ok (addCtr_ok ΓG0_ok (hp_ok Try.func118 (by kernel_rfl) (by kernel_rfl) Small_spec)) (hp_ok Try.func97 (by kernel_rfl) (by kernel_rfl) Shape_spec)
theorem Body_spec : HpSpec Try.prog 93 sBody := hp_spec hm ΓPb_ok Try.func93 (Λ := fun _ _ => noΛ) fun args bs e hs hp => by
  unfold sBody at hs
  split at hs
  · rename_i l
    split at hs
    · rename_i o n cap B D S hl
      split at hs
      · rename_i b n0 g c p hw
        obtain ⟨hS, he⟩ := bif_some hs
        subst he
        obtain ⟨⟨hp, hm⟩, hc, hsp, hn⟩ := hp
        have hsame := (wrOf_used hw hp).1
        refine ⟨[wB (some b) false (.sl 1 1 0 n0 c), bG n0 g c, ptB S.elem n (gX S) (gY S) S.ext S.whole], ⟨hsame.1, hsame.2.1, same_ptB hS hsp, trivial⟩, ?_⟩
        rw [bods_eq hl]
        exact body_used hc hm hn (pre_of hsp).2
      · cases hs
    · cases hs
  · cases hs
theorem ΓPr_ok : ∀ f g, ΓPr f = some g → g.ok Try.prog f := addCtr_ok (addCtr_ok ΓG0_ok (hp_ok Try.func118 (by kernel_rfl) (by kernel_rfl) Small_spec)) (hp_ok Try.func93 (by kernel_rfl) (by kernel_rfl) Body_spec)
theorem wpt_sp {e n xt : Nat} {x y : Nat → Int} {wh : Bool} (hn : n < 100) (hv : ∀ i, i < n → I64 (x i) ∧ I64 (y i)) : spPre n (winBlk (ptB e n x y xt wh) 2 0 n) := ⟨okAll_rows.2 fun i hi => by
  show isPI [SV.v (.int .i64 (x (0 + i))), SV.v (.int .i64 (y (0 + i)))]
  rw [Nat.zero_add]; exact hv i hi, rfl, by omega⟩
theorem wpt_gX {e n xt : Nat} {x y : Nat → Int} {wh : Bool} : gX (winBlk (ptB e n x y xt wh) 2 0 n) = x := funext fun i => by
  show x (0 + i) = x i
  rw [Nat.zero_add]
theorem wpt_gY {e n xt : Nat} {x y : Nat → Int} {wh : Bool} : gY (winBlk (ptB e n x y xt wh) 2 0 n) = y := funext fun i => by
  show y (0 + i) = y i
  rw [Nat.zero_add]
theorem hsL_len (u v : Nat → Int) : ∀ m : Nat, (hsL u v m).length = 8 * m
  | 0 => rfl
  | m + 1 => by
    show (hsL u v m ++ hL (u m) (v m)).length = _
    rw [List.length_append, hsL_len u v m, hLl]; omega
theorem apG_listL {A : List Int} {n : Nat} (h : A.length = n) (M : List Int) (i : Nat) : apG n (fun i => A.getD i 0) M i = (A ++ M).getD i 0 := by
  subst h
  by_cases h1 : i < A.length
  · rw [apG_old h1, List.getD_eq_getElem?_getD, List.getD_eq_getElem?_getD, List.getElem?_append_left h1]
  · rw [apG_new h1, List.getD_eq_getElem?_getD, List.getD_eq_getElem?_getD, List.getElem?_append_right (by omega)]
theorem reply_1 {b : Bool} {c : RV} {e1 n cap xt : Nat} {x y : Nat → Int} {wh : Bool} {e2 m cp xt2 : Nat} {u v : Nat → Int} {wh2 : Bool} (hc : rvOk c) (hn : n < 100) (hv : ∀ i, i < n → I64 (x i) ∧ I64 (y i)) (hm : m < 200) (hw : ∀ i, i < m → I64 (u i) ∧ I64 (v i)) : vcFn Try.prog ΓPr noΛ Try.f78 [.vp 0 0, reS 1 0 c (.sl 1 2 0 n cap) (.sl 2 2 0 m cp)] (heapOf [wB (some b) true nilS, ptB e1 n x y xt wh, ptB e2 m u v xt2 wh2]) 64 (fun y' h' => FinE [wB (some b) true nilS, ptB e1 n x y xt wh, ptB e2 m u v xt2 wh2] (apE (.fresh (some b)) 0 True (6 + rN1 n m) (rpL 1 0 c (rT1 c n x y m u v)) (rpB 0 c (rB1 c n m u v))) y' h') := by
  have hsn := shN_le n
  obtain ⟨h_id, h_bs, h_bg, h_ver, h_gr, h_htv, h_x0v, h_x1v, h_cnt, hbo⟩ := hc
  refine Eq.mpr (vcRw1 b c e1 n cap xt x y wh e2 m cp xt2 u v wh2) ⟨⟨by omega, by omega⟩, fun d0 => ⟨⟨⟨bytesOk_bG _ _ _ (by omega), (by first | (show _ ≤ 1099511627776; omega) | (show _ ≤ 1000000000; omega) | (show _ ≤ 900000000; omega) | (show _ ≤ 800000000; omega))⟩, h_id⟩, fun d1 => ⟨⟨⟨bytesOk_bG _ _ _ (by omega), (by first | (show _ ≤ 1099511627776; omega) | (show _ ≤ 1000000000; omega) | (show _ ≤ 900000000; omega) | (show _ ≤ 800000000; omega))⟩, ⟨by omega, by omega⟩⟩, fun d2 => ⟨⟨⟨bytesOk_bG _ _ _ (by omega), (by first | (show _ ≤ 1099511627776; omega) | (show _ ≤ 1000000000; omega) | (show _ ≤ 900000000; omega) | (show _ ≤ 800000000; omega))⟩, ⟨h_bs, h_bg⟩⟩, fun d3 => ⟨⟨⟨bytesOk_bG _ _ _ (by omega), (by first | (show _ ≤ 1099511627776; omega) | (show _ ≤ 1000000000; omega) | (show _ ≤ 900000000; omega) | (show _ ≤ 800000000; omega))⟩, h_ver⟩, fun d4 => tailU ?_ ?_ fun i hi => ?_⟩⟩⟩⟩⟩
  · show _ = 6 + (16)
    omega
  · simp only [Bool.or_false, rpB, rB1, hBad, Bool.or_assoc, anyMin, nV, bop, Bool.false_or, show notIn 0 14 = false from rfl]
    first | done | rfl
  · show apG (14) (apG (6) (apG (5) (apG (1) (fun i => ([1] : List Int).getD i 0) (c4 c.id)) ([0])) (hL c.bs c.bg)) (i8 c.ver) i = _
    rw [apG_ap (n := 6) (m := 14) (add_ap (hLl _ _) rfl)]
    rw [apG_ap (n := 5) (m := 6) (add_ap (rfl) rfl)]
    rw [apG_ap (n := 1) (m := 5) (add_ap (c4l _) rfl)]
    rw [apG_listQ]
    rfl
theorem reply_2 {b : Bool} {c : RV} {e1 n cap xt : Nat} {x y : Nat → Int} {wh : Bool} {e2 m cp xt2 : Nat} {u v : Nat → Int} {wh2 : Bool} (hc : rvOk c) (hn : n < 100) (hv : ∀ i, i < n → I64 (x i) ∧ I64 (y i)) (hm : m < 200) (hw : ∀ i, i < m → I64 (u i) ∧ I64 (v i)) : vcFn Try.prog ΓPr noΛ Try.f78 [.vp 0 0, reS 2 0 c (.sl 1 2 0 n cap) (.sl 2 2 0 m cp)] (heapOf [wB (some b) true nilS, ptB e1 n x y xt wh, ptB e2 m u v xt2 wh2]) 64 (fun y' h' => FinE [wB (some b) true nilS, ptB e1 n x y xt wh, ptB e2 m u v xt2 wh2] (apE (.fresh (some b)) 0 True (6 + rN2 n m) (rpL 2 0 c (rT2 c n x y m u v)) (rpB 0 c (rB2 c n m u v))) y' h') := by
  have hsn := shN_le n
  obtain ⟨h_id, h_bs, h_bg, h_ver, h_gr, h_htv, h_x0v, h_x1v, h_cnt, hbo⟩ := hc
  refine Eq.mpr (vcRw2 b c e1 n cap xt x y wh e2 m cp xt2 u v wh2) ⟨⟨by omega, by omega⟩, fun d0 => ⟨⟨⟨bytesOk_bG _ _ _ (by omega), (by first | (show _ ≤ 1099511627776; omega) | (show _ ≤ 1000000000; omega) | (show _ ≤ 900000000; omega) | (show _ ≤ 800000000; omega))⟩, h_id⟩, fun d1 => ⟨⟨⟨bytesOk_bG _ _ _ (by omega), (by first | (show _ ≤ 1099511627776; omega) | (show _ ≤ 1000000000; omega) | (show _ ≤ 900000000; omega) | (show _ ≤ 800000000; omega))⟩, ⟨by omega, by omega⟩⟩, fun d2 => ⟨⟨⟨bytesOk_bG _ _ _ (by omega), (by first | (show _ ≤ 1099511627776; omega) | (show _ ≤ 1000000000; omega) | (show _ ≤ 900000000; omega) | (show _ ≤ 800000000; omega))⟩, ⟨h_bs, h_bg⟩⟩, fun d3 => tailU ?_ ?_ fun i hi => ?_⟩⟩⟩⟩
  · show _ = 6 + (8)
    omega
  · simp only [Bool.or_false, rpB, rB2, hBad, Bool.or_assoc, anyMin, nV, bop, Bool.false_or, show notIn 0 14 = false from rfl]
    first | done | rfl
  · show apG (6) (apG (5) (apG (1) (fun i => ([2] : List Int).getD i 0) (c4 c.id)) ([0])) (hL c.bs c.bg) i = _
    rw [apG_ap (n := 5) (m := 6) (add_ap (rfl) rfl)]
    rw [apG_ap (n := 1) (m := 5) (add_ap (c4l _) rfl)]
    rw [apG_listQ]
    rfl
theorem reply_3 {b : Bool} {c : RV} {e1 n cap xt : Nat} {x y : Nat → Int} {wh : Bool} {e2 m cp xt2 : Nat} {u v : Nat → Int} {wh2 : Bool} (hc : rvOk c) (hn : n < 100) (hv : ∀ i, i < n → I64 (x i) ∧ I64 (y i)) (hm : m < 200) (hw : ∀ i, i < m → I64 (u i) ∧ I64 (v i)) : vcFn Try.prog ΓPr noΛ Try.f78 [.vp 0 0, reS 3 0 c (.sl 1 2 0 n cap) (.sl 2 2 0 m cp)] (heapOf [wB (some b) true nilS, ptB e1 n x y xt wh, ptB e2 m u v xt2 wh2]) 64 (fun y' h' => FinE [wB (some b) true nilS, ptB e1 n x y xt wh, ptB e2 m u v xt2 wh2] (apE (.fresh (some b)) 0 True (6 + rN3 n m) (rpL 3 0 c (rT3 c n x y m u v)) (rpB 0 c (rB3 c n m u v))) y' h') := by
  have hsn := shN_le n
  obtain ⟨h_id, h_bs, h_bg, h_ver, h_gr, h_htv, h_x0v, h_x1v, h_cnt, hbo⟩ := hc
  refine Eq.mpr (vcRw3 b c e1 n cap xt x y wh e2 m cp xt2 u v wh2) ⟨⟨by omega, by omega⟩, fun d0 => ⟨⟨⟨bytesOk_bG _ _ _ (by omega), (by first | (show _ ≤ 1099511627776; omega) | (show _ ≤ 1000000000; omega) | (show _ ≤ 900000000; omega) | (show _ ≤ 800000000; omega))⟩, h_id⟩, fun d1 => ⟨⟨⟨bytesOk_bG _ _ _ (by omega), (by first | (show _ ≤ 1099511627776; omega) | (show _ ≤ 1000000000; omega) | (show _ ≤ 900000000; omega) | (show _ ≤ 800000000; omega))⟩, ⟨by omega, by omega⟩⟩, fun d2 => ⟨⟨⟨bytesOk_bG _ _ _ (by omega), (by first | (show _ ≤ 1099511627776; omega) | (show _ ≤ 1000000000; omega) | (show _ ≤ 900000000; omega) | (show _ ≤ 800000000; omega))⟩, ⟨h_bs, h_bg⟩⟩, fun d3 => ⟨⟨⟨bytesOk_bG _ _ _ (by omega), (by first | (show _ ≤ 1099511627776; omega) | (show _ ≤ 1000000000; omega) | (show _ ≤ 900000000; omega) | (show _ ≤ 800000000; omega))⟩, h_ver⟩, fun d4 => tailU ?_ ?_ fun i hi => ?_⟩⟩⟩⟩⟩
  · show _ = 6 + (16)
    omega
  · simp only [Bool.or_false, rpB, rB3, hBad, Bool.or_assoc, anyMin, nV, bop, Bool.false_or, show notIn 0 14 = false from rfl]
    first | done | rfl
  · show apG (14) (apG (6) (apG (5) (apG (1) (fun i => ([3] : List Int).getD i 0) (c4 c.id)) ([0])) (hL c.bs c.bg)) (i8 c.ver) i = _
    rw [apG_ap (n := 6) (m := 14) (add_ap (hLl _ _) rfl)]
    rw [apG_ap (n := 5) (m := 6) (add_ap (rfl) rfl)]
    rw [apG_ap (n := 1) (m := 5) (add_ap (c4l _) rfl)]
    rw [apG_listQ]
    rfl
theorem reply_4 {b : Bool} {c : RV} {e1 n cap xt : Nat} {x y : Nat → Int} {wh : Bool} {e2 m cp xt2 : Nat} {u v : Nat → Int} {wh2 : Bool} (hc : rvOk c) (hn : n < 100) (hv : ∀ i, i < n → I64 (x i) ∧ I64 (y i)) (hm : m < 200) (hw : ∀ i, i < m → I64 (u i) ∧ I64 (v i)) : vcFn Try.prog ΓPr noΛ Try.f78 [.vp 0 0, reS 4 0 c (.sl 1 2 0 n cap) (.sl 2 2 0 m cp)] (heapOf [wB (some b) true nilS, ptB e1 n x y xt wh, ptB e2 m u v xt2 wh2]) 64 (fun y' h' => FinE [wB (some b) true nilS, ptB e1 n x y xt wh, ptB e2 m u v xt2 wh2] (apE (.fresh (some b)) 0 True (6 + rN4 n m) (rpL 4 0 c (rT4 c n x y m u v)) (rpB 0 c (rB4 c n m u v))) y' h') := by
  have hsn := shN_le n
  obtain ⟨h_id, h_bs, h_bg, h_ver, h_gr, h_htv, h_x0v, h_x1v, h_cnt, hbo⟩ := hc
  refine Eq.mpr (vcRw4 b c e1 n cap xt x y wh e2 m cp xt2 u v wh2) ⟨⟨by omega, by omega⟩, fun d0 => ⟨⟨⟨bytesOk_bG _ _ _ (by omega), (by first | (show _ ≤ 1099511627776; omega) | (show _ ≤ 1000000000; omega) | (show _ ≤ 900000000; omega) | (show _ ≤ 800000000; omega))⟩, h_id⟩, fun d1 => ⟨⟨⟨bytesOk_bG _ _ _ (by omega), (by first | (show _ ≤ 1099511627776; omega) | (show _ ≤ 1000000000; omega) | (show _ ≤ 900000000; omega) | (show _ ≤ 800000000; omega))⟩, ⟨by omega, by omega⟩⟩, fun d2 => ⟨⟨⟨bytesOk_bG _ _ _ (by omega), (by first | (show _ ≤ 1099511627776; omega) | (show _ ≤ 1000000000; omega) | (show _ ≤ 900000000; omega) | (show _ ≤ 800000000; omega))⟩, ⟨h_bs, h_bg⟩⟩, fun d3 => ⟨⟨⟨bytesOk_bG _ _ _ (by omega), (by first | (show _ ≤ 1099511627776; omega) | (show _ ≤ 1000000000; omega) | (show _ ≤ 900000000; omega) | (show _ ≤ 800000000; omega))⟩, h_ver⟩, fun d4 => ⟨⟨⟨bytesOk_bG _ _ _ (by omega), (by first | (show _ ≤ 1099511627776; omega) | (show _ ≤ 1000000000; omega) | (show _ ≤ 900000000; omega) | (show _ ≤ 800000000; omega))⟩, h_gr⟩, fun d5 => tailU ?_ ?_ fun i hi => ?_⟩⟩⟩⟩⟩⟩
  · show _ = 6 + (20)
    omega
  · simp only [Bool.or_false, rpB, rB4, hBad, Bool.or_assoc, anyMin, nV, bop, Bool.false_or, show notIn 0 14 = false from rfl]
    first | done | rfl
  · show apG (22) (apG (14) (apG (6) (apG (5) (apG (1) (fun i => ([4] : List Int).getD i 0) (c4 c.id)) ([0])) (hL c.bs c.bg)) (i8 c.ver)) (c4 c.gr) i = _
    rw [apG_ap (n := 14) (m := 22) (add_ap (i8l _) rfl)]
    rw [apG_ap (n := 6) (m := 14) (add_ap (hLl _ _) rfl)]
    rw [apG_ap (n := 5) (m := 6) (add_ap (rfl) rfl)]
    rw [apG_ap (n := 1) (m := 5) (add_ap (c4l _) rfl)]
    rw [apG_listQ]
    rfl
theorem reply_5 {b : Bool} {c : RV} {e1 n cap xt : Nat} {x y : Nat → Int} {wh : Bool} {e2 m cp xt2 : Nat} {u v : Nat → Int} {wh2 : Bool} (hc : rvOk c) (hn : n < 100) (hv : ∀ i, i < n → I64 (x i) ∧ I64 (y i)) (hm : m < 200) (hw : ∀ i, i < m → I64 (u i) ∧ I64 (v i)) : vcFn Try.prog ΓPr noΛ Try.f78 [.vp 0 0, reS 5 0 c (.sl 1 2 0 n cap) (.sl 2 2 0 m cp)] (heapOf [wB (some b) true nilS, ptB e1 n x y xt wh, ptB e2 m u v xt2 wh2]) 64 (fun y' h' => FinE [wB (some b) true nilS, ptB e1 n x y xt wh, ptB e2 m u v xt2 wh2] (apE (.fresh (some b)) 0 True (6 + rN5 n m) (rpL 5 0 c (rT5 c n x y m u v)) (rpB 0 c (rB5 c n m u v))) y' h') := by
  have hsn := shN_le n
  obtain ⟨h_id, h_bs, h_bg, h_ver, h_gr, h_htv, h_x0v, h_x1v, h_cnt, hbo⟩ := hc
  refine Eq.mpr (vcRw5 b c e1 n cap xt x y wh e2 m cp xt2 u v wh2) ⟨⟨by omega, by omega⟩, fun d0 => ⟨⟨⟨bytesOk_bG _ _ _ (by omega), (by first | (show _ ≤ 1099511627776; omega) | (show _ ≤ 1000000000; omega) | (show _ ≤ 900000000; omega) | (show _ ≤ 800000000; omega))⟩, h_id⟩, fun d1 => ⟨⟨⟨bytesOk_bG _ _ _ (by omega), (by first | (show _ ≤ 1099511627776; omega) | (show _ ≤ 1000000000; omega) | (show _ ≤ 900000000; omega) | (show _ ≤ 800000000; omega))⟩, ⟨by omega, by omega⟩⟩, fun d2 => ⟨⟨⟨bytesOk_bG _ _ _ (by omega), (by first | (show _ ≤ 1099511627776; omega) | (show _ ≤ 1000000000; omega) | (show _ ≤ 900000000; omega) | (show _ ≤ 800000000; omega))⟩, h_gr⟩, fun d3 => tailU ?_ ?_ fun i hi => ?_⟩⟩⟩⟩
  · show _ = 6 + (4)
    omega
  · simp only [Bool.or_false, rpB, rB5, hBad, Bool.or_assoc, anyMin, nV, bop, Bool.false_or, show notIn 0 14 = false from rfl]
    first | done | rfl
  · show apG (6) (apG (5) (apG (1) (fun i => ([5] : List Int).getD i 0) (c4 c.id)) ([0])) (c4 c.gr) i = _
    rw [apG_ap (n := 5) (m := 6) (add_ap (rfl) rfl)]
    rw [apG_ap (n := 1) (m := 5) (add_ap (c4l _) rfl)]
    rw [apG_listQ]
    rfl
theorem reply_6 {b : Bool} {c : RV} {e1 n cap xt : Nat} {x y : Nat → Int} {wh : Bool} {e2 m cp xt2 : Nat} {u v : Nat → Int} {wh2 : Bool} (hc : rvOk c) (hn : n < 100) (hv : ∀ i, i < n → I64 (x i) ∧ I64 (y i)) (hm : m < 200) (hw : ∀ i, i < m → I64 (u i) ∧ I64 (v i)) : vcFn Try.prog ΓPr noΛ Try.f78 [.vp 0 0, reS 6 0 c (.sl 1 2 0 n cap) (.sl 2 2 0 m cp)] (heapOf [wB (some b) true nilS, ptB e1 n x y xt wh, ptB e2 m u v xt2 wh2]) 64 (fun y' h' => FinE [wB (some b) true nilS, ptB e1 n x y xt wh, ptB e2 m u v xt2 wh2] (apE (.fresh (some b)) 0 True (6 + rN6 n m) (rpL 6 0 c (rT6 c n x y m u v)) (rpB 0 c (rB6 c n m u v))) y' h') := by
  have hsn := shN_le n
  obtain ⟨h_id, h_bs, h_bg, h_ver, h_gr, h_htv, h_x0v, h_x1v, h_cnt, hbo⟩ := hc
  refine Eq.mpr (vcRw6 b c e1 n cap xt x y wh e2 m cp xt2 u v wh2) ⟨⟨by omega, by omega⟩, fun d0 => ⟨⟨⟨bytesOk_bG _ _ _ (by omega), (by first | (show _ ≤ 1099511627776; omega) | (show _ ≤ 1000000000; omega) | (show _ ≤ 900000000; omega) | (show _ ≤ 800000000; omega))⟩, h_id⟩, fun d1 => ⟨⟨⟨bytesOk_bG _ _ _ (by omega), (by first | (show _ ≤ 1099511627776; omega) | (show _ ≤ 1000000000; omega) | (show _ ≤ 900000000; omega) | (show _ ≤ 800000000; omega))⟩, ⟨by omega, by omega⟩⟩, fun d2 => ⟨⟨⟨bytesOk_bG _ _ _ (by omega), (by first | (show _ ≤ 1099511627776; omega) | (show _ ≤ 1000000000; omega) | (show _ ≤ 900000000; omega) | (show _ ≤ 800000000; omega))⟩, h_gr⟩, fun d3 => tailU ?_ ?_ fun i hi => ?_⟩⟩⟩⟩
  · show _ = 6 + (4)
    omega
  · simp only [Bool.or_false, rpB, rB6, hBad, Bool.or_assoc, anyMin, nV, bop, Bool.false_or, show notIn 0 14 = false from rfl]
    first | done | rfl
  · show apG (6) (apG (5) (apG (1) (fun i => ([6] : List Int).getD i 0) (c4 c.id)) ([0])) (c4 c.gr) i = _
    rw [apG_ap (n := 5) (m := 6) (add_ap (rfl) rfl)]
    rw [apG_ap (n := 1) (m := 5) (add_ap (c4l _) rfl)]
    rw [apG_listQ]
    rfl
theorem reply_7 {b : Bool} {c : RV} {e1 n cap xt : Nat} {x y : Nat → Int} {wh : Bool} {e2 m cp xt2 : Nat} {u v : Nat → Int} {wh2 : Bool} (hc : rvOk c) (hn : n < 100) (hv : ∀ i, i < n → I64 (x i) ∧ I64 (y i)) (hm : m < 200) (hw : ∀ i, i < m → I64 (u i) ∧ I64 (v i)) : vcFn Try.prog ΓPr noΛ Try.f78 [.vp 0 0, reS 7 0 c (.sl 1 2 0 n cap) (.sl 2 2 0 m cp)] (heapOf [wB (some b) true nilS, ptB e1 n x y xt wh, ptB e2 m u v xt2 wh2]) 64 (fun y' h' => FinE [wB (some b) true nilS, ptB e1 n x y xt wh, ptB e2 m u v xt2 wh2] (apE (.fresh (some b)) 0 True (6 + rN7 n m) (rpL 7 0 c (rT7 c n x y m u v)) (rpB 0 c (rB7 c n m u v))) y' h') := by
  have hsn := shN_le n
  obtain ⟨h_id, h_bs, h_bg, h_ver, h_gr, h_htv, h_x0v, h_x1v, h_cnt, hbo⟩ := hc
  have hbN : boN n ≤ 2000 := by unfold boN; omega
  refine Eq.mpr (vcRw7 b c e1 n cap xt x y wh e2 m cp xt2 u v wh2) ⟨⟨by omega, by omega⟩, fun d0 => ⟨⟨⟨bytesOk_bG _ _ _ (by omega), (by first | (show _ ≤ 1099511627776; omega) | (show _ ≤ 1000000000; omega) | (show _ ≤ 900000000; omega) | (show _ ≤ 800000000; omega))⟩, h_id⟩, fun d1 => ⟨⟨⟨bytesOk_bG _ _ _ (by omega), (by first | (show _ ≤ 1099511627776; omega) | (show _ ≤ 1000000000; omega) | (show _ ≤ 900000000; omega) | (show _ ≤ 800000000; omega))⟩, ⟨by omega, by omega⟩⟩, fun d2 => ⟨⟨⟨bytesOk_bG _ _ _ (by omega), (by first | (show _ ≤ 1099511627776; omega) | (show _ ≤ 1000000000; omega) | (show _ ≤ 900000000; omega) | (show _ ≤ 800000000; omega))⟩, ⟨h_bs, h_bg⟩⟩, fun d3 => ⟨⟨⟨bytesOk_bG _ _ _ (by omega), (by first | (show _ ≤ 1099511627776; omega) | (show _ ≤ 1000000000; omega) | (show _ ≤ 900000000; omega) | (show _ ≤ 800000000; omega))⟩, ⟨hbo, wpt_sp hn hv, hn⟩⟩, fun d4 => tailU ?_ ?_ fun i hi => ?_⟩⟩⟩⟩⟩
  · show _ = 6 + (8 + boN n)
    omega
  · simp only [Bool.or_false, rpB, rB7, hBad, Bool.or_assoc, Bool.false_or, show notIn 0 14 = false from rfl]
  · rw [wpt_gX, wpt_gY]
    show apG (14) (apG (6) (apG (5) (apG (1) (fun i => ([7] : List Int).getD i 0) (c4 c.id)) ([0])) (hL c.bs c.bg)) (boL c.o n x y) i = _
    rw [apG_ap (n := 6) (m := 14) (add_ap (hLl _ _) rfl)]
    rw [apG_ap (n := 5) (m := 6) (add_ap (rfl) rfl)]
    rw [apG_ap (n := 1) (m := 5) (add_ap (c4l _) rfl)]
    rw [apG_listQ]
    rfl
theorem reply_8 {b : Bool} {c : RV} {e1 n cap xt : Nat} {x y : Nat → Int} {wh : Bool} {e2 m cp xt2 : Nat} {u v : Nat → Int} {wh2 : Bool} (hc : rvOk c) (hn : n < 100) (hv : ∀ i, i < n → I64 (x i) ∧ I64 (y i)) (hm : m < 200) (hw : ∀ i, i < m → I64 (u i) ∧ I64 (v i)) : vcFn Try.prog ΓPr (ΛRw8 (b || (notIn c.id 2147483647 || notIn (m : Int) 64)) ([8] ++ (c4 c.id ++ ([0] ++ [(m : Int) % 256]))) m u v) Try.f78 [.vp 0 0, reS 8 0 c (.sl 1 2 0 n cap) (.sl 2 2 0 m cp)] (heapOf [wB (some b) true nilS, ptB e1 n x y xt wh, ptB e2 m u v xt2 wh2]) 64 (fun y' h' => FinE [wB (some b) true nilS, ptB e1 n x y xt wh, ptB e2 m u v xt2 wh2] (apE (.fresh (some b)) 0 True (6 + rN8 n m) (rpL 8 0 c (rT8 c n x y m u v)) (rpB 0 c (rB8 c n m u v))) y' h') := by
  have hsn := shN_le n
  obtain ⟨h_id, h_bs, h_bg, h_ver, h_gr, h_htv, h_x0v, h_x1v, h_cnt, hbo⟩ := hc
  refine Eq.mpr (vcRw8 b c e1 n cap xt x y wh e2 m cp xt2 u v wh2) ⟨⟨by omega, by omega⟩, fun d0 => ⟨⟨⟨bytesOk_bG _ _ _ (by omega), (by first | (show _ ≤ 1099511627776; omega) | (show _ ≤ 1000000000; omega) | (show _ ≤ 900000000; omega) | (show _ ≤ 800000000; omega))⟩, h_id⟩, fun d1 => ⟨⟨⟨bytesOk_bG _ _ _ (by omega), (by first | (show _ ≤ 1099511627776; omega) | (show _ ≤ 1000000000; omega) | (show _ ≤ 900000000; omega) | (show _ ≤ 800000000; omega))⟩, ⟨by omega, by omega⟩⟩, fun d2 => ⟨⟨⟨bytesOk_bG _ _ _ (by omega), (by first | (show _ ≤ 1099511627776; omega) | (show _ ≤ 1000000000; omega) | (show _ ≤ 900000000; omega) | (show _ ≤ 800000000; omega))⟩, ⟨by omega, by omega⟩⟩, fun d3 => ⟨⟨⟨0, 7 + d3⟩, ⟨Nat.zero_le _, Nat.le_add_right _ _⟩, rfl, ⟨rfl, Nat.le_refl _, rfl, ?_⟩, rfl, Nat.le_refl _, fun i hi => ?_⟩, fun z ⟨h2, h3⟩ => sel_of (fun hlt => ?_) fun hge => ?_⟩⟩⟩⟩⟩
  · simp only [Bool.or_false, Bool.or_assoc, Bool.false_or, anyH, show notIn 0 14 = false from rfl]
  · show [SV.v (.int .u8 (apG 6 (apG 5 (apG 1 (fun i => ([8] : List Int).getD i 0) (c4 c.id)) [0]) [(m : Int) % 256] i))] = [SV.v (.int .u8 (([8] ++ (c4 c.id ++ ([0] ++ [(m : Int) % 256])) ++ []).getD i 0))]
    rw [apG_ap (n := 5) (m := 6) (L := [0]) rfl, apG_ap (n := 1) (m := 5) (add_ap (c4l _) rfl), apG_listQ, List.append_nil]
  · have hlt := of_decide_eq_true hlt
    have hlt : z.i < m := by omega
    have hwr : IntKind.i64.wrap ((z.i : Int) + 1) = ((z.i + 1 : Nat) : Int) := wrap_i64 ⟨by omega, by omega⟩
    have hvx := hw z.i hlt
    rw [show 0 + Int.toNat (z.i : Int) = z.i by omega]
    refine ⟨⟨by omega, by omega⟩, ⟨⟨bytesOk_bG _ _ _ (by omega), by show 7 + 8 * z.i ≤ 1000000000; omega⟩, hvx⟩, fun c1 => ⟨⟨z.i + 1, 7 + 8 * z.i + 8 + c1⟩, ⟨⟨by show z.i + 1 ≤ m; omega, (by show 7 + 8 * (z.i + 1) ≤ 7 + 8 * z.i + 8 + c1; omega)⟩, int_mk hwr, ⟨rfl, Nat.le_refl _, ?_, ?_⟩, ?_, Nat.le_refl _, fun i hi => ?_⟩, by show m - (z.i + 1) < m - z.i; omega⟩⟩
    · show SV.sl _ 1 0 _ _ = SV.sl _ 1 0 (7 + 8 * (z.i + 1)) _
      rw [show 7 + 8 * (z.i + 1) = 7 + 8 * z.i + 8 by omega]
    · show SV.v (.bool (b || (notIn c.id 2147483647 || notIn (m : Int) 64) || anyH u v z.i || hBad (u z.i) (v z.i))) = SV.v (.bool (b || (notIn c.id 2147483647 || notIn (m : Int) 64) || (anyH u v z.i || hBad (u z.i) (v z.i))))
      simp only [Bool.or_assoc]
    · show 7 + 8 * z.i + 8 = 7 + 8 * (z.i + 1)
      omega
    · have hl : ([8] ++ (c4 c.id ++ ([0] ++ [(m : Int) % 256])) ++ hsL u v z.i).length = 7 + 8 * z.i := by
        simp only [List.length_append, c4l, hsL_len, List.length_cons, List.length_nil]
      refine congrArg (fun z => [SV.v (.int .u8 z)]) ?_
      show apG (7 + 8 * z.i) (fun i => ([8] ++ (c4 c.id ++ ([0] ++ [(m : Int) % 256])) ++ hsL u v z.i).getD i 0) (hL (u z.i) (v z.i)) i = ([8] ++ (c4 c.id ++ ([0] ++ [(m : Int) % 256])) ++ (hsL u v z.i ++ hL (u z.i) (v z.i))).getD i 0
      rw [← List.append_assoc]
      exact apG_listL hl _ i
  · have hge := of_decide_eq_false hge
    have hx : z.i = m := by omega
    rw [hx] at h3 ⊢
    have h3 : 7 + 8 * m ≤ z.c := h3
    have he : 6 + (1 + 8 * m) + (z.c - (7 + 8 * m)) = z.c := by omega
    have he2 : 6 + (1 + 8 * m) = 7 + 8 * m := by omega
    refine ⟨z.c - (7 + 8 * m), trivial, ⟨rfl, Nat.le_refl _, ?_, ?_⟩, ?_, ?_, fun i hi => ?_⟩
    · show SV.sl 40 1 0 (7 + 8 * m) z.c = SV.sl 40 1 0 (6 + (1 + 8 * m)) (6 + (1 + 8 * m) + (z.c - (7 + 8 * m)))
      rw [he, he2]
    · simp only [rpB, rB8, show notIn 0 14 = false from rfl, Bool.false_or, Bool.or_assoc]
    · exact he2.symm
    · show 6 + (1 + 8 * m) + _ ≤ _
      omega
    · unfold rpL rT8
      simp only [List.append_assoc]
      rfl
theorem reply_9 {b : Bool} {c : RV} {e1 n cap xt : Nat} {x y : Nat → Int} {wh : Bool} {e2 m cp xt2 : Nat} {u v : Nat → Int} {wh2 : Bool} (hc : rvOk c) (hn : n < 100) (hv : ∀ i, i < n → I64 (x i) ∧ I64 (y i)) (hm : m < 200) (hw : ∀ i, i < m → I64 (u i) ∧ I64 (v i)) : vcFn Try.prog ΓPr noΛ Try.f78 [.vp 0 0, reS 9 0 c (.sl 1 2 0 n cap) (.sl 2 2 0 m cp)] (heapOf [wB (some b) true nilS, ptB e1 n x y xt wh, ptB e2 m u v xt2 wh2]) 64 (fun y' h' => FinE [wB (some b) true nilS, ptB e1 n x y xt wh, ptB e2 m u v xt2 wh2] (apE (.fresh (some b)) 0 True (6 + rN9 n m) (rpL 9 0 c (rT9 c n x y m u v)) (rpB 0 c (rB9 c n m u v))) y' h') := by
  have hsn := shN_le n
  obtain ⟨h_id, h_bs, h_bg, h_ver, h_gr, h_htv, h_x0v, h_x1v, h_cnt, hbo⟩ := hc
  refine Eq.mpr (vcRw9 b c e1 n cap xt x y wh e2 m cp xt2 u v wh2) ⟨⟨by omega, by omega⟩, fun d0 => ⟨⟨⟨bytesOk_bG _ _ _ (by omega), (by first | (show _ ≤ 1099511627776; omega) | (show _ ≤ 1000000000; omega) | (show _ ≤ 900000000; omega) | (show _ ≤ 800000000; omega))⟩, h_id⟩, fun d1 => ⟨⟨⟨bytesOk_bG _ _ _ (by omega), (by first | (show _ ≤ 1099511627776; omega) | (show _ ≤ 1000000000; omega) | (show _ ≤ 900000000; omega) | (show _ ≤ 800000000; omega))⟩, ⟨by omega, by omega⟩⟩, fun d2 => ⟨⟨⟨bytesOk_bG _ _ _ (by omega), (by first | (show _ ≤ 1099511627776; omega) | (show _ ≤ 1000000000; omega) | (show _ ≤ 900000000; omega) | (show _ ≤ 800000000; omega))⟩, ⟨h_bs, h_bg⟩⟩, fun d3 => ⟨⟨⟨bytesOk_bG _ _ _ (by omega), (by first | (show _ ≤ 1099511627776; omega) | (show _ ≤ 1000000000; omega) | (show _ ≤ 900000000; omega) | (show _ ≤ 800000000; omega))⟩, trivial⟩, fun d4 => ⟨⟨⟨bytesOk_bG _ _ _ (by omega), (by first | (show _ ≤ 1099511627776; omega) | (show _ ≤ 1000000000; omega) | (show _ ≤ 900000000; omega) | (show _ ≤ 800000000; omega))⟩, ⟨rfl, by omega, by omega, fun i hi => by
    have : i = 0 ∨ i = 1 ∨ i = 2 := by omega
    rcases this with rfl | rfl | rfl
    · exact h_htv
    · exact h_x0v
    · exact h_x1v⟩⟩, fun d5 => tailU ?_ ?_ fun i hi => ?_⟩⟩⟩⟩⟩⟩
  · show _ = 6 + (36)
    omega
  · simp only [Bool.or_false, rpB, rB9, hBad, Bool.or_assoc, anyMin, nV, bop, Bool.false_or, show notIn 0 14 = false from rfl]
    first | done | rfl
  · show apG (15) (apG (14) (apG (6) (apG (5) (apG (1) (fun i => ([9] : List Int).getD i 0) (c4 c.id)) ([0])) (hL c.bs c.bg)) (flB c.hit)) ((numL c.htv c.htf ++ numL c.x0v c.x0f ++ numL c.x1v c.x1f)) i = _
    rw [apG_ap (n := 14) (m := 15) (add_ap (rfl) rfl)]
    rw [apG_ap (n := 6) (m := 14) (add_ap (hLl _ _) rfl)]
    rw [apG_ap (n := 5) (m := 6) (add_ap (rfl) rfl)]
    rw [apG_ap (n := 1) (m := 5) (add_ap (c4l _) rfl)]
    rw [apG_listQ]
    rfl
theorem reply_10 {b : Bool} {c : RV} {e1 n cap xt : Nat} {x y : Nat → Int} {wh : Bool} {e2 m cp xt2 : Nat} {u v : Nat → Int} {wh2 : Bool} (hc : rvOk c) (hn : n < 100) (hv : ∀ i, i < n → I64 (x i) ∧ I64 (y i)) (hm : m < 200) (hw : ∀ i, i < m → I64 (u i) ∧ I64 (v i)) : vcFn Try.prog ΓPr noΛ Try.f78 [.vp 0 0, reS 10 0 c (.sl 1 2 0 n cap) (.sl 2 2 0 m cp)] (heapOf [wB (some b) true nilS, ptB e1 n x y xt wh, ptB e2 m u v xt2 wh2]) 64 (fun y' h' => FinE [wB (some b) true nilS, ptB e1 n x y xt wh, ptB e2 m u v xt2 wh2] (apE (.fresh (some b)) 0 True (6 + rN10 n m) (rpL 10 0 c (rT10 c n x y m u v)) (rpB 0 c (rB10 c n m u v))) y' h') := by
  have hsn := shN_le n
  obtain ⟨h_id, h_bs, h_bg, h_ver, h_gr, h_htv, h_x0v, h_x1v, h_cnt, hbo⟩ := hc
  refine Eq.mpr (vcRw10 b c e1 n cap xt x y wh e2 m cp xt2 u v wh2) ⟨⟨by omega, by omega⟩, fun d0 => ⟨⟨⟨bytesOk_bG _ _ _ (by omega), (by first | (show _ ≤ 1099511627776; omega) | (show _ ≤ 1000000000; omega) | (show _ ≤ 900000000; omega) | (show _ ≤ 800000000; omega))⟩, h_id⟩, fun d1 => ⟨⟨⟨bytesOk_bG _ _ _ (by omega), (by first | (show _ ≤ 1099511627776; omega) | (show _ ≤ 1000000000; omega) | (show _ ≤ 900000000; omega) | (show _ ≤ 800000000; omega))⟩, ⟨by omega, by omega⟩⟩, fun d2 => ⟨⟨⟨bytesOk_bG _ _ _ (by omega), (by first | (show _ ≤ 1099511627776; omega) | (show _ ≤ 1000000000; omega) | (show _ ≤ 900000000; omega) | (show _ ≤ 800000000; omega))⟩, h_cnt⟩, fun d3 => tailU ?_ ?_ fun i hi => ?_⟩⟩⟩⟩
  · show _ = 6 + (4)
    omega
  · simp only [Bool.or_false, rpB, rB10, hBad, Bool.or_assoc, anyMin, nV, bop, Bool.false_or, show notIn 0 14 = false from rfl]
    first | done | rfl
  · show apG (6) (apG (5) (apG (1) (fun i => ([10] : List Int).getD i 0) (c4 c.id)) ([0])) (c4 c.cnt) i = _
    rw [apG_ap (n := 5) (m := 6) (add_ap (rfl) rfl)]
    rw [apG_ap (n := 1) (m := 5) (add_ap (c4l _) rfl)]
    rw [apG_listQ]
    rfl
theorem reply_P {k : Int} {a : Nat} {b : Bool} {c : RV} {e1 n cap xt : Nat} {x y : Nat → Int} {wh : Bool} {e2 m cp xt2 : Nat} {u v : Nat → Int} {wh2 : Bool} (hc : rvOk c) (hn : n < 100) (hv : ∀ i, i < n → I64 (x i) ∧ I64 (y i)) (hm : m < 200) (hw : ∀ i, i < m → I64 (u i) ∧ I64 (v i)) (hk : I64 k) (ha : I64 (Int.ofNat (a + 1))) : vcFn Try.prog ΓPr noΛ Try.f78 [.vp 0 0, reS k (Int.ofNat (a + 1)) c (.sl 1 2 0 n cap) (.sl 2 2 0 m cp)] (heapOf [wB (some b) true nilS, ptB e1 n x y xt wh, ptB e2 m u v xt2 wh2]) 64 (fun y' h' => FinE [wB (some b) true nilS, ptB e1 n x y xt wh, ptB e2 m u v xt2 wh2] (apE (.fresh (some b)) 0 True (6 + (bif Int.ofNat (a + 1) == 14 then 8 else 0)) (rpL k (Int.ofNat (a + 1)) c ((bif Int.ofNat (a + 1) == 14 then i8 c.ver else []))) (rpB (Int.ofNat (a + 1)) c ((bif Int.ofNat (a + 1) == 14 then notIn c.ver 1099511627776 else false)))) y' h') := by
  obtain ⟨h_id, h_bs, h_bg, h_ver, h_gr, h_htv, h_x0v, h_x1v, h_cnt, hbo⟩ := hc
  refine Eq.mpr (vcRwP k a b c e1 n cap xt x y wh e2 m cp xt2 u v wh2) ⟨hk, fun d0 => ⟨⟨⟨bytesOk_bG _ _ _ (by omega), (by first | (show _ ≤ 1099511627776; omega) | (show _ ≤ 1000000000; omega) | (show _ ≤ 900000000; omega) | (show _ ≤ 800000000; omega))⟩, h_id⟩, fun d1 => ⟨⟨⟨bytesOk_bG _ _ _ (by omega), (by first | (show _ ≤ 1099511627776; omega) | (show _ ≤ 1000000000; omega) | (show _ ≤ 900000000; omega) | (show _ ≤ 800000000; omega))⟩, ha⟩, fun d2 => sel_of (fun e => ⟨⟨⟨bytesOk_bG _ _ _ (by omega), (by first | (show _ ≤ 1099511627776; omega) | (show _ ≤ 1000000000; omega) | (show _ ≤ 900000000; omega) | (show _ ≤ 800000000; omega))⟩, h_ver⟩, fun d3 => ?_⟩) fun e => ?_⟩⟩⟩
  · rw [e]
    refine tailU rfl ?_ fun i hi => ?_
    · simp only [Bool.or_false, rpB, Bool.or_assoc, Bool.false_or, cond_true]
    · show apG 6 (apG 5 (apG 1 (fun i => ([k % 256] : List Int).getD i 0) (c4 c.id)) [Int.ofNat (a + 1) % 256]) (i8 c.ver) i = _
      rw [apG_ap (n := 5) (m := 6) (L := [Int.ofNat (a + 1) % 256]) rfl, apG_ap (n := 1) (m := 5) (add_ap (c4l _) rfl), apG_listQ]
      rfl
  · rw [e]
    refine tailU rfl ?_ fun i hi => ?_
    · simp only [Bool.or_false, rpB, Bool.or_assoc, Bool.false_or, cond_false]
    · show apG 5 (apG 1 (fun i => ([k % 256] : List Int).getD i 0) (c4 c.id)) [Int.ofNat (a + 1) % 256] i = _
      rw [apG_ap (n := 1) (m := 5) (add_ap (c4l _) rfl), apG_listQ]
      rfl
theorem reply_M {k : Int} {a : Nat} {b : Bool} {c : RV} {e1 n cap xt : Nat} {x y : Nat → Int} {wh : Bool} {e2 m cp xt2 : Nat} {u v : Nat → Int} {wh2 : Bool} (hc : rvOk c) (hn : n < 100) (hv : ∀ i, i < n → I64 (x i) ∧ I64 (y i)) (hm : m < 200) (hw : ∀ i, i < m → I64 (u i) ∧ I64 (v i)) (hk : I64 k) (ha : I64 (Int.negSucc a)) : vcFn Try.prog ΓPr noΛ Try.f78 [.vp 0 0, reS k (Int.negSucc a) c (.sl 1 2 0 n cap) (.sl 2 2 0 m cp)] (heapOf [wB (some b) true nilS, ptB e1 n x y xt wh, ptB e2 m u v xt2 wh2]) 64 (fun y' h' => FinE [wB (some b) true nilS, ptB e1 n x y xt wh, ptB e2 m u v xt2 wh2] (apE (.fresh (some b)) 0 True (6 + 0) (rpL k (Int.negSucc a) c ([])) (rpB (Int.negSucc a) c (false))) y' h') := by
  obtain ⟨h_id, h_bs, h_bg, h_ver, h_gr, h_htv, h_x0v, h_x1v, h_cnt, hbo⟩ := hc
  refine Eq.mpr (vcRwM k a b c e1 n cap xt x y wh e2 m cp xt2 u v wh2) ⟨hk, fun d0 => ⟨⟨⟨bytesOk_bG _ _ _ (by omega), (by first | (show _ ≤ 1099511627776; omega) | (show _ ≤ 1000000000; omega) | (show _ ≤ 900000000; omega) | (show _ ≤ 800000000; omega))⟩, h_id⟩, fun d1 => ⟨⟨⟨bytesOk_bG _ _ _ (by omega), (by first | (show _ ≤ 1099511627776; omega) | (show _ ≤ 1000000000; omega) | (show _ ≤ 900000000; omega) | (show _ ≤ 800000000; omega))⟩, ha⟩, fun d2 => tailU rfl ?_ fun i hi => ?_⟩⟩⟩
  · simp only [Bool.or_false, rpB, Bool.or_assoc, Bool.false_or]
  · show apG 5 (apG 1 (fun i => ([k % 256] : List Int).getD i 0) (c4 c.id)) [Int.negSucc a % 256] i = _
    rw [apG_ap (n := 1) (m := 5) (add_ap (c4l _) rfl), apG_listQ]
    rfl
end Go.Proofs.Ytjdldadmaaeimaa
end

section
set_option maxRecDepth 100000
set_option linter.unusedSimpArgs false
set_option linter.unusedVariables false
namespace Go.Proofs.Ytjdldadmaaeimaa
open Go.SE Go.RowKit
def sSame_ww : List SV → List Ro → Option (Option Prop × SV)
  | [.agg x, .agg y], [⟨2, n', r1⟩, ⟨2, m', r2⟩, ⟨2, p', r3⟩, ⟨2, q', r4⟩] => match cellsOfR x, cellsOfR y with
    | some (k1, e1, a, .sl 0 2 0 n _, .sl 1 2 0 m _), some (k2, e2, b, .sl 2 2 0 p _, .sl 3 2 0 q _) => some (some (rowsPre n n' r1 ∧ rowsPre m m' r2 ∧ rowsPre p p' r3 ∧ rowsPre q q' r4), bV (sameRB k1 k2 e1 e2 a b (sameBB a.o b.o (sameS (sbOf a.o) n (fun i => gi (r1 i)) (sbOf b.o) p (fun i => gi (r3 i)))) (sameP m (fun i => gi (r2 i)) q (fun i => gi (r4 i)))))
    | _, _ => none
  | _, _ => none
def sSame_nn : List SV → List Ro → Option (Option Prop × SV)
  | [.agg x, .agg y], [⟨2, p', r1⟩, ⟨2, q', r2⟩] => match cellsOfR x, cellsOfR y with
    | some (k1, e1, a, .v (.slice none 0 0), .v (.slice none 0 0)), some (k2, e2, b, .sl 0 2 0 p _, .sl 1 2 0 q _) => some (some (rowsPre p p' r1 ∧ rowsPre q q' r2), bV (sameRB k1 k2 e1 e2 a b (sameBB a.o b.o (eqSh (sbOf a.o) (sbOf b.o) && Nat.beq p 0)) (Nat.beq q 0)))
    | _, _ => none
  | _, _ => none
def sSame_wn : List SV → List Ro → Option (Option Prop × SV)
  | [.agg x, .agg y], [⟨2, n', r1⟩, ⟨2, p', r2⟩, ⟨2, q', r3⟩] => match cellsOfR x, cellsOfR y with
    | some (k1, e1, a, .sl 0 2 0 n _, .v (.slice none 0 0)), some (k2, e2, b, .sl 1 2 0 p _, .sl 2 2 0 q _) => some (some (rowsPre n n' r1 ∧ rowsPre p p' r2 ∧ rowsPre q q' r3), bV (sameRB k1 k2 e1 e2 a b (sameBB a.o b.o (sameS (sbOf a.o) n (fun i => gi (r1 i)) (sbOf b.o) p (fun i => gi (r2 i)))) (Nat.beq q 0)))
    | _, _ => none
  | _, _ => none
def sSame_nw : List SV → List Ro → Option (Option Prop × SV)
  | [.agg x, .agg y], [⟨2, m', r1⟩, ⟨2, p', r2⟩, ⟨2, q', r3⟩] => match cellsOfR x, cellsOfR y with
    | some (k1, e1, a, .v (.slice none 0 0), .sl 0 2 0 m _), some (k2, e2, b, .sl 1 2 0 p _, .sl 2 2 0 q _) => some (some (rowsPre m m' r1 ∧ rowsPre p p' r2 ∧ rowsPre q q' r3), bV (sameRB k1 k2 e1 e2 a b (sameBB a.o b.o (eqSh (sbOf a.o) (sbOf b.o) && Nat.beq p 0)) (sameP m (fun i => gi (r1 i)) q (fun i => gi (r3 i)))))
    | _, _ => none
  | _, _ => none
def sRSame_ww : List SV → List Ro → Option (Option Prop × SV)
  | [.agg x, .agg y], [⟨2, p', r1⟩, ⟨2, q', r2⟩, ⟨2, n', r3⟩, ⟨2, m', r4⟩] => match cellsOfR x, cellsOfR y with
    | some (k1, e1, a, .sl 0 2 0 p _, .sl 1 2 0 q _), some (k2, e2, b, .sl 2 2 0 n _, .sl 3 2 0 m _) => some (some (rowsPre p p' r1 ∧ rowsPre q q' r2 ∧ rowsPre n n' r3 ∧ rowsPre m m' r4), bV (sameRB k1 k2 e1 e2 a b (sameBB a.o b.o (sameS (sbOf a.o) p (fun i => gi (r1 i)) (sbOf b.o) n (fun i => gi (r3 i)))) (sameP q (fun i => gi (r2 i)) m (fun i => gi (r4 i)))))
    | _, _ => none
  | _, _ => none
def sRSame_nn : List SV → List Ro → Option (Option Prop × SV)
  | [.agg x, .agg y], [⟨2, p', r1⟩, ⟨2, q', r2⟩] => match cellsOfR x, cellsOfR y with
    | some (k1, e1, a, .sl 0 2 0 p _, .sl 1 2 0 q _), some (k2, e2, b, .v (.slice none 0 0), .v (.slice none 0 0)) => some (some (rowsPre p p' r1 ∧ rowsPre q q' r2), bV (sameRB k1 k2 e1 e2 a b (sameBB a.o b.o (eqSh (sbOf a.o) (sbOf b.o) && Nat.beq p 0)) (Nat.beq q 0)))
    | _, _ => none
  | _, _ => none
def sRSame_wn : List SV → List Ro → Option (Option Prop × SV)
  | [.agg x, .agg y], [⟨2, p', r1⟩, ⟨2, q', r2⟩, ⟨2, n', r3⟩] => match cellsOfR x, cellsOfR y with
    | some (k1, e1, a, .sl 0 2 0 p _, .sl 1 2 0 q _), some (k2, e2, b, .sl 2 2 0 n _, .v (.slice none 0 0)) => some (some (rowsPre p p' r1 ∧ rowsPre q q' r2 ∧ rowsPre n n' r3), bV (sameRB k1 k2 e1 e2 a b (sameBB a.o b.o (sameS (sbOf a.o) p (fun i => gi (r1 i)) (sbOf b.o) n (fun i => gi (r3 i)))) (Nat.beq q 0)))
    | _, _ => none
  | _, _ => none
def sRSame_nw : List SV → List Ro → Option (Option Prop × SV)
  | [.agg x, .agg y], [⟨2, p', r1⟩, ⟨2, q', r2⟩, ⟨2, m', r3⟩] => match cellsOfR x, cellsOfR y with
    | some (k1, e1, a, .sl 0 2 0 p _, .sl 1 2 0 q _), some (k2, e2, b, .v (.slice none 0 0), .sl 2 2 0 m _) => some (some (rowsPre p p' r1 ∧ rowsPre q q' r2 ∧ rowsPre m m' r3), bV (sameRB k1 k2 e1 e2 a b (sameBB a.o b.o (eqSh (sbOf a.o) (sbOf b.o) && Nat.beq p 0)) (sameP q (fun i => gi (r2 i)) m (fun i => gi (r3 i)))))
    | _, _ => none
  | _, _ => none
def sSameR := orRo (orRo sSame_ww sSame_nn) (orRo sSame_wn sSame_nw)
def sRSameR := orRo (orRo sRSame_ww sRSame_nn) (orRo sRSame_wn sRSame_nw)
theorem sameRB_s {k1 k2 e1 e2 : Int} {a b : RV} {s t : Bool} (h : s = false) : sameRB k1 k2 e1 e2 a b s t = false := by
  subst h
  unfold sameRB
  simp only [Bool.false_and, Bool.and_false]
theorem sameRB_t {k1 k2 e1 e2 : Int} {a b : RV} {s t : Bool} (h : t = false) : sameRB k1 k2 e1 e2 a b s t = false := by
  subst h
  unfold sameRB
  simp only [Bool.false_and, Bool.and_false]
theorem eq_loop {n m : Nat} {g h : Nat → Int × Int} {F T : Prop} (hn : n < 1099511627776) (hF : sameP n g m h = false → F) (hT : sameP n g m h = true → T) :
    sel ((n : Int) != (m : Int)) F ((∃ x : Nat, (x ≤ n ∧ ∀ j : Nat, j < x → eqP (g j) (h j) = true) ∧ SV.v (.int .i64 0) = .v (.int .i64 x) ∧ True) ∧ ∀ x : Nat, (x ≤ n ∧ ∀ j : Nat, j < x → eqP (g j) (h j) = true) →
      sel (decide ((x : Int) < (n : Int))) ((0 ≤ (x : Int) ∧ (x : Int) < (n : Int)) ∧ (0 ≤ (x : Int) ∧ (x : Int) < (m : Int)) ∧ sel (!((g (0 + Int.toNat (x : Int))).1 == (h (0 + Int.toNat (x : Int))).1 && (g (0 + Int.toNat (x : Int))).2 == (h (0 + Int.toNat (x : Int))).2)) F
        (∃ x' : Nat, ((x' ≤ n ∧ ∀ j : Nat, j < x' → eqP (g j) (h j) = true) ∧ SV.v (.int .i64 (IntKind.i64.wrap ((x : Int) + 1))) = .v (.int .i64 x') ∧ True) ∧ n - x' < n - x)) T) := by
  refine sel_of (fun e => hF (sameP_len e)) fun e => ⟨⟨0, ⟨Nat.zero_le _, fun j hj => absurd hj (Nat.not_lt_zero _)⟩, rfl, trivial⟩, fun x ⟨hx, hd⟩ => sel_of (fun hlt => ?_) fun hge => ?_⟩
  · have hlt : x < n := by simpa using hlt
    have e' : (n : Int) = (m : Int) := by simpa using e
    rw [Int.toNat_natCast, Nat.zero_add]
    refine ⟨⟨by omega, by omega⟩, ⟨by omega, by omega⟩, sel_of (fun hne => ?_) fun heq => ?_⟩
    · have hne : (!eqP (g x) (h x)) = true := hne
      exact hF (eqP_no hlt (by simpa using hne))
    · have heq : (!eqP (g x) (h x)) = false := heq
      refine ⟨x + 1, ⟨⟨hlt, fun j hj => ?_⟩, int_mk (by rw [wrap_i64 ⟨by omega, by omega⟩]; rfl), trivial⟩, by omega⟩
      by_cases e2 : j = x
      · rw [e2]; simpa using heq
      · exact hd j (by omega)
  · have hge : ¬ x < n := by simpa using hge
    obtain rfl : x = n := by omega
    exact hT (sameP_all e hd)
theorem eq_loopN {q : Nat} {F T : Prop} (hF : Nat.beq q 0 = false → F) (hT : Nat.beq q 0 = true → T) :
    sel ((q : Int) != 0) F ((∃ x : Nat, x = 0 ∧ SV.v (.int .i64 0) = .v (.int .i64 x) ∧ True) ∧ ∀ x : Nat, x = 0 →
      sel (decide ((x : Int) < (q : Int))) ((0 ≤ (x : Int) ∧ (x : Int) < (q : Int)) ∧ False) T) := by
  refine sel_of (fun e => hF ?_) fun e => ⟨⟨0, rfl, rfl, trivial⟩, fun x hx => sel_of (fun hlt => ?_) fun _ => hT ?_⟩
  · cases q with
    | zero => cases e
    | succ n => rfl
  · have hlt := of_decide_eq_true hlt
    have e : (q : Int) = 0 := by simpa using e
    omega
  · have e : (q : Int) = 0 := by simpa using e
    have : q = 0 := by omega
    rw [this]; rfl
theorem ΓSr0_ok : ∀ f g, ΓSr0 f = some g → g.ok Try.prog f := addCtr_ok (addCtr_ok noCtrs_ok (ro_ok Try.func81 (by kernel_rfl) (by kernel_rfl) SameB_spec)) (ro_ok Try.func82 (by kernel_rfl) (by kernel_rfl) (ro_or EqualH_spec EqualNH_spec))
theorem ΓSr1_ok : ∀ f g, ΓSr1 f = some g → g.ok Try.prog f := addCtr_ok noCtrs_ok (ro_ok Try.func83 (by kernel_rfl) (by kernel_rfl) RSameB_spec)
theorem qsame_ww (k1 k2 e1 e2 : Int) (a b : RV) (n nc m mc p pc q qc : Nat) (g h u v : Nat → Int × Int) (hn : n < 1099511627776) (kn : ∀ i, i < n → I64 (g i).1 ∧ I64 (g i).2) (hm : m < 1099511627776) (km : ∀ i, i < m → I64 (h i).1 ∧ I64 (h i).2) (hp : p < 1099511627776) (kp : ∀ i, i < p → I64 (u i).1 ∧ I64 (u i).2) (hq : q < 1099511627776) (kq : ∀ i, i < q → I64 (v i).1 ∧ I64 (v i).2) : vcFn Try.prog ΓSr0 noΛ Try.f36 [reS k1 e1 a (.sl 0 2 0 n nc) (.sl 1 2 0 m mc), reS k2 e2 b (.sl 2 2 0 p pc) (.sl 3 2 0 q qc)] (roHeap [⟨2, n, rowsP g⟩, ⟨2, m, rowsP h⟩, ⟨2, p, rowsP u⟩, ⟨2, q, rowsP v⟩]) 64 (fun y _ => y = bV (sameRB k1 k2 e1 e2 a b (sameBB a.o b.o (sameS (sbOf a.o) n g (sbOf b.o) p u)) (sameP m h q v))) := by
  refine Eq.mpr (vcSame_ww k1 k2 e1 e2 a b n nc n m mc m p pc p q qc q g h u v _) ?_
  rw [gi_rows0 g, gi_rows0 u, gi_rows0 h, gi_rows0 v]
  unfold sameRB
  refine sel_of (fun e => ?_) fun e => by rw [e]; rfl
  rw [e, Bool.true_and]
  refine sel_of (fun e => ?_) fun e => by rw [e]; rfl
  rw [e, Bool.true_and]
  refine sel_of (fun e => ?_) fun e => by rw [e]; rfl
  rw [e, Bool.true_and]
  refine sel_of (fun e => ?_) fun e => by rw [e]; rfl
  rw [e, Bool.true_and]
  refine sel_of (fun e => ?_) fun e => by rw [e]; rfl
  rw [e, Bool.true_and]
  refine sel_of (fun e => ?_) fun e => by rw [e]; rfl
  rw [e, Bool.true_and]
  refine ⟨⟨pre_rows hn kn, pre_rows hp kp⟩, ?_⟩
  refine sel_of (fun e => ?_) fun e => by rw [e]; rfl
  rw [e, Bool.true_and]
  refine ⟨⟨pre_rows hm km, pre_rows hq kq⟩, ?_⟩
  refine sel_of (fun e => ?_) fun e => by rw [e]; rfl
  rw [e, Bool.true_and]
  refine sel_of (fun e => ?_) fun e => by rw [e]; rfl
  rw [e, Bool.true_and]
  rfl
theorem Same_ww_spec : RoSpec Try.prog 36 sSame_ww := ro_spec hm ΓSr0_ok Try.func36 (Λ := fun args bs => noΛ) fun args bs p0 x0 hs hp => by
  unfold sSame_ww at hs
  split at hs <;> try (cases hs; done)
  rename_i x y n' r1 m' r2 p' r3 q' r4
  split at hs <;> try (cases hs; done)
  rename_i k1 e1 a n nc m mc k2 e2 b p pc q qc hx hy
  have hs := Option.some.inj hs
  obtain ⟨rfl, rfl⟩ := Prod.mk.inj hs
  obtain ⟨⟨on, en, ln⟩, ⟨om, em, lm⟩, ⟨op, ep, lp⟩, ⟨oq, eq, lq⟩⟩ := hp _ rfl
  subst en em ep eq
  have on := okAll_rows.1 on
  have om := okAll_rows.1 om
  have op := okAll_rows.1 op
  have oq := okAll_rows.1 oq
  refine ⟨rfl, [⟨2, _, rowsP fun i => gi (r1 i)⟩, ⟨2, _, rowsP fun i => gi (r2 i)⟩, ⟨2, _, rowsP fun i => gi (r3 i)⟩, ⟨2, _, rowsP fun i => gi (r4 i)⟩], ⟨⟨rfl, rfl, fun i hi => (isPI_row (on i hi)).1⟩, ⟨rfl, rfl, fun i hi => (isPI_row (om i hi)).1⟩, ⟨rfl, rfl, fun i hi => (isPI_row (op i hi)).1⟩, ⟨rfl, rfl, fun i hi => (isPI_row (oq i hi)).1⟩, trivial⟩, ?_⟩
  try simp only [hx, hy]
  rw [reps_eq hx, reps_eq hy]
  exact qsame_ww k1 k2 e1 e2 a b _ _ _ _ _ _ _ _ _ _ _ _ ln (fun i hi => (isPI_row (on i hi)).2) lm (fun i hi => (isPI_row (om i hi)).2) lp (fun i hi => (isPI_row (op i hi)).2) lq (fun i hi => (isPI_row (oq i hi)).2)
theorem qsame_nn (k1 k2 e1 e2 : Int) (a b : RV) (p pc q qc : Nat) (u v : Nat → Int × Int) (hp : p < 1099511627776) (kp : ∀ i, i < p → I64 (u i).1 ∧ I64 (u i).2) (hq : q < 1099511627776) (kq : ∀ i, i < q → I64 (v i).1 ∧ I64 (v i).2) : vcFn Try.prog ΓSr0 noΛ Try.f36 [reS k1 e1 a nilS nilS, reS k2 e2 b (.sl 0 2 0 p pc) (.sl 1 2 0 q qc)] (roHeap [⟨2, p, rowsP u⟩, ⟨2, q, rowsP v⟩]) 64 (fun y _ => y = bV (sameRB k1 k2 e1 e2 a b (sameBB a.o b.o (eqSh (sbOf a.o) (sbOf b.o) && Nat.beq p 0)) (Nat.beq q 0))) := by
  refine Eq.mpr (vcSame_nn k1 k2 e1 e2 a b p pc p q qc q u v _) ?_
  unfold sameRB
  refine sel_of (fun e => ?_) fun e => by rw [e]; rfl
  rw [e, Bool.true_and]
  refine sel_of (fun e => ?_) fun e => by rw [e]; rfl
  rw [e, Bool.true_and]
  refine sel_of (fun e => ?_) fun e => by rw [e]; rfl
  rw [e, Bool.true_and]
  refine sel_of (fun e => ?_) fun e => by rw [e]; rfl
  rw [e, Bool.true_and]
  refine sel_of (fun e => ?_) fun e => by rw [e]; rfl
  rw [e, Bool.true_and]
  refine sel_of (fun e => ?_) fun e => by rw [e]; rfl
  rw [e, Bool.true_and]
  refine ⟨pre_rows hp kp, ?_⟩
  refine sel_of (fun e => ?_) fun e => by rw [e]; rfl
  rw [e, Bool.true_and]
  refine ⟨pre_rows hq kq, ?_⟩
  refine sel_of (fun e => ?_) fun e => by rw [e]; rfl
  rw [e, Bool.true_and]
  refine sel_of (fun e => ?_) fun e => by rw [e]; rfl
  rw [e, Bool.true_and]
  rfl
theorem Same_nn_spec : RoSpec Try.prog 36 sSame_nn := ro_spec hm ΓSr0_ok Try.func36 (Λ := fun args bs => noΛ) fun args bs p0 x0 hs hp => by
  unfold sSame_nn at hs
  split at hs <;> try (cases hs; done)
  rename_i x y p' r1 q' r2
  split at hs <;> try (cases hs; done)
  rename_i k1 e1 a k2 e2 b p pc q qc hx hy
  have hs := Option.some.inj hs
  obtain ⟨rfl, rfl⟩ := Prod.mk.inj hs
  obtain ⟨⟨op, ep, lp⟩, ⟨oq, eq, lq⟩⟩ := hp _ rfl
  subst ep eq
  have op := okAll_rows.1 op
  have oq := okAll_rows.1 oq
  refine ⟨rfl, [⟨2, _, rowsP fun i => gi (r1 i)⟩, ⟨2, _, rowsP fun i => gi (r2 i)⟩], ⟨⟨rfl, rfl, fun i hi => (isPI_row (op i hi)).1⟩, ⟨rfl, rfl, fun i hi => (isPI_row (oq i hi)).1⟩, trivial⟩, ?_⟩
  try simp only [hx, hy]
  rw [reps_eq hx, reps_eq hy]
  exact qsame_nn k1 k2 e1 e2 a b _ _ _ _ _ _ lp (fun i hi => (isPI_row (op i hi)).2) lq (fun i hi => (isPI_row (oq i hi)).2)
theorem qsame_wn (k1 k2 e1 e2 : Int) (a b : RV) (n nc p pc q qc : Nat) (g u v : Nat → Int × Int) (hn : n < 1099511627776) (kn : ∀ i, i < n → I64 (g i).1 ∧ I64 (g i).2) (hp : p < 1099511627776) (kp : ∀ i, i < p → I64 (u i).1 ∧ I64 (u i).2) (hq : q < 1099511627776) (kq : ∀ i, i < q → I64 (v i).1 ∧ I64 (v i).2) : vcFn Try.prog ΓSr0 noΛ Try.f36 [reS k1 e1 a (.sl 0 2 0 n nc) nilS, reS k2 e2 b (.sl 1 2 0 p pc) (.sl 2 2 0 q qc)] (roHeap [⟨2, n, rowsP g⟩, ⟨2, p, rowsP u⟩, ⟨2, q, rowsP v⟩]) 64 (fun y _ => y = bV (sameRB k1 k2 e1 e2 a b (sameBB a.o b.o (sameS (sbOf a.o) n g (sbOf b.o) p u)) (Nat.beq q 0))) := by
  refine Eq.mpr (vcSame_wn k1 k2 e1 e2 a b n nc n p pc p q qc q g u v _) ?_
  rw [gi_rows0 g, gi_rows0 u]
  unfold sameRB
  refine sel_of (fun e => ?_) fun e => by rw [e]; rfl
  rw [e, Bool.true_and]
  refine sel_of (fun e => ?_) fun e => by rw [e]; rfl
  rw [e, Bool.true_and]
  refine sel_of (fun e => ?_) fun e => by rw [e]; rfl
  rw [e, Bool.true_and]
  refine sel_of (fun e => ?_) fun e => by rw [e]; rfl
  rw [e, Bool.true_and]
  refine sel_of (fun e => ?_) fun e => by rw [e]; rfl
  rw [e, Bool.true_and]
  refine sel_of (fun e => ?_) fun e => by rw [e]; rfl
  rw [e, Bool.true_and]
  refine ⟨⟨pre_rows hn kn, pre_rows hp kp⟩, ?_⟩
  refine sel_of (fun e => ?_) fun e => by rw [e]; rfl
  rw [e, Bool.true_and]
  refine ⟨pre_rows hq kq, ?_⟩
  refine sel_of (fun e => ?_) fun e => by rw [e]; rfl
  rw [e, Bool.true_and]
  refine sel_of (fun e => ?_) fun e => by rw [e]; rfl
  rw [e, Bool.true_and]
  rfl
theorem Same_wn_spec : RoSpec Try.prog 36 sSame_wn := ro_spec hm ΓSr0_ok Try.func36 (Λ := fun args bs => noΛ) fun args bs p0 x0 hs hp => by
  unfold sSame_wn at hs
  split at hs <;> try (cases hs; done)
  rename_i x y n' r1 p' r2 q' r3
  split at hs <;> try (cases hs; done)
  rename_i k1 e1 a n nc k2 e2 b p pc q qc hx hy
  have hs := Option.some.inj hs
  obtain ⟨rfl, rfl⟩ := Prod.mk.inj hs
  obtain ⟨⟨on, en, ln⟩, ⟨op, ep, lp⟩, ⟨oq, eq, lq⟩⟩ := hp _ rfl
  subst en ep eq
  have on := okAll_rows.1 on
  have op := okAll_rows.1 op
  have oq := okAll_rows.1 oq
  refine ⟨rfl, [⟨2, _, rowsP fun i => gi (r1 i)⟩, ⟨2, _, rowsP fun i => gi (r2 i)⟩, ⟨2, _, rowsP fun i => gi (r3 i)⟩], ⟨⟨rfl, rfl, fun i hi => (isPI_row (on i hi)).1⟩, ⟨rfl, rfl, fun i hi => (isPI_row (op i hi)).1⟩, ⟨rfl, rfl, fun i hi => (isPI_row (oq i hi)).1⟩, trivial⟩, ?_⟩
  try simp only [hx, hy]
  rw [reps_eq hx, reps_eq hy]
  exact qsame_wn k1 k2 e1 e2 a b _ _ _ _ _ _ _ _ _ ln (fun i hi => (isPI_row (on i hi)).2) lp (fun i hi => (isPI_row (op i hi)).2) lq (fun i hi => (isPI_row (oq i hi)).2)
theorem qsame_nw (k1 k2 e1 e2 : Int) (a b : RV) (m mc p pc q qc : Nat) (h u v : Nat → Int × Int) (hm : m < 1099511627776) (km : ∀ i, i < m → I64 (h i).1 ∧ I64 (h i).2) (hp : p < 1099511627776) (kp : ∀ i, i < p → I64 (u i).1 ∧ I64 (u i).2) (hq : q < 1099511627776) (kq : ∀ i, i < q → I64 (v i).1 ∧ I64 (v i).2) : vcFn Try.prog ΓSr0 noΛ Try.f36 [reS k1 e1 a nilS (.sl 0 2 0 m mc), reS k2 e2 b (.sl 1 2 0 p pc) (.sl 2 2 0 q qc)] (roHeap [⟨2, m, rowsP h⟩, ⟨2, p, rowsP u⟩, ⟨2, q, rowsP v⟩]) 64 (fun y _ => y = bV (sameRB k1 k2 e1 e2 a b (sameBB a.o b.o (eqSh (sbOf a.o) (sbOf b.o) && Nat.beq p 0)) (sameP m h q v))) := by
  refine Eq.mpr (vcSame_nw k1 k2 e1 e2 a b m mc m p pc p q qc q h u v _) ?_
  rw [gi_rows0 h, gi_rows0 v]
  unfold sameRB
  refine sel_of (fun e => ?_) fun e => by rw [e]; rfl
  rw [e, Bool.true_and]
  refine sel_of (fun e => ?_) fun e => by rw [e]; rfl
  rw [e, Bool.true_and]
  refine sel_of (fun e => ?_) fun e => by rw [e]; rfl
  rw [e, Bool.true_and]
  refine sel_of (fun e => ?_) fun e => by rw [e]; rfl
  rw [e, Bool.true_and]
  refine sel_of (fun e => ?_) fun e => by rw [e]; rfl
  rw [e, Bool.true_and]
  refine sel_of (fun e => ?_) fun e => by rw [e]; rfl
  rw [e, Bool.true_and]
  refine ⟨pre_rows hp kp, ?_⟩
  refine sel_of (fun e => ?_) fun e => by rw [e]; rfl
  rw [e, Bool.true_and]
  refine ⟨⟨pre_rows hm km, pre_rows hq kq⟩, ?_⟩
  refine sel_of (fun e => ?_) fun e => by rw [e]; rfl
  rw [e, Bool.true_and]
  refine sel_of (fun e => ?_) fun e => by rw [e]; rfl
  rw [e, Bool.true_and]
  rfl
theorem Same_nw_spec : RoSpec Try.prog 36 sSame_nw := ro_spec hm ΓSr0_ok Try.func36 (Λ := fun args bs => noΛ) fun args bs p0 x0 hs hp => by
  unfold sSame_nw at hs
  split at hs <;> try (cases hs; done)
  rename_i x y m' r1 p' r2 q' r3
  split at hs <;> try (cases hs; done)
  rename_i k1 e1 a m mc k2 e2 b p pc q qc hx hy
  have hs := Option.some.inj hs
  obtain ⟨rfl, rfl⟩ := Prod.mk.inj hs
  obtain ⟨⟨om, em, lm⟩, ⟨op, ep, lp⟩, ⟨oq, eq, lq⟩⟩ := hp _ rfl
  subst em ep eq
  have om := okAll_rows.1 om
  have op := okAll_rows.1 op
  have oq := okAll_rows.1 oq
  refine ⟨rfl, [⟨2, _, rowsP fun i => gi (r1 i)⟩, ⟨2, _, rowsP fun i => gi (r2 i)⟩, ⟨2, _, rowsP fun i => gi (r3 i)⟩], ⟨⟨rfl, rfl, fun i hi => (isPI_row (om i hi)).1⟩, ⟨rfl, rfl, fun i hi => (isPI_row (op i hi)).1⟩, ⟨rfl, rfl, fun i hi => (isPI_row (oq i hi)).1⟩, trivial⟩, ?_⟩
  try simp only [hx, hy]
  rw [reps_eq hx, reps_eq hy]
  exact qsame_nw k1 k2 e1 e2 a b _ _ _ _ _ _ _ _ _ lm (fun i hi => (isPI_row (om i hi)).2) lp (fun i hi => (isPI_row (op i hi)).2) lq (fun i hi => (isPI_row (oq i hi)).2)
theorem qrsame_ww (k1 k2 e1 e2 : Int) (a b : RV) (p pc q qc n nc m mc : Nat) (u v g h : Nat → Int × Int) (hp : p < 1099511627776) (kp : ∀ i, i < p → I64 (u i).1 ∧ I64 (u i).2) (hq : q < 1099511627776) (kq : ∀ i, i < q → I64 (v i).1 ∧ I64 (v i).2) (hn : n < 1099511627776) (kn : ∀ i, i < n → I64 (g i).1 ∧ I64 (g i).2) (hm : m < 1099511627776) (km : ∀ i, i < m → I64 (h i).1 ∧ I64 (h i).2) : vcFn Try.prog ΓSr1 (ΛEqual Try.f37 5 q v h) Try.f37 [reS k1 e1 a (.sl 0 2 0 p pc) (.sl 1 2 0 q qc), reS k2 e2 b (.sl 2 2 0 n nc) (.sl 3 2 0 m mc)] (roHeap [⟨2, p, rowsP u⟩, ⟨2, q, rowsP v⟩, ⟨2, n, rowsP g⟩, ⟨2, m, rowsP h⟩]) 64 (fun y _ => y = bV (sameRB k1 k2 e1 e2 a b (sameBB a.o b.o (sameS (sbOf a.o) p u (sbOf b.o) n g)) (sameP q v m h))) := by
  refine Eq.mpr (vcRSame_ww k1 k2 e1 e2 a b p pc p q qc q n nc n m mc m u v g h _) ?_
  rw [gi_rows0 u, gi_rows0 g]
  refine ⟨⟨pre_rows hp kp, pre_rows hn kn⟩, sel_of (fun e => by rw [sameRB_s (by simpa using e)]; rfl) fun es => eq_loop hq (fun e => by rw [sameRB_t e]; rfl) fun et => ?_⟩
  rw [show sameBB a.o b.o (sameS (sbOf a.o) p u (sbOf b.o) n g) = true by simpa using es, et]
  unfold sameRB
  refine sel_of (fun e => ?_) fun e => by rw [e]; rfl
  rw [e, Bool.true_and]
  refine sel_of (fun e => ?_) fun e => by rw [e]; rfl
  rw [e, Bool.true_and]
  refine sel_of (fun e => ?_) fun e => by rw [e]; rfl
  rw [e, Bool.true_and]
  refine sel_of (fun e => ?_) fun e => by rw [e]; rfl
  rw [e, Bool.true_and]
  refine sel_of (fun e => ?_) fun e => by rw [e]; rfl
  rw [e, Bool.true_and]
  refine sel_of (fun e => ?_) fun e => by rw [e]; rfl
  rw [e, Bool.true_and]
  rw [Bool.true_and, Bool.true_and]
  refine sel_of (fun e => ?_) fun e => by rw [e]; rfl
  rw [e, Bool.true_and]
  rfl
theorem RSame_ww_spec : RoSpec Try.prog 37 sRSame_ww := ro_spec hm ΓSr1_ok Try.func37 (Λ := fun args bs => match args, bs with | [.agg x, .agg y], [⟨2, _, r1⟩, ⟨2, _, r2⟩, ⟨2, _, r3⟩, ⟨2, _, r4⟩] => (match cellsOfR x, cellsOfR y with | some (_, _, _, .sl _ _ _ p _, .sl _ _ _ q _), some (_, _, _, .sl _ _ _ n _, .sl _ _ _ m _) => ΛEqual Try.f37 5 q (fun i => gi (r2 i)) (fun i => gi (r4 i)) | _, _ => noΛ) | _, _ => noΛ) fun args bs p0 x0 hs hp => by
  unfold sRSame_ww at hs
  split at hs <;> try (cases hs; done)
  rename_i x y p' r1 q' r2 n' r3 m' r4
  split at hs <;> try (cases hs; done)
  rename_i k1 e1 a p pc q qc k2 e2 b n nc m mc hx hy
  have hs := Option.some.inj hs
  obtain ⟨rfl, rfl⟩ := Prod.mk.inj hs
  obtain ⟨⟨op, ep, lp⟩, ⟨oq, eq, lq⟩, ⟨on, en, ln⟩, ⟨om, em, lm⟩⟩ := hp _ rfl
  subst ep eq en em
  have op := okAll_rows.1 op
  have oq := okAll_rows.1 oq
  have on := okAll_rows.1 on
  have om := okAll_rows.1 om
  refine ⟨rfl, [⟨2, _, rowsP fun i => gi (r1 i)⟩, ⟨2, _, rowsP fun i => gi (r2 i)⟩, ⟨2, _, rowsP fun i => gi (r3 i)⟩, ⟨2, _, rowsP fun i => gi (r4 i)⟩], ⟨⟨rfl, rfl, fun i hi => (isPI_row (op i hi)).1⟩, ⟨rfl, rfl, fun i hi => (isPI_row (oq i hi)).1⟩, ⟨rfl, rfl, fun i hi => (isPI_row (on i hi)).1⟩, ⟨rfl, rfl, fun i hi => (isPI_row (om i hi)).1⟩, trivial⟩, ?_⟩
  try simp only [hx, hy]
  rw [reps_eq hx, reps_eq hy]
  exact qrsame_ww k1 k2 e1 e2 a b _ _ _ _ _ _ _ _ _ _ _ _ lp (fun i hi => (isPI_row (op i hi)).2) lq (fun i hi => (isPI_row (oq i hi)).2) ln (fun i hi => (isPI_row (on i hi)).2) lm (fun i hi => (isPI_row (om i hi)).2)
theorem qrsame_nn (k1 k2 e1 e2 : Int) (a b : RV) (p pc q qc : Nat) (u v : Nat → Int × Int) (hp : p < 1099511627776) (kp : ∀ i, i < p → I64 (u i).1 ∧ I64 (u i).2) (hq : q < 1099511627776) (kq : ∀ i, i < q → I64 (v i).1 ∧ I64 (v i).2) : vcFn Try.prog ΓSr1 (ΛZ Try.f37 5) Try.f37 [reS k1 e1 a (.sl 0 2 0 p pc) (.sl 1 2 0 q qc), reS k2 e2 b nilS nilS] (roHeap [⟨2, p, rowsP u⟩, ⟨2, q, rowsP v⟩]) 64 (fun y _ => y = bV (sameRB k1 k2 e1 e2 a b (sameBB a.o b.o (eqSh (sbOf a.o) (sbOf b.o) && Nat.beq p 0)) (Nat.beq q 0))) := by
  refine Eq.mpr (vcRSame_nn k1 k2 e1 e2 a b p pc p q qc q u v _) ?_
  refine ⟨pre_rows hp kp, sel_of (fun e => by rw [sameRB_s (by simpa using e)]; rfl) fun es => eq_loopN (fun e => by rw [sameRB_t e]; rfl) fun et => ?_⟩
  rw [show sameBB a.o b.o (eqSh (sbOf a.o) (sbOf b.o) && Nat.beq p 0) = true by simpa using es, et]
  unfold sameRB
  refine sel_of (fun e => ?_) fun e => by rw [e]; rfl
  rw [e, Bool.true_and]
  refine sel_of (fun e => ?_) fun e => by rw [e]; rfl
  rw [e, Bool.true_and]
  refine sel_of (fun e => ?_) fun e => by rw [e]; rfl
  rw [e, Bool.true_and]
  refine sel_of (fun e => ?_) fun e => by rw [e]; rfl
  rw [e, Bool.true_and]
  refine sel_of (fun e => ?_) fun e => by rw [e]; rfl
  rw [e, Bool.true_and]
  refine sel_of (fun e => ?_) fun e => by rw [e]; rfl
  rw [e, Bool.true_and]
  rw [Bool.true_and, Bool.true_and]
  refine sel_of (fun e => ?_) fun e => by rw [e]; rfl
  rw [e, Bool.true_and]
  rfl
theorem RSame_nn_spec : RoSpec Try.prog 37 sRSame_nn := ro_spec hm ΓSr1_ok Try.func37 (Λ := fun args bs => ΛZ Try.f37 5) fun args bs p0 x0 hs hp => by
  unfold sRSame_nn at hs
  split at hs <;> try (cases hs; done)
  rename_i x y p' r1 q' r2
  split at hs <;> try (cases hs; done)
  rename_i k1 e1 a p pc q qc k2 e2 b hx hy
  have hs := Option.some.inj hs
  obtain ⟨rfl, rfl⟩ := Prod.mk.inj hs
  obtain ⟨⟨op, ep, lp⟩, ⟨oq, eq, lq⟩⟩ := hp _ rfl
  subst ep eq
  have op := okAll_rows.1 op
  have oq := okAll_rows.1 oq
  refine ⟨rfl, [⟨2, _, rowsP fun i => gi (r1 i)⟩, ⟨2, _, rowsP fun i => gi (r2 i)⟩], ⟨⟨rfl, rfl, fun i hi => (isPI_row (op i hi)).1⟩, ⟨rfl, rfl, fun i hi => (isPI_row (oq i hi)).1⟩, trivial⟩, ?_⟩
  try simp only [hx, hy]
  rw [reps_eq hx, reps_eq hy]
  exact qrsame_nn k1 k2 e1 e2 a b _ _ _ _ _ _ lp (fun i hi => (isPI_row (op i hi)).2) lq (fun i hi => (isPI_row (oq i hi)).2)
theorem qrsame_wn (k1 k2 e1 e2 : Int) (a b : RV) (p pc q qc n nc : Nat) (u v g : Nat → Int × Int) (hp : p < 1099511627776) (kp : ∀ i, i < p → I64 (u i).1 ∧ I64 (u i).2) (hq : q < 1099511627776) (kq : ∀ i, i < q → I64 (v i).1 ∧ I64 (v i).2) (hn : n < 1099511627776) (kn : ∀ i, i < n → I64 (g i).1 ∧ I64 (g i).2) : vcFn Try.prog ΓSr1 (ΛZ Try.f37 5) Try.f37 [reS k1 e1 a (.sl 0 2 0 p pc) (.sl 1 2 0 q qc), reS k2 e2 b (.sl 2 2 0 n nc) nilS] (roHeap [⟨2, p, rowsP u⟩, ⟨2, q, rowsP v⟩, ⟨2, n, rowsP g⟩]) 64 (fun y _ => y = bV (sameRB k1 k2 e1 e2 a b (sameBB a.o b.o (sameS (sbOf a.o) p u (sbOf b.o) n g)) (Nat.beq q 0))) := by
  refine Eq.mpr (vcRSame_wn k1 k2 e1 e2 a b p pc p q qc q n nc n u v g _) ?_
  rw [gi_rows0 u, gi_rows0 g]
  refine ⟨⟨pre_rows hp kp, pre_rows hn kn⟩, sel_of (fun e => by rw [sameRB_s (by simpa using e)]; rfl) fun es => eq_loopN (fun e => by rw [sameRB_t e]; rfl) fun et => ?_⟩
  rw [show sameBB a.o b.o (sameS (sbOf a.o) p u (sbOf b.o) n g) = true by simpa using es, et]
  unfold sameRB
  refine sel_of (fun e => ?_) fun e => by rw [e]; rfl
  rw [e, Bool.true_and]
  refine sel_of (fun e => ?_) fun e => by rw [e]; rfl
  rw [e, Bool.true_and]
  refine sel_of (fun e => ?_) fun e => by rw [e]; rfl
  rw [e, Bool.true_and]
  refine sel_of (fun e => ?_) fun e => by rw [e]; rfl
  rw [e, Bool.true_and]
  refine sel_of (fun e => ?_) fun e => by rw [e]; rfl
  rw [e, Bool.true_and]
  refine sel_of (fun e => ?_) fun e => by rw [e]; rfl
  rw [e, Bool.true_and]
  rw [Bool.true_and, Bool.true_and]
  refine sel_of (fun e => ?_) fun e => by rw [e]; rfl
  rw [e, Bool.true_and]
  rfl
theorem RSame_wn_spec : RoSpec Try.prog 37 sRSame_wn := ro_spec hm ΓSr1_ok Try.func37 (Λ := fun args bs => ΛZ Try.f37 5) fun args bs p0 x0 hs hp => by
  unfold sRSame_wn at hs
  split at hs <;> try (cases hs; done)
  rename_i x y p' r1 q' r2 n' r3
  split at hs <;> try (cases hs; done)
  rename_i k1 e1 a p pc q qc k2 e2 b n nc hx hy
  have hs := Option.some.inj hs
  obtain ⟨rfl, rfl⟩ := Prod.mk.inj hs
  obtain ⟨⟨op, ep, lp⟩, ⟨oq, eq, lq⟩, ⟨on, en, ln⟩⟩ := hp _ rfl
  subst ep eq en
  have op := okAll_rows.1 op
  have oq := okAll_rows.1 oq
  have on := okAll_rows.1 on
  refine ⟨rfl, [⟨2, _, rowsP fun i => gi (r1 i)⟩, ⟨2, _, rowsP fun i => gi (r2 i)⟩, ⟨2, _, rowsP fun i => gi (r3 i)⟩], ⟨⟨rfl, rfl, fun i hi => (isPI_row (op i hi)).1⟩, ⟨rfl, rfl, fun i hi => (isPI_row (oq i hi)).1⟩, ⟨rfl, rfl, fun i hi => (isPI_row (on i hi)).1⟩, trivial⟩, ?_⟩
  try simp only [hx, hy]
  rw [reps_eq hx, reps_eq hy]
  exact qrsame_wn k1 k2 e1 e2 a b _ _ _ _ _ _ _ _ _ lp (fun i hi => (isPI_row (op i hi)).2) lq (fun i hi => (isPI_row (oq i hi)).2) ln (fun i hi => (isPI_row (on i hi)).2)
theorem qrsame_nw (k1 k2 e1 e2 : Int) (a b : RV) (p pc q qc m mc : Nat) (u v h : Nat → Int × Int) (hp : p < 1099511627776) (kp : ∀ i, i < p → I64 (u i).1 ∧ I64 (u i).2) (hq : q < 1099511627776) (kq : ∀ i, i < q → I64 (v i).1 ∧ I64 (v i).2) (hm : m < 1099511627776) (km : ∀ i, i < m → I64 (h i).1 ∧ I64 (h i).2) : vcFn Try.prog ΓSr1 (ΛEqual Try.f37 5 q v h) Try.f37 [reS k1 e1 a (.sl 0 2 0 p pc) (.sl 1 2 0 q qc), reS k2 e2 b nilS (.sl 2 2 0 m mc)] (roHeap [⟨2, p, rowsP u⟩, ⟨2, q, rowsP v⟩, ⟨2, m, rowsP h⟩]) 64 (fun y _ => y = bV (sameRB k1 k2 e1 e2 a b (sameBB a.o b.o (eqSh (sbOf a.o) (sbOf b.o) && Nat.beq p 0)) (sameP q v m h))) := by
  refine Eq.mpr (vcRSame_nw k1 k2 e1 e2 a b p pc p q qc q m mc m u v h _) ?_
  refine ⟨pre_rows hp kp, sel_of (fun e => by rw [sameRB_s (by simpa using e)]; rfl) fun es => eq_loop hq (fun e => by rw [sameRB_t e]; rfl) fun et => ?_⟩
  rw [show sameBB a.o b.o (eqSh (sbOf a.o) (sbOf b.o) && Nat.beq p 0) = true by simpa using es, et]
  unfold sameRB
  refine sel_of (fun e => ?_) fun e => by rw [e]; rfl
  rw [e, Bool.true_and]
  refine sel_of (fun e => ?_) fun e => by rw [e]; rfl
  rw [e, Bool.true_and]
  refine sel_of (fun e => ?_) fun e => by rw [e]; rfl
  rw [e, Bool.true_and]
  refine sel_of (fun e => ?_) fun e => by rw [e]; rfl
  rw [e, Bool.true_and]
  refine sel_of (fun e => ?_) fun e => by rw [e]; rfl
  rw [e, Bool.true_and]
  refine sel_of (fun e => ?_) fun e => by rw [e]; rfl
  rw [e, Bool.true_and]
  rw [Bool.true_and, Bool.true_and]
  refine sel_of (fun e => ?_) fun e => by rw [e]; rfl
  rw [e, Bool.true_and]
  rfl
theorem RSame_nw_spec : RoSpec Try.prog 37 sRSame_nw := ro_spec hm ΓSr1_ok Try.func37 (Λ := fun args bs => match args, bs with | [.agg x, .agg y], [⟨2, _, r1⟩, ⟨2, _, r2⟩, ⟨2, _, r3⟩] => (match cellsOfR x, cellsOfR y with | some (_, _, _, .sl _ _ _ p _, .sl _ _ _ q _), some (_, _, _, _, .sl _ _ _ m _) => ΛEqual Try.f37 5 q (fun i => gi (r2 i)) (fun i => gi (r3 i)) | _, _ => noΛ) | _, _ => noΛ) fun args bs p0 x0 hs hp => by
  unfold sRSame_nw at hs
  split at hs <;> try (cases hs; done)
  rename_i x y p' r1 q' r2 m' r3
  split at hs <;> try (cases hs; done)
  rename_i k1 e1 a p pc q qc k2 e2 b m mc hx hy
  have hs := Option.some.inj hs
  obtain ⟨rfl, rfl⟩ := Prod.mk.inj hs
  obtain ⟨⟨op, ep, lp⟩, ⟨oq, eq, lq⟩, ⟨om, em, lm⟩⟩ := hp _ rfl
  subst ep eq em
  have op := okAll_rows.1 op
  have oq := okAll_rows.1 oq
  have om := okAll_rows.1 om
  refine ⟨rfl, [⟨2, _, rowsP fun i => gi (r1 i)⟩, ⟨2, _, rowsP fun i => gi (r2 i)⟩, ⟨2, _, rowsP fun i => gi (r3 i)⟩], ⟨⟨rfl, rfl, fun i hi => (isPI_row (op i hi)).1⟩, ⟨rfl, rfl, fun i hi => (isPI_row (oq i hi)).1⟩, ⟨rfl, rfl, fun i hi => (isPI_row (om i hi)).1⟩, trivial⟩, ?_⟩
  try simp only [hx, hy]
  rw [reps_eq hx, reps_eq hy]
  exact qrsame_nw k1 k2 e1 e2 a b _ _ _ _ _ _ _ _ _ lp (fun i hi => (isPI_row (op i hi)).2) lq (fun i hi => (isPI_row (oq i hi)).2) lm (fun i hi => (isPI_row (om i hi)).2)
theorem SameR_spec' : RoSpec Try.prog 36 sSameR := ro_or (ro_or Same_ww_spec Same_nn_spec) (ro_or Same_wn_spec Same_nw_spec)
theorem RSameR_spec' : RoSpec Try.prog 37 sRSameR := ro_or (ro_or RSame_ww_spec RSame_nn_spec) (ro_or RSame_wn_spec RSame_nw_spec)
end Go.Proofs.Ytjdldadmaaeimaa
end

section
set_option maxRecDepth 100000
set_option linter.unusedSimpArgs false
set_option linter.unusedVariables false
namespace Go.Proofs.Ytjdldadmaaeimaa
open Go.SE Go.RowKit
def rwPre (k e : Int) (c : RV) (n m : Nat) (S H : Blk) : Prop := (e = 0 → 1 ≤ k ∧ k ≤ 10) ∧ (I64 k ∧ I64 e) ∧ rvOk c ∧ (spPre n S ∧ n < 100) ∧ spPre m H ∧ m < 200
def sReplyW (args : List SV) (bs : List Blk) : Option Eff := match args with
  | [.vp 0 0, .agg l] => match cellsOfR l with
    | some (k, e, c, .sl 1 2 0 n _, .sl 2 2 0 m _) => match bs with
      | [B, S, H] => match wrOf [B] with
        | some (.fresh (some b)) => bif okB S && okB H then some (apE (.fresh (some b)) 0 (rwPre k e c n m S H) (6 + rNK k e n m) (rpL k e c (rTK k e c n (gX S) (gY S) m (gX H) (gY H))) (rpB e c (rBK k e c n m (gX H) (gY H)))) else none
        | _ => none
      | _ => none
    | _ => none
  | _ => none
def ΓRy : Ctrs := addCtr (addCtr (addCtr (addCtr noCtrs 77 (hpCtr false sShown)) 36 (roCtr sSameR)) 78 (hpCtr true sReplyW)) 71 (hpCtr true sDoneG)
theorem vcRep0 (c : RV) (n cap m cp : Nat) (g h : Nat→Int × Int) (R : SV→Prop) : (vcFn Try.prog ΓRy noΛ Try.f32 [reS 0 0 c (.sl 0 2 0 n cap) (.sl 1 2 0 m cp)] (roHeap [⟨2,n,rowsP g⟩,⟨2,m,rowsP h⟩]) 64 (fun y _ => R y)) = (((spPre n (winBlk (Ro.blk {s:=2,n:=n,row:=fun i => [SV.v (.int .i64 (Prod.fst (g i))),SV.v (.int .i64 (Prod.snd (g i)))]}) 2 0 n))∧(spPre m (winBlk (Ro.blk {s:=2,n:=m,row:=fun i => [SV.v (.int .i64 (Prod.fst (h i))),SV.v (.int .i64 (Prod.snd (h i)))]}) 2 0 m)))∧(((rowsPre n n fun y => [SV.v (.int .i64 (Prod.fst (g (0 + y)))),SV.v (.int .i64 (Prod.snd (g (0 + y))))])∧(rowsPre m m fun y => [SV.v (.int .i64 (Prod.fst (h (0 + y)))),SV.v (.int .i64 (Prod.snd (h (0 + y))))]))∧(sel (!sameRB 0 0 0 0 (uR0 c) c (sameBB (RV.o (uR0 c)) (RV.o c) (eqSh (sbOf (RV.o (uR0 c))) (sbOf (RV.o c))&&Nat.beq n 0)) (Nat.beq m 0)) (R (SV.tup [(SV.v (.string ({data:=#[]}))),(SV.v (.int .i64 4))])) (sel (RV.id c != 0) (R (SV.tup [(SV.v (.string ({data:=#[]}))),(SV.v (.int .i64 4))])) (R (SV.tup [(SV.v (.string ({data:=#[]}))),(SV.v (.int .i64 4))])))))):=by kernel_rfl
theorem vcRep1 (c : RV) (n cap m cp : Nat) (g h : Nat→Int × Int) (R : SV→Prop) : (vcFn Try.prog ΓRy noΛ Try.f32 [reS 1 0 c (.sl 0 2 0 n cap) (.sl 1 2 0 m cp)] (roHeap [⟨2,n,rowsP g⟩,⟨2,m,rowsP h⟩]) 64 (fun y _ => R y)) = (((spPre n (winBlk (Ro.blk {s:=2,n:=n,row:=fun i => [SV.v (.int .i64 (Prod.fst (g i))),SV.v (.int .i64 (Prod.snd (g i)))]}) 2 0 n))∧(spPre m (winBlk (Ro.blk {s:=2,n:=m,row:=fun i => [SV.v (.int .i64 (Prod.fst (h i))),SV.v (.int .i64 (Prod.snd (h i)))]}) 2 0 m)))∧(((rowsPre n n fun y => [SV.v (.int .i64 (Prod.fst (g (0 + y)))),SV.v (.int .i64 (Prod.snd (g (0 + y))))])∧(rowsPre m m fun y => [SV.v (.int .i64 (Prod.fst (h (0 + y)))),SV.v (.int .i64 (Prod.snd (h (0 + y))))]))∧(sel (!sameRB 1 1 0 0 (uR1 c) c (sameBB (RV.o (uR1 c)) (RV.o c) (eqSh (sbOf (RV.o (uR1 c))) (sbOf (RV.o c))&&Nat.beq n 0)) (Nat.beq m 0)) (R (SV.tup [(SV.v (.string ({data:=#[]}))),(SV.v (.int .i64 4))])) ((rwPre 1 0 c n m (winBlk (Ro.blk {s:=2,n:=n,row:=fun i => [SV.v (.int .i64 (Prod.fst (g i))),SV.v (.int .i64 (Prod.snd (g i)))]}) 2 0 n) (winBlk (Ro.blk {s:=2,n:=m,row:=fun i => [SV.v (.int .i64 (Prod.fst (h i))),SV.v (.int .i64 (Prod.snd (h i)))]}) 2 0 m))∧(∀ c_1 : Nat,((bytesOk (6 + rNK 1 0 n m) (6 + rNK 1 0 n m + c_1) {elem:=5,size:=1,rw:=true,lock:=false,lit:=false,flat:=true,n:=6 + rNK 1 0 n m,row:=fun i => [SV.v (.int .u8 ((fun i => List.getD (rpL 1 0 c (rTK 1 0 c n (gX (winBlk (Ro.blk {s:=2,n:=n,row:=fun i => [SV.v (.int .i64 (Prod.fst (g i))),SV.v (.int .i64 (Prod.snd (g i)))]}) 2 0 n)) (gY (winBlk (Ro.blk {s:=2,n:=n,row:=fun i => [SV.v (.int .i64 (Prod.fst (g i))),SV.v (.int .i64 (Prod.snd (g i)))]}) 2 0 n)) m (gX (winBlk (Ro.blk {s:=2,n:=m,row:=fun i => [SV.v (.int .i64 (Prod.fst (h i))),SV.v (.int .i64 (Prod.snd (h i)))]}) 2 0 m)) (gY (winBlk (Ro.blk {s:=2,n:=m,row:=fun i => [SV.v (.int .i64 (Prod.fst (h i))),SV.v (.int .i64 (Prod.snd (h i)))]}) 2 0 m)))) i 0) i))],ext:=6 + rNK 1 0 n m + c_1})∧(R (SV.tup [(SV.v (.string (bif false||rpB 0 c (rBK 1 0 c n m (gX (winBlk (Ro.blk {s:=2,n:=m,row:=fun i => [SV.v (.int .i64 (Prod.fst (h i))),SV.v (.int .i64 (Prod.snd (h i)))]}) 2 0 m)) (gY (winBlk (Ro.blk {s:=2,n:=m,row:=fun i => [SV.v (.int .i64 (Prod.fst (h i))),SV.v (.int .i64 (Prod.snd (h i)))]}) 2 0 m))) then emp else strOf (6 + rNK 1 0 n m) fun i => [SV.v (.int .u8 (SE.byteOf [SV.v (.int .u8 ((fun i => List.getD (rpL 1 0 c (rTK 1 0 c n (gX (winBlk (Ro.blk {s:=2,n:=n,row:=fun i => [SV.v (.int .i64 (Prod.fst (g i))),SV.v (.int .i64 (Prod.snd (g i)))]}) 2 0 n)) (gY (winBlk (Ro.blk {s:=2,n:=n,row:=fun i => [SV.v (.int .i64 (Prod.fst (g i))),SV.v (.int .i64 (Prod.snd (g i)))]}) 2 0 n)) m (gX (winBlk (Ro.blk {s:=2,n:=m,row:=fun i => [SV.v (.int .i64 (Prod.fst (h i))),SV.v (.int .i64 (Prod.snd (h i)))]}) 2 0 m)) (gY (winBlk (Ro.blk {s:=2,n:=m,row:=fun i => [SV.v (.int .i64 (Prod.fst (h i))),SV.v (.int .i64 (Prod.snd (h i)))]}) 2 0 m)))) i 0) i))]))]))),(SV.v (.int .i64 (bif false||rpB 0 c (rBK 1 0 c n m (gX (winBlk (Ro.blk {s:=2,n:=m,row:=fun i => [SV.v (.int .i64 (Prod.fst (h i))),SV.v (.int .i64 (Prod.snd (h i)))]}) 2 0 m)) (gY (winBlk (Ro.blk {s:=2,n:=m,row:=fun i => [SV.v (.int .i64 (Prod.fst (h i))),SV.v (.int .i64 (Prod.snd (h i)))]}) 2 0 m))) then 3 else 0)))])))))))):=by kernel_rfl
theorem vcRep2 (c : RV) (n cap m cp : Nat) (g h : Nat→Int × Int) (R : SV→Prop) : (vcFn Try.prog ΓRy noΛ Try.f32 [reS 2 0 c (.sl 0 2 0 n cap) (.sl 1 2 0 m cp)] (roHeap [⟨2,n,rowsP g⟩,⟨2,m,rowsP h⟩]) 64 (fun y _ => R y)) = (((spPre n (winBlk (Ro.blk {s:=2,n:=n,row:=fun i => [SV.v (.int .i64 (Prod.fst (g i))),SV.v (.int .i64 (Prod.snd (g i)))]}) 2 0 n))∧(spPre m (winBlk (Ro.blk {s:=2,n:=m,row:=fun i => [SV.v (.int .i64 (Prod.fst (h i))),SV.v (.int .i64 (Prod.snd (h i)))]}) 2 0 m)))∧(((rowsPre n n fun y => [SV.v (.int .i64 (Prod.fst (g (0 + y)))),SV.v (.int .i64 (Prod.snd (g (0 + y))))])∧(rowsPre m m fun y => [SV.v (.int .i64 (Prod.fst (h (0 + y)))),SV.v (.int .i64 (Prod.snd (h (0 + y))))]))∧(sel (!sameRB 2 2 0 0 (uR2 c) c (sameBB (RV.o (uR2 c)) (RV.o c) (eqSh (sbOf (RV.o (uR2 c))) (sbOf (RV.o c))&&Nat.beq n 0)) (Nat.beq m 0)) (R (SV.tup [(SV.v (.string ({data:=#[]}))),(SV.v (.int .i64 4))])) ((rwPre 2 0 c n m (winBlk (Ro.blk {s:=2,n:=n,row:=fun i => [SV.v (.int .i64 (Prod.fst (g i))),SV.v (.int .i64 (Prod.snd (g i)))]}) 2 0 n) (winBlk (Ro.blk {s:=2,n:=m,row:=fun i => [SV.v (.int .i64 (Prod.fst (h i))),SV.v (.int .i64 (Prod.snd (h i)))]}) 2 0 m))∧(∀ c_1 : Nat,((bytesOk (6 + rNK 2 0 n m) (6 + rNK 2 0 n m + c_1) {elem:=5,size:=1,rw:=true,lock:=false,lit:=false,flat:=true,n:=6 + rNK 2 0 n m,row:=fun i => [SV.v (.int .u8 ((fun i => List.getD (rpL 2 0 c (rTK 2 0 c n (gX (winBlk (Ro.blk {s:=2,n:=n,row:=fun i => [SV.v (.int .i64 (Prod.fst (g i))),SV.v (.int .i64 (Prod.snd (g i)))]}) 2 0 n)) (gY (winBlk (Ro.blk {s:=2,n:=n,row:=fun i => [SV.v (.int .i64 (Prod.fst (g i))),SV.v (.int .i64 (Prod.snd (g i)))]}) 2 0 n)) m (gX (winBlk (Ro.blk {s:=2,n:=m,row:=fun i => [SV.v (.int .i64 (Prod.fst (h i))),SV.v (.int .i64 (Prod.snd (h i)))]}) 2 0 m)) (gY (winBlk (Ro.blk {s:=2,n:=m,row:=fun i => [SV.v (.int .i64 (Prod.fst (h i))),SV.v (.int .i64 (Prod.snd (h i)))]}) 2 0 m)))) i 0) i))],ext:=6 + rNK 2 0 n m + c_1})∧(R (SV.tup [(SV.v (.string (bif false||rpB 0 c (rBK 2 0 c n m (gX (winBlk (Ro.blk {s:=2,n:=m,row:=fun i => [SV.v (.int .i64 (Prod.fst (h i))),SV.v (.int .i64 (Prod.snd (h i)))]}) 2 0 m)) (gY (winBlk (Ro.blk {s:=2,n:=m,row:=fun i => [SV.v (.int .i64 (Prod.fst (h i))),SV.v (.int .i64 (Prod.snd (h i)))]}) 2 0 m))) then emp else strOf (6 + rNK 2 0 n m) fun i => [SV.v (.int .u8 (SE.byteOf [SV.v (.int .u8 ((fun i => List.getD (rpL 2 0 c (rTK 2 0 c n (gX (winBlk (Ro.blk {s:=2,n:=n,row:=fun i => [SV.v (.int .i64 (Prod.fst (g i))),SV.v (.int .i64 (Prod.snd (g i)))]}) 2 0 n)) (gY (winBlk (Ro.blk {s:=2,n:=n,row:=fun i => [SV.v (.int .i64 (Prod.fst (g i))),SV.v (.int .i64 (Prod.snd (g i)))]}) 2 0 n)) m (gX (winBlk (Ro.blk {s:=2,n:=m,row:=fun i => [SV.v (.int .i64 (Prod.fst (h i))),SV.v (.int .i64 (Prod.snd (h i)))]}) 2 0 m)) (gY (winBlk (Ro.blk {s:=2,n:=m,row:=fun i => [SV.v (.int .i64 (Prod.fst (h i))),SV.v (.int .i64 (Prod.snd (h i)))]}) 2 0 m)))) i 0) i))]))]))),(SV.v (.int .i64 (bif false||rpB 0 c (rBK 2 0 c n m (gX (winBlk (Ro.blk {s:=2,n:=m,row:=fun i => [SV.v (.int .i64 (Prod.fst (h i))),SV.v (.int .i64 (Prod.snd (h i)))]}) 2 0 m)) (gY (winBlk (Ro.blk {s:=2,n:=m,row:=fun i => [SV.v (.int .i64 (Prod.fst (h i))),SV.v (.int .i64 (Prod.snd (h i)))]}) 2 0 m))) then 3 else 0)))])))))))):=by kernel_rfl
theorem vcRep3 (c : RV) (n cap m cp : Nat) (g h : Nat→Int × Int) (R : SV→Prop) : (vcFn Try.prog ΓRy noΛ Try.f32 [reS 3 0 c (.sl 0 2 0 n cap) (.sl 1 2 0 m cp)] (roHeap [⟨2,n,rowsP g⟩,⟨2,m,rowsP h⟩]) 64 (fun y _ => R y)) = (((spPre n (winBlk (Ro.blk {s:=2,n:=n,row:=fun i => [SV.v (.int .i64 (Prod.fst (g i))),SV.v (.int .i64 (Prod.snd (g i)))]}) 2 0 n))∧(spPre m (winBlk (Ro.blk {s:=2,n:=m,row:=fun i => [SV.v (.int .i64 (Prod.fst (h i))),SV.v (.int .i64 (Prod.snd (h i)))]}) 2 0 m)))∧(((rowsPre n n fun y => [SV.v (.int .i64 (Prod.fst (g (0 + y)))),SV.v (.int .i64 (Prod.snd (g (0 + y))))])∧(rowsPre m m fun y => [SV.v (.int .i64 (Prod.fst (h (0 + y)))),SV.v (.int .i64 (Prod.snd (h (0 + y))))]))∧(sel (!sameRB 3 3 0 0 (uR3 c) c (sameBB (RV.o (uR3 c)) (RV.o c) (eqSh (sbOf (RV.o (uR3 c))) (sbOf (RV.o c))&&Nat.beq n 0)) (Nat.beq m 0)) (R (SV.tup [(SV.v (.string ({data:=#[]}))),(SV.v (.int .i64 4))])) ((rwPre 3 0 c n m (winBlk (Ro.blk {s:=2,n:=n,row:=fun i => [SV.v (.int .i64 (Prod.fst (g i))),SV.v (.int .i64 (Prod.snd (g i)))]}) 2 0 n) (winBlk (Ro.blk {s:=2,n:=m,row:=fun i => [SV.v (.int .i64 (Prod.fst (h i))),SV.v (.int .i64 (Prod.snd (h i)))]}) 2 0 m))∧(∀ c_1 : Nat,((bytesOk (6 + rNK 3 0 n m) (6 + rNK 3 0 n m + c_1) {elem:=5,size:=1,rw:=true,lock:=false,lit:=false,flat:=true,n:=6 + rNK 3 0 n m,row:=fun i => [SV.v (.int .u8 ((fun i => List.getD (rpL 3 0 c (rTK 3 0 c n (gX (winBlk (Ro.blk {s:=2,n:=n,row:=fun i => [SV.v (.int .i64 (Prod.fst (g i))),SV.v (.int .i64 (Prod.snd (g i)))]}) 2 0 n)) (gY (winBlk (Ro.blk {s:=2,n:=n,row:=fun i => [SV.v (.int .i64 (Prod.fst (g i))),SV.v (.int .i64 (Prod.snd (g i)))]}) 2 0 n)) m (gX (winBlk (Ro.blk {s:=2,n:=m,row:=fun i => [SV.v (.int .i64 (Prod.fst (h i))),SV.v (.int .i64 (Prod.snd (h i)))]}) 2 0 m)) (gY (winBlk (Ro.blk {s:=2,n:=m,row:=fun i => [SV.v (.int .i64 (Prod.fst (h i))),SV.v (.int .i64 (Prod.snd (h i)))]}) 2 0 m)))) i 0) i))],ext:=6 + rNK 3 0 n m + c_1})∧(R (SV.tup [(SV.v (.string (bif false||rpB 0 c (rBK 3 0 c n m (gX (winBlk (Ro.blk {s:=2,n:=m,row:=fun i => [SV.v (.int .i64 (Prod.fst (h i))),SV.v (.int .i64 (Prod.snd (h i)))]}) 2 0 m)) (gY (winBlk (Ro.blk {s:=2,n:=m,row:=fun i => [SV.v (.int .i64 (Prod.fst (h i))),SV.v (.int .i64 (Prod.snd (h i)))]}) 2 0 m))) then emp else strOf (6 + rNK 3 0 n m) fun i => [SV.v (.int .u8 (SE.byteOf [SV.v (.int .u8 ((fun i => List.getD (rpL 3 0 c (rTK 3 0 c n (gX (winBlk (Ro.blk {s:=2,n:=n,row:=fun i => [SV.v (.int .i64 (Prod.fst (g i))),SV.v (.int .i64 (Prod.snd (g i)))]}) 2 0 n)) (gY (winBlk (Ro.blk {s:=2,n:=n,row:=fun i => [SV.v (.int .i64 (Prod.fst (g i))),SV.v (.int .i64 (Prod.snd (g i)))]}) 2 0 n)) m (gX (winBlk (Ro.blk {s:=2,n:=m,row:=fun i => [SV.v (.int .i64 (Prod.fst (h i))),SV.v (.int .i64 (Prod.snd (h i)))]}) 2 0 m)) (gY (winBlk (Ro.blk {s:=2,n:=m,row:=fun i => [SV.v (.int .i64 (Prod.fst (h i))),SV.v (.int .i64 (Prod.snd (h i)))]}) 2 0 m)))) i 0) i))]))]))),(SV.v (.int .i64 (bif false||rpB 0 c (rBK 3 0 c n m (gX (winBlk (Ro.blk {s:=2,n:=m,row:=fun i => [SV.v (.int .i64 (Prod.fst (h i))),SV.v (.int .i64 (Prod.snd (h i)))]}) 2 0 m)) (gY (winBlk (Ro.blk {s:=2,n:=m,row:=fun i => [SV.v (.int .i64 (Prod.fst (h i))),SV.v (.int .i64 (Prod.snd (h i)))]}) 2 0 m))) then 3 else 0)))])))))))):=by kernel_rfl
theorem vcRep4 (c : RV) (n cap m cp : Nat) (g h : Nat→Int × Int) (R : SV→Prop) : (vcFn Try.prog ΓRy noΛ Try.f32 [reS 4 0 c (.sl 0 2 0 n cap) (.sl 1 2 0 m cp)] (roHeap [⟨2,n,rowsP g⟩,⟨2,m,rowsP h⟩]) 64 (fun y _ => R y)) = (((spPre n (winBlk (Ro.blk {s:=2,n:=n,row:=fun i => [SV.v (.int .i64 (Prod.fst (g i))),SV.v (.int .i64 (Prod.snd (g i)))]}) 2 0 n))∧(spPre m (winBlk (Ro.blk {s:=2,n:=m,row:=fun i => [SV.v (.int .i64 (Prod.fst (h i))),SV.v (.int .i64 (Prod.snd (h i)))]}) 2 0 m)))∧(((rowsPre n n fun y => [SV.v (.int .i64 (Prod.fst (g (0 + y)))),SV.v (.int .i64 (Prod.snd (g (0 + y))))])∧(rowsPre m m fun y => [SV.v (.int .i64 (Prod.fst (h (0 + y)))),SV.v (.int .i64 (Prod.snd (h (0 + y))))]))∧(sel (!sameRB 4 4 0 0 (uR4 c) c (sameBB (RV.o (uR4 c)) (RV.o c) (eqSh (sbOf (RV.o (uR4 c))) (sbOf (RV.o c))&&Nat.beq n 0)) (Nat.beq m 0)) (R (SV.tup [(SV.v (.string ({data:=#[]}))),(SV.v (.int .i64 4))])) ((rwPre 4 0 c n m (winBlk (Ro.blk {s:=2,n:=n,row:=fun i => [SV.v (.int .i64 (Prod.fst (g i))),SV.v (.int .i64 (Prod.snd (g i)))]}) 2 0 n) (winBlk (Ro.blk {s:=2,n:=m,row:=fun i => [SV.v (.int .i64 (Prod.fst (h i))),SV.v (.int .i64 (Prod.snd (h i)))]}) 2 0 m))∧(∀ c_1 : Nat,((bytesOk (6 + rNK 4 0 n m) (6 + rNK 4 0 n m + c_1) {elem:=5,size:=1,rw:=true,lock:=false,lit:=false,flat:=true,n:=6 + rNK 4 0 n m,row:=fun i => [SV.v (.int .u8 ((fun i => List.getD (rpL 4 0 c (rTK 4 0 c n (gX (winBlk (Ro.blk {s:=2,n:=n,row:=fun i => [SV.v (.int .i64 (Prod.fst (g i))),SV.v (.int .i64 (Prod.snd (g i)))]}) 2 0 n)) (gY (winBlk (Ro.blk {s:=2,n:=n,row:=fun i => [SV.v (.int .i64 (Prod.fst (g i))),SV.v (.int .i64 (Prod.snd (g i)))]}) 2 0 n)) m (gX (winBlk (Ro.blk {s:=2,n:=m,row:=fun i => [SV.v (.int .i64 (Prod.fst (h i))),SV.v (.int .i64 (Prod.snd (h i)))]}) 2 0 m)) (gY (winBlk (Ro.blk {s:=2,n:=m,row:=fun i => [SV.v (.int .i64 (Prod.fst (h i))),SV.v (.int .i64 (Prod.snd (h i)))]}) 2 0 m)))) i 0) i))],ext:=6 + rNK 4 0 n m + c_1})∧(R (SV.tup [(SV.v (.string (bif false||rpB 0 c (rBK 4 0 c n m (gX (winBlk (Ro.blk {s:=2,n:=m,row:=fun i => [SV.v (.int .i64 (Prod.fst (h i))),SV.v (.int .i64 (Prod.snd (h i)))]}) 2 0 m)) (gY (winBlk (Ro.blk {s:=2,n:=m,row:=fun i => [SV.v (.int .i64 (Prod.fst (h i))),SV.v (.int .i64 (Prod.snd (h i)))]}) 2 0 m))) then emp else strOf (6 + rNK 4 0 n m) fun i => [SV.v (.int .u8 (SE.byteOf [SV.v (.int .u8 ((fun i => List.getD (rpL 4 0 c (rTK 4 0 c n (gX (winBlk (Ro.blk {s:=2,n:=n,row:=fun i => [SV.v (.int .i64 (Prod.fst (g i))),SV.v (.int .i64 (Prod.snd (g i)))]}) 2 0 n)) (gY (winBlk (Ro.blk {s:=2,n:=n,row:=fun i => [SV.v (.int .i64 (Prod.fst (g i))),SV.v (.int .i64 (Prod.snd (g i)))]}) 2 0 n)) m (gX (winBlk (Ro.blk {s:=2,n:=m,row:=fun i => [SV.v (.int .i64 (Prod.fst (h i))),SV.v (.int .i64 (Prod.snd (h i)))]}) 2 0 m)) (gY (winBlk (Ro.blk {s:=2,n:=m,row:=fun i => [SV.v (.int .i64 (Prod.fst (h i))),SV.v (.int .i64 (Prod.snd (h i)))]}) 2 0 m)))) i 0) i))]))]))),(SV.v (.int .i64 (bif false||rpB 0 c (rBK 4 0 c n m (gX (winBlk (Ro.blk {s:=2,n:=m,row:=fun i => [SV.v (.int .i64 (Prod.fst (h i))),SV.v (.int .i64 (Prod.snd (h i)))]}) 2 0 m)) (gY (winBlk (Ro.blk {s:=2,n:=m,row:=fun i => [SV.v (.int .i64 (Prod.fst (h i))),SV.v (.int .i64 (Prod.snd (h i)))]}) 2 0 m))) then 3 else 0)))])))))))):=by kernel_rfl
theorem vcRep5 (c : RV) (n cap m cp : Nat) (g h : Nat→Int × Int) (R : SV→Prop) : (vcFn Try.prog ΓRy noΛ Try.f32 [reS 5 0 c (.sl 0 2 0 n cap) (.sl 1 2 0 m cp)] (roHeap [⟨2,n,rowsP g⟩,⟨2,m,rowsP h⟩]) 64 (fun y _ => R y)) = (((spPre n (winBlk (Ro.blk {s:=2,n:=n,row:=fun i => [SV.v (.int .i64 (Prod.fst (g i))),SV.v (.int .i64 (Prod.snd (g i)))]}) 2 0 n))∧(spPre m (winBlk (Ro.blk {s:=2,n:=m,row:=fun i => [SV.v (.int .i64 (Prod.fst (h i))),SV.v (.int .i64 (Prod.snd (h i)))]}) 2 0 m)))∧(((rowsPre n n fun y => [SV.v (.int .i64 (Prod.fst (g (0 + y)))),SV.v (.int .i64 (Prod.snd (g (0 + y))))])∧(rowsPre m m fun y => [SV.v (.int .i64 (Prod.fst (h (0 + y)))),SV.v (.int .i64 (Prod.snd (h (0 + y))))]))∧(sel (!sameRB 5 5 0 0 (uR5 c) c (sameBB (RV.o (uR5 c)) (RV.o c) (eqSh (sbOf (RV.o (uR5 c))) (sbOf (RV.o c))&&Nat.beq n 0)) (Nat.beq m 0)) (R (SV.tup [(SV.v (.string ({data:=#[]}))),(SV.v (.int .i64 4))])) ((rwPre 5 0 c n m (winBlk (Ro.blk {s:=2,n:=n,row:=fun i => [SV.v (.int .i64 (Prod.fst (g i))),SV.v (.int .i64 (Prod.snd (g i)))]}) 2 0 n) (winBlk (Ro.blk {s:=2,n:=m,row:=fun i => [SV.v (.int .i64 (Prod.fst (h i))),SV.v (.int .i64 (Prod.snd (h i)))]}) 2 0 m))∧(∀ c_1 : Nat,((bytesOk (6 + rNK 5 0 n m) (6 + rNK 5 0 n m + c_1) {elem:=5,size:=1,rw:=true,lock:=false,lit:=false,flat:=true,n:=6 + rNK 5 0 n m,row:=fun i => [SV.v (.int .u8 ((fun i => List.getD (rpL 5 0 c (rTK 5 0 c n (gX (winBlk (Ro.blk {s:=2,n:=n,row:=fun i => [SV.v (.int .i64 (Prod.fst (g i))),SV.v (.int .i64 (Prod.snd (g i)))]}) 2 0 n)) (gY (winBlk (Ro.blk {s:=2,n:=n,row:=fun i => [SV.v (.int .i64 (Prod.fst (g i))),SV.v (.int .i64 (Prod.snd (g i)))]}) 2 0 n)) m (gX (winBlk (Ro.blk {s:=2,n:=m,row:=fun i => [SV.v (.int .i64 (Prod.fst (h i))),SV.v (.int .i64 (Prod.snd (h i)))]}) 2 0 m)) (gY (winBlk (Ro.blk {s:=2,n:=m,row:=fun i => [SV.v (.int .i64 (Prod.fst (h i))),SV.v (.int .i64 (Prod.snd (h i)))]}) 2 0 m)))) i 0) i))],ext:=6 + rNK 5 0 n m + c_1})∧(R (SV.tup [(SV.v (.string (bif false||rpB 0 c (rBK 5 0 c n m (gX (winBlk (Ro.blk {s:=2,n:=m,row:=fun i => [SV.v (.int .i64 (Prod.fst (h i))),SV.v (.int .i64 (Prod.snd (h i)))]}) 2 0 m)) (gY (winBlk (Ro.blk {s:=2,n:=m,row:=fun i => [SV.v (.int .i64 (Prod.fst (h i))),SV.v (.int .i64 (Prod.snd (h i)))]}) 2 0 m))) then emp else strOf (6 + rNK 5 0 n m) fun i => [SV.v (.int .u8 (SE.byteOf [SV.v (.int .u8 ((fun i => List.getD (rpL 5 0 c (rTK 5 0 c n (gX (winBlk (Ro.blk {s:=2,n:=n,row:=fun i => [SV.v (.int .i64 (Prod.fst (g i))),SV.v (.int .i64 (Prod.snd (g i)))]}) 2 0 n)) (gY (winBlk (Ro.blk {s:=2,n:=n,row:=fun i => [SV.v (.int .i64 (Prod.fst (g i))),SV.v (.int .i64 (Prod.snd (g i)))]}) 2 0 n)) m (gX (winBlk (Ro.blk {s:=2,n:=m,row:=fun i => [SV.v (.int .i64 (Prod.fst (h i))),SV.v (.int .i64 (Prod.snd (h i)))]}) 2 0 m)) (gY (winBlk (Ro.blk {s:=2,n:=m,row:=fun i => [SV.v (.int .i64 (Prod.fst (h i))),SV.v (.int .i64 (Prod.snd (h i)))]}) 2 0 m)))) i 0) i))]))]))),(SV.v (.int .i64 (bif false||rpB 0 c (rBK 5 0 c n m (gX (winBlk (Ro.blk {s:=2,n:=m,row:=fun i => [SV.v (.int .i64 (Prod.fst (h i))),SV.v (.int .i64 (Prod.snd (h i)))]}) 2 0 m)) (gY (winBlk (Ro.blk {s:=2,n:=m,row:=fun i => [SV.v (.int .i64 (Prod.fst (h i))),SV.v (.int .i64 (Prod.snd (h i)))]}) 2 0 m))) then 3 else 0)))])))))))):=by kernel_rfl
theorem vcRep6 (c : RV) (n cap m cp : Nat) (g h : Nat→Int × Int) (R : SV→Prop) : (vcFn Try.prog ΓRy noΛ Try.f32 [reS 6 0 c (.sl 0 2 0 n cap) (.sl 1 2 0 m cp)] (roHeap [⟨2,n,rowsP g⟩,⟨2,m,rowsP h⟩]) 64 (fun y _ => R y)) = (((spPre n (winBlk (Ro.blk {s:=2,n:=n,row:=fun i => [SV.v (.int .i64 (Prod.fst (g i))),SV.v (.int .i64 (Prod.snd (g i)))]}) 2 0 n))∧(spPre m (winBlk (Ro.blk {s:=2,n:=m,row:=fun i => [SV.v (.int .i64 (Prod.fst (h i))),SV.v (.int .i64 (Prod.snd (h i)))]}) 2 0 m)))∧(((rowsPre n n fun y => [SV.v (.int .i64 (Prod.fst (g (0 + y)))),SV.v (.int .i64 (Prod.snd (g (0 + y))))])∧(rowsPre m m fun y => [SV.v (.int .i64 (Prod.fst (h (0 + y)))),SV.v (.int .i64 (Prod.snd (h (0 + y))))]))∧(sel (!sameRB 6 6 0 0 (uR6 c) c (sameBB (RV.o (uR6 c)) (RV.o c) (eqSh (sbOf (RV.o (uR6 c))) (sbOf (RV.o c))&&Nat.beq n 0)) (Nat.beq m 0)) (R (SV.tup [(SV.v (.string ({data:=#[]}))),(SV.v (.int .i64 4))])) ((rwPre 6 0 c n m (winBlk (Ro.blk {s:=2,n:=n,row:=fun i => [SV.v (.int .i64 (Prod.fst (g i))),SV.v (.int .i64 (Prod.snd (g i)))]}) 2 0 n) (winBlk (Ro.blk {s:=2,n:=m,row:=fun i => [SV.v (.int .i64 (Prod.fst (h i))),SV.v (.int .i64 (Prod.snd (h i)))]}) 2 0 m))∧(∀ c_1 : Nat,((bytesOk (6 + rNK 6 0 n m) (6 + rNK 6 0 n m + c_1) {elem:=5,size:=1,rw:=true,lock:=false,lit:=false,flat:=true,n:=6 + rNK 6 0 n m,row:=fun i => [SV.v (.int .u8 ((fun i => List.getD (rpL 6 0 c (rTK 6 0 c n (gX (winBlk (Ro.blk {s:=2,n:=n,row:=fun i => [SV.v (.int .i64 (Prod.fst (g i))),SV.v (.int .i64 (Prod.snd (g i)))]}) 2 0 n)) (gY (winBlk (Ro.blk {s:=2,n:=n,row:=fun i => [SV.v (.int .i64 (Prod.fst (g i))),SV.v (.int .i64 (Prod.snd (g i)))]}) 2 0 n)) m (gX (winBlk (Ro.blk {s:=2,n:=m,row:=fun i => [SV.v (.int .i64 (Prod.fst (h i))),SV.v (.int .i64 (Prod.snd (h i)))]}) 2 0 m)) (gY (winBlk (Ro.blk {s:=2,n:=m,row:=fun i => [SV.v (.int .i64 (Prod.fst (h i))),SV.v (.int .i64 (Prod.snd (h i)))]}) 2 0 m)))) i 0) i))],ext:=6 + rNK 6 0 n m + c_1})∧(R (SV.tup [(SV.v (.string (bif false||rpB 0 c (rBK 6 0 c n m (gX (winBlk (Ro.blk {s:=2,n:=m,row:=fun i => [SV.v (.int .i64 (Prod.fst (h i))),SV.v (.int .i64 (Prod.snd (h i)))]}) 2 0 m)) (gY (winBlk (Ro.blk {s:=2,n:=m,row:=fun i => [SV.v (.int .i64 (Prod.fst (h i))),SV.v (.int .i64 (Prod.snd (h i)))]}) 2 0 m))) then emp else strOf (6 + rNK 6 0 n m) fun i => [SV.v (.int .u8 (SE.byteOf [SV.v (.int .u8 ((fun i => List.getD (rpL 6 0 c (rTK 6 0 c n (gX (winBlk (Ro.blk {s:=2,n:=n,row:=fun i => [SV.v (.int .i64 (Prod.fst (g i))),SV.v (.int .i64 (Prod.snd (g i)))]}) 2 0 n)) (gY (winBlk (Ro.blk {s:=2,n:=n,row:=fun i => [SV.v (.int .i64 (Prod.fst (g i))),SV.v (.int .i64 (Prod.snd (g i)))]}) 2 0 n)) m (gX (winBlk (Ro.blk {s:=2,n:=m,row:=fun i => [SV.v (.int .i64 (Prod.fst (h i))),SV.v (.int .i64 (Prod.snd (h i)))]}) 2 0 m)) (gY (winBlk (Ro.blk {s:=2,n:=m,row:=fun i => [SV.v (.int .i64 (Prod.fst (h i))),SV.v (.int .i64 (Prod.snd (h i)))]}) 2 0 m)))) i 0) i))]))]))),(SV.v (.int .i64 (bif false||rpB 0 c (rBK 6 0 c n m (gX (winBlk (Ro.blk {s:=2,n:=m,row:=fun i => [SV.v (.int .i64 (Prod.fst (h i))),SV.v (.int .i64 (Prod.snd (h i)))]}) 2 0 m)) (gY (winBlk (Ro.blk {s:=2,n:=m,row:=fun i => [SV.v (.int .i64 (Prod.fst (h i))),SV.v (.int .i64 (Prod.snd (h i)))]}) 2 0 m))) then 3 else 0)))])))))))):=by kernel_rfl
theorem vcRep7 (c : RV) (n cap m cp : Nat) (g h : Nat→Int × Int) (R : SV→Prop) : (vcFn Try.prog ΓRy noΛ Try.f32 [reS 7 0 c (.sl 0 2 0 n cap) (.sl 1 2 0 m cp)] (roHeap [⟨2,n,rowsP g⟩,⟨2,m,rowsP h⟩]) 64 (fun y _ => R y)) = (((spPre n (winBlk (Ro.blk {s:=2,n:=n,row:=fun i => [SV.v (.int .i64 (Prod.fst (g i))),SV.v (.int .i64 (Prod.snd (g i)))]}) 2 0 n))∧(spPre m (winBlk (Ro.blk {s:=2,n:=m,row:=fun i => [SV.v (.int .i64 (Prod.fst (h i))),SV.v (.int .i64 (Prod.snd (h i)))]}) 2 0 m)))∧(((rowsPre n n fun y => [SV.v (.int .i64 (Prod.fst (g (0 + y)))),SV.v (.int .i64 (Prod.snd (g (0 + y))))])∧((rowsPre n n fun y => [SV.v (.int .i64 (Prod.fst (g (0 + y)))),SV.v (.int .i64 (Prod.snd (g (0 + y))))])∧(rowsPre m m fun y => [SV.v (.int .i64 (Prod.fst (h (0 + y)))),SV.v (.int .i64 (Prod.snd (h (0 + y))))])))∧(sel (!sameRB 7 7 0 0 (uR7 c) c (sameBB (RV.o (uR7 c)) (RV.o c) (sameS (sbOf (RV.o (uR7 c))) n (fun i => gi [SV.v (.int .i64 (Prod.fst (g (0 + i)))),SV.v (.int .i64 (Prod.snd (g (0 + i))))]) (sbOf (RV.o c)) n fun i => gi [SV.v (.int .i64 (Prod.fst (g (0 + i)))),SV.v (.int .i64 (Prod.snd (g (0 + i))))])) (Nat.beq m 0)) (R (SV.tup [(SV.v (.string ({data:=#[]}))),(SV.v (.int .i64 4))])) ((rwPre 7 0 c n m (winBlk (Ro.blk {s:=2,n:=n,row:=fun i => [SV.v (.int .i64 (Prod.fst (g i))),SV.v (.int .i64 (Prod.snd (g i)))]}) 2 0 n) (winBlk (Ro.blk {s:=2,n:=m,row:=fun i => [SV.v (.int .i64 (Prod.fst (h i))),SV.v (.int .i64 (Prod.snd (h i)))]}) 2 0 m))∧(∀ c_1 : Nat,((bytesOk (6 + rNK 7 0 n m) (6 + rNK 7 0 n m + c_1) {elem:=5,size:=1,rw:=true,lock:=false,lit:=false,flat:=true,n:=6 + rNK 7 0 n m,row:=fun i => [SV.v (.int .u8 ((fun i => List.getD (rpL 7 0 c (rTK 7 0 c n (gX (winBlk (Ro.blk {s:=2,n:=n,row:=fun i => [SV.v (.int .i64 (Prod.fst (g i))),SV.v (.int .i64 (Prod.snd (g i)))]}) 2 0 n)) (gY (winBlk (Ro.blk {s:=2,n:=n,row:=fun i => [SV.v (.int .i64 (Prod.fst (g i))),SV.v (.int .i64 (Prod.snd (g i)))]}) 2 0 n)) m (gX (winBlk (Ro.blk {s:=2,n:=m,row:=fun i => [SV.v (.int .i64 (Prod.fst (h i))),SV.v (.int .i64 (Prod.snd (h i)))]}) 2 0 m)) (gY (winBlk (Ro.blk {s:=2,n:=m,row:=fun i => [SV.v (.int .i64 (Prod.fst (h i))),SV.v (.int .i64 (Prod.snd (h i)))]}) 2 0 m)))) i 0) i))],ext:=6 + rNK 7 0 n m + c_1})∧(R (SV.tup [(SV.v (.string (bif false||rpB 0 c (rBK 7 0 c n m (gX (winBlk (Ro.blk {s:=2,n:=m,row:=fun i => [SV.v (.int .i64 (Prod.fst (h i))),SV.v (.int .i64 (Prod.snd (h i)))]}) 2 0 m)) (gY (winBlk (Ro.blk {s:=2,n:=m,row:=fun i => [SV.v (.int .i64 (Prod.fst (h i))),SV.v (.int .i64 (Prod.snd (h i)))]}) 2 0 m))) then emp else strOf (6 + rNK 7 0 n m) fun i => [SV.v (.int .u8 (SE.byteOf [SV.v (.int .u8 ((fun i => List.getD (rpL 7 0 c (rTK 7 0 c n (gX (winBlk (Ro.blk {s:=2,n:=n,row:=fun i => [SV.v (.int .i64 (Prod.fst (g i))),SV.v (.int .i64 (Prod.snd (g i)))]}) 2 0 n)) (gY (winBlk (Ro.blk {s:=2,n:=n,row:=fun i => [SV.v (.int .i64 (Prod.fst (g i))),SV.v (.int .i64 (Prod.snd (g i)))]}) 2 0 n)) m (gX (winBlk (Ro.blk {s:=2,n:=m,row:=fun i => [SV.v (.int .i64 (Prod.fst (h i))),SV.v (.int .i64 (Prod.snd (h i)))]}) 2 0 m)) (gY (winBlk (Ro.blk {s:=2,n:=m,row:=fun i => [SV.v (.int .i64 (Prod.fst (h i))),SV.v (.int .i64 (Prod.snd (h i)))]}) 2 0 m)))) i 0) i))]))]))),(SV.v (.int .i64 (bif false||rpB 0 c (rBK 7 0 c n m (gX (winBlk (Ro.blk {s:=2,n:=m,row:=fun i => [SV.v (.int .i64 (Prod.fst (h i))),SV.v (.int .i64 (Prod.snd (h i)))]}) 2 0 m)) (gY (winBlk (Ro.blk {s:=2,n:=m,row:=fun i => [SV.v (.int .i64 (Prod.fst (h i))),SV.v (.int .i64 (Prod.snd (h i)))]}) 2 0 m))) then 3 else 0)))])))))))):=by kernel_rfl
theorem vcRep8 (c : RV) (n cap m cp : Nat) (g h : Nat→Int × Int) (R : SV→Prop) : (vcFn Try.prog ΓRy noΛ Try.f32 [reS 8 0 c (.sl 0 2 0 n cap) (.sl 1 2 0 m cp)] (roHeap [⟨2,n,rowsP g⟩,⟨2,m,rowsP h⟩]) 64 (fun y _ => R y)) = (((spPre n (winBlk (Ro.blk {s:=2,n:=n,row:=fun i => [SV.v (.int .i64 (Prod.fst (g i))),SV.v (.int .i64 (Prod.snd (g i)))]}) 2 0 n))∧(spPre m (winBlk (Ro.blk {s:=2,n:=m,row:=fun i => [SV.v (.int .i64 (Prod.fst (h i))),SV.v (.int .i64 (Prod.snd (h i)))]}) 2 0 m)))∧(((rowsPre m m fun y => [SV.v (.int .i64 (Prod.fst (h (0 + y)))),SV.v (.int .i64 (Prod.snd (h (0 + y))))])∧((rowsPre n n fun y => [SV.v (.int .i64 (Prod.fst (g (0 + y)))),SV.v (.int .i64 (Prod.snd (g (0 + y))))])∧(rowsPre m m fun y => [SV.v (.int .i64 (Prod.fst (h (0 + y)))),SV.v (.int .i64 (Prod.snd (h (0 + y))))])))∧(sel (!sameRB 8 8 0 0 (uR8 c) c (sameBB (RV.o (uR8 c)) (RV.o c) (eqSh (sbOf (RV.o (uR8 c))) (sbOf (RV.o c))&&Nat.beq n 0)) (sameP m (fun i => gi [SV.v (.int .i64 (Prod.fst (h (0 + i)))),SV.v (.int .i64 (Prod.snd (h (0 + i))))]) m fun i => gi [SV.v (.int .i64 (Prod.fst (h (0 + i)))),SV.v (.int .i64 (Prod.snd (h (0 + i))))])) (R (SV.tup [(SV.v (.string ({data:=#[]}))),(SV.v (.int .i64 4))])) ((rwPre 8 0 c n m (winBlk (Ro.blk {s:=2,n:=n,row:=fun i => [SV.v (.int .i64 (Prod.fst (g i))),SV.v (.int .i64 (Prod.snd (g i)))]}) 2 0 n) (winBlk (Ro.blk {s:=2,n:=m,row:=fun i => [SV.v (.int .i64 (Prod.fst (h i))),SV.v (.int .i64 (Prod.snd (h i)))]}) 2 0 m))∧(∀ c_1 : Nat,((bytesOk (6 + rNK 8 0 n m) (6 + rNK 8 0 n m + c_1) {elem:=5,size:=1,rw:=true,lock:=false,lit:=false,flat:=true,n:=6 + rNK 8 0 n m,row:=fun i => [SV.v (.int .u8 ((fun i => List.getD (rpL 8 0 c (rTK 8 0 c n (gX (winBlk (Ro.blk {s:=2,n:=n,row:=fun i => [SV.v (.int .i64 (Prod.fst (g i))),SV.v (.int .i64 (Prod.snd (g i)))]}) 2 0 n)) (gY (winBlk (Ro.blk {s:=2,n:=n,row:=fun i => [SV.v (.int .i64 (Prod.fst (g i))),SV.v (.int .i64 (Prod.snd (g i)))]}) 2 0 n)) m (gX (winBlk (Ro.blk {s:=2,n:=m,row:=fun i => [SV.v (.int .i64 (Prod.fst (h i))),SV.v (.int .i64 (Prod.snd (h i)))]}) 2 0 m)) (gY (winBlk (Ro.blk {s:=2,n:=m,row:=fun i => [SV.v (.int .i64 (Prod.fst (h i))),SV.v (.int .i64 (Prod.snd (h i)))]}) 2 0 m)))) i 0) i))],ext:=6 + rNK 8 0 n m + c_1})∧(R (SV.tup [(SV.v (.string (bif false||rpB 0 c (rBK 8 0 c n m (gX (winBlk (Ro.blk {s:=2,n:=m,row:=fun i => [SV.v (.int .i64 (Prod.fst (h i))),SV.v (.int .i64 (Prod.snd (h i)))]}) 2 0 m)) (gY (winBlk (Ro.blk {s:=2,n:=m,row:=fun i => [SV.v (.int .i64 (Prod.fst (h i))),SV.v (.int .i64 (Prod.snd (h i)))]}) 2 0 m))) then emp else strOf (6 + rNK 8 0 n m) fun i => [SV.v (.int .u8 (SE.byteOf [SV.v (.int .u8 ((fun i => List.getD (rpL 8 0 c (rTK 8 0 c n (gX (winBlk (Ro.blk {s:=2,n:=n,row:=fun i => [SV.v (.int .i64 (Prod.fst (g i))),SV.v (.int .i64 (Prod.snd (g i)))]}) 2 0 n)) (gY (winBlk (Ro.blk {s:=2,n:=n,row:=fun i => [SV.v (.int .i64 (Prod.fst (g i))),SV.v (.int .i64 (Prod.snd (g i)))]}) 2 0 n)) m (gX (winBlk (Ro.blk {s:=2,n:=m,row:=fun i => [SV.v (.int .i64 (Prod.fst (h i))),SV.v (.int .i64 (Prod.snd (h i)))]}) 2 0 m)) (gY (winBlk (Ro.blk {s:=2,n:=m,row:=fun i => [SV.v (.int .i64 (Prod.fst (h i))),SV.v (.int .i64 (Prod.snd (h i)))]}) 2 0 m)))) i 0) i))]))]))),(SV.v (.int .i64 (bif false||rpB 0 c (rBK 8 0 c n m (gX (winBlk (Ro.blk {s:=2,n:=m,row:=fun i => [SV.v (.int .i64 (Prod.fst (h i))),SV.v (.int .i64 (Prod.snd (h i)))]}) 2 0 m)) (gY (winBlk (Ro.blk {s:=2,n:=m,row:=fun i => [SV.v (.int .i64 (Prod.fst (h i))),SV.v (.int .i64 (Prod.snd (h i)))]}) 2 0 m))) then 3 else 0)))])))))))):=by kernel_rfl
theorem vcRep9 (c : RV) (n cap m cp : Nat) (g h : Nat→Int × Int) (R : SV→Prop) : (vcFn Try.prog ΓRy noΛ Try.f32 [reS 9 0 c (.sl 0 2 0 n cap) (.sl 1 2 0 m cp)] (roHeap [⟨2,n,rowsP g⟩,⟨2,m,rowsP h⟩]) 64 (fun y _ => R y)) = (((spPre n (winBlk (Ro.blk {s:=2,n:=n,row:=fun i => [SV.v (.int .i64 (Prod.fst (g i))),SV.v (.int .i64 (Prod.snd (g i)))]}) 2 0 n))∧(spPre m (winBlk (Ro.blk {s:=2,n:=m,row:=fun i => [SV.v (.int .i64 (Prod.fst (h i))),SV.v (.int .i64 (Prod.snd (h i)))]}) 2 0 m)))∧(((rowsPre n n fun y => [SV.v (.int .i64 (Prod.fst (g (0 + y)))),SV.v (.int .i64 (Prod.snd (g (0 + y))))])∧(rowsPre m m fun y => [SV.v (.int .i64 (Prod.fst (h (0 + y)))),SV.v (.int .i64 (Prod.snd (h (0 + y))))]))∧(sel (!sameRB 9 9 0 0 (uR9 c) c (sameBB (RV.o (uR9 c)) (RV.o c) (eqSh (sbOf (RV.o (uR9 c))) (sbOf (RV.o c))&&Nat.beq n 0)) (Nat.beq m 0)) (R (SV.tup [(SV.v (.string ({data:=#[]}))),(SV.v (.int .i64 4))])) ((rwPre 9 0 c n m (winBlk (Ro.blk {s:=2,n:=n,row:=fun i => [SV.v (.int .i64 (Prod.fst (g i))),SV.v (.int .i64 (Prod.snd (g i)))]}) 2 0 n) (winBlk (Ro.blk {s:=2,n:=m,row:=fun i => [SV.v (.int .i64 (Prod.fst (h i))),SV.v (.int .i64 (Prod.snd (h i)))]}) 2 0 m))∧(∀ c_1 : Nat,((bytesOk (6 + rNK 9 0 n m) (6 + rNK 9 0 n m + c_1) {elem:=5,size:=1,rw:=true,lock:=false,lit:=false,flat:=true,n:=6 + rNK 9 0 n m,row:=fun i => [SV.v (.int .u8 ((fun i => List.getD (rpL 9 0 c (rTK 9 0 c n (gX (winBlk (Ro.blk {s:=2,n:=n,row:=fun i => [SV.v (.int .i64 (Prod.fst (g i))),SV.v (.int .i64 (Prod.snd (g i)))]}) 2 0 n)) (gY (winBlk (Ro.blk {s:=2,n:=n,row:=fun i => [SV.v (.int .i64 (Prod.fst (g i))),SV.v (.int .i64 (Prod.snd (g i)))]}) 2 0 n)) m (gX (winBlk (Ro.blk {s:=2,n:=m,row:=fun i => [SV.v (.int .i64 (Prod.fst (h i))),SV.v (.int .i64 (Prod.snd (h i)))]}) 2 0 m)) (gY (winBlk (Ro.blk {s:=2,n:=m,row:=fun i => [SV.v (.int .i64 (Prod.fst (h i))),SV.v (.int .i64 (Prod.snd (h i)))]}) 2 0 m)))) i 0) i))],ext:=6 + rNK 9 0 n m + c_1})∧(R (SV.tup [(SV.v (.string (bif false||rpB 0 c (rBK 9 0 c n m (gX (winBlk (Ro.blk {s:=2,n:=m,row:=fun i => [SV.v (.int .i64 (Prod.fst (h i))),SV.v (.int .i64 (Prod.snd (h i)))]}) 2 0 m)) (gY (winBlk (Ro.blk {s:=2,n:=m,row:=fun i => [SV.v (.int .i64 (Prod.fst (h i))),SV.v (.int .i64 (Prod.snd (h i)))]}) 2 0 m))) then emp else strOf (6 + rNK 9 0 n m) fun i => [SV.v (.int .u8 (SE.byteOf [SV.v (.int .u8 ((fun i => List.getD (rpL 9 0 c (rTK 9 0 c n (gX (winBlk (Ro.blk {s:=2,n:=n,row:=fun i => [SV.v (.int .i64 (Prod.fst (g i))),SV.v (.int .i64 (Prod.snd (g i)))]}) 2 0 n)) (gY (winBlk (Ro.blk {s:=2,n:=n,row:=fun i => [SV.v (.int .i64 (Prod.fst (g i))),SV.v (.int .i64 (Prod.snd (g i)))]}) 2 0 n)) m (gX (winBlk (Ro.blk {s:=2,n:=m,row:=fun i => [SV.v (.int .i64 (Prod.fst (h i))),SV.v (.int .i64 (Prod.snd (h i)))]}) 2 0 m)) (gY (winBlk (Ro.blk {s:=2,n:=m,row:=fun i => [SV.v (.int .i64 (Prod.fst (h i))),SV.v (.int .i64 (Prod.snd (h i)))]}) 2 0 m)))) i 0) i))]))]))),(SV.v (.int .i64 (bif false||rpB 0 c (rBK 9 0 c n m (gX (winBlk (Ro.blk {s:=2,n:=m,row:=fun i => [SV.v (.int .i64 (Prod.fst (h i))),SV.v (.int .i64 (Prod.snd (h i)))]}) 2 0 m)) (gY (winBlk (Ro.blk {s:=2,n:=m,row:=fun i => [SV.v (.int .i64 (Prod.fst (h i))),SV.v (.int .i64 (Prod.snd (h i)))]}) 2 0 m))) then 3 else 0)))])))))))):=by kernel_rfl
theorem vcRep10 (c : RV) (n cap m cp : Nat) (g h : Nat→Int × Int) (R : SV→Prop) : (vcFn Try.prog ΓRy noΛ Try.f32 [reS 10 0 c (.sl 0 2 0 n cap) (.sl 1 2 0 m cp)] (roHeap [⟨2,n,rowsP g⟩,⟨2,m,rowsP h⟩]) 64 (fun y _ => R y)) = (((spPre n (winBlk (Ro.blk {s:=2,n:=n,row:=fun i => [SV.v (.int .i64 (Prod.fst (g i))),SV.v (.int .i64 (Prod.snd (g i)))]}) 2 0 n))∧(spPre m (winBlk (Ro.blk {s:=2,n:=m,row:=fun i => [SV.v (.int .i64 (Prod.fst (h i))),SV.v (.int .i64 (Prod.snd (h i)))]}) 2 0 m)))∧(((rowsPre n n fun y => [SV.v (.int .i64 (Prod.fst (g (0 + y)))),SV.v (.int .i64 (Prod.snd (g (0 + y))))])∧(rowsPre m m fun y => [SV.v (.int .i64 (Prod.fst (h (0 + y)))),SV.v (.int .i64 (Prod.snd (h (0 + y))))]))∧(sel (!sameRB 10 10 0 0 (uR10 c) c (sameBB (RV.o (uR10 c)) (RV.o c) (eqSh (sbOf (RV.o (uR10 c))) (sbOf (RV.o c))&&Nat.beq n 0)) (Nat.beq m 0)) (R (SV.tup [(SV.v (.string ({data:=#[]}))),(SV.v (.int .i64 4))])) ((rwPre 10 0 c n m (winBlk (Ro.blk {s:=2,n:=n,row:=fun i => [SV.v (.int .i64 (Prod.fst (g i))),SV.v (.int .i64 (Prod.snd (g i)))]}) 2 0 n) (winBlk (Ro.blk {s:=2,n:=m,row:=fun i => [SV.v (.int .i64 (Prod.fst (h i))),SV.v (.int .i64 (Prod.snd (h i)))]}) 2 0 m))∧(∀ c_1 : Nat,((bytesOk (6 + rNK 10 0 n m) (6 + rNK 10 0 n m + c_1) {elem:=5,size:=1,rw:=true,lock:=false,lit:=false,flat:=true,n:=6 + rNK 10 0 n m,row:=fun i => [SV.v (.int .u8 ((fun i => List.getD (rpL 10 0 c (rTK 10 0 c n (gX (winBlk (Ro.blk {s:=2,n:=n,row:=fun i => [SV.v (.int .i64 (Prod.fst (g i))),SV.v (.int .i64 (Prod.snd (g i)))]}) 2 0 n)) (gY (winBlk (Ro.blk {s:=2,n:=n,row:=fun i => [SV.v (.int .i64 (Prod.fst (g i))),SV.v (.int .i64 (Prod.snd (g i)))]}) 2 0 n)) m (gX (winBlk (Ro.blk {s:=2,n:=m,row:=fun i => [SV.v (.int .i64 (Prod.fst (h i))),SV.v (.int .i64 (Prod.snd (h i)))]}) 2 0 m)) (gY (winBlk (Ro.blk {s:=2,n:=m,row:=fun i => [SV.v (.int .i64 (Prod.fst (h i))),SV.v (.int .i64 (Prod.snd (h i)))]}) 2 0 m)))) i 0) i))],ext:=6 + rNK 10 0 n m + c_1})∧(R (SV.tup [(SV.v (.string (bif false||rpB 0 c (rBK 10 0 c n m (gX (winBlk (Ro.blk {s:=2,n:=m,row:=fun i => [SV.v (.int .i64 (Prod.fst (h i))),SV.v (.int .i64 (Prod.snd (h i)))]}) 2 0 m)) (gY (winBlk (Ro.blk {s:=2,n:=m,row:=fun i => [SV.v (.int .i64 (Prod.fst (h i))),SV.v (.int .i64 (Prod.snd (h i)))]}) 2 0 m))) then emp else strOf (6 + rNK 10 0 n m) fun i => [SV.v (.int .u8 (SE.byteOf [SV.v (.int .u8 ((fun i => List.getD (rpL 10 0 c (rTK 10 0 c n (gX (winBlk (Ro.blk {s:=2,n:=n,row:=fun i => [SV.v (.int .i64 (Prod.fst (g i))),SV.v (.int .i64 (Prod.snd (g i)))]}) 2 0 n)) (gY (winBlk (Ro.blk {s:=2,n:=n,row:=fun i => [SV.v (.int .i64 (Prod.fst (g i))),SV.v (.int .i64 (Prod.snd (g i)))]}) 2 0 n)) m (gX (winBlk (Ro.blk {s:=2,n:=m,row:=fun i => [SV.v (.int .i64 (Prod.fst (h i))),SV.v (.int .i64 (Prod.snd (h i)))]}) 2 0 m)) (gY (winBlk (Ro.blk {s:=2,n:=m,row:=fun i => [SV.v (.int .i64 (Prod.fst (h i))),SV.v (.int .i64 (Prod.snd (h i)))]}) 2 0 m)))) i 0) i))]))]))),(SV.v (.int .i64 (bif false||rpB 0 c (rBK 10 0 c n m (gX (winBlk (Ro.blk {s:=2,n:=m,row:=fun i => [SV.v (.int .i64 (Prod.fst (h i))),SV.v (.int .i64 (Prod.snd (h i)))]}) 2 0 m)) (gY (winBlk (Ro.blk {s:=2,n:=m,row:=fun i => [SV.v (.int .i64 (Prod.fst (h i))),SV.v (.int .i64 (Prod.snd (h i)))]}) 2 0 m))) then 3 else 0)))])))))))):=by kernel_rfl
theorem vcRepP (k : Int) (a : Nat) (c : RV) (n cap m cp : Nat) (g h : Nat→Int × Int) (R : SV→Prop) : (vcFn Try.prog ΓRy noΛ Try.f32 [reS k (Int.ofNat (a + 1)) c (.sl 0 2 0 n cap) (.sl 1 2 0 m cp)] (roHeap [⟨2,n,rowsP g⟩,⟨2,m,rowsP h⟩]) 64 (fun y _ => R y)) = (sel (decide (k < 0)) (R (SV.tup [(SV.v (.string ({data:=#[]}))),(SV.v (.int .i64 8))])) (sel (decide (k > 10)) (R (SV.tup [(SV.v (.string ({data:=#[]}))),(SV.v (.int .i64 8))])) (((spPre n (winBlk (Ro.blk {s:=2,n:=n,row:=fun i => [SV.v (.int .i64 (Prod.fst (g i))),SV.v (.int .i64 (Prod.snd (g i)))]}) 2 0 n))∧(spPre m (winBlk (Ro.blk {s:=2,n:=m,row:=fun i => [SV.v (.int .i64 (Prod.fst (h i))),SV.v (.int .i64 (Prod.snd (h i)))]}) 2 0 m)))∧(((rowsPre n n fun y => [SV.v (.int .i64 (Prod.fst (g (0 + y)))),SV.v (.int .i64 (Prod.snd (g (0 + y))))])∧(rowsPre m m fun y => [SV.v (.int .i64 (Prod.fst (h (0 + y)))),SV.v (.int .i64 (Prod.snd (h (0 + y))))]))∧(sel (!sameRB k k (Int.ofNat (a + 1)) (Int.ofNat (a + 1)) (uRN (Int.ofNat (a + 1)) c) c (sameBB (RV.o (uRN (Int.ofNat (a + 1)) c)) (RV.o c) (eqSh (sbOf (RV.o (uRN (Int.ofNat (a + 1)) c))) (sbOf (RV.o c))&&Nat.beq n 0)) (Nat.beq m 0)) (R (SV.tup [(SV.v (.string ({data:=#[]}))),(SV.v (.int .i64 4))])) (sel (k == 0) (sel (RV.id c != 0) (R (SV.tup [(SV.v (.string ({data:=#[]}))),(SV.v (.int .i64 4))])) (sel (Int.ofNat (a + 1) == 14) (R (SV.tup [(SV.v (.string ({data:=#[]}))),(SV.v (.int .i64 4))])) ((rwPre k (Int.ofNat (a + 1)) c n m (winBlk (Ro.blk {s:=2,n:=n,row:=fun i => [SV.v (.int .i64 (Prod.fst (g i))),SV.v (.int .i64 (Prod.snd (g i)))]}) 2 0 n) (winBlk (Ro.blk {s:=2,n:=m,row:=fun i => [SV.v (.int .i64 (Prod.fst (h i))),SV.v (.int .i64 (Prod.snd (h i)))]}) 2 0 m))∧(∀ c_1 : Nat,((bytesOk (6 + rNK k (Int.ofNat (a + 1)) n m) (6 + rNK k (Int.ofNat (a + 1)) n m + c_1) {elem:=5,size:=1,rw:=true,lock:=false,lit:=false,flat:=true,n:=6 + rNK k (Int.ofNat (a + 1)) n m,row:=fun i => [SV.v (.int .u8 ((fun i => List.getD (rpL k (Int.ofNat (a + 1)) c (rTK k (Int.ofNat (a + 1)) c n (gX (winBlk (Ro.blk {s:=2,n:=n,row:=fun i => [SV.v (.int .i64 (Prod.fst (g i))),SV.v (.int .i64 (Prod.snd (g i)))]}) 2 0 n)) (gY (winBlk (Ro.blk {s:=2,n:=n,row:=fun i => [SV.v (.int .i64 (Prod.fst (g i))),SV.v (.int .i64 (Prod.snd (g i)))]}) 2 0 n)) m (gX (winBlk (Ro.blk {s:=2,n:=m,row:=fun i => [SV.v (.int .i64 (Prod.fst (h i))),SV.v (.int .i64 (Prod.snd (h i)))]}) 2 0 m)) (gY (winBlk (Ro.blk {s:=2,n:=m,row:=fun i => [SV.v (.int .i64 (Prod.fst (h i))),SV.v (.int .i64 (Prod.snd (h i)))]}) 2 0 m)))) i 0) i))],ext:=6 + rNK k (Int.ofNat (a + 1)) n m + c_1})∧(R (SV.tup [(SV.v (.string (bif false||rpB (Int.ofNat (a + 1)) c (rBK k (Int.ofNat (a + 1)) c n m (gX (winBlk (Ro.blk {s:=2,n:=m,row:=fun i => [SV.v (.int .i64 (Prod.fst (h i))),SV.v (.int .i64 (Prod.snd (h i)))]}) 2 0 m)) (gY (winBlk (Ro.blk {s:=2,n:=m,row:=fun i => [SV.v (.int .i64 (Prod.fst (h i))),SV.v (.int .i64 (Prod.snd (h i)))]}) 2 0 m))) then emp else strOf (6 + rNK k (Int.ofNat (a + 1)) n m) fun i => [SV.v (.int .u8 (SE.byteOf [SV.v (.int .u8 ((fun i => List.getD (rpL k (Int.ofNat (a + 1)) c (rTK k (Int.ofNat (a + 1)) c n (gX (winBlk (Ro.blk {s:=2,n:=n,row:=fun i => [SV.v (.int .i64 (Prod.fst (g i))),SV.v (.int .i64 (Prod.snd (g i)))]}) 2 0 n)) (gY (winBlk (Ro.blk {s:=2,n:=n,row:=fun i => [SV.v (.int .i64 (Prod.fst (g i))),SV.v (.int .i64 (Prod.snd (g i)))]}) 2 0 n)) m (gX (winBlk (Ro.blk {s:=2,n:=m,row:=fun i => [SV.v (.int .i64 (Prod.fst (h i))),SV.v (.int .i64 (Prod.snd (h i)))]}) 2 0 m)) (gY (winBlk (Ro.blk {s:=2,n:=m,row:=fun i => [SV.v (.int .i64 (Prod.fst (h i))),SV.v (.int .i64 (Prod.snd (h i)))]}) 2 0 m)))) i 0) i))]))]))),(SV.v (.int .i64 (bif false||rpB (Int.ofNat (a + 1)) c (rBK k (Int.ofNat (a + 1)) c n m (gX (winBlk (Ro.blk {s:=2,n:=m,row:=fun i => [SV.v (.int .i64 (Prod.fst (h i))),SV.v (.int .i64 (Prod.snd (h i)))]}) 2 0 m)) (gY (winBlk (Ro.blk {s:=2,n:=m,row:=fun i => [SV.v (.int .i64 (Prod.fst (h i))),SV.v (.int .i64 (Prod.snd (h i)))]}) 2 0 m))) then 3 else 0)))]))))))) ((rwPre k (Int.ofNat (a + 1)) c n m (winBlk (Ro.blk {s:=2,n:=n,row:=fun i => [SV.v (.int .i64 (Prod.fst (g i))),SV.v (.int .i64 (Prod.snd (g i)))]}) 2 0 n) (winBlk (Ro.blk {s:=2,n:=m,row:=fun i => [SV.v (.int .i64 (Prod.fst (h i))),SV.v (.int .i64 (Prod.snd (h i)))]}) 2 0 m))∧(∀ c_1 : Nat,((bytesOk (6 + rNK k (Int.ofNat (a + 1)) n m) (6 + rNK k (Int.ofNat (a + 1)) n m + c_1) {elem:=5,size:=1,rw:=true,lock:=false,lit:=false,flat:=true,n:=6 + rNK k (Int.ofNat (a + 1)) n m,row:=fun i => [SV.v (.int .u8 ((fun i => List.getD (rpL k (Int.ofNat (a + 1)) c (rTK k (Int.ofNat (a + 1)) c n (gX (winBlk (Ro.blk {s:=2,n:=n,row:=fun i => [SV.v (.int .i64 (Prod.fst (g i))),SV.v (.int .i64 (Prod.snd (g i)))]}) 2 0 n)) (gY (winBlk (Ro.blk {s:=2,n:=n,row:=fun i => [SV.v (.int .i64 (Prod.fst (g i))),SV.v (.int .i64 (Prod.snd (g i)))]}) 2 0 n)) m (gX (winBlk (Ro.blk {s:=2,n:=m,row:=fun i => [SV.v (.int .i64 (Prod.fst (h i))),SV.v (.int .i64 (Prod.snd (h i)))]}) 2 0 m)) (gY (winBlk (Ro.blk {s:=2,n:=m,row:=fun i => [SV.v (.int .i64 (Prod.fst (h i))),SV.v (.int .i64 (Prod.snd (h i)))]}) 2 0 m)))) i 0) i))],ext:=6 + rNK k (Int.ofNat (a + 1)) n m + c_1})∧(R (SV.tup [(SV.v (.string (bif false||rpB (Int.ofNat (a + 1)) c (rBK k (Int.ofNat (a + 1)) c n m (gX (winBlk (Ro.blk {s:=2,n:=m,row:=fun i => [SV.v (.int .i64 (Prod.fst (h i))),SV.v (.int .i64 (Prod.snd (h i)))]}) 2 0 m)) (gY (winBlk (Ro.blk {s:=2,n:=m,row:=fun i => [SV.v (.int .i64 (Prod.fst (h i))),SV.v (.int .i64 (Prod.snd (h i)))]}) 2 0 m))) then emp else strOf (6 + rNK k (Int.ofNat (a + 1)) n m) fun i => [SV.v (.int .u8 (SE.byteOf [SV.v (.int .u8 ((fun i => List.getD (rpL k (Int.ofNat (a + 1)) c (rTK k (Int.ofNat (a + 1)) c n (gX (winBlk (Ro.blk {s:=2,n:=n,row:=fun i => [SV.v (.int .i64 (Prod.fst (g i))),SV.v (.int .i64 (Prod.snd (g i)))]}) 2 0 n)) (gY (winBlk (Ro.blk {s:=2,n:=n,row:=fun i => [SV.v (.int .i64 (Prod.fst (g i))),SV.v (.int .i64 (Prod.snd (g i)))]}) 2 0 n)) m (gX (winBlk (Ro.blk {s:=2,n:=m,row:=fun i => [SV.v (.int .i64 (Prod.fst (h i))),SV.v (.int .i64 (Prod.snd (h i)))]}) 2 0 m)) (gY (winBlk (Ro.blk {s:=2,n:=m,row:=fun i => [SV.v (.int .i64 (Prod.fst (h i))),SV.v (.int .i64 (Prod.snd (h i)))]}) 2 0 m)))) i 0) i))]))]))),(SV.v (.int .i64 (bif false||rpB (Int.ofNat (a + 1)) c (rBK k (Int.ofNat (a + 1)) c n m (gX (winBlk (Ro.blk {s:=2,n:=m,row:=fun i => [SV.v (.int .i64 (Prod.fst (h i))),SV.v (.int .i64 (Prod.snd (h i)))]}) 2 0 m)) (gY (winBlk (Ro.blk {s:=2,n:=m,row:=fun i => [SV.v (.int .i64 (Prod.fst (h i))),SV.v (.int .i64 (Prod.snd (h i)))]}) 2 0 m))) then 3 else 0)))]))))))))))):=by kernel_rfl
theorem vcRepM (k : Int) (a : Nat) (c : RV) (n cap m cp : Nat) (g h : Nat→Int × Int) (R : SV→Prop) : (vcFn Try.prog ΓRy noΛ Try.f32 [reS k (Int.negSucc a) c (.sl 0 2 0 n cap) (.sl 1 2 0 m cp)] (roHeap [⟨2,n,rowsP g⟩,⟨2,m,rowsP h⟩]) 64 (fun y _ => R y)) = (sel (decide (k < 0)) (R (SV.tup [(SV.v (.string ({data:=#[]}))),(SV.v (.int .i64 8))])) (sel (decide (k > 10)) (R (SV.tup [(SV.v (.string ({data:=#[]}))),(SV.v (.int .i64 8))])) (((spPre n (winBlk (Ro.blk {s:=2,n:=n,row:=fun i => [SV.v (.int .i64 (Prod.fst (g i))),SV.v (.int .i64 (Prod.snd (g i)))]}) 2 0 n))∧(spPre m (winBlk (Ro.blk {s:=2,n:=m,row:=fun i => [SV.v (.int .i64 (Prod.fst (h i))),SV.v (.int .i64 (Prod.snd (h i)))]}) 2 0 m)))∧(((rowsPre n n fun y => [SV.v (.int .i64 (Prod.fst (g (0 + y)))),SV.v (.int .i64 (Prod.snd (g (0 + y))))])∧(rowsPre m m fun y => [SV.v (.int .i64 (Prod.fst (h (0 + y)))),SV.v (.int .i64 (Prod.snd (h (0 + y))))]))∧(sel (!sameRB k k (Int.negSucc a) (Int.negSucc a) (uRN (Int.negSucc a) c) c (sameBB (RV.o (uRN (Int.negSucc a) c)) (RV.o c) (eqSh (sbOf (RV.o (uRN (Int.negSucc a) c))) (sbOf (RV.o c))&&Nat.beq n 0)) (Nat.beq m 0)) (R (SV.tup [(SV.v (.string ({data:=#[]}))),(SV.v (.int .i64 4))])) (sel (k == 0) (sel (RV.id c != 0) (R (SV.tup [(SV.v (.string ({data:=#[]}))),(SV.v (.int .i64 4))])) ((rwPre k (Int.negSucc a) c n m (winBlk (Ro.blk {s:=2,n:=n,row:=fun i => [SV.v (.int .i64 (Prod.fst (g i))),SV.v (.int .i64 (Prod.snd (g i)))]}) 2 0 n) (winBlk (Ro.blk {s:=2,n:=m,row:=fun i => [SV.v (.int .i64 (Prod.fst (h i))),SV.v (.int .i64 (Prod.snd (h i)))]}) 2 0 m))∧(∀ c_1 : Nat,((bytesOk (6 + rNK k (Int.negSucc a) n m) (6 + rNK k (Int.negSucc a) n m + c_1) {elem:=5,size:=1,rw:=true,lock:=false,lit:=false,flat:=true,n:=6 + rNK k (Int.negSucc a) n m,row:=fun i => [SV.v (.int .u8 ((fun i => List.getD (rpL k (Int.negSucc a) c (rTK k (Int.negSucc a) c n (gX (winBlk (Ro.blk {s:=2,n:=n,row:=fun i => [SV.v (.int .i64 (Prod.fst (g i))),SV.v (.int .i64 (Prod.snd (g i)))]}) 2 0 n)) (gY (winBlk (Ro.blk {s:=2,n:=n,row:=fun i => [SV.v (.int .i64 (Prod.fst (g i))),SV.v (.int .i64 (Prod.snd (g i)))]}) 2 0 n)) m (gX (winBlk (Ro.blk {s:=2,n:=m,row:=fun i => [SV.v (.int .i64 (Prod.fst (h i))),SV.v (.int .i64 (Prod.snd (h i)))]}) 2 0 m)) (gY (winBlk (Ro.blk {s:=2,n:=m,row:=fun i => [SV.v (.int .i64 (Prod.fst (h i))),SV.v (.int .i64 (Prod.snd (h i)))]}) 2 0 m)))) i 0) i))],ext:=6 + rNK k (Int.negSucc a) n m + c_1})∧(R (SV.tup [(SV.v (.string (bif false||rpB (Int.negSucc a) c (rBK k (Int.negSucc a) c n m (gX (winBlk (Ro.blk {s:=2,n:=m,row:=fun i => [SV.v (.int .i64 (Prod.fst (h i))),SV.v (.int .i64 (Prod.snd (h i)))]}) 2 0 m)) (gY (winBlk (Ro.blk {s:=2,n:=m,row:=fun i => [SV.v (.int .i64 (Prod.fst (h i))),SV.v (.int .i64 (Prod.snd (h i)))]}) 2 0 m))) then emp else strOf (6 + rNK k (Int.negSucc a) n m) fun i => [SV.v (.int .u8 (SE.byteOf [SV.v (.int .u8 ((fun i => List.getD (rpL k (Int.negSucc a) c (rTK k (Int.negSucc a) c n (gX (winBlk (Ro.blk {s:=2,n:=n,row:=fun i => [SV.v (.int .i64 (Prod.fst (g i))),SV.v (.int .i64 (Prod.snd (g i)))]}) 2 0 n)) (gY (winBlk (Ro.blk {s:=2,n:=n,row:=fun i => [SV.v (.int .i64 (Prod.fst (g i))),SV.v (.int .i64 (Prod.snd (g i)))]}) 2 0 n)) m (gX (winBlk (Ro.blk {s:=2,n:=m,row:=fun i => [SV.v (.int .i64 (Prod.fst (h i))),SV.v (.int .i64 (Prod.snd (h i)))]}) 2 0 m)) (gY (winBlk (Ro.blk {s:=2,n:=m,row:=fun i => [SV.v (.int .i64 (Prod.fst (h i))),SV.v (.int .i64 (Prod.snd (h i)))]}) 2 0 m)))) i 0) i))]))]))),(SV.v (.int .i64 (bif false||rpB (Int.negSucc a) c (rBK k (Int.negSucc a) c n m (gX (winBlk (Ro.blk {s:=2,n:=m,row:=fun i => [SV.v (.int .i64 (Prod.fst (h i))),SV.v (.int .i64 (Prod.snd (h i)))]}) 2 0 m)) (gY (winBlk (Ro.blk {s:=2,n:=m,row:=fun i => [SV.v (.int .i64 (Prod.fst (h i))),SV.v (.int .i64 (Prod.snd (h i)))]}) 2 0 m))) then 3 else 0)))])))))) ((rwPre k (Int.negSucc a) c n m (winBlk (Ro.blk {s:=2,n:=n,row:=fun i => [SV.v (.int .i64 (Prod.fst (g i))),SV.v (.int .i64 (Prod.snd (g i)))]}) 2 0 n) (winBlk (Ro.blk {s:=2,n:=m,row:=fun i => [SV.v (.int .i64 (Prod.fst (h i))),SV.v (.int .i64 (Prod.snd (h i)))]}) 2 0 m))∧(∀ c_1 : Nat,((bytesOk (6 + rNK k (Int.negSucc a) n m) (6 + rNK k (Int.negSucc a) n m + c_1) {elem:=5,size:=1,rw:=true,lock:=false,lit:=false,flat:=true,n:=6 + rNK k (Int.negSucc a) n m,row:=fun i => [SV.v (.int .u8 ((fun i => List.getD (rpL k (Int.negSucc a) c (rTK k (Int.negSucc a) c n (gX (winBlk (Ro.blk {s:=2,n:=n,row:=fun i => [SV.v (.int .i64 (Prod.fst (g i))),SV.v (.int .i64 (Prod.snd (g i)))]}) 2 0 n)) (gY (winBlk (Ro.blk {s:=2,n:=n,row:=fun i => [SV.v (.int .i64 (Prod.fst (g i))),SV.v (.int .i64 (Prod.snd (g i)))]}) 2 0 n)) m (gX (winBlk (Ro.blk {s:=2,n:=m,row:=fun i => [SV.v (.int .i64 (Prod.fst (h i))),SV.v (.int .i64 (Prod.snd (h i)))]}) 2 0 m)) (gY (winBlk (Ro.blk {s:=2,n:=m,row:=fun i => [SV.v (.int .i64 (Prod.fst (h i))),SV.v (.int .i64 (Prod.snd (h i)))]}) 2 0 m)))) i 0) i))],ext:=6 + rNK k (Int.negSucc a) n m + c_1})∧(R (SV.tup [(SV.v (.string (bif false||rpB (Int.negSucc a) c (rBK k (Int.negSucc a) c n m (gX (winBlk (Ro.blk {s:=2,n:=m,row:=fun i => [SV.v (.int .i64 (Prod.fst (h i))),SV.v (.int .i64 (Prod.snd (h i)))]}) 2 0 m)) (gY (winBlk (Ro.blk {s:=2,n:=m,row:=fun i => [SV.v (.int .i64 (Prod.fst (h i))),SV.v (.int .i64 (Prod.snd (h i)))]}) 2 0 m))) then emp else strOf (6 + rNK k (Int.negSucc a) n m) fun i => [SV.v (.int .u8 (SE.byteOf [SV.v (.int .u8 ((fun i => List.getD (rpL k (Int.negSucc a) c (rTK k (Int.negSucc a) c n (gX (winBlk (Ro.blk {s:=2,n:=n,row:=fun i => [SV.v (.int .i64 (Prod.fst (g i))),SV.v (.int .i64 (Prod.snd (g i)))]}) 2 0 n)) (gY (winBlk (Ro.blk {s:=2,n:=n,row:=fun i => [SV.v (.int .i64 (Prod.fst (g i))),SV.v (.int .i64 (Prod.snd (g i)))]}) 2 0 n)) m (gX (winBlk (Ro.blk {s:=2,n:=m,row:=fun i => [SV.v (.int .i64 (Prod.fst (h i))),SV.v (.int .i64 (Prod.snd (h i)))]}) 2 0 m)) (gY (winBlk (Ro.blk {s:=2,n:=m,row:=fun i => [SV.v (.int .i64 (Prod.fst (h i))),SV.v (.int .i64 (Prod.snd (h i)))]}) 2 0 m)))) i 0) i))]))]))),(SV.v (.int .i64 (bif false||rpB (Int.negSucc a) c (rBK k (Int.negSucc a) c n m (gX (winBlk (Ro.blk {s:=2,n:=m,row:=fun i => [SV.v (.int .i64 (Prod.fst (h i))),SV.v (.int .i64 (Prod.snd (h i)))]}) 2 0 m)) (gY (winBlk (Ro.blk {s:=2,n:=m,row:=fun i => [SV.v (.int .i64 (Prod.fst (h i))),SV.v (.int .i64 (Prod.snd (h i)))]}) 2 0 m))) then 3 else 0)))]))))))))))):=by kernel_rfl
theorem vcRepO (k e : Int) (c : RV) (n cap m cp : Nat) (g h : Nat→Int × Int) (R : SV→Prop) : (vcFn Try.prog noCtrs noΛ Try.f32 [reS k e c (.sl 0 2 0 n cap) (.sl 1 2 0 m cp)] (roHeap [⟨2,n,rowsP g⟩,⟨2,m,rowsP h⟩]) 64 (fun y _ => R y)) = (sel (decide (k < 0)) (R (SV.tup [(SV.v (.string ({data:=#[]}))),(SV.v (.int .i64 8))])) (sel (decide (k > 10)) (R (SV.tup [(SV.v (.string ({data:=#[]}))),(SV.v (.int .i64 8))])) False)):=by kernel_rfl
theorem e_P (a : Nat) : (Int.ofNat (a + 1) == 0) = false := by
  cases hb : (Int.ofNat (a + 1) == 0) with
  | false => rfl
  | true =>
    have hb := beq_iff_eq.1 hb
    have : ((a + 1 : Nat) : Int) = 0 := hb
    omega
theorem e_M (a : Nat) : (Int.negSucc a == 0) = false := by
  cases hb : (Int.negSucc a == 0) with
  | false => rfl
  | true => cases beq_iff_eq.1 hb
theorem e_M14 (a : Nat) : (Int.negSucc a == 14) = false := by
  cases hb : (Int.negSucc a == 14) with
  | false => rfl
  | true => cases beq_iff_eq.1 hb
theorem ReplyW_spec : HpSpec Try.prog 78 sReplyW := hp_spec hm ΓPr_ok Try.func78 (Λ := fun args bs => match args, bs with
    | [_, .agg l], [B, _, H] => match cellsOfR l, wrOf [B] with
      | some (8, 0, c, _, .sl _ _ _ m _), some (.fresh (some b)) => ΛRw8 (b || (notIn c.id 2147483647 || notIn (m : Int) 64)) ([8] ++ (c4 c.id ++ ([0] ++ [(m : Int) % 256]))) m (gX H) (gY H)
      | _, _ => noΛ
    | _, _ => noΛ) fun args bs e0 hs hp => by
  unfold sReplyW at hs
  split at hs <;> try (cases hs; done)
  rename_i l
  split at hs <;> try (cases hs; done)
  rename_i k e c n cap m cp hl
  split at hs <;> try (cases hs; done)
  rename_i B S H
  split at hs <;> try (cases hs; done)
  rename_i b hw
  obtain ⟨hS, he⟩ := bif_some hs
  subst he
  rw [Bool.and_eq_true] at hS
  obtain ⟨hk, ⟨ik, ie⟩, hc, ⟨hsp, hn⟩, hsh, hm'⟩ := hp
  refine ⟨[wB (some b) true nilS, ptB S.elem n (gX S) (gY S) S.ext S.whole, ptB H.elem m (gX H) (gY H) H.ext H.whole], ⟨(wrOf_fresh hw).1, same_ptB hS.1 hsp, same_ptB hS.2 hsh, trivial⟩, ?_⟩
  have hv : ∀ i, i < n → I64 (gX S i) ∧ I64 (gY S i) := (pre_of hsp).2
  have hu : ∀ i, i < m → I64 (gX H i) ∧ I64 (gY H i) := (pre_of hsh).2
  cases e with
  | ofNat e =>
    cases e with
    | zero =>
      have hk := hk rfl
      have hk' : k = 1 ∨ k = 2 ∨ k = 3 ∨ k = 4 ∨ k = 5 ∨ k = 6 ∨ k = 7 ∨ k = 8 ∨ k = 9 ∨ k = 10 := by omega
      rcases hk' with x | x | x | x | x | x | x | x | x | x <;> subst x
      · simp only [hl, hw]
        rw [reps_eq hl]
        exact reply_1 hc hn hv hm' hu
      · simp only [hl, hw]
        rw [reps_eq hl]
        exact reply_2 hc hn hv hm' hu
      · simp only [hl, hw]
        rw [reps_eq hl]
        exact reply_3 hc hn hv hm' hu
      · simp only [hl, hw]
        rw [reps_eq hl]
        exact reply_4 hc hn hv hm' hu
      · simp only [hl, hw]
        rw [reps_eq hl]
        exact reply_5 hc hn hv hm' hu
      · simp only [hl, hw]
        rw [reps_eq hl]
        exact reply_6 hc hn hv hm' hu
      · simp only [hl, hw]
        rw [reps_eq hl]
        exact reply_7 hc hn hv hm' hu
      · simp only [hl, hw]
        rw [reps_eq hl]
        exact reply_8 hc hn hv hm' hu
      · simp only [hl, hw]
        rw [reps_eq hl]
        exact reply_9 hc hn hv hm' hu
      · simp only [hl, hw]
        rw [reps_eq hl]
        exact reply_10 hc hn hv hm' hu
    | succ a =>
      have hΛ : (match (k, Int.ofNat (a + 1)) with | (8, 0) => false | _ => true) = true := by
        split
        · rename_i h
          cases h
        · rfl
      simp only [hl, hw]
      rw [reps_eq hl]
      unfold rNK rTK rBK
      rw [e_P a]
      exact reply_P hc hn hv hm' hu ik ie
  | negSucc a =>
    simp only [hl, hw]
    rw [reps_eq hl]
    unfold rNK rTK rBK
    rw [e_M a, e_M14 a]
    exact reply_M hc hn hv hm' hu ik ie
end Go.Proofs.Ytjdldadmaaeimaa
end

section
set_option maxRecDepth 100000
set_option linter.unusedSimpArgs false
set_option linter.unusedVariables false
namespace Go.Proofs.Ytjdldadmaaeimaa
open Go.SE Go.RowKit
def rkOk (k : Int) : Bool := decide (0 ≤ k) && decide (k ≤ 10)
def rForm (k e : Int) (c : RV) (n : Nat) (g : Nat → Int × Int) (m : Nat) (h : Nat → Int × Int) : Bool := (!(k == 0) || (c.id == 0 && (!(e == 0) && !(e == 14)))) && sameRB k k e e (uRK k e c) c (sameBB (uRK k e c).o c.o (bif e == 0 && k == 7 then sameS (sbOf (uRK k e c).o) n g (sbOf c.o) n g else eqSh (sbOf (uRK k e c).o) (sbOf c.o) && Nat.beq n 0)) (bif e == 0 && k == 8 then sameP m h m h else Nat.beq m 0)
def rBad (k e : Int) (c : RV) (n m : Nat) (h : Nat → Int × Int) : Bool := rpB e c (rBK k e c n m (fun i => (h i).1) (fun i => (h i).2))
def repL (k e : Int) (c : RV) (n : Nat) (g : Nat → Int × Int) (m : Nat) (h : Nat → Int × Int) : List Int := rpL k e c (rTK k e c n (fun i => (g i).1) (fun i => (g i).2) m (fun i => (h i).1) (fun i => (h i).2))
def repBs (k e : Int) (c : RV) (n : Nat) (g : Nat → Int × Int) (m : Nat) (h : Nat → Int × Int) : ByteArray := strOf (6 + rNK k e n m) fun i => [.v (.int .u8 ((repL k e c n g m h).getD i 0))]
def repT (k e : Int) (c : RV) (n : Nat) (g : Nat → Int × Int) (m : Nat) (h : Nat → Int × Int) : ByteArray := bif rkOk k && (rForm k e c n g m h && !rBad k e c n m h) then repBs k e c n g m h else emp
def repE (k e : Int) (c : RV) (n : Nat) (g : Nat → Int × Int) (m : Nat) (h : Nat → Int × Int) : Int := bif rkOk k then (bif rForm k e c n g m h then (bif rBad k e c n m h then 3 else 0) else 4) else 8
def repPre (k e : Int) (c : RV) (n n' m m' : Nat) (r1 r2 : Nat → List SV) : Prop := (rowsPre n n' r1 ∧ rowsPre m m' r2) ∧ (rvOk c ∧ I64 k ∧ I64 e) ∧ n < 100 ∧ m < 200
def sRepG : List SV → List Ro → Option (Option Prop × SV)
  | [.agg l], [⟨2, n', r1⟩, ⟨2, m', r2⟩] => match cellsOfR l with
    | some (k, e, c, .sl 0 2 0 n _, .sl 1 2 0 m _) => some (some (repPre k e c n n' m m' r1 r2), .tup [strS (repT k e c n (fun i => gi (r1 i)) m fun i => gi (r2 i)), iV (repE k e c n (fun i => gi (r1 i)) m fun i => gi (r2 i))])
    | _ => none
  | _, _ => none
def ΓRk : Ctrs := addCtr noCtrs 32 (roCtr sRepG)
theorem vcCheckR (k e : Int) (c : RV) (n cap m cp : Nat) (g h : Nat→Int × Int) (R : SV→Prop) : (vcFn Try.prog ΓRk noΛ Try.f34 [reS k e c (.sl 0 2 0 n cap) (.sl 1 2 0 m cp)] (roHeap [⟨2,n,rowsP g⟩,⟨2,m,rowsP h⟩]) 64 (fun y _ => R y)) = ((repPre k e c n n m m (fun y => [SV.v (.int .i64 (Prod.fst (g (0 + y)))),SV.v (.int .i64 (Prod.snd (g (0 + y))))]) fun y => [SV.v (.int .i64 (Prod.fst (h (0 + y)))),SV.v (.int .i64 (Prod.snd (h (0 + y))))])∧(R (SV.v (.int .i64 (repE k e c n (fun i => gi [SV.v (.int .i64 (Prod.fst (g (0 + i)))),SV.v (.int .i64 (Prod.snd (g (0 + i))))]) m fun i => gi [SV.v (.int .i64 (Prod.fst (h (0 + i)))),SV.v (.int .i64 (Prod.snd (h (0 + i))))]))))):=by kernel_rfl
def sCheckR : List SV → List Ro → Option (Option Prop × SV)
  | [.agg l], [⟨2, n', r1⟩, ⟨2, m', r2⟩] => match cellsOfR l with
    | some (k, e, c, .sl 0 2 0 n _, .sl 1 2 0 m _) => some (some (repPre k e c n n' m m' r1 r2), iV (repE k e c n (fun i => gi (r1 i)) m fun i => gi (r2 i)))
    | _ => none
  | _, _ => none
theorem ΓRy_ok : ∀ f g, ΓRy f = some g → g.ok Try.prog f := addCtr_ok (addCtr_ok (addCtr_ok (addCtr_ok noCtrs_ok (hp_ok Try.func77 (by kernel_rfl) (by kernel_rfl) Shown_spec)) (ro_ok Try.func36 (by kernel_rfl) (by kernel_rfl) SameR_spec')) (hp_ok Try.func78 (by kernel_rfl) (by kernel_rfl) ReplyW_spec)) (hp_ok Try.func71 (by kernel_rfl) (by kernel_rfl) DoneG_spec)
theorem bif_le {b : Bool} {x y z : Nat} (h1 : x ≤ z) (h2 : y ≤ z) : (bif b then x else y) ≤ z := by
  cases b
  · exact h2
  · exact h1
theorem rNK_le (k e : Int) {n m : Nat} (hn : n < 100) (hm' : m < 200) : rNK k e n m ≤ 6000 := by
  have hsn := shN_le n
  unfold rNK
  cases e == 0 with
  | false =>
    rw [cond_false]
    cases e == 14 <;> simp
  | true =>
    rw [cond_true]
    unfold rN1 rN2 rN3 rN4 rN5 rN6 rN7 rN8 rN9 rN10 boN
    repeat (first | omega | (refine bif_le ?_ ?_))
theorem rep_0 {c : RV} {n cap m cp : Nat} {g h : Nat → Int × Int} (hc : rvOk c) (hn : n < 100) (hg : ∀ i, i < n → I64 (g i).1 ∧ I64 (g i).2) (hm' : m < 200) (hh : ∀ i, i < m → I64 (h i).1 ∧ I64 (h i).2) : vcFn Try.prog ΓRy noΛ Try.f32 [reS 0 0 c (.sl 0 2 0 n cap) (.sl 1 2 0 m cp)] (roHeap [⟨2, n, rowsP g⟩, ⟨2, m, rowsP h⟩]) 64 (fun y _ => y = .tup [strS (repT 0 0 c n g m h), iV (repE 0 0 c n g m h)]) := by
  have hn4 : n < 1099511627776 := by omega
  have hm4 : m < 1099511627776 := by omega
  refine Eq.mpr (vcRep0 c n cap m cp g h _) ⟨⟨win_sp hn4 hg, win_sp hm4 hh⟩, ⟨pre_rows hn4 hg, pre_rows hm4 hh⟩, ?_⟩
  have hf : rForm 0 0 c n g m h = false := by
    unfold rForm
    rw [show (!((0 : Int) == 0)) = false from rfl, Bool.false_and, Bool.and_false]
    rfl
  unfold repT repE
  rw [hf]
  exact sel_of (fun _ => rfl) fun _ => sel_of (fun _ => rfl) fun _ => rfl
theorem rep_1 {c : RV} {n cap m cp : Nat} {g h : Nat → Int × Int} (hc : rvOk c) (hn : n < 100) (hg : ∀ i, i < n → I64 (g i).1 ∧ I64 (g i).2) (hm' : m < 200) (hh : ∀ i, i < m → I64 (h i).1 ∧ I64 (h i).2) : vcFn Try.prog ΓRy noΛ Try.f32 [reS 1 0 c (.sl 0 2 0 n cap) (.sl 1 2 0 m cp)] (roHeap [⟨2, n, rowsP g⟩, ⟨2, m, rowsP h⟩]) 64 (fun y _ => y = .tup [strS (repT 1 0 c n g m h), iV (repE 1 0 c n g m h)]) := by
  have hn4 : n < 1099511627776 := by omega
  have hm4 : m < 1099511627776 := by omega
  have hN := rNK_le 1 0 hn hm'
  refine Eq.mpr (vcRep1 c n cap m cp g h _) ⟨⟨win_sp hn4 hg, win_sp hm4 hh⟩, ⟨pre_rows hn4 hg, pre_rows hm4 hh⟩, ?_⟩
  rw [win_gX g, win_gY g, win_gX h, win_gY h]
  have hf : rForm 1 0 c n g m h = sameRB 1 1 0 0 (uR1 c) c (sameBB (uR1 c).o c.o (eqSh (sbOf (uR1 c).o) (sbOf c.o) && Nat.beq n 0)) (Nat.beq m 0) := rfl
  unfold repT repE
  rw [hf, show rkOk 1 = true from rfl]
  generalize sameRB 1 1 0 0 (uR1 c) c (sameBB (uR1 c).o c.o (eqSh (sbOf (uR1 c).o) (sbOf c.o) && Nat.beq n 0)) (Nat.beq m 0) = s
  cases s with
  | false => exact sel_of (fun _ => rfl) fun e => by cases e
  | true =>
    refine sel_of (fun e => by cases e) fun _ => ⟨⟨fun _ => ⟨by omega, by omega⟩, ⟨⟨by omega, by omega⟩, ⟨by omega, by omega⟩⟩, hc, ⟨win_sp hn4 hg, hn⟩, win_sp hm4 hh, hm'⟩, fun c1 => ⟨bytesOk_bG _ _ _ (by omega), ?_⟩⟩
    show SV.tup [.v (.string (bif false || rBad 1 0 c n m h then emp else repBs 1 0 c n g m h)), .v (.int .i64 (bif false || rBad 1 0 c n m h then 3 else 0))] = _
    cases rBad 1 0 c n m h <;> rfl
theorem rep_2 {c : RV} {n cap m cp : Nat} {g h : Nat → Int × Int} (hc : rvOk c) (hn : n < 100) (hg : ∀ i, i < n → I64 (g i).1 ∧ I64 (g i).2) (hm' : m < 200) (hh : ∀ i, i < m → I64 (h i).1 ∧ I64 (h i).2) : vcFn Try.prog ΓRy noΛ Try.f32 [reS 2 0 c (.sl 0 2 0 n cap) (.sl 1 2 0 m cp)] (roHeap [⟨2, n, rowsP g⟩, ⟨2, m, rowsP h⟩]) 64 (fun y _ => y = .tup [strS (repT 2 0 c n g m h), iV (repE 2 0 c n g m h)]) := by
  have hn4 : n < 1099511627776 := by omega
  have hm4 : m < 1099511627776 := by omega
  have hN := rNK_le 2 0 hn hm'
  refine Eq.mpr (vcRep2 c n cap m cp g h _) ⟨⟨win_sp hn4 hg, win_sp hm4 hh⟩, ⟨pre_rows hn4 hg, pre_rows hm4 hh⟩, ?_⟩
  rw [win_gX g, win_gY g, win_gX h, win_gY h]
  have hf : rForm 2 0 c n g m h = sameRB 2 2 0 0 (uR2 c) c (sameBB (uR2 c).o c.o (eqSh (sbOf (uR2 c).o) (sbOf c.o) && Nat.beq n 0)) (Nat.beq m 0) := rfl
  unfold repT repE
  rw [hf, show rkOk 2 = true from rfl]
  generalize sameRB 2 2 0 0 (uR2 c) c (sameBB (uR2 c).o c.o (eqSh (sbOf (uR2 c).o) (sbOf c.o) && Nat.beq n 0)) (Nat.beq m 0) = s
  cases s with
  | false => exact sel_of (fun _ => rfl) fun e => by cases e
  | true =>
    refine sel_of (fun e => by cases e) fun _ => ⟨⟨fun _ => ⟨by omega, by omega⟩, ⟨⟨by omega, by omega⟩, ⟨by omega, by omega⟩⟩, hc, ⟨win_sp hn4 hg, hn⟩, win_sp hm4 hh, hm'⟩, fun c1 => ⟨bytesOk_bG _ _ _ (by omega), ?_⟩⟩
    show SV.tup [.v (.string (bif false || rBad 2 0 c n m h then emp else repBs 2 0 c n g m h)), .v (.int .i64 (bif false || rBad 2 0 c n m h then 3 else 0))] = _
    cases rBad 2 0 c n m h <;> rfl
theorem rep_3 {c : RV} {n cap m cp : Nat} {g h : Nat → Int × Int} (hc : rvOk c) (hn : n < 100) (hg : ∀ i, i < n → I64 (g i).1 ∧ I64 (g i).2) (hm' : m < 200) (hh : ∀ i, i < m → I64 (h i).1 ∧ I64 (h i).2) : vcFn Try.prog ΓRy noΛ Try.f32 [reS 3 0 c (.sl 0 2 0 n cap) (.sl 1 2 0 m cp)] (roHeap [⟨2, n, rowsP g⟩, ⟨2, m, rowsP h⟩]) 64 (fun y _ => y = .tup [strS (repT 3 0 c n g m h), iV (repE 3 0 c n g m h)]) := by
  have hn4 : n < 1099511627776 := by omega
  have hm4 : m < 1099511627776 := by omega
  have hN := rNK_le 3 0 hn hm'
  refine Eq.mpr (vcRep3 c n cap m cp g h _) ⟨⟨win_sp hn4 hg, win_sp hm4 hh⟩, ⟨pre_rows hn4 hg, pre_rows hm4 hh⟩, ?_⟩
  rw [win_gX g, win_gY g, win_gX h, win_gY h]
  have hf : rForm 3 0 c n g m h = sameRB 3 3 0 0 (uR3 c) c (sameBB (uR3 c).o c.o (eqSh (sbOf (uR3 c).o) (sbOf c.o) && Nat.beq n 0)) (Nat.beq m 0) := rfl
  unfold repT repE
  rw [hf, show rkOk 3 = true from rfl]
  generalize sameRB 3 3 0 0 (uR3 c) c (sameBB (uR3 c).o c.o (eqSh (sbOf (uR3 c).o) (sbOf c.o) && Nat.beq n 0)) (Nat.beq m 0) = s
  cases s with
  | false => exact sel_of (fun _ => rfl) fun e => by cases e
  | true =>
    refine sel_of (fun e => by cases e) fun _ => ⟨⟨fun _ => ⟨by omega, by omega⟩, ⟨⟨by omega, by omega⟩, ⟨by omega, by omega⟩⟩, hc, ⟨win_sp hn4 hg, hn⟩, win_sp hm4 hh, hm'⟩, fun c1 => ⟨bytesOk_bG _ _ _ (by omega), ?_⟩⟩
    show SV.tup [.v (.string (bif false || rBad 3 0 c n m h then emp else repBs 3 0 c n g m h)), .v (.int .i64 (bif false || rBad 3 0 c n m h then 3 else 0))] = _
    cases rBad 3 0 c n m h <;> rfl
theorem rep_4 {c : RV} {n cap m cp : Nat} {g h : Nat → Int × Int} (hc : rvOk c) (hn : n < 100) (hg : ∀ i, i < n → I64 (g i).1 ∧ I64 (g i).2) (hm' : m < 200) (hh : ∀ i, i < m → I64 (h i).1 ∧ I64 (h i).2) : vcFn Try.prog ΓRy noΛ Try.f32 [reS 4 0 c (.sl 0 2 0 n cap) (.sl 1 2 0 m cp)] (roHeap [⟨2, n, rowsP g⟩, ⟨2, m, rowsP h⟩]) 64 (fun y _ => y = .tup [strS (repT 4 0 c n g m h), iV (repE 4 0 c n g m h)]) := by
  have hn4 : n < 1099511627776 := by omega
  have hm4 : m < 1099511627776 := by omega
  have hN := rNK_le 4 0 hn hm'
  refine Eq.mpr (vcRep4 c n cap m cp g h _) ⟨⟨win_sp hn4 hg, win_sp hm4 hh⟩, ⟨pre_rows hn4 hg, pre_rows hm4 hh⟩, ?_⟩
  rw [win_gX g, win_gY g, win_gX h, win_gY h]
  have hf : rForm 4 0 c n g m h = sameRB 4 4 0 0 (uR4 c) c (sameBB (uR4 c).o c.o (eqSh (sbOf (uR4 c).o) (sbOf c.o) && Nat.beq n 0)) (Nat.beq m 0) := rfl
  unfold repT repE
  rw [hf, show rkOk 4 = true from rfl]
  generalize sameRB 4 4 0 0 (uR4 c) c (sameBB (uR4 c).o c.o (eqSh (sbOf (uR4 c).o) (sbOf c.o) && Nat.beq n 0)) (Nat.beq m 0) = s
  cases s with
  | false => exact sel_of (fun _ => rfl) fun e => by cases e
  | true =>
    refine sel_of (fun e => by cases e) fun _ => ⟨⟨fun _ => ⟨by omega, by omega⟩, ⟨⟨by omega, by omega⟩, ⟨by omega, by omega⟩⟩, hc, ⟨win_sp hn4 hg, hn⟩, win_sp hm4 hh, hm'⟩, fun c1 => ⟨bytesOk_bG _ _ _ (by omega), ?_⟩⟩
    show SV.tup [.v (.string (bif false || rBad 4 0 c n m h then emp else repBs 4 0 c n g m h)), .v (.int .i64 (bif false || rBad 4 0 c n m h then 3 else 0))] = _
    cases rBad 4 0 c n m h <;> rfl
theorem rep_5 {c : RV} {n cap m cp : Nat} {g h : Nat → Int × Int} (hc : rvOk c) (hn : n < 100) (hg : ∀ i, i < n → I64 (g i).1 ∧ I64 (g i).2) (hm' : m < 200) (hh : ∀ i, i < m → I64 (h i).1 ∧ I64 (h i).2) : vcFn Try.prog ΓRy noΛ Try.f32 [reS 5 0 c (.sl 0 2 0 n cap) (.sl 1 2 0 m cp)] (roHeap [⟨2, n, rowsP g⟩, ⟨2, m, rowsP h⟩]) 64 (fun y _ => y = .tup [strS (repT 5 0 c n g m h), iV (repE 5 0 c n g m h)]) := by
  have hn4 : n < 1099511627776 := by omega
  have hm4 : m < 1099511627776 := by omega
  have hN := rNK_le 5 0 hn hm'
  refine Eq.mpr (vcRep5 c n cap m cp g h _) ⟨⟨win_sp hn4 hg, win_sp hm4 hh⟩, ⟨pre_rows hn4 hg, pre_rows hm4 hh⟩, ?_⟩
  rw [win_gX g, win_gY g, win_gX h, win_gY h]
  have hf : rForm 5 0 c n g m h = sameRB 5 5 0 0 (uR5 c) c (sameBB (uR5 c).o c.o (eqSh (sbOf (uR5 c).o) (sbOf c.o) && Nat.beq n 0)) (Nat.beq m 0) := rfl
  unfold repT repE
  rw [hf, show rkOk 5 = true from rfl]
  generalize sameRB 5 5 0 0 (uR5 c) c (sameBB (uR5 c).o c.o (eqSh (sbOf (uR5 c).o) (sbOf c.o) && Nat.beq n 0)) (Nat.beq m 0) = s
  cases s with
  | false => exact sel_of (fun _ => rfl) fun e => by cases e
  | true =>
    refine sel_of (fun e => by cases e) fun _ => ⟨⟨fun _ => ⟨by omega, by omega⟩, ⟨⟨by omega, by omega⟩, ⟨by omega, by omega⟩⟩, hc, ⟨win_sp hn4 hg, hn⟩, win_sp hm4 hh, hm'⟩, fun c1 => ⟨bytesOk_bG _ _ _ (by omega), ?_⟩⟩
    show SV.tup [.v (.string (bif false || rBad 5 0 c n m h then emp else repBs 5 0 c n g m h)), .v (.int .i64 (bif false || rBad 5 0 c n m h then 3 else 0))] = _
    cases rBad 5 0 c n m h <;> rfl
theorem rep_6 {c : RV} {n cap m cp : Nat} {g h : Nat → Int × Int} (hc : rvOk c) (hn : n < 100) (hg : ∀ i, i < n → I64 (g i).1 ∧ I64 (g i).2) (hm' : m < 200) (hh : ∀ i, i < m → I64 (h i).1 ∧ I64 (h i).2) : vcFn Try.prog ΓRy noΛ Try.f32 [reS 6 0 c (.sl 0 2 0 n cap) (.sl 1 2 0 m cp)] (roHeap [⟨2, n, rowsP g⟩, ⟨2, m, rowsP h⟩]) 64 (fun y _ => y = .tup [strS (repT 6 0 c n g m h), iV (repE 6 0 c n g m h)]) := by
  have hn4 : n < 1099511627776 := by omega
  have hm4 : m < 1099511627776 := by omega
  have hN := rNK_le 6 0 hn hm'
  refine Eq.mpr (vcRep6 c n cap m cp g h _) ⟨⟨win_sp hn4 hg, win_sp hm4 hh⟩, ⟨pre_rows hn4 hg, pre_rows hm4 hh⟩, ?_⟩
  rw [win_gX g, win_gY g, win_gX h, win_gY h]
  have hf : rForm 6 0 c n g m h = sameRB 6 6 0 0 (uR6 c) c (sameBB (uR6 c).o c.o (eqSh (sbOf (uR6 c).o) (sbOf c.o) && Nat.beq n 0)) (Nat.beq m 0) := rfl
  unfold repT repE
  rw [hf, show rkOk 6 = true from rfl]
  generalize sameRB 6 6 0 0 (uR6 c) c (sameBB (uR6 c).o c.o (eqSh (sbOf (uR6 c).o) (sbOf c.o) && Nat.beq n 0)) (Nat.beq m 0) = s
  cases s with
  | false => exact sel_of (fun _ => rfl) fun e => by cases e
  | true =>
    refine sel_of (fun e => by cases e) fun _ => ⟨⟨fun _ => ⟨by omega, by omega⟩, ⟨⟨by omega, by omega⟩, ⟨by omega, by omega⟩⟩, hc, ⟨win_sp hn4 hg, hn⟩, win_sp hm4 hh, hm'⟩, fun c1 => ⟨bytesOk_bG _ _ _ (by omega), ?_⟩⟩
    show SV.tup [.v (.string (bif false || rBad 6 0 c n m h then emp else repBs 6 0 c n g m h)), .v (.int .i64 (bif false || rBad 6 0 c n m h then 3 else 0))] = _
    cases rBad 6 0 c n m h <;> rfl
theorem rep_7 {c : RV} {n cap m cp : Nat} {g h : Nat → Int × Int} (hc : rvOk c) (hn : n < 100) (hg : ∀ i, i < n → I64 (g i).1 ∧ I64 (g i).2) (hm' : m < 200) (hh : ∀ i, i < m → I64 (h i).1 ∧ I64 (h i).2) : vcFn Try.prog ΓRy noΛ Try.f32 [reS 7 0 c (.sl 0 2 0 n cap) (.sl 1 2 0 m cp)] (roHeap [⟨2, n, rowsP g⟩, ⟨2, m, rowsP h⟩]) 64 (fun y _ => y = .tup [strS (repT 7 0 c n g m h), iV (repE 7 0 c n g m h)]) := by
  have hn4 : n < 1099511627776 := by omega
  have hm4 : m < 1099511627776 := by omega
  have hN := rNK_le 7 0 hn hm'
  refine Eq.mpr (vcRep7 c n cap m cp g h _) ⟨⟨win_sp hn4 hg, win_sp hm4 hh⟩, ⟨pre_rows hn4 hg, pre_rows hn4 hg, pre_rows hm4 hh⟩, ?_⟩
  rw [win_gX g, win_gY g, win_gX h, win_gY h]
  rw [gi_rows0 g]
  have hf : rForm 7 0 c n g m h = sameRB 7 7 0 0 (uR7 c) c (sameBB (uR7 c).o c.o (sameS (sbOf (uR7 c).o) n g (sbOf c.o) n g)) (Nat.beq m 0) := rfl
  unfold repT repE
  rw [hf, show rkOk 7 = true from rfl]
  generalize sameRB 7 7 0 0 (uR7 c) c (sameBB (uR7 c).o c.o (sameS (sbOf (uR7 c).o) n g (sbOf c.o) n g)) (Nat.beq m 0) = s
  cases s with
  | false => exact sel_of (fun _ => rfl) fun e => by cases e
  | true =>
    refine sel_of (fun e => by cases e) fun _ => ⟨⟨fun _ => ⟨by omega, by omega⟩, ⟨⟨by omega, by omega⟩, ⟨by omega, by omega⟩⟩, hc, ⟨win_sp hn4 hg, hn⟩, win_sp hm4 hh, hm'⟩, fun c1 => ⟨bytesOk_bG _ _ _ (by omega), ?_⟩⟩
    show SV.tup [.v (.string (bif false || rBad 7 0 c n m h then emp else repBs 7 0 c n g m h)), .v (.int .i64 (bif false || rBad 7 0 c n m h then 3 else 0))] = _
    cases rBad 7 0 c n m h <;> rfl
theorem rep_8 {c : RV} {n cap m cp : Nat} {g h : Nat → Int × Int} (hc : rvOk c) (hn : n < 100) (hg : ∀ i, i < n → I64 (g i).1 ∧ I64 (g i).2) (hm' : m < 200) (hh : ∀ i, i < m → I64 (h i).1 ∧ I64 (h i).2) : vcFn Try.prog ΓRy noΛ Try.f32 [reS 8 0 c (.sl 0 2 0 n cap) (.sl 1 2 0 m cp)] (roHeap [⟨2, n, rowsP g⟩, ⟨2, m, rowsP h⟩]) 64 (fun y _ => y = .tup [strS (repT 8 0 c n g m h), iV (repE 8 0 c n g m h)]) := by
  have hn4 : n < 1099511627776 := by omega
  have hm4 : m < 1099511627776 := by omega
  have hN := rNK_le 8 0 hn hm'
  refine Eq.mpr (vcRep8 c n cap m cp g h _) ⟨⟨win_sp hn4 hg, win_sp hm4 hh⟩, ⟨pre_rows hm4 hh, pre_rows hn4 hg, pre_rows hm4 hh⟩, ?_⟩
  rw [win_gX g, win_gY g, win_gX h, win_gY h]
  rw [gi_rows0 h]
  have hf : rForm 8 0 c n g m h = sameRB 8 8 0 0 (uR8 c) c (sameBB (uR8 c).o c.o (eqSh (sbOf (uR8 c).o) (sbOf c.o) && Nat.beq n 0)) (sameP m h m h) := rfl
  unfold repT repE
  rw [hf, show rkOk 8 = true from rfl]
  generalize sameRB 8 8 0 0 (uR8 c) c (sameBB (uR8 c).o c.o (eqSh (sbOf (uR8 c).o) (sbOf c.o) && Nat.beq n 0)) (sameP m h m h) = s
  cases s with
  | false => exact sel_of (fun _ => rfl) fun e => by cases e
  | true =>
    refine sel_of (fun e => by cases e) fun _ => ⟨⟨fun _ => ⟨by omega, by omega⟩, ⟨⟨by omega, by omega⟩, ⟨by omega, by omega⟩⟩, hc, ⟨win_sp hn4 hg, hn⟩, win_sp hm4 hh, hm'⟩, fun c1 => ⟨bytesOk_bG _ _ _ (by omega), ?_⟩⟩
    show SV.tup [.v (.string (bif false || rBad 8 0 c n m h then emp else repBs 8 0 c n g m h)), .v (.int .i64 (bif false || rBad 8 0 c n m h then 3 else 0))] = _
    cases rBad 8 0 c n m h <;> rfl
theorem rep_9 {c : RV} {n cap m cp : Nat} {g h : Nat → Int × Int} (hc : rvOk c) (hn : n < 100) (hg : ∀ i, i < n → I64 (g i).1 ∧ I64 (g i).2) (hm' : m < 200) (hh : ∀ i, i < m → I64 (h i).1 ∧ I64 (h i).2) : vcFn Try.prog ΓRy noΛ Try.f32 [reS 9 0 c (.sl 0 2 0 n cap) (.sl 1 2 0 m cp)] (roHeap [⟨2, n, rowsP g⟩, ⟨2, m, rowsP h⟩]) 64 (fun y _ => y = .tup [strS (repT 9 0 c n g m h), iV (repE 9 0 c n g m h)]) := by
  have hn4 : n < 1099511627776 := by omega
  have hm4 : m < 1099511627776 := by omega
  have hN := rNK_le 9 0 hn hm'
  refine Eq.mpr (vcRep9 c n cap m cp g h _) ⟨⟨win_sp hn4 hg, win_sp hm4 hh⟩, ⟨pre_rows hn4 hg, pre_rows hm4 hh⟩, ?_⟩
  rw [win_gX g, win_gY g, win_gX h, win_gY h]
  have hf : rForm 9 0 c n g m h = sameRB 9 9 0 0 (uR9 c) c (sameBB (uR9 c).o c.o (eqSh (sbOf (uR9 c).o) (sbOf c.o) && Nat.beq n 0)) (Nat.beq m 0) := rfl
  unfold repT repE
  rw [hf, show rkOk 9 = true from rfl]
  generalize sameRB 9 9 0 0 (uR9 c) c (sameBB (uR9 c).o c.o (eqSh (sbOf (uR9 c).o) (sbOf c.o) && Nat.beq n 0)) (Nat.beq m 0) = s
  cases s with
  | false => exact sel_of (fun _ => rfl) fun e => by cases e
  | true =>
    refine sel_of (fun e => by cases e) fun _ => ⟨⟨fun _ => ⟨by omega, by omega⟩, ⟨⟨by omega, by omega⟩, ⟨by omega, by omega⟩⟩, hc, ⟨win_sp hn4 hg, hn⟩, win_sp hm4 hh, hm'⟩, fun c1 => ⟨bytesOk_bG _ _ _ (by omega), ?_⟩⟩
    show SV.tup [.v (.string (bif false || rBad 9 0 c n m h then emp else repBs 9 0 c n g m h)), .v (.int .i64 (bif false || rBad 9 0 c n m h then 3 else 0))] = _
    cases rBad 9 0 c n m h <;> rfl
theorem rep_10 {c : RV} {n cap m cp : Nat} {g h : Nat → Int × Int} (hc : rvOk c) (hn : n < 100) (hg : ∀ i, i < n → I64 (g i).1 ∧ I64 (g i).2) (hm' : m < 200) (hh : ∀ i, i < m → I64 (h i).1 ∧ I64 (h i).2) : vcFn Try.prog ΓRy noΛ Try.f32 [reS 10 0 c (.sl 0 2 0 n cap) (.sl 1 2 0 m cp)] (roHeap [⟨2, n, rowsP g⟩, ⟨2, m, rowsP h⟩]) 64 (fun y _ => y = .tup [strS (repT 10 0 c n g m h), iV (repE 10 0 c n g m h)]) := by
  have hn4 : n < 1099511627776 := by omega
  have hm4 : m < 1099511627776 := by omega
  have hN := rNK_le 10 0 hn hm'
  refine Eq.mpr (vcRep10 c n cap m cp g h _) ⟨⟨win_sp hn4 hg, win_sp hm4 hh⟩, ⟨pre_rows hn4 hg, pre_rows hm4 hh⟩, ?_⟩
  rw [win_gX g, win_gY g, win_gX h, win_gY h]
  have hf : rForm 10 0 c n g m h = sameRB 10 10 0 0 (uR10 c) c (sameBB (uR10 c).o c.o (eqSh (sbOf (uR10 c).o) (sbOf c.o) && Nat.beq n 0)) (Nat.beq m 0) := rfl
  unfold repT repE
  rw [hf, show rkOk 10 = true from rfl]
  generalize sameRB 10 10 0 0 (uR10 c) c (sameBB (uR10 c).o c.o (eqSh (sbOf (uR10 c).o) (sbOf c.o) && Nat.beq n 0)) (Nat.beq m 0) = s
  cases s with
  | false => exact sel_of (fun _ => rfl) fun e => by cases e
  | true =>
    refine sel_of (fun e => by cases e) fun _ => ⟨⟨fun _ => ⟨by omega, by omega⟩, ⟨⟨by omega, by omega⟩, ⟨by omega, by omega⟩⟩, hc, ⟨win_sp hn4 hg, hn⟩, win_sp hm4 hh, hm'⟩, fun c1 => ⟨bytesOk_bG _ _ _ (by omega), ?_⟩⟩
    show SV.tup [.v (.string (bif false || rBad 10 0 c n m h then emp else repBs 10 0 c n g m h)), .v (.int .i64 (bif false || rBad 10 0 c n m h then 3 else 0))] = _
    cases rBad 10 0 c n m h <;> rfl
theorem rep_P {k : Int} {a : Nat} {c : RV} {n cap m cp : Nat} {g h : Nat → Int × Int} (hc : rvOk c) (hn : n < 100) (hg : ∀ i, i < n → I64 (g i).1 ∧ I64 (g i).2) (hm' : m < 200) (hh : ∀ i, i < m → I64 (h i).1 ∧ I64 (h i).2) (hk : I64 k) (he : I64 (Int.ofNat (a + 1))) : vcFn Try.prog ΓRy noΛ Try.f32 [reS k (Int.ofNat (a + 1)) c (.sl 0 2 0 n cap) (.sl 1 2 0 m cp)] (roHeap [⟨2, n, rowsP g⟩, ⟨2, m, rowsP h⟩]) 64 (fun y _ => y = .tup [strS (repT k (Int.ofNat (a + 1)) c n g m h), iV (repE k (Int.ofNat (a + 1)) c n g m h)]) := by
  have hn4 : n < 1099511627776 := by omega
  have hm4 : m < 1099511627776 := by omega
  have hN := rNK_le k (Int.ofNat (a + 1)) hn hm'
  have he0 : (Int.ofNat (a + 1)) ≠ 0 := fun hz => by have := e_P a; rw [hz] at this; cases this
  refine Eq.mpr (vcRepP k a c n cap m cp g h _) (sel_of (fun e1 => ?_) fun e1 => sel_of (fun e2 => ?_) fun e2 => ⟨⟨win_sp hn4 hg, win_sp hm4 hh⟩, ⟨pre_rows hn4 hg, pre_rows hm4 hh⟩, ?_⟩)
  · have e1 := of_decide_eq_true e1
    unfold repT repE rkOk
    rw [decide_eq_false (show ¬ 0 ≤ k by omega)]
    rfl
  · have e2 := of_decide_eq_true e2
    unfold repT repE rkOk
    rw [decide_eq_false (show ¬ k ≤ 10 by omega), Bool.and_false]
    rfl
  have e1 := of_decide_eq_false e1
  have e2 := of_decide_eq_false e2
  have hko : rkOk k = true := by
    unfold rkOk
    rw [decide_eq_true (show 0 ≤ k by omega), decide_eq_true (show k ≤ 10 by omega)]
    rfl
  rw [win_gX g, win_gY g, win_gX h, win_gY h]
  have hf : rForm k (Int.ofNat (a + 1)) c n g m h = ((!(k == 0) || (c.id == 0 && !((Int.ofNat (a + 1)) == 14))) && sameRB k k (Int.ofNat (a + 1)) (Int.ofNat (a + 1)) (uRN (Int.ofNat (a + 1)) c) c (sameBB (uRN (Int.ofNat (a + 1)) c).o c.o (eqSh (sbOf (uRN (Int.ofNat (a + 1)) c).o) (sbOf c.o) && Nat.beq n 0)) (Nat.beq m 0)) := by
    unfold rForm uRK
    rw [e_P a]
    rfl
  unfold repT repE
  rw [hko, hf]
  generalize sameRB k k (Int.ofNat (a + 1)) (Int.ofNat (a + 1)) (uRN (Int.ofNat (a + 1)) c) c (sameBB (uRN (Int.ofNat (a + 1)) c).o c.o (eqSh (sbOf (uRN (Int.ofNat (a + 1)) c).o) (sbOf c.o) && Nat.beq n 0)) (Nat.beq m 0) = s
  have fin : ∀ f : Bool, f = true → SV.tup [.v (.string (bif false || rBad k (Int.ofNat (a + 1)) c n m h then emp else repBs k (Int.ofNat (a + 1)) c n g m h)), .v (.int .i64 (bif false || rBad k (Int.ofNat (a + 1)) c n m h then 3 else 0))] = .tup [strS (bif true && (f && !rBad k (Int.ofNat (a + 1)) c n m h) then repBs k (Int.ofNat (a + 1)) c n g m h else emp), iV (bif true then (bif f then (bif rBad k (Int.ofNat (a + 1)) c n m h then 3 else 0) else 4) else 8)] := fun f hf => by
    subst hf
    cases rBad k (Int.ofNat (a + 1)) c n m h <;> rfl
  cases s with
  | false => exact sel_of (fun _ => by rw [Bool.and_false]; rfl) fun e => by cases e
  | true =>
    rw [Bool.and_true]
    refine sel_of (fun e => by cases e) fun _ => sel_of (fun h0 => ?_) fun h0 => ?_
    · rw [h0]
      refine sel_of (fun h1 => ?_) fun h1 => ?_
      · have h1 : (c.id == 0) = false := by simpa using h1
        rw [h1]
        rfl
      · have h1 : (c.id == 0) = true := by simpa using h1
        rw [h1]
        refine sel_of (fun h2 => ?_) fun h2 => ?_
        · rw [h2]
          rfl
        · rw [h2]
          refine ⟨⟨fun h0 => absurd h0 he0, ⟨hk, he⟩, hc, ⟨win_sp hn4 hg, hn⟩, win_sp hm4 hh, hm'⟩, fun c1 => ⟨bytesOk_bG _ _ _ (by omega), ?_⟩⟩
          exact fin _ rfl
    · rw [h0]
      refine ⟨⟨fun h0 => absurd h0 he0, ⟨hk, he⟩, hc, ⟨win_sp hn4 hg, hn⟩, win_sp hm4 hh, hm'⟩, fun c1 => ⟨bytesOk_bG _ _ _ (by omega), ?_⟩⟩
      exact fin _ rfl
theorem rep_M {k : Int} {a : Nat} {c : RV} {n cap m cp : Nat} {g h : Nat → Int × Int} (hc : rvOk c) (hn : n < 100) (hg : ∀ i, i < n → I64 (g i).1 ∧ I64 (g i).2) (hm' : m < 200) (hh : ∀ i, i < m → I64 (h i).1 ∧ I64 (h i).2) (hk : I64 k) (he : I64 (Int.negSucc a)) : vcFn Try.prog ΓRy noΛ Try.f32 [reS k (Int.negSucc a) c (.sl 0 2 0 n cap) (.sl 1 2 0 m cp)] (roHeap [⟨2, n, rowsP g⟩, ⟨2, m, rowsP h⟩]) 64 (fun y _ => y = .tup [strS (repT k (Int.negSucc a) c n g m h), iV (repE k (Int.negSucc a) c n g m h)]) := by
  have hn4 : n < 1099511627776 := by omega
  have hm4 : m < 1099511627776 := by omega
  have hN := rNK_le k (Int.negSucc a) hn hm'
  have he0 : (Int.negSucc a) ≠ 0 := fun hz => by have := e_M a; rw [hz] at this; cases this
  refine Eq.mpr (vcRepM k a c n cap m cp g h _) (sel_of (fun e1 => ?_) fun e1 => sel_of (fun e2 => ?_) fun e2 => ⟨⟨win_sp hn4 hg, win_sp hm4 hh⟩, ⟨pre_rows hn4 hg, pre_rows hm4 hh⟩, ?_⟩)
  · have e1 := of_decide_eq_true e1
    unfold repT repE rkOk
    rw [decide_eq_false (show ¬ 0 ≤ k by omega)]
    rfl
  · have e2 := of_decide_eq_true e2
    unfold repT repE rkOk
    rw [decide_eq_false (show ¬ k ≤ 10 by omega), Bool.and_false]
    rfl
  have e1 := of_decide_eq_false e1
  have e2 := of_decide_eq_false e2
  have hko : rkOk k = true := by
    unfold rkOk
    rw [decide_eq_true (show 0 ≤ k by omega), decide_eq_true (show k ≤ 10 by omega)]
    rfl
  rw [win_gX g, win_gY g, win_gX h, win_gY h]
  have hf : rForm k (Int.negSucc a) c n g m h = ((!(k == 0) || (c.id == 0 && !((Int.negSucc a) == 14))) && sameRB k k (Int.negSucc a) (Int.negSucc a) (uRN (Int.negSucc a) c) c (sameBB (uRN (Int.negSucc a) c).o c.o (eqSh (sbOf (uRN (Int.negSucc a) c).o) (sbOf c.o) && Nat.beq n 0)) (Nat.beq m 0)) := by
    unfold rForm uRK
    rw [e_M a]
    rfl
  unfold repT repE
  rw [hko, hf]
  generalize sameRB k k (Int.negSucc a) (Int.negSucc a) (uRN (Int.negSucc a) c) c (sameBB (uRN (Int.negSucc a) c).o c.o (eqSh (sbOf (uRN (Int.negSucc a) c).o) (sbOf c.o) && Nat.beq n 0)) (Nat.beq m 0) = s
  have fin : ∀ f : Bool, f = true → SV.tup [.v (.string (bif false || rBad k (Int.negSucc a) c n m h then emp else repBs k (Int.negSucc a) c n g m h)), .v (.int .i64 (bif false || rBad k (Int.negSucc a) c n m h then 3 else 0))] = .tup [strS (bif true && (f && !rBad k (Int.negSucc a) c n m h) then repBs k (Int.negSucc a) c n g m h else emp), iV (bif true then (bif f then (bif rBad k (Int.negSucc a) c n m h then 3 else 0) else 4) else 8)] := fun f hf => by
    subst hf
    cases rBad k (Int.negSucc a) c n m h <;> rfl
  cases s with
  | false => exact sel_of (fun _ => by rw [Bool.and_false]; rfl) fun e => by cases e
  | true =>
    rw [Bool.and_true]
    refine sel_of (fun e => by cases e) fun _ => sel_of (fun h0 => ?_) fun h0 => ?_
    · rw [h0]
      refine sel_of (fun h1 => ?_) fun h1 => ?_
      · have h1 : (c.id == 0) = false := by simpa using h1
        rw [h1]
        rfl
      · have h1 : (c.id == 0) = true := by simpa using h1
        rw [h1]
        rw [e_M14 a]
        refine ⟨⟨fun h0 => absurd h0 he0, ⟨hk, he⟩, hc, ⟨win_sp hn4 hg, hn⟩, win_sp hm4 hh, hm'⟩, fun c1 => ⟨bytesOk_bG _ _ _ (by omega), ?_⟩⟩
        exact fin _ rfl
    · rw [h0]
      refine ⟨⟨fun h0 => absurd h0 he0, ⟨hk, he⟩, hc, ⟨win_sp hn4 hg, hn⟩, win_sp hm4 hh, hm'⟩, fun c1 => ⟨bytesOk_bG _ _ _ (by omega), ?_⟩⟩
      exact fin _ rfl
theorem rep_O {k e : Int} {c : RV} {n cap m cp : Nat} {g h : Nat → Int × Int} (hk : ¬ (0 ≤ k ∧ k ≤ 10)) : vcFn Try.prog noCtrs noΛ Try.f32 [reS k e c (.sl 0 2 0 n cap) (.sl 1 2 0 m cp)] (roHeap [⟨2, n, rowsP g⟩, ⟨2, m, rowsP h⟩]) 64 (fun y _ => y = .tup [strS (repT k e c n g m h), iV (repE k e c n g m h)]) := by
  refine Eq.mpr (vcRepO k e c n cap m cp g h _) (sel_of (fun e1 => ?_) fun e1 => sel_of (fun e2 => ?_) fun e2 => ?_)
  · have e1 := of_decide_eq_true e1
    unfold repT repE rkOk
    rw [decide_eq_false (show ¬ 0 ≤ k by omega)]
    rfl
  · have e2 := of_decide_eq_true e2
    unfold repT repE rkOk
    rw [decide_eq_false (show ¬ k ≤ 10 by omega), Bool.and_false]
    rfl
  · have e1 := of_decide_eq_false e1
    have e2 := of_decide_eq_false e2
    omega
def sRepO : List SV → List Ro → Option (Option Prop × SV)
  | [.agg l], [⟨2, n', r1⟩, ⟨2, m', r2⟩] => match cellsOfR l with
    | some (k, e, c, .sl 0 2 0 n _, .sl 1 2 0 m _) => bif rkOk k then none else some (some (repPre k e c n n' m m' r1 r2), .tup [strS (repT k e c n (fun i => gi (r1 i)) m fun i => gi (r2 i)), iV (repE k e c n (fun i => gi (r1 i)) m fun i => gi (r2 i))])
    | _ => none
  | _, _ => none
def sRepI : List SV → List Ro → Option (Option Prop × SV)
  | [.agg l], [⟨2, n', r1⟩, ⟨2, m', r2⟩] => match cellsOfR l with
    | some (k, e, c, .sl 0 2 0 n _, .sl 1 2 0 m _) => bif rkOk k then some (some (repPre k e c n n' m m' r1 r2), .tup [strS (repT k e c n (fun i => gi (r1 i)) m fun i => gi (r2 i)), iV (repE k e c n (fun i => gi (r1 i)) m fun i => gi (r2 i))]) else none
    | _ => none
  | _, _ => none
theorem bif_no {b : Bool} {α : Type _} {x : Option α} {y : α} (h : (bif b then none else x) = some y) : b = false ∧ x = some y := by
  cases b with
  | true => cases h
  | false => exact ⟨rfl, h⟩
theorem rk_in {k : Int} (h : rkOk k = true) : 0 ≤ k ∧ k ≤ 10 := by
  unfold rkOk at h
  rw [Bool.and_eq_true] at h
  exact ⟨of_decide_eq_true h.1, of_decide_eq_true h.2⟩
theorem rk_out {k : Int} (h : rkOk k = false) : ¬ (0 ≤ k ∧ k ≤ 10) := fun hk => by
  unfold rkOk at h
  rw [decide_eq_true hk.1, decide_eq_true hk.2] at h
  cases h
theorem RepI_spec : RoSpec Try.prog 32 sRepI := ro_spec hm ΓRy_ok Try.func32 (Λ := fun _ _ => noΛ) fun args bs p x hs hp => by
  unfold sRepI at hs
  split at hs <;> try (cases hs; done)
  rename_i l n' r1 m' r2
  split at hs <;> try (cases hs; done)
  rename_i k e c n cap m cp hl
  obtain ⟨hko, hs⟩ := bif_some2' hs
  have hs := Option.some.inj hs
  obtain ⟨rfl, rfl⟩ := Prod.mk.inj hs
  obtain ⟨⟨⟨o1, e1, l1⟩, o2, e2, l2⟩, ⟨hc, ik, ie⟩, hn, hm'⟩ := hp _ rfl
  subst e1 e2
  have o1 := okAll_rows.1 o1
  have o2 := okAll_rows.1 o2
  refine ⟨rfl, [⟨2, _, rowsP fun i => gi (r1 i)⟩, ⟨2, _, rowsP fun i => gi (r2 i)⟩], ⟨⟨rfl, rfl, fun i hi => (isPI_row (o1 i hi)).1⟩, ⟨rfl, rfl, fun i hi => (isPI_row (o2 i hi)).1⟩, trivial⟩, ?_⟩
  rw [reps_eq hl]
  have hg := fun i hi => (isPI_row (o1 i hi)).2
  have hh := fun i hi => (isPI_row (o2 i hi)).2
  have hk := rk_in hko
  cases e with
  | ofNat e =>
    cases e with
    | zero =>
      have hk' : k = 0 ∨ k = 1 ∨ k = 2 ∨ k = 3 ∨ k = 4 ∨ k = 5 ∨ k = 6 ∨ k = 7 ∨ k = 8 ∨ k = 9 ∨ k = 10 := by omega
      rcases hk' with x | x | x | x | x | x | x | x | x | x | x <;> subst x
      · exact rep_0 hc hn hg hm' hh
      · exact rep_1 hc hn hg hm' hh
      · exact rep_2 hc hn hg hm' hh
      · exact rep_3 hc hn hg hm' hh
      · exact rep_4 hc hn hg hm' hh
      · exact rep_5 hc hn hg hm' hh
      · exact rep_6 hc hn hg hm' hh
      · exact rep_7 hc hn hg hm' hh
      · exact rep_8 hc hn hg hm' hh
      · exact rep_9 hc hn hg hm' hh
      · exact rep_10 hc hn hg hm' hh
    | succ a => exact rep_P hc hn hg hm' hh ik ie
  | negSucc a => exact rep_M hc hn hg hm' hh ik ie
theorem RepO_spec : RoSpec Try.prog 32 sRepO := ro_spec hm noCtrs_ok Try.func32 (Λ := fun _ _ => noΛ) fun args bs p x hs hp => by
  unfold sRepO at hs
  split at hs <;> try (cases hs; done)
  rename_i l n' r1 m' r2
  split at hs <;> try (cases hs; done)
  rename_i k e c n cap m cp hl
  obtain ⟨hko, hs⟩ := bif_no hs
  have hs := Option.some.inj hs
  obtain ⟨rfl, rfl⟩ := Prod.mk.inj hs
  obtain ⟨⟨⟨o1, e1, l1⟩, o2, e2, l2⟩, ⟨hc, ik, ie⟩, hn, hm'⟩ := hp _ rfl
  subst e1 e2
  have o1 := okAll_rows.1 o1
  have o2 := okAll_rows.1 o2
  refine ⟨rfl, [⟨2, _, rowsP fun i => gi (r1 i)⟩, ⟨2, _, rowsP fun i => gi (r2 i)⟩], ⟨⟨rfl, rfl, fun i hi => (isPI_row (o1 i hi)).1⟩, ⟨rfl, rfl, fun i hi => (isPI_row (o2 i hi)).1⟩, trivial⟩, ?_⟩
  rw [reps_eq hl]
  exact rep_O (rk_out hko)
theorem RepG_spec : RoSpec Try.prog 32 sRepG := ro_split' RepI_spec RepO_spec fun args rs p h => by
  unfold sRepG at h
  split at h <;> try (cases h; done)
  rename_i l n' r1 m' r2
  split at h <;> try (cases h; done)
  rename_i k e c n cap m cp hl
  cases hk : rkOk k with
  | true =>
    left
    unfold sRepI
    simp only [hl, hk, cond_true]
    exact h
  | false =>
    right
    unfold sRepO
    simp only [hl, hk, cond_false]
    exact h
theorem ΓRk_ok : ∀ f g, ΓRk f = some g → g.ok Try.prog f := addCtr_ok noCtrs_ok (ro_ok Try.func32 (by kernel_rfl) (by kernel_rfl) RepG_spec)
theorem CheckR_spec : RoSpec Try.prog 34 sCheckR := ro_spec hm ΓRk_ok Try.func34 (Λ := fun _ _ => noΛ) fun args bs p x hs hp => by
  unfold sCheckR at hs
  split at hs <;> try (cases hs; done)
  rename_i l n' r1 m' r2
  split at hs <;> try (cases hs; done)
  rename_i k e c n cap m cp hl
  have hs := Option.some.inj hs
  obtain ⟨rfl, rfl⟩ := Prod.mk.inj hs
  obtain ⟨⟨⟨o1, e1, l1⟩, o2, e2, l2⟩, ⟨hc, ik, ie⟩, hn, hm'⟩ := hp _ rfl
  subst e1 e2
  have o1 := okAll_rows.1 o1
  have o2 := okAll_rows.1 o2
  refine ⟨rfl, [⟨2, _, rowsP fun i => gi (r1 i)⟩, ⟨2, _, rowsP fun i => gi (r2 i)⟩], ⟨⟨rfl, rfl, fun i hi => (isPI_row (o1 i hi)).1⟩, ⟨rfl, rfl, fun i hi => (isPI_row (o2 i hi)).1⟩, trivial⟩, ?_⟩
  rw [reps_eq hl, vcCheckR, gi_rows0 fun i => gi (r1 i), gi_rows0 fun i => gi (r2 i)]
  exact ⟨⟨⟨pre_rows l1 fun i hi => (isPI_row (o1 i hi)).2, pre_rows l2 fun i hi => (isPI_row (o2 i hi)).2⟩, ⟨hc, ik, ie⟩, hn, hm'⟩, rfl⟩
end Go.Proofs.Ytjdldadmaaeimaa
end

section
set_option maxRecDepth 100000
set_option linter.unusedSimpArgs false
set_option linter.unusedVariables false
namespace Go.Proofs.Ytjdldadmaaeimaa
open Go.SE Go.RowKit
def stp (u v : Nat → Int) : Nat → Nat
  | 0 => 0
  | m + 1 => bif anyH u v m then stp u v m else m + 1
def rBoS (s : ByteArray) (b : Bool) (o : BV) (n : Nat) (x y : Nat → Int) : ByteArray := rShS s (b || shBad o.sk n) o.sk o.sr o.sw o.sh n x y ++ strOfNums (boT o)
def sRBody (args : List SV) (bs : List Blk) : Option Eff := match args, bs with
  | [.vp 0 0, .agg l], [B, S] => match cellsOfB l, B.row 0 with
    | some (o, .sl 1 2 0 n _), [.v (.string s), .v (.bool b0)] => bif rOk B && okB S then some (.det (some ((bvOk o ∧ spPre n S ∧ n < 100) ∧ s.size ≤ 700000000)) (.tup []) [(0, rB (rBoS s b0 o n (gX S) (gY S)) (b0 || boBad o n))]) else none
    | _, _ => none
  | _, _ => none
def ΓRb : Ctrs := addCtr (addCtr (addCtr ΓE3 109 (hpCtr true sRShape)) 110 (hpCtr true (sRApp 800000000 fRPose))) 107 (hpCtr true (sRApp M0 fRSmall))
theorem vcRBody (q : Option Prop) (s : ByteArray) (b0 : Bool) (o : BV) (e n m cap xt : Nat) (x y : Nat→Int) (wh : Bool) : (vcFn Try.prog ΓRb noΛ Try.f119 [.vp 0 0,boS o (.sl 1 2 0 n cap)] (heapOf [rB s b0,ptB e m x y xt wh]) 64 (fun y' h' => FinE [rB s b0,ptB e m x y xt wh] (.det q (.tup []) [(0,rB (rBoS s b0 o n x y) (b0||boBad o n))]) y' h')) = (((((I64 (BV.sk o))∧((I64 (BV.sr o))∧((I64 (BV.sw o))∧(I64 (BV.sh o)))))∧((spPre n (winBlk (ptB e m x y xt wh) 2 0 n))∧((n : Nat) < 100)))∧(((ByteArray.size s) : Nat) ≤ 800000000))∧((((I64 (BV.p0v o))∧((I64 (BV.p1v o))∧((I64 (BV.p2v o))∧(I64 (BV.p3v o)))))∧(((ByteArray.size (rShS s (b0||shBad (BV.sk o) n) (BV.sk o) (BV.sr o) (BV.sw o) (BV.sh o) n (gX (winBlk (ptB e m x y xt wh) 2 0 n)) (gY (winBlk (ptB e m x y xt wh) 2 0 n)))) : Nat) ≤ 800000000))∧((((I64 (BV.v0v o))∧(I64 (BV.v1v o)))∧(((ByteArray.size (rShS s (b0||shBad (BV.sk o) n) (BV.sk o) (BV.sr o) (BV.sw o) (BV.sh o) n (gX (winBlk (ptB e m x y xt wh) 2 0 n)) (gY (winBlk (ptB e m x y xt wh) 2 0 n))++strOfNums (vecL (BV.p0v o) (BV.p0f o) (BV.p1v o) (BV.p1f o)++(numL (BV.p2v o) (BV.p2f o)++numL (BV.p3v o) (BV.p3f o))))) : Nat) ≤ 900000000))∧(((I64 (BV.w0v o))∧(((ByteArray.size (rShS s (b0||shBad (BV.sk o) n) (BV.sk o) (BV.sr o) (BV.sw o) (BV.sh o) n (gX (winBlk (ptB e m x y xt wh) 2 0 n)) (gY (winBlk (ptB e m x y xt wh) 2 0 n))++strOfNums (vecL (BV.p0v o) (BV.p0f o) (BV.p1v o) (BV.p1f o)++(numL (BV.p2v o) (BV.p2f o)++numL (BV.p3v o) (BV.p3f o)))++strOfNums (vecL (BV.v0v o) (BV.v0f o) (BV.v1v o) (BV.v1f o)))) : Nat) ≤ 1000000000))∧(((I64 (BV.m0v o))∧(((ByteArray.size (rShS s (b0||shBad (BV.sk o) n) (BV.sk o) (BV.sr o) (BV.sw o) (BV.sh o) n (gX (winBlk (ptB e m x y xt wh) 2 0 n)) (gY (winBlk (ptB e m x y xt wh) 2 0 n))++strOfNums (vecL (BV.p0v o) (BV.p0f o) (BV.p1v o) (BV.p1f o)++(numL (BV.p2v o) (BV.p2f o)++numL (BV.p3v o) (BV.p3f o)))++strOfNums (vecL (BV.v0v o) (BV.v0f o) (BV.v1v o) (BV.v1f o))++strOfNums (numL (BV.w0v o) (BV.w0f o)))) : Nat) ≤ 1000000000))∧(((I64 (BV.m1v o))∧(((ByteArray.size (rShS s (b0||shBad (BV.sk o) n) (BV.sk o) (BV.sr o) (BV.sw o) (BV.sh o) n (gX (winBlk (ptB e m x y xt wh) 2 0 n)) (gY (winBlk (ptB e m x y xt wh) 2 0 n))++strOfNums (vecL (BV.p0v o) (BV.p0f o) (BV.p1v o) (BV.p1f o)++(numL (BV.p2v o) (BV.p2f o)++numL (BV.p3v o) (BV.p3f o)))++strOfNums (vecL (BV.v0v o) (BV.v0f o) (BV.v1v o) (BV.v1f o))++strOfNums (numL (BV.w0v o) (BV.w0f o))++strOfNums (numL (BV.m0v o) (BV.m0f o)))) : Nat) ≤ 1000000000))∧(((I64 (BV.st o))∧(((ByteArray.size (rShS s (b0||shBad (BV.sk o) n) (BV.sk o) (BV.sr o) (BV.sw o) (BV.sh o) n (gX (winBlk (ptB e m x y xt wh) 2 0 n)) (gY (winBlk (ptB e m x y xt wh) 2 0 n))++strOfNums (vecL (BV.p0v o) (BV.p0f o) (BV.p1v o) (BV.p1f o)++(numL (BV.p2v o) (BV.p2f o)++numL (BV.p3v o) (BV.p3f o)))++strOfNums (vecL (BV.v0v o) (BV.v0f o) (BV.v1v o) (BV.v1f o))++strOfNums (numL (BV.w0v o) (BV.w0f o))++strOfNums (numL (BV.m0v o) (BV.m0f o))++strOfNums (numL (BV.m1v o) (BV.m1f o)))) : Nat) ≤ M0))∧(sel (BV.asl o) (sel (BV.flt o) ((((I64 3)∧(((0 : Int) ≤ 1)∧((1 : Int) ≤ 8)))∧(((ByteArray.size (rShS s (b0||shBad (BV.sk o) n) (BV.sk o) (BV.sr o) (BV.sw o) (BV.sh o) n (gX (winBlk (ptB e m x y xt wh) 2 0 n)) (gY (winBlk (ptB e m x y xt wh) 2 0 n))++strOfNums (vecL (BV.p0v o) (BV.p0f o) (BV.p1v o) (BV.p1f o)++(numL (BV.p2v o) (BV.p2f o)++numL (BV.p3v o) (BV.p3f o)))++strOfNums (vecL (BV.v0v o) (BV.v0f o) (BV.v1v o) (BV.v1f o))++strOfNums (numL (BV.w0v o) (BV.w0f o))++strOfNums (numL (BV.m0v o) (BV.m0f o))++strOfNums (numL (BV.m1v o) (BV.m1f o))++strOfNums (c4 (BV.st o)))) : Nat) ≤ M0))∧(((I64 (BV.bv o))∧(((ByteArray.size (rShS s (b0||shBad (BV.sk o) n) (BV.sk o) (BV.sr o) (BV.sw o) (BV.sh o) n (gX (winBlk (ptB e m x y xt wh) 2 0 n)) (gY (winBlk (ptB e m x y xt wh) 2 0 n))++strOfNums (vecL (BV.p0v o) (BV.p0f o) (BV.p1v o) (BV.p1f o)++(numL (BV.p2v o) (BV.p2f o)++numL (BV.p3v o) (BV.p3f o)))++strOfNums (vecL (BV.v0v o) (BV.v0f o) (BV.v1v o) (BV.v1f o))++strOfNums (numL (BV.w0v o) (BV.w0f o))++strOfNums (numL (BV.m0v o) (BV.m0f o))++strOfNums (numL (BV.m1v o) (BV.m1f o))++strOfNums (c4 (BV.st o))++strOfNums (be 3 1))) : Nat) ≤ M0))∧(True∧(((1 : Nat) = 1)∧(((1 : Nat) ≤ 1)∧(∀ i : Nat,(((i : Nat) < 1)→([(SV.v (.string (rShS s (b0||shBad (BV.sk o) n) (BV.sk o) (BV.sr o) (BV.sw o) (BV.sh o) n (gX (winBlk (ptB e m x y xt wh) 2 0 n)) (gY (winBlk (ptB e m x y xt wh) 2 0 n))++strOfNums (vecL (BV.p0v o) (BV.p0f o) (BV.p1v o) (BV.p1f o)++(numL (BV.p2v o) (BV.p2f o)++numL (BV.p3v o) (BV.p3f o)))++strOfNums (vecL (BV.v0v o) (BV.v0f o) (BV.v1v o) (BV.v1f o))++strOfNums (numL (BV.w0v o) (BV.w0f o))++strOfNums (numL (BV.m0v o) (BV.m0f o))++strOfNums (numL (BV.m1v o) (BV.m1f o))++strOfNums (c4 (BV.st o))++strOfNums (be 3 1)++strOfNums (i8 (BV.bv o))))),(SV.v (.bool (b0||shBad (BV.sk o) n||(isMin (BV.p0v o)||isMin (BV.p1v o)||(isMin (BV.p2v o)||isMin (BV.p3v o)))||(isMin (BV.v0v o)||isMin (BV.v1v o))||isMin (BV.w0v o)||isMin (BV.m0v o)||isMin (BV.m1v o)||notIn (BV.st o) 2147483647||false||notIn (BV.bv o) 1099511627776)))] = [(SV.v (.string (rBoS s b0 o n x y))),(SV.v (.bool (b0||boBad o n)))])))))))) ((((I64 1)∧(((0 : Int) ≤ 1)∧((1 : Int) ≤ 8)))∧(((ByteArray.size (rShS s (b0||shBad (BV.sk o) n) (BV.sk o) (BV.sr o) (BV.sw o) (BV.sh o) n (gX (winBlk (ptB e m x y xt wh) 2 0 n)) (gY (winBlk (ptB e m x y xt wh) 2 0 n))++strOfNums (vecL (BV.p0v o) (BV.p0f o) (BV.p1v o) (BV.p1f o)++(numL (BV.p2v o) (BV.p2f o)++numL (BV.p3v o) (BV.p3f o)))++strOfNums (vecL (BV.v0v o) (BV.v0f o) (BV.v1v o) (BV.v1f o))++strOfNums (numL (BV.w0v o) (BV.w0f o))++strOfNums (numL (BV.m0v o) (BV.m0f o))++strOfNums (numL (BV.m1v o) (BV.m1f o))++strOfNums (c4 (BV.st o)))) : Nat) ≤ M0))∧(((I64 (BV.bv o))∧(((ByteArray.size (rShS s (b0||shBad (BV.sk o) n) (BV.sk o) (BV.sr o) (BV.sw o) (BV.sh o) n (gX (winBlk (ptB e m x y xt wh) 2 0 n)) (gY (winBlk (ptB e m x y xt wh) 2 0 n))++strOfNums (vecL (BV.p0v o) (BV.p0f o) (BV.p1v o) (BV.p1f o)++(numL (BV.p2v o) (BV.p2f o)++numL (BV.p3v o) (BV.p3f o)))++strOfNums (vecL (BV.v0v o) (BV.v0f o) (BV.v1v o) (BV.v1f o))++strOfNums (numL (BV.w0v o) (BV.w0f o))++strOfNums (numL (BV.m0v o) (BV.m0f o))++strOfNums (numL (BV.m1v o) (BV.m1f o))++strOfNums (c4 (BV.st o))++strOfNums (be 1 1))) : Nat) ≤ M0))∧(True∧(((1 : Nat) = 1)∧(((1 : Nat) ≤ 1)∧(∀ i : Nat,(((i : Nat) < 1)→([(SV.v (.string (rShS s (b0||shBad (BV.sk o) n) (BV.sk o) (BV.sr o) (BV.sw o) (BV.sh o) n (gX (winBlk (ptB e m x y xt wh) 2 0 n)) (gY (winBlk (ptB e m x y xt wh) 2 0 n))++strOfNums (vecL (BV.p0v o) (BV.p0f o) (BV.p1v o) (BV.p1f o)++(numL (BV.p2v o) (BV.p2f o)++numL (BV.p3v o) (BV.p3f o)))++strOfNums (vecL (BV.v0v o) (BV.v0f o) (BV.v1v o) (BV.v1f o))++strOfNums (numL (BV.w0v o) (BV.w0f o))++strOfNums (numL (BV.m0v o) (BV.m0f o))++strOfNums (numL (BV.m1v o) (BV.m1f o))++strOfNums (c4 (BV.st o))++strOfNums (be 1 1)++strOfNums (i8 (BV.bv o))))),(SV.v (.bool (b0||shBad (BV.sk o) n||(isMin (BV.p0v o)||isMin (BV.p1v o)||(isMin (BV.p2v o)||isMin (BV.p3v o)))||(isMin (BV.v0v o)||isMin (BV.v1v o))||isMin (BV.w0v o)||isMin (BV.m0v o)||isMin (BV.m1v o)||notIn (BV.st o) 2147483647||false||notIn (BV.bv o) 1099511627776)))] = [(SV.v (.string (rBoS s b0 o n x y))),(SV.v (.bool (b0||boBad o n)))]))))))))) (sel (BV.flt o) ((((I64 2)∧(((0 : Int) ≤ 1)∧((1 : Int) ≤ 8)))∧(((ByteArray.size (rShS s (b0||shBad (BV.sk o) n) (BV.sk o) (BV.sr o) (BV.sw o) (BV.sh o) n (gX (winBlk (ptB e m x y xt wh) 2 0 n)) (gY (winBlk (ptB e m x y xt wh) 2 0 n))++strOfNums (vecL (BV.p0v o) (BV.p0f o) (BV.p1v o) (BV.p1f o)++(numL (BV.p2v o) (BV.p2f o)++numL (BV.p3v o) (BV.p3f o)))++strOfNums (vecL (BV.v0v o) (BV.v0f o) (BV.v1v o) (BV.v1f o))++strOfNums (numL (BV.w0v o) (BV.w0f o))++strOfNums (numL (BV.m0v o) (BV.m0f o))++strOfNums (numL (BV.m1v o) (BV.m1f o))++strOfNums (c4 (BV.st o)))) : Nat) ≤ M0))∧(((I64 (BV.bv o))∧(((ByteArray.size (rShS s (b0||shBad (BV.sk o) n) (BV.sk o) (BV.sr o) (BV.sw o) (BV.sh o) n (gX (winBlk (ptB e m x y xt wh) 2 0 n)) (gY (winBlk (ptB e m x y xt wh) 2 0 n))++strOfNums (vecL (BV.p0v o) (BV.p0f o) (BV.p1v o) (BV.p1f o)++(numL (BV.p2v o) (BV.p2f o)++numL (BV.p3v o) (BV.p3f o)))++strOfNums (vecL (BV.v0v o) (BV.v0f o) (BV.v1v o) (BV.v1f o))++strOfNums (numL (BV.w0v o) (BV.w0f o))++strOfNums (numL (BV.m0v o) (BV.m0f o))++strOfNums (numL (BV.m1v o) (BV.m1f o))++strOfNums (c4 (BV.st o))++strOfNums (be 2 1))) : Nat) ≤ M0))∧(True∧(((1 : Nat) = 1)∧(((1 : Nat) ≤ 1)∧(∀ i : Nat,(((i : Nat) < 1)→([(SV.v (.string (rShS s (b0||shBad (BV.sk o) n) (BV.sk o) (BV.sr o) (BV.sw o) (BV.sh o) n (gX (winBlk (ptB e m x y xt wh) 2 0 n)) (gY (winBlk (ptB e m x y xt wh) 2 0 n))++strOfNums (vecL (BV.p0v o) (BV.p0f o) (BV.p1v o) (BV.p1f o)++(numL (BV.p2v o) (BV.p2f o)++numL (BV.p3v o) (BV.p3f o)))++strOfNums (vecL (BV.v0v o) (BV.v0f o) (BV.v1v o) (BV.v1f o))++strOfNums (numL (BV.w0v o) (BV.w0f o))++strOfNums (numL (BV.m0v o) (BV.m0f o))++strOfNums (numL (BV.m1v o) (BV.m1f o))++strOfNums (c4 (BV.st o))++strOfNums (be 2 1)++strOfNums (i8 (BV.bv o))))),(SV.v (.bool (b0||shBad (BV.sk o) n||(isMin (BV.p0v o)||isMin (BV.p1v o)||(isMin (BV.p2v o)||isMin (BV.p3v o)))||(isMin (BV.v0v o)||isMin (BV.v1v o))||isMin (BV.w0v o)||isMin (BV.m0v o)||isMin (BV.m1v o)||notIn (BV.st o) 2147483647||false||notIn (BV.bv o) 1099511627776)))] = [(SV.v (.string (rBoS s b0 o n x y))),(SV.v (.bool (b0||boBad o n)))])))))))) ((((I64 0)∧(((0 : Int) ≤ 1)∧((1 : Int) ≤ 8)))∧(((ByteArray.size (rShS s (b0||shBad (BV.sk o) n) (BV.sk o) (BV.sr o) (BV.sw o) (BV.sh o) n (gX (winBlk (ptB e m x y xt wh) 2 0 n)) (gY (winBlk (ptB e m x y xt wh) 2 0 n))++strOfNums (vecL (BV.p0v o) (BV.p0f o) (BV.p1v o) (BV.p1f o)++(numL (BV.p2v o) (BV.p2f o)++numL (BV.p3v o) (BV.p3f o)))++strOfNums (vecL (BV.v0v o) (BV.v0f o) (BV.v1v o) (BV.v1f o))++strOfNums (numL (BV.w0v o) (BV.w0f o))++strOfNums (numL (BV.m0v o) (BV.m0f o))++strOfNums (numL (BV.m1v o) (BV.m1f o))++strOfNums (c4 (BV.st o)))) : Nat) ≤ M0))∧(((I64 (BV.bv o))∧(((ByteArray.size (rShS s (b0||shBad (BV.sk o) n) (BV.sk o) (BV.sr o) (BV.sw o) (BV.sh o) n (gX (winBlk (ptB e m x y xt wh) 2 0 n)) (gY (winBlk (ptB e m x y xt wh) 2 0 n))++strOfNums (vecL (BV.p0v o) (BV.p0f o) (BV.p1v o) (BV.p1f o)++(numL (BV.p2v o) (BV.p2f o)++numL (BV.p3v o) (BV.p3f o)))++strOfNums (vecL (BV.v0v o) (BV.v0f o) (BV.v1v o) (BV.v1f o))++strOfNums (numL (BV.w0v o) (BV.w0f o))++strOfNums (numL (BV.m0v o) (BV.m0f o))++strOfNums (numL (BV.m1v o) (BV.m1f o))++strOfNums (c4 (BV.st o))++strOfNums (be 0 1))) : Nat) ≤ M0))∧(True∧(((1 : Nat) = 1)∧(((1 : Nat) ≤ 1)∧(∀ i : Nat,(((i : Nat) < 1)→([(SV.v (.string (rShS s (b0||shBad (BV.sk o) n) (BV.sk o) (BV.sr o) (BV.sw o) (BV.sh o) n (gX (winBlk (ptB e m x y xt wh) 2 0 n)) (gY (winBlk (ptB e m x y xt wh) 2 0 n))++strOfNums (vecL (BV.p0v o) (BV.p0f o) (BV.p1v o) (BV.p1f o)++(numL (BV.p2v o) (BV.p2f o)++numL (BV.p3v o) (BV.p3f o)))++strOfNums (vecL (BV.v0v o) (BV.v0f o) (BV.v1v o) (BV.v1f o))++strOfNums (numL (BV.w0v o) (BV.w0f o))++strOfNums (numL (BV.m0v o) (BV.m0f o))++strOfNums (numL (BV.m1v o) (BV.m1f o))++strOfNums (c4 (BV.st o))++strOfNums (be 0 1)++strOfNums (i8 (BV.bv o))))),(SV.v (.bool (b0||shBad (BV.sk o) n||(isMin (BV.p0v o)||isMin (BV.p1v o)||(isMin (BV.p2v o)||isMin (BV.p3v o)))||(isMin (BV.v0v o)||isMin (BV.v1v o))||isMin (BV.w0v o)||isMin (BV.m0v o)||isMin (BV.m1v o)||notIn (BV.st o) 2147483647||false||notIn (BV.bv o) 1099511627776)))] = [(SV.v (.string (rBoS s b0 o n x y))),(SV.v (.bool (b0||boBad o n)))]))))))))))))))))):=by kernel_rfl
def ΓRr : Ctrs := addCtr (addCtr (addCtr ΓE3 115 (hpCtr true (sRApp 1000000000 fRHandle))) 107 (hpCtr true (sRApp M0 fRSmall))) 119 (hpCtr true sRBody)
noncomputable def ΛRr8 (S : ByteArray) (b : Bool) (m : Nat) (u v : Nat → Int) : Nat → Option LoopSpec := addLoop noΛ Try.f79 1 Nat (fun i => i ≤ m ∧ (i = 0 ∨ (b || anyH u v (i - 1)) = false)) (fun i => m - i) [(4, fun i => .v (.int .i64 i))] [(80, fun i => rB (S ++ strOfNums (hsL u v i)) (b || anyH u v i))]
theorem vcRRw1 (c : RV) (n cap m cp : Nat) (g h : Nat→Int × Int) (R : SV→Prop) : (vcFn Try.prog ΓRr noΛ Try.f79 [reS 1 0 c (.sl 0 2 0 n cap) (.sl 1 2 0 m cp)] (roHeap [⟨2,n,rowsP g⟩,⟨2,m,rowsP h⟩]) 64 (fun y _ => R y)) = ((((I64 1)∧(((0 : Int) ≤ 1)∧((1 : Int) ≤ 8)))∧((0 : Nat) ≤ M0))∧(((I64 (RV.id c))∧((1 : Nat) ≤ M0))∧((((I64 0)∧(((0 : Int) ≤ 1)∧((1 : Int) ≤ 8)))∧(((ByteArray.size ({data:=#[]}++strOfNums (be 1 1)++strOfNums (c4 (RV.id c)))) : Nat) ≤ M0))∧((((I64 (RV.bs c))∧(I64 (RV.bg c)))∧(((ByteArray.size ({data:=#[]}++strOfNums (be 1 1)++strOfNums (c4 (RV.id c))++strOfNums (be 0 1))) : Nat) ≤ 1000000000))∧(((I64 (RV.ver c))∧(((ByteArray.size ({data:=#[]}++strOfNums (be 1 1)++strOfNums (c4 (RV.id c))++strOfNums (be 0 1)++strOfNums (c4 (RV.bs c)++c4 (RV.bg c)))) : Nat) ≤ M0))∧(R (SV.agg [(SV.v (.string ({data:=#[]}++strOfNums (be 1 1)++strOfNums (c4 (RV.id c))++strOfNums (be 0 1)++strOfNums (c4 (RV.bs c)++c4 (RV.bg c))++strOfNums (i8 (RV.ver c))))),(SV.v (.bool (false||notIn (RV.id c) 2147483647||false||(notIn (RV.bs c) 2147483647||notIn (RV.bg c) 2147483647)||notIn (RV.ver c) 1099511627776)))]))))))):=by kernel_rfl
theorem vcRRw2 (c : RV) (n cap m cp : Nat) (g h : Nat→Int × Int) (R : SV→Prop) : (vcFn Try.prog ΓRr noΛ Try.f79 [reS 2 0 c (.sl 0 2 0 n cap) (.sl 1 2 0 m cp)] (roHeap [⟨2,n,rowsP g⟩,⟨2,m,rowsP h⟩]) 64 (fun y _ => R y)) = ((((I64 2)∧(((0 : Int) ≤ 1)∧((1 : Int) ≤ 8)))∧((0 : Nat) ≤ M0))∧(((I64 (RV.id c))∧((1 : Nat) ≤ M0))∧((((I64 0)∧(((0 : Int) ≤ 1)∧((1 : Int) ≤ 8)))∧(((ByteArray.size ({data:=#[]}++strOfNums (be 2 1)++strOfNums (c4 (RV.id c)))) : Nat) ≤ M0))∧((((I64 (RV.bs c))∧(I64 (RV.bg c)))∧(((ByteArray.size ({data:=#[]}++strOfNums (be 2 1)++strOfNums (c4 (RV.id c))++strOfNums (be 0 1))) : Nat) ≤ 1000000000))∧(R (SV.agg [(SV.v (.string ({data:=#[]}++strOfNums (be 2 1)++strOfNums (c4 (RV.id c))++strOfNums (be 0 1)++strOfNums (c4 (RV.bs c)++c4 (RV.bg c))))),(SV.v (.bool (false||notIn (RV.id c) 2147483647||false||(notIn (RV.bs c) 2147483647||notIn (RV.bg c) 2147483647))))])))))):=by kernel_rfl
theorem vcRRw3 (c : RV) (n cap m cp : Nat) (g h : Nat→Int × Int) (R : SV→Prop) : (vcFn Try.prog ΓRr noΛ Try.f79 [reS 3 0 c (.sl 0 2 0 n cap) (.sl 1 2 0 m cp)] (roHeap [⟨2,n,rowsP g⟩,⟨2,m,rowsP h⟩]) 64 (fun y _ => R y)) = ((((I64 3)∧(((0 : Int) ≤ 1)∧((1 : Int) ≤ 8)))∧((0 : Nat) ≤ M0))∧(((I64 (RV.id c))∧((1 : Nat) ≤ M0))∧((((I64 0)∧(((0 : Int) ≤ 1)∧((1 : Int) ≤ 8)))∧(((ByteArray.size ({data:=#[]}++strOfNums (be 3 1)++strOfNums (c4 (RV.id c)))) : Nat) ≤ M0))∧((((I64 (RV.bs c))∧(I64 (RV.bg c)))∧(((ByteArray.size ({data:=#[]}++strOfNums (be 3 1)++strOfNums (c4 (RV.id c))++strOfNums (be 0 1))) : Nat) ≤ 1000000000))∧(((I64 (RV.ver c))∧(((ByteArray.size ({data:=#[]}++strOfNums (be 3 1)++strOfNums (c4 (RV.id c))++strOfNums (be 0 1)++strOfNums (c4 (RV.bs c)++c4 (RV.bg c)))) : Nat) ≤ M0))∧(R (SV.agg [(SV.v (.string ({data:=#[]}++strOfNums (be 3 1)++strOfNums (c4 (RV.id c))++strOfNums (be 0 1)++strOfNums (c4 (RV.bs c)++c4 (RV.bg c))++strOfNums (i8 (RV.ver c))))),(SV.v (.bool (false||notIn (RV.id c) 2147483647||false||(notIn (RV.bs c) 2147483647||notIn (RV.bg c) 2147483647)||notIn (RV.ver c) 1099511627776)))]))))))):=by kernel_rfl
theorem vcRRw4 (c : RV) (n cap m cp : Nat) (g h : Nat→Int × Int) (R : SV→Prop) : (vcFn Try.prog ΓRr noΛ Try.f79 [reS 4 0 c (.sl 0 2 0 n cap) (.sl 1 2 0 m cp)] (roHeap [⟨2,n,rowsP g⟩,⟨2,m,rowsP h⟩]) 64 (fun y _ => R y)) = ((((I64 4)∧(((0 : Int) ≤ 1)∧((1 : Int) ≤ 8)))∧((0 : Nat) ≤ M0))∧(((I64 (RV.id c))∧((1 : Nat) ≤ M0))∧((((I64 0)∧(((0 : Int) ≤ 1)∧((1 : Int) ≤ 8)))∧(((ByteArray.size ({data:=#[]}++strOfNums (be 4 1)++strOfNums (c4 (RV.id c)))) : Nat) ≤ M0))∧((((I64 (RV.bs c))∧(I64 (RV.bg c)))∧(((ByteArray.size ({data:=#[]}++strOfNums (be 4 1)++strOfNums (c4 (RV.id c))++strOfNums (be 0 1))) : Nat) ≤ 1000000000))∧(((I64 (RV.ver c))∧(((ByteArray.size ({data:=#[]}++strOfNums (be 4 1)++strOfNums (c4 (RV.id c))++strOfNums (be 0 1)++strOfNums (c4 (RV.bs c)++c4 (RV.bg c)))) : Nat) ≤ M0))∧(((I64 (RV.gr c))∧(((ByteArray.size ({data:=#[]}++strOfNums (be 4 1)++strOfNums (c4 (RV.id c))++strOfNums (be 0 1)++strOfNums (c4 (RV.bs c)++c4 (RV.bg c))++strOfNums (i8 (RV.ver c)))) : Nat) ≤ M0))∧(R (SV.agg [(SV.v (.string ({data:=#[]}++strOfNums (be 4 1)++strOfNums (c4 (RV.id c))++strOfNums (be 0 1)++strOfNums (c4 (RV.bs c)++c4 (RV.bg c))++strOfNums (i8 (RV.ver c))++strOfNums (c4 (RV.gr c))))),(SV.v (.bool (false||notIn (RV.id c) 2147483647||false||(notIn (RV.bs c) 2147483647||notIn (RV.bg c) 2147483647)||notIn (RV.ver c) 1099511627776||notIn (RV.gr c) 2147483647)))])))))))):=by kernel_rfl
theorem vcRRw5 (c : RV) (n cap m cp : Nat) (g h : Nat→Int × Int) (R : SV→Prop) : (vcFn Try.prog ΓRr noΛ Try.f79 [reS 5 0 c (.sl 0 2 0 n cap) (.sl 1 2 0 m cp)] (roHeap [⟨2,n,rowsP g⟩,⟨2,m,rowsP h⟩]) 64 (fun y _ => R y)) = ((((I64 5)∧(((0 : Int) ≤ 1)∧((1 : Int) ≤ 8)))∧((0 : Nat) ≤ M0))∧(((I64 (RV.id c))∧((1 : Nat) ≤ M0))∧((((I64 0)∧(((0 : Int) ≤ 1)∧((1 : Int) ≤ 8)))∧(((ByteArray.size ({data:=#[]}++strOfNums (be 5 1)++strOfNums (c4 (RV.id c)))) : Nat) ≤ M0))∧(((I64 (RV.gr c))∧(((ByteArray.size ({data:=#[]}++strOfNums (be 5 1)++strOfNums (c4 (RV.id c))++strOfNums (be 0 1))) : Nat) ≤ M0))∧(R (SV.agg [(SV.v (.string ({data:=#[]}++strOfNums (be 5 1)++strOfNums (c4 (RV.id c))++strOfNums (be 0 1)++strOfNums (c4 (RV.gr c))))),(SV.v (.bool (false||notIn (RV.id c) 2147483647||false||notIn (RV.gr c) 2147483647)))])))))):=by kernel_rfl
theorem vcRRw6 (c : RV) (n cap m cp : Nat) (g h : Nat→Int × Int) (R : SV→Prop) : (vcFn Try.prog ΓRr noΛ Try.f79 [reS 6 0 c (.sl 0 2 0 n cap) (.sl 1 2 0 m cp)] (roHeap [⟨2,n,rowsP g⟩,⟨2,m,rowsP h⟩]) 64 (fun y _ => R y)) = ((((I64 6)∧(((0 : Int) ≤ 1)∧((1 : Int) ≤ 8)))∧((0 : Nat) ≤ M0))∧(((I64 (RV.id c))∧((1 : Nat) ≤ M0))∧((((I64 0)∧(((0 : Int) ≤ 1)∧((1 : Int) ≤ 8)))∧(((ByteArray.size ({data:=#[]}++strOfNums (be 6 1)++strOfNums (c4 (RV.id c)))) : Nat) ≤ M0))∧(((I64 (RV.gr c))∧(((ByteArray.size ({data:=#[]}++strOfNums (be 6 1)++strOfNums (c4 (RV.id c))++strOfNums (be 0 1))) : Nat) ≤ M0))∧(R (SV.agg [(SV.v (.string ({data:=#[]}++strOfNums (be 6 1)++strOfNums (c4 (RV.id c))++strOfNums (be 0 1)++strOfNums (c4 (RV.gr c))))),(SV.v (.bool (false||notIn (RV.id c) 2147483647||false||notIn (RV.gr c) 2147483647)))])))))):=by kernel_rfl
theorem vcRRw7 (c : RV) (n cap m cp : Nat) (g h : Nat→Int × Int) (R : SV→Prop) : (vcFn Try.prog ΓRr noΛ Try.f79 [reS 7 0 c (.sl 0 2 0 n cap) (.sl 1 2 0 m cp)] (roHeap [⟨2,n,rowsP g⟩,⟨2,m,rowsP h⟩]) 64 (fun y _ => R y)) = ((((I64 7)∧(((0 : Int) ≤ 1)∧((1 : Int) ≤ 8)))∧((0 : Nat) ≤ M0))∧(((I64 (RV.id c))∧((1 : Nat) ≤ M0))∧((((I64 0)∧(((0 : Int) ≤ 1)∧((1 : Int) ≤ 8)))∧(((ByteArray.size ({data:=#[]}++strOfNums (be 7 1)++strOfNums (c4 (RV.id c)))) : Nat) ≤ M0))∧((((I64 (RV.bs c))∧(I64 (RV.bg c)))∧(((ByteArray.size ({data:=#[]}++strOfNums (be 7 1)++strOfNums (c4 (RV.id c))++strOfNums (be 0 1))) : Nat) ≤ 1000000000))∧((((bvOk (RV.o c))∧((spPre n (winBlk (Ro.blk {s:=2,n:=n,row:=fun i => [SV.v (.int .i64 (Prod.fst (g i))),SV.v (.int .i64 (Prod.snd (g i)))]}) 2 0 n))∧((n : Nat) < 100)))∧(((ByteArray.size ({data:=#[]}++strOfNums (be 7 1)++strOfNums (c4 (RV.id c))++strOfNums (be 0 1)++strOfNums (c4 (RV.bs c)++c4 (RV.bg c)))) : Nat) ≤ 700000000))∧(R (SV.agg [(SV.v (.string (rBoS ({data:=#[]}++strOfNums (be 7 1)++strOfNums (c4 (RV.id c))++strOfNums (be 0 1)++strOfNums (c4 (RV.bs c)++c4 (RV.bg c))) (false||notIn (RV.id c) 2147483647||false||(notIn (RV.bs c) 2147483647||notIn (RV.bg c) 2147483647)) (RV.o c) n (gX (winBlk (Ro.blk {s:=2,n:=n,row:=fun i => [SV.v (.int .i64 (Prod.fst (g i))),SV.v (.int .i64 (Prod.snd (g i)))]}) 2 0 n)) (gY (winBlk (Ro.blk {s:=2,n:=n,row:=fun i => [SV.v (.int .i64 (Prod.fst (g i))),SV.v (.int .i64 (Prod.snd (g i)))]}) 2 0 n))))),(SV.v (.bool (false||notIn (RV.id c) 2147483647||false||(notIn (RV.bs c) 2147483647||notIn (RV.bg c) 2147483647)||boBad (RV.o c) n)))]))))))):=by kernel_rfl
theorem vcRRw8 (c : RV) (n cap m cp : Nat) (g h : Nat→Int × Int) (R : SV→Prop) : (vcFn Try.prog ΓRr (ΛRr8 (emp++strOfNums (be 8 1)++strOfNums (c4 c.id)++strOfNums (be 0 1)++strOfNums (be ((m : Int) % 18446744073709551616) 1)) (notIn c.id 2147483647||notIn (m : Int) 64) m (fun i => (h i).1) (fun i => (h i).2)) Try.f79 [reS 8 0 c (.sl 0 2 0 n cap) (.sl 1 2 0 m cp)] (roHeap [⟨2,n,rowsP g⟩,⟨2,m,rowsP h⟩]) 64 (fun y _ => R y)) = ((((I64 8)∧(((0 : Int) ≤ 1)∧((1 : Int) ≤ 8)))∧((0 : Nat) ≤ M0))∧(((I64 (RV.id c))∧((1 : Nat) ≤ M0))∧((((I64 0)∧(((0 : Int) ≤ 1)∧((1 : Int) ≤ 8)))∧(((ByteArray.size ({data:=#[]}++strOfNums (be 8 1)++strOfNums (c4 (RV.id c)))) : Nat) ≤ M0))∧((((I64 (↑m : Int))∧(((0 : Int) ≤ 1)∧((1 : Int) ≤ 8)))∧(((ByteArray.size ({data:=#[]}++strOfNums (be 8 1)++strOfNums (c4 (RV.id c))++strOfNums (be 0 1))) : Nat) ≤ M0))∧((∃ x : Nat,((((x : Nat) ≤ m)∧(x = 0 ∨ (notIn (RV.id c) 2147483647||notIn (↑m : Int) 64||anyH (fun i => Prod.fst (h i)) (fun i => Prod.snd (h i)) (x - 1)) = false))∧(((SV.v (.int .i64 0)) = (SV.v (.int .i64 ((↑x : Int)))))∧(((1 : Nat) = 1)∧(((1 : Nat) ≤ 1)∧(∀ i : Nat,(((i : Nat) < 1)→([(SV.v (.string ({data:=#[]}++strOfNums (be 8 1)++strOfNums (c4 (RV.id c))++strOfNums (be 0 1)++strOfNums (be ((↑m : Int) % 18446744073709551616) 1)))),(SV.v (.bool (false||notIn (RV.id c) 2147483647||false||notIn (↑m : Int) 64)))] = [(SV.v (.string (emp++strOfNums (be 8 1)++strOfNums (c4 (RV.id c))++strOfNums (be 0 1)++strOfNums (be ((↑m : Int) % 18446744073709551616) 1)++strOfNums (hsL (fun i => Prod.fst (h i)) (fun i => Prod.snd (h i)) x)))),(SV.v (.bool (notIn (RV.id c) 2147483647||notIn (↑m : Int) 64||anyH (fun i => Prod.fst (h i)) (fun i => Prod.snd (h i)) x)))]))))))))∧(∀ x : Nat,((((x : Nat) ≤ m)∧(x = 0 ∨ (notIn (RV.id c) 2147483647||notIn (↑m : Int) 64||anyH (fun i => Prod.fst (h i)) (fun i => Prod.snd (h i)) (x - 1)) = false))→(sel (decide ((↑x : Int) < (↑m : Int))) (sel (!(notIn (RV.id c) 2147483647||notIn (↑m : Int) 64||anyH (fun i => Prod.fst (h i)) (fun i => Prod.snd (h i)) x)) ((((0 : Int) ≤ ((↑x : Int)))∧((((↑x : Int)) : Int) < ((↑m : Int))))∧((((I64 (Prod.fst (h (0 + Int.toNat (↑x : Int)))))∧(I64 (Prod.snd (h (0 + Int.toNat (↑x : Int))))))∧(((ByteArray.size (emp++strOfNums (be 8 1)++strOfNums (c4 (RV.id c))++strOfNums (be 0 1)++strOfNums (be ((↑m : Int) % 18446744073709551616) 1)++strOfNums (hsL (fun i => Prod.fst (h i)) (fun i => Prod.snd (h i)) x))) : Nat) ≤ 1000000000))∧(∃ x' : Nat,(((((x' : Nat) ≤ m)∧(x' = 0 ∨ (notIn (RV.id c) 2147483647||notIn (↑m : Int) 64||anyH (fun i => Prod.fst (h i)) (fun i => Prod.snd (h i)) (x' - 1)) = false))∧(((SV.v (.int .i64 (IntKind.wrap IntKind.i64 ((↑x : Int) + 1)))) = (SV.v (.int .i64 ((↑x' : Int)))))∧(((1 : Nat) = 1)∧(((1 : Nat) ≤ 1)∧(∀ i : Nat,(((i : Nat) < 1)→([(SV.v (.string (emp++strOfNums (be 8 1)++strOfNums (c4 (RV.id c))++strOfNums (be 0 1)++strOfNums (be ((↑m : Int) % 18446744073709551616) 1)++strOfNums (hsL (fun i => Prod.fst (h i)) (fun i => Prod.snd (h i)) x)++strOfNums (c4 (Prod.fst (h (0 + Int.toNat (↑x : Int))))++c4 (Prod.snd (h (0 + Int.toNat (↑x : Int)))))))),(SV.v (.bool (notIn (RV.id c) 2147483647||notIn (↑m : Int) 64||anyH (fun i => Prod.fst (h i)) (fun i => Prod.snd (h i)) x||(notIn (Prod.fst (h (0 + Int.toNat (↑x : Int)))) 2147483647||notIn (Prod.snd (h (0 + Int.toNat (↑x : Int)))) 2147483647))))] = [(SV.v (.string (emp++strOfNums (be 8 1)++strOfNums (c4 (RV.id c))++strOfNums (be 0 1)++strOfNums (be ((↑m : Int) % 18446744073709551616) 1)++strOfNums (hsL (fun i => Prod.fst (h i)) (fun i => Prod.snd (h i)) x')))),(SV.v (.bool (notIn (RV.id c) 2147483647||notIn (↑m : Int) 64||anyH (fun i => Prod.fst (h i)) (fun i => Prod.snd (h i)) x')))])))))))∧(((m - x') : Nat) < (m - x)))))) (R (SV.agg [(SV.v (.string (emp++strOfNums (be 8 1)++strOfNums (c4 (RV.id c))++strOfNums (be 0 1)++strOfNums (be ((↑m : Int) % 18446744073709551616) 1)++strOfNums (hsL (fun i => Prod.fst (h i)) (fun i => Prod.snd (h i)) x)))),(SV.v (.bool (notIn (RV.id c) 2147483647||notIn (↑m : Int) 64||anyH (fun i => Prod.fst (h i)) (fun i => Prod.snd (h i)) x)))]))) (R (SV.agg [(SV.v (.string (emp++strOfNums (be 8 1)++strOfNums (c4 (RV.id c))++strOfNums (be 0 1)++strOfNums (be ((↑m : Int) % 18446744073709551616) 1)++strOfNums (hsL (fun i => Prod.fst (h i)) (fun i => Prod.snd (h i)) x)))),(SV.v (.bool (notIn (RV.id c) 2147483647||notIn (↑m : Int) 64||anyH (fun i => Prod.fst (h i)) (fun i => Prod.snd (h i)) x)))])))))))))):=by kernel_rfl
theorem vcRRw9 (c : RV) (n cap m cp : Nat) (g h : Nat→Int × Int) (R : SV→Prop) : (vcFn Try.prog ΓRr noΛ Try.f79 [reS 9 0 c (.sl 0 2 0 n cap) (.sl 1 2 0 m cp)] (roHeap [⟨2,n,rowsP g⟩,⟨2,m,rowsP h⟩]) 64 (fun y _ => R y)) = ((((I64 9)∧(((0 : Int) ≤ 1)∧((1 : Int) ≤ 8)))∧((0 : Nat) ≤ M0))∧(((I64 (RV.id c))∧((1 : Nat) ≤ M0))∧((((I64 0)∧(((0 : Int) ≤ 1)∧((1 : Int) ≤ 8)))∧(((ByteArray.size ({data:=#[]}++strOfNums (be 9 1)++strOfNums (c4 (RV.id c)))) : Nat) ≤ M0))∧((((I64 (RV.bs c))∧(I64 (RV.bg c)))∧(((ByteArray.size ({data:=#[]}++strOfNums (be 9 1)++strOfNums (c4 (RV.id c))++strOfNums (be 0 1))) : Nat) ≤ 1000000000))∧((True∧(((ByteArray.size ({data:=#[]}++strOfNums (be 9 1)++strOfNums (c4 (RV.id c))++strOfNums (be 0 1)++strOfNums (c4 (RV.bs c)++c4 (RV.bg c)))) : Nat) ≤ M0))∧(((I64 (RV.htv c))∧(((ByteArray.size ({data:=#[]}++strOfNums (be 9 1)++strOfNums (c4 (RV.id c))++strOfNums (be 0 1)++strOfNums (c4 (RV.bs c)++c4 (RV.bg c))++strOfNums (flB (RV.hit c)))) : Nat) ≤ 1000000000))∧((((I64 (RV.x0v c))∧(I64 (RV.x1v c)))∧(((ByteArray.size ({data:=#[]}++strOfNums (be 9 1)++strOfNums (c4 (RV.id c))++strOfNums (be 0 1)++strOfNums (c4 (RV.bs c)++c4 (RV.bg c))++strOfNums (flB (RV.hit c))++strOfNums (numL (RV.htv c) (RV.htf c)))) : Nat) ≤ 900000000))∧(R (SV.agg [(SV.v (.string ({data:=#[]}++strOfNums (be 9 1)++strOfNums (c4 (RV.id c))++strOfNums (be 0 1)++strOfNums (c4 (RV.bs c)++c4 (RV.bg c))++strOfNums (flB (RV.hit c))++strOfNums (numL (RV.htv c) (RV.htf c))++strOfNums (vecL (RV.x0v c) (RV.x0f c) (RV.x1v c) (RV.x1f c))))),(SV.v (.bool (false||notIn (RV.id c) 2147483647||false||(notIn (RV.bs c) 2147483647||notIn (RV.bg c) 2147483647)||false||isMin (RV.htv c)||(isMin (RV.x0v c)||isMin (RV.x1v c)))))]))))))))):=by kernel_rfl
theorem vcRRw10 (c : RV) (n cap m cp : Nat) (g h : Nat→Int × Int) (R : SV→Prop) : (vcFn Try.prog ΓRr noΛ Try.f79 [reS 10 0 c (.sl 0 2 0 n cap) (.sl 1 2 0 m cp)] (roHeap [⟨2,n,rowsP g⟩,⟨2,m,rowsP h⟩]) 64 (fun y _ => R y)) = ((((I64 10)∧(((0 : Int) ≤ 1)∧((1 : Int) ≤ 8)))∧((0 : Nat) ≤ M0))∧(((I64 (RV.id c))∧((1 : Nat) ≤ M0))∧((((I64 0)∧(((0 : Int) ≤ 1)∧((1 : Int) ≤ 8)))∧(((ByteArray.size ({data:=#[]}++strOfNums (be 10 1)++strOfNums (c4 (RV.id c)))) : Nat) ≤ M0))∧(((I64 (RV.cnt c))∧(((ByteArray.size ({data:=#[]}++strOfNums (be 10 1)++strOfNums (c4 (RV.id c))++strOfNums (be 0 1))) : Nat) ≤ M0))∧(R (SV.agg [(SV.v (.string ({data:=#[]}++strOfNums (be 10 1)++strOfNums (c4 (RV.id c))++strOfNums (be 0 1)++strOfNums (c4 (RV.cnt c))))),(SV.v (.bool (false||notIn (RV.id c) 2147483647||false||notIn (RV.cnt c) 2147483647)))])))))):=by kernel_rfl
theorem vcRRwP (k : Int) (a : Nat) (c : RV) (n cap m cp : Nat) (g h : Nat→Int × Int) (R : SV→Prop) : (vcFn Try.prog ΓRr noΛ Try.f79 [reS k (Int.ofNat (a + 1)) c (.sl 0 2 0 n cap) (.sl 1 2 0 m cp)] (roHeap [⟨2,n,rowsP g⟩,⟨2,m,rowsP h⟩]) 64 (fun y _ => R y)) = ((((I64 k)∧(((0 : Int) ≤ 1)∧((1 : Int) ≤ 8)))∧((0 : Nat) ≤ M0))∧(((I64 (RV.id c))∧(((ByteArray.size ({data:=#[]}++strOfNums (be (k % 18446744073709551616) 1))) : Nat) ≤ M0))∧((((I64 (Int.ofNat (a + 1)))∧(((0 : Int) ≤ 1)∧((1 : Int) ≤ 8)))∧(((ByteArray.size ({data:=#[]}++strOfNums (be (k % 18446744073709551616) 1)++strOfNums (c4 (RV.id c)))) : Nat) ≤ M0))∧(sel (Int.ofNat (a + 1) == 14) (((I64 (RV.ver c))∧(((ByteArray.size ({data:=#[]}++strOfNums (be (k % 18446744073709551616) 1)++strOfNums (c4 (RV.id c))++strOfNums (be (Int.ofNat (a + 1) % 18446744073709551616) 1))) : Nat) ≤ M0))∧(R (SV.agg [(SV.v (.string ({data:=#[]}++strOfNums (be (k % 18446744073709551616) 1)++strOfNums (c4 (RV.id c))++strOfNums (be (Int.ofNat (a + 1) % 18446744073709551616) 1)++strOfNums (i8 (RV.ver c))))),(SV.v (.bool (false||notIn k 255||notIn (RV.id c) 2147483647||notIn (Int.ofNat (a + 1)) 14||notIn (RV.ver c) 1099511627776)))]))) (R (SV.agg [(SV.v (.string ({data:=#[]}++strOfNums (be (k % 18446744073709551616) 1)++strOfNums (c4 (RV.id c))++strOfNums (be (Int.ofNat (a + 1) % 18446744073709551616) 1)))),(SV.v (.bool (false||notIn k 255||notIn (RV.id c) 2147483647||notIn (Int.ofNat (a + 1)) 14)))])))))):=by kernel_rfl
theorem vcRRwM (k : Int) (a : Nat) (c : RV) (n cap m cp : Nat) (g h : Nat→Int × Int) (R : SV→Prop) : (vcFn Try.prog ΓRr noΛ Try.f79 [reS k (Int.negSucc a) c (.sl 0 2 0 n cap) (.sl 1 2 0 m cp)] (roHeap [⟨2,n,rowsP g⟩,⟨2,m,rowsP h⟩]) 64 (fun y _ => R y)) = ((((I64 k)∧(((0 : Int) ≤ 1)∧((1 : Int) ≤ 8)))∧((0 : Nat) ≤ M0))∧(((I64 (RV.id c))∧(((ByteArray.size ({data:=#[]}++strOfNums (be (k % 18446744073709551616) 1))) : Nat) ≤ M0))∧((((I64 (Int.negSucc a))∧(((0 : Int) ≤ 1)∧((1 : Int) ≤ 8)))∧(((ByteArray.size ({data:=#[]}++strOfNums (be (k % 18446744073709551616) 1)++strOfNums (c4 (RV.id c)))) : Nat) ≤ M0))∧(R (SV.agg [(SV.v (.string ({data:=#[]}++strOfNums (be (k % 18446744073709551616) 1)++strOfNums (c4 (RV.id c))++strOfNums (be (Int.negSucc a % 18446744073709551616) 1)))),(SV.v (.bool (false||notIn k 255||notIn (RV.id c) 2147483647||notIn (Int.negSucc a) 14)))]))))):=by kernel_rfl
end Go.Proofs.Ytjdldadmaaeimaa
end
