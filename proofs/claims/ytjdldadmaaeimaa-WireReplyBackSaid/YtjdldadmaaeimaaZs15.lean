/-
  What the proof uses, part 15.
-/
import Derived.Test.YtjdldadmaaeimaaZs14
set_option maxRecDepth 100000
set_option linter.unusedSimpArgs false
set_option linter.unusedVariables false

section
namespace Go.Proofs.Ytjdldadmaaeimaa
open Go.SE Go.RowKit
theorem bd1 {x B : Nat} (h : x ≤ 850000000) (hB : 850000000 ≤ B := by decide) : x ≤ B := Nat.le_trans h hB
theorem poBl (b : BV) : (poB b).length = 36 := by unfold poB; rw [List.length_append, vecl, List.length_append, numl, numl]
theorem voBl (b : BV) : (voB b).length = 18 := vecl _ _ _ _
theorem wmBl (b : BV) : (wmB b).length = 27 := by unfold wmB; rw [List.length_append, List.length_append, numl, numl, numl]
theorem bo_row (o : BV) (n0 : Nat) (g : Nat → Int) (n : Nat) (x y : Nat → Int) (mk : Int) (h : mk = bmk o) (i : Nat) : (apG (n0 + shN n + 36 + 18 + 27 + 4 + 1) (apG (n0 + shN n + 36 + 18 + 27 + 4) (apG (n0 + shN n + 36 + 18 + 27) (apG (n0 + shN n + 36 + 18) (apG (n0 + shN n + 36) (apG (n0 + shN n) (apG n0 g (shL o.sk o.sr o.sw o.sh n (fun i => x (0 + i)) (fun i => y (0 + i)))) (poB o)) (voB o)) (wmB o)) (c4 o.st)) [mk]) (i8 o.bv)) i = apG n0 g (boL o n x y) i := by
  subst h
  rw [show (fun i => x (0 + i)) = x from funext fun i => by rw [Nat.zero_add], show (fun i => y (0 + i)) = y from funext fun i => by rw [Nat.zero_add]]
  rw [apG_ap (n := n0 + shN n + 36 + 18 + 27 + 4) (m := n0 + shN n + 36 + 18 + 27 + 4 + 1) (L := [bmk o]) rfl]
  rw [apG_ap (n := n0 + shN n + 36 + 18 + 27) (m := n0 + shN n + 36 + 18 + 27 + 4) (add_ap (c4l _) rfl)]
  rw [apG_ap (n := n0 + shN n + 36 + 18) (m := n0 + shN n + 36 + 18 + 27) (add_ap (wmBl o) rfl)]
  rw [apG_ap (n := n0 + shN n + 36) (m := n0 + shN n + 36 + 18) (add_ap (voBl o) rfl)]
  rw [apG_ap (n := n0 + shN n) (m := n0 + shN n + 36) (add_ap (poBl o) rfl)]
  rw [apG_ap (n := n0) (m := n0 + shN n) (add_ap (shLl _ _ _ _ _ _ _) rfl)]
  rfl
theorem body_used {b : Bool} {n0 : Nat} {g : Nat → Int} {c : Nat} {o : BV} {e n m cap xt : Nat} {x y : Nat → Int} {wh : Bool} (hc : bvOk o) (hn0 : n0 ≤ 800000000) (hn : n < 100) (hv : ∀ i, i < n → I64 (x i) ∧ I64 (y i)) : vcFn Try.prog ΓPb noΛ Try.f93 [.vp 0 0, boS o (.sl 2 2 0 n cap)] (heapOf [wB (some b) false (.sl 1 1 0 n0 c), bG n0 g c, ptB e m x y xt wh]) 64 (fun y' h' => FinE [wB (some b) false (.sl 1 1 0 n0 c), bG n0 g c, ptB e m x y xt wh] (apE (.used (some b) n0 g c True) 0 True (boN n) (boL o n x y) (boBad o n)) y' h') := by
  have hsn := shN_le n
  obtain ⟨h_sk, h_sr, h_sw, h_sh, h_p0v, h_p1v, h_p2v, h_p3v, h_v0v, h_v1v, h_w0v, h_m0v, h_m1v, h_st, h_bv⟩ := hc
  have h_vc := vcBodyU b n0 g c o e n m cap xt x y wh
  repeat (first | unfold vcBodyU_4 at h_vc | unfold vcBodyU_3 at h_vc | unfold vcBodyU_2 at h_vc | unfold vcBodyU_1 at h_vc)
  refine Eq.mpr h_vc ⟨⟨⟨bytesOk_bG _ _ _ (by omega), bd1 (by omega)⟩, ⟨⟨h_sk, h_sr, h_sw, h_sh⟩, rfl, hn⟩, fun i hi => by rw [Nat.zero_add]; exact hv i hi⟩, fun d1 => ⟨⟨⟨bytesOk_bG _ _ _ (by omega), bd1 (by omega)⟩, ⟨h_p0v, h_p1v, h_p2v, h_p3v⟩⟩, fun d2 => ⟨⟨⟨bytesOk_bG _ _ _ (by omega), bd1 (by omega)⟩, ⟨h_v0v, h_v1v⟩⟩, fun d3 => ⟨⟨⟨bytesOk_bG _ _ _ (by omega), bd1 (by omega)⟩, ⟨rfl, by omega, by omega, fun i hi => by
    have : i = 0 ∨ i = 1 ∨ i = 2 := by omega
    rcases this with rfl | rfl | rfl
    · exact h_w0v
    · exact h_m0v
    · exact h_m1v⟩⟩, fun d4 => ⟨⟨⟨bytesOk_bG _ _ _ (by omega), bd1 (by omega)⟩, h_st⟩, fun d5 => sel_of (fun ea => sel_of (fun ef => ⟨⟨⟨bytesOk_bG _ _ _ (by omega), bd1 (by omega)⟩, ⟨by omega, by omega⟩⟩, fun d6 => ⟨⟨⟨bytesOk_bG _ _ _ (by omega), bd1 (by omega)⟩, h_bv⟩, fun d7 => tailU ?_ ?_ fun i hi => bo_row o n0 g n x y 3 (by unfold bmk; rw [ea, ef]; rfl) i⟩⟩) fun ef => ⟨⟨⟨bytesOk_bG _ _ _ (by omega), bd1 (by omega)⟩, ⟨by omega, by omega⟩⟩, fun d6 => ⟨⟨⟨bytesOk_bG _ _ _ (by omega), bd1 (by omega)⟩, h_bv⟩, fun d7 => tailU ?_ ?_ fun i hi => bo_row o n0 g n x y 1 (by unfold bmk; rw [ea, ef]; rfl) i⟩⟩) fun ea => sel_of (fun ef => ⟨⟨⟨bytesOk_bG _ _ _ (by omega), bd1 (by omega)⟩, ⟨by omega, by omega⟩⟩, fun d6 => ⟨⟨⟨bytesOk_bG _ _ _ (by omega), bd1 (by omega)⟩, h_bv⟩, fun d7 => tailU ?_ ?_ fun i hi => bo_row o n0 g n x y 2 (by unfold bmk; rw [ea, ef]; rfl) i⟩⟩) fun ef => ⟨⟨⟨bytesOk_bG _ _ _ (by omega), bd1 (by omega)⟩, ⟨by omega, by omega⟩⟩, fun d6 => ⟨⟨⟨bytesOk_bG _ _ _ (by omega), bd1 (by omega)⟩, h_bv⟩, fun d7 => tailU ?_ ?_ fun i hi => bo_row o n0 g n x y 0 (by unfold bmk; rw [ea, ef]; rfl) i⟩⟩⟩⟩⟩⟩⟩
  · show _ = n0 + (shN n + 94)
    omega
  · simp only [Bool.or_false, boBad, shBad, anyMin, nV, bop, Bool.false_or, Bool.or_assoc]
    first | rfl | skip
  · show _ = n0 + (shN n + 94)
    omega
  · simp only [Bool.or_false, boBad, shBad, anyMin, nV, bop, Bool.false_or, Bool.or_assoc]
    first | rfl | skip
  · show _ = n0 + (shN n + 94)
    omega
  · simp only [Bool.or_false, boBad, shBad, anyMin, nV, bop, Bool.false_or, Bool.or_assoc]
    first | rfl | skip
  · show _ = n0 + (shN n + 94)
    omega
  · simp only [Bool.or_false, boBad, shBad, anyMin, nV, bop, Bool.false_or, Bool.or_assoc]
    first | rfl | skip
theorem ΓPb_ok : ∀ f g, ΓPb f = some g → g.ok Try.prog f := addCtr_ok (addCtr_ok ΓG0_ok (hp_ok Try.func118 (by kernel_rfl) (by kernel_rfl) Small_spec)) (hp_ok Try.func97 (by kernel_rfl) (by kernel_rfl) Shape_spec)
theorem Body_spec : HpSpec Try.prog 93 sBody := hp_spec hm ΓPb_ok Try.func93 (Λ := fun _ _ => noΛ) fun args bs e hs hp => by
  unfold sBody at hs
  split at hs
  · rename_i l
    split at hs
    · rename_i o n cap B D S hl
      split at hs
      · rename_i b n0 g c p hw
        obtain ⟨hS, he⟩ := bif_some hs
        subst he
        obtain ⟨⟨hp, hm⟩, hc, hsp, hn⟩ := hp
        have hsame := (wrOf_used hw hp).1
        refine ⟨[wB (some b) false (.sl 1 1 0 n0 c), bG n0 g c, ptB S.elem n (gX S) (gY S) S.ext S.whole], ⟨hsame.1, hsame.2.1, same_ptB hS hsp, trivial⟩, ?_⟩
        rw [bods_eq hl]
        exact body_used hc hm hn (pre_of hsp).2
      · cases hs
    · cases hs
  · cases hs
theorem ΓPr_ok : ∀ f g, ΓPr f = some g → g.ok Try.prog f := addCtr_ok (addCtr_ok ΓG0_ok (hp_ok Try.func118 (by kernel_rfl) (by kernel_rfl) Small_spec)) (hp_ok Try.func93 (by kernel_rfl) (by kernel_rfl) Body_spec)
theorem wpt_sp {e n xt : Nat} {x y : Nat → Int} {wh : Bool} (hn : n < 100) (hv : ∀ i, i < n → I64 (x i) ∧ I64 (y i)) : spPre n (winBlk (ptB e n x y xt wh) 2 0 n) := ⟨okAll_rows.2 fun i hi => by
  show isPI [SV.v (.int .i64 (x (0 + i))), SV.v (.int .i64 (y (0 + i)))]
  rw [Nat.zero_add]; exact hv i hi, rfl, by omega⟩
theorem wpt_gX {e n xt : Nat} {x y : Nat → Int} {wh : Bool} : gX (winBlk (ptB e n x y xt wh) 2 0 n) = x := funext fun i => by
  show x (0 + i) = x i
  rw [Nat.zero_add]
theorem wpt_gY {e n xt : Nat} {x y : Nat → Int} {wh : Bool} : gY (winBlk (ptB e n x y xt wh) 2 0 n) = y := funext fun i => by
  show y (0 + i) = y i
  rw [Nat.zero_add]
theorem hsL_len (u v : Nat → Int) : ∀ m : Nat, (hsL u v m).length = 8 * m
  | 0 => rfl
  | m + 1 => by
    show (hsL u v m ++ hL (u m) (v m)).length = _
    rw [List.length_append, hsL_len u v m, hLl]; omega
theorem apG_listL {A : List Int} {n : Nat} (h : A.length = n) (M : List Int) (i : Nat) : apG n (fun i => A.getD i 0) M i = (A ++ M).getD i 0 := by
  subst h
  by_cases h1 : i < A.length
  · rw [apG_old h1, List.getD_eq_getElem?_getD, List.getD_eq_getElem?_getD, List.getElem?_append_left h1]
  · rw [apG_new h1, List.getD_eq_getElem?_getD, List.getD_eq_getElem?_getD, List.getElem?_append_right (by omega)]
theorem reply_1 {b : Bool} {c : RV} {e1 n cap xt : Nat} {x y : Nat → Int} {wh : Bool} {e2 m cp xt2 : Nat} {u v : Nat → Int} {wh2 : Bool} (hc : rvOk c) (hn : n < 100) (hv : ∀ i, i < n → I64 (x i) ∧ I64 (y i)) (hm : m < 200) (hw : ∀ i, i < m → I64 (u i) ∧ I64 (v i)) : vcFn Try.prog ΓPr noΛ Try.f78 [.vp 0 0, reS 1 0 c (.sl 1 2 0 n cap) (.sl 2 2 0 m cp)] (heapOf [wB (some b) true nilS, ptB e1 n x y xt wh, ptB e2 m u v xt2 wh2]) 64 (fun y' h' => FinE [wB (some b) true nilS, ptB e1 n x y xt wh, ptB e2 m u v xt2 wh2] (apE (.fresh (some b)) 0 True (6 + rN1 n m) (rpL 1 0 c (rT1 c n x y m u v)) (rpB 0 c (rB1 c n m u v))) y' h') := by
  have hsn := shN_le n
  obtain ⟨h_id, h_bs, h_bg, h_ver, h_gr, h_htv, h_x0v, h_x1v, h_cnt, hbo⟩ := hc
  refine Eq.mpr (vcRw1 b c e1 n cap xt x y wh e2 m cp xt2 u v wh2) ⟨⟨by omega, by omega⟩, fun d0 => ⟨⟨⟨bytesOk_bG _ _ _ (by omega), bd1 (by omega)⟩, h_id⟩, fun d1 => ⟨⟨⟨bytesOk_bG _ _ _ (by omega), bd1 (by omega)⟩, ⟨by omega, by omega⟩⟩, fun d2 => ⟨⟨⟨bytesOk_bG _ _ _ (by omega), bd1 (by omega)⟩, ⟨h_bs, h_bg⟩⟩, fun d3 => ⟨⟨⟨bytesOk_bG _ _ _ (by omega), bd1 (by omega)⟩, h_ver⟩, fun d4 => tailU ?_ ?_ fun i hi => ?_⟩⟩⟩⟩⟩
  · show _ = 6 + (16)
    omega
  · simp only [Bool.or_false, rpB, rB1, hBad, Bool.or_assoc, anyMin, nV, bop, Bool.false_or, show notIn 0 14 = false from rfl]
    first | done | rfl
  · show apG (14) (apG (6) (apG (5) (apG (1) (fun i => ([1] : List Int).getD i 0) (c4 c.id)) ([0])) (hL c.bs c.bg)) (i8 c.ver) i = _
    rw [apG_ap (n := 6) (m := 14) (add_ap (hLl _ _) rfl)]
    rw [apG_ap (n := 5) (m := 6) (add_ap (rfl) rfl)]
    rw [apG_ap (n := 1) (m := 5) (add_ap (c4l _) rfl)]
    rw [apG_listQ]
    rfl
theorem reply_2 {b : Bool} {c : RV} {e1 n cap xt : Nat} {x y : Nat → Int} {wh : Bool} {e2 m cp xt2 : Nat} {u v : Nat → Int} {wh2 : Bool} (hc : rvOk c) (hn : n < 100) (hv : ∀ i, i < n → I64 (x i) ∧ I64 (y i)) (hm : m < 200) (hw : ∀ i, i < m → I64 (u i) ∧ I64 (v i)) : vcFn Try.prog ΓPr noΛ Try.f78 [.vp 0 0, reS 2 0 c (.sl 1 2 0 n cap) (.sl 2 2 0 m cp)] (heapOf [wB (some b) true nilS, ptB e1 n x y xt wh, ptB e2 m u v xt2 wh2]) 64 (fun y' h' => FinE [wB (some b) true nilS, ptB e1 n x y xt wh, ptB e2 m u v xt2 wh2] (apE (.fresh (some b)) 0 True (6 + rN2 n m) (rpL 2 0 c (rT2 c n x y m u v)) (rpB 0 c (rB2 c n m u v))) y' h') := by
  have hsn := shN_le n
  obtain ⟨h_id, h_bs, h_bg, h_ver, h_gr, h_htv, h_x0v, h_x1v, h_cnt, hbo⟩ := hc
  refine Eq.mpr (vcRw2 b c e1 n cap xt x y wh e2 m cp xt2 u v wh2) ⟨⟨by omega, by omega⟩, fun d0 => ⟨⟨⟨bytesOk_bG _ _ _ (by omega), bd1 (by omega)⟩, h_id⟩, fun d1 => ⟨⟨⟨bytesOk_bG _ _ _ (by omega), bd1 (by omega)⟩, ⟨by omega, by omega⟩⟩, fun d2 => ⟨⟨⟨bytesOk_bG _ _ _ (by omega), bd1 (by omega)⟩, ⟨h_bs, h_bg⟩⟩, fun d3 => tailU ?_ ?_ fun i hi => ?_⟩⟩⟩⟩
  · show _ = 6 + (8)
    omega
  · simp only [Bool.or_false, rpB, rB2, hBad, Bool.or_assoc, anyMin, nV, bop, Bool.false_or, show notIn 0 14 = false from rfl]
    first | done | rfl
  · show apG (6) (apG (5) (apG (1) (fun i => ([2] : List Int).getD i 0) (c4 c.id)) ([0])) (hL c.bs c.bg) i = _
    rw [apG_ap (n := 5) (m := 6) (add_ap (rfl) rfl)]
    rw [apG_ap (n := 1) (m := 5) (add_ap (c4l _) rfl)]
    rw [apG_listQ]
    rfl
theorem reply_3 {b : Bool} {c : RV} {e1 n cap xt : Nat} {x y : Nat → Int} {wh : Bool} {e2 m cp xt2 : Nat} {u v : Nat → Int} {wh2 : Bool} (hc : rvOk c) (hn : n < 100) (hv : ∀ i, i < n → I64 (x i) ∧ I64 (y i)) (hm : m < 200) (hw : ∀ i, i < m → I64 (u i) ∧ I64 (v i)) : vcFn Try.prog ΓPr noΛ Try.f78 [.vp 0 0, reS 3 0 c (.sl 1 2 0 n cap) (.sl 2 2 0 m cp)] (heapOf [wB (some b) true nilS, ptB e1 n x y xt wh, ptB e2 m u v xt2 wh2]) 64 (fun y' h' => FinE [wB (some b) true nilS, ptB e1 n x y xt wh, ptB e2 m u v xt2 wh2] (apE (.fresh (some b)) 0 True (6 + rN3 n m) (rpL 3 0 c (rT3 c n x y m u v)) (rpB 0 c (rB3 c n m u v))) y' h') := by
  have hsn := shN_le n
  obtain ⟨h_id, h_bs, h_bg, h_ver, h_gr, h_htv, h_x0v, h_x1v, h_cnt, hbo⟩ := hc
  refine Eq.mpr (vcRw3 b c e1 n cap xt x y wh e2 m cp xt2 u v wh2) ⟨⟨by omega, by omega⟩, fun d0 => ⟨⟨⟨bytesOk_bG _ _ _ (by omega), bd1 (by omega)⟩, h_id⟩, fun d1 => ⟨⟨⟨bytesOk_bG _ _ _ (by omega), bd1 (by omega)⟩, ⟨by omega, by omega⟩⟩, fun d2 => ⟨⟨⟨bytesOk_bG _ _ _ (by omega), bd1 (by omega)⟩, ⟨h_bs, h_bg⟩⟩, fun d3 => ⟨⟨⟨bytesOk_bG _ _ _ (by omega), bd1 (by omega)⟩, h_ver⟩, fun d4 => tailU ?_ ?_ fun i hi => ?_⟩⟩⟩⟩⟩
  · show _ = 6 + (16)
    omega
  · simp only [Bool.or_false, rpB, rB3, hBad, Bool.or_assoc, anyMin, nV, bop, Bool.false_or, show notIn 0 14 = false from rfl]
    first | done | rfl
  · show apG (14) (apG (6) (apG (5) (apG (1) (fun i => ([3] : List Int).getD i 0) (c4 c.id)) ([0])) (hL c.bs c.bg)) (i8 c.ver) i = _
    rw [apG_ap (n := 6) (m := 14) (add_ap (hLl _ _) rfl)]
    rw [apG_ap (n := 5) (m := 6) (add_ap (rfl) rfl)]
    rw [apG_ap (n := 1) (m := 5) (add_ap (c4l _) rfl)]
    rw [apG_listQ]
    rfl
theorem reply_4 {b : Bool} {c : RV} {e1 n cap xt : Nat} {x y : Nat → Int} {wh : Bool} {e2 m cp xt2 : Nat} {u v : Nat → Int} {wh2 : Bool} (hc : rvOk c) (hn : n < 100) (hv : ∀ i, i < n → I64 (x i) ∧ I64 (y i)) (hm : m < 200) (hw : ∀ i, i < m → I64 (u i) ∧ I64 (v i)) : vcFn Try.prog ΓPr noΛ Try.f78 [.vp 0 0, reS 4 0 c (.sl 1 2 0 n cap) (.sl 2 2 0 m cp)] (heapOf [wB (some b) true nilS, ptB e1 n x y xt wh, ptB e2 m u v xt2 wh2]) 64 (fun y' h' => FinE [wB (some b) true nilS, ptB e1 n x y xt wh, ptB e2 m u v xt2 wh2] (apE (.fresh (some b)) 0 True (6 + rN4 n m) (rpL 4 0 c (rT4 c n x y m u v)) (rpB 0 c (rB4 c n m u v))) y' h') := by
  have hsn := shN_le n
  obtain ⟨h_id, h_bs, h_bg, h_ver, h_gr, h_htv, h_x0v, h_x1v, h_cnt, hbo⟩ := hc
  have h_vc := vcRw4 b c e1 n cap xt x y wh e2 m cp xt2 u v wh2
  repeat (first | unfold vcRw4_1 at h_vc)
  refine Eq.mpr h_vc ⟨⟨by omega, by omega⟩, fun d0 => ⟨⟨⟨bytesOk_bG _ _ _ (by omega), bd1 (by omega)⟩, h_id⟩, fun d1 => ⟨⟨⟨bytesOk_bG _ _ _ (by omega), bd1 (by omega)⟩, ⟨by omega, by omega⟩⟩, fun d2 => ⟨⟨⟨bytesOk_bG _ _ _ (by omega), bd1 (by omega)⟩, ⟨h_bs, h_bg⟩⟩, fun d3 => ⟨⟨⟨bytesOk_bG _ _ _ (by omega), bd1 (by omega)⟩, h_ver⟩, fun d4 => ⟨⟨⟨bytesOk_bG _ _ _ (by omega), bd1 (by omega)⟩, h_gr⟩, fun d5 => tailU ?_ ?_ fun i hi => ?_⟩⟩⟩⟩⟩⟩
  · show _ = 6 + (20)
    omega
  · simp only [Bool.or_false, rpB, rB4, hBad, Bool.or_assoc, anyMin, nV, bop, Bool.false_or, show notIn 0 14 = false from rfl]
    first | done | rfl
  · show apG (22) (apG (14) (apG (6) (apG (5) (apG (1) (fun i => ([4] : List Int).getD i 0) (c4 c.id)) ([0])) (hL c.bs c.bg)) (i8 c.ver)) (c4 c.gr) i = _
    rw [apG_ap (n := 14) (m := 22) (add_ap (i8l _) rfl)]
    rw [apG_ap (n := 6) (m := 14) (add_ap (hLl _ _) rfl)]
    rw [apG_ap (n := 5) (m := 6) (add_ap (rfl) rfl)]
    rw [apG_ap (n := 1) (m := 5) (add_ap (c4l _) rfl)]
    rw [apG_listQ]
    rfl
theorem reply_5 {b : Bool} {c : RV} {e1 n cap xt : Nat} {x y : Nat → Int} {wh : Bool} {e2 m cp xt2 : Nat} {u v : Nat → Int} {wh2 : Bool} (hc : rvOk c) (hn : n < 100) (hv : ∀ i, i < n → I64 (x i) ∧ I64 (y i)) (hm : m < 200) (hw : ∀ i, i < m → I64 (u i) ∧ I64 (v i)) : vcFn Try.prog ΓPr noΛ Try.f78 [.vp 0 0, reS 5 0 c (.sl 1 2 0 n cap) (.sl 2 2 0 m cp)] (heapOf [wB (some b) true nilS, ptB e1 n x y xt wh, ptB e2 m u v xt2 wh2]) 64 (fun y' h' => FinE [wB (some b) true nilS, ptB e1 n x y xt wh, ptB e2 m u v xt2 wh2] (apE (.fresh (some b)) 0 True (6 + rN5 n m) (rpL 5 0 c (rT5 c n x y m u v)) (rpB 0 c (rB5 c n m u v))) y' h') := by
  have hsn := shN_le n
  obtain ⟨h_id, h_bs, h_bg, h_ver, h_gr, h_htv, h_x0v, h_x1v, h_cnt, hbo⟩ := hc
  refine Eq.mpr (vcRw5 b c e1 n cap xt x y wh e2 m cp xt2 u v wh2) ⟨⟨by omega, by omega⟩, fun d0 => ⟨⟨⟨bytesOk_bG _ _ _ (by omega), bd1 (by omega)⟩, h_id⟩, fun d1 => ⟨⟨⟨bytesOk_bG _ _ _ (by omega), bd1 (by omega)⟩, ⟨by omega, by omega⟩⟩, fun d2 => ⟨⟨⟨bytesOk_bG _ _ _ (by omega), bd1 (by omega)⟩, h_gr⟩, fun d3 => tailU ?_ ?_ fun i hi => ?_⟩⟩⟩⟩
  · show _ = 6 + (4)
    omega
  · simp only [Bool.or_false, rpB, rB5, hBad, Bool.or_assoc, anyMin, nV, bop, Bool.false_or, show notIn 0 14 = false from rfl]
    first | done | rfl
  · show apG (6) (apG (5) (apG (1) (fun i => ([5] : List Int).getD i 0) (c4 c.id)) ([0])) (c4 c.gr) i = _
    rw [apG_ap (n := 5) (m := 6) (add_ap (rfl) rfl)]
    rw [apG_ap (n := 1) (m := 5) (add_ap (c4l _) rfl)]
    rw [apG_listQ]
    rfl
theorem reply_6 {b : Bool} {c : RV} {e1 n cap xt : Nat} {x y : Nat → Int} {wh : Bool} {e2 m cp xt2 : Nat} {u v : Nat → Int} {wh2 : Bool} (hc : rvOk c) (hn : n < 100) (hv : ∀ i, i < n → I64 (x i) ∧ I64 (y i)) (hm : m < 200) (hw : ∀ i, i < m → I64 (u i) ∧ I64 (v i)) : vcFn Try.prog ΓPr noΛ Try.f78 [.vp 0 0, reS 6 0 c (.sl 1 2 0 n cap) (.sl 2 2 0 m cp)] (heapOf [wB (some b) true nilS, ptB e1 n x y xt wh, ptB e2 m u v xt2 wh2]) 64 (fun y' h' => FinE [wB (some b) true nilS, ptB e1 n x y xt wh, ptB e2 m u v xt2 wh2] (apE (.fresh (some b)) 0 True (6 + rN6 n m) (rpL 6 0 c (rT6 c n x y m u v)) (rpB 0 c (rB6 c n m u v))) y' h') := by
  have hsn := shN_le n
  obtain ⟨h_id, h_bs, h_bg, h_ver, h_gr, h_htv, h_x0v, h_x1v, h_cnt, hbo⟩ := hc
  refine Eq.mpr (vcRw6 b c e1 n cap xt x y wh e2 m cp xt2 u v wh2) ⟨⟨by omega, by omega⟩, fun d0 => ⟨⟨⟨bytesOk_bG _ _ _ (by omega), bd1 (by omega)⟩, h_id⟩, fun d1 => ⟨⟨⟨bytesOk_bG _ _ _ (by omega), bd1 (by omega)⟩, ⟨by omega, by omega⟩⟩, fun d2 => ⟨⟨⟨bytesOk_bG _ _ _ (by omega), bd1 (by omega)⟩, h_gr⟩, fun d3 => tailU ?_ ?_ fun i hi => ?_⟩⟩⟩⟩
  · show _ = 6 + (4)
    omega
  · simp only [Bool.or_false, rpB, rB6, hBad, Bool.or_assoc, anyMin, nV, bop, Bool.false_or, show notIn 0 14 = false from rfl]
    first | done | rfl
  · show apG (6) (apG (5) (apG (1) (fun i => ([6] : List Int).getD i 0) (c4 c.id)) ([0])) (c4 c.gr) i = _
    rw [apG_ap (n := 5) (m := 6) (add_ap (rfl) rfl)]
    rw [apG_ap (n := 1) (m := 5) (add_ap (c4l _) rfl)]
    rw [apG_listQ]
    rfl
theorem reply_7 {b : Bool} {c : RV} {e1 n cap xt : Nat} {x y : Nat → Int} {wh : Bool} {e2 m cp xt2 : Nat} {u v : Nat → Int} {wh2 : Bool} (hc : rvOk c) (hn : n < 100) (hv : ∀ i, i < n → I64 (x i) ∧ I64 (y i)) (hm : m < 200) (hw : ∀ i, i < m → I64 (u i) ∧ I64 (v i)) : vcFn Try.prog ΓPr noΛ Try.f78 [.vp 0 0, reS 7 0 c (.sl 1 2 0 n cap) (.sl 2 2 0 m cp)] (heapOf [wB (some b) true nilS, ptB e1 n x y xt wh, ptB e2 m u v xt2 wh2]) 64 (fun y' h' => FinE [wB (some b) true nilS, ptB e1 n x y xt wh, ptB e2 m u v xt2 wh2] (apE (.fresh (some b)) 0 True (6 + rN7 n m) (rpL 7 0 c (rT7 c n x y m u v)) (rpB 0 c (rB7 c n m u v))) y' h') := by
  have hsn := shN_le n
  obtain ⟨h_id, h_bs, h_bg, h_ver, h_gr, h_htv, h_x0v, h_x1v, h_cnt, hbo⟩ := hc
  have hbN : boN n ≤ 2000 := by unfold boN; omega
  refine Eq.mpr (vcRw7 b c e1 n cap xt x y wh e2 m cp xt2 u v wh2) ⟨⟨by omega, by omega⟩, fun d0 => ⟨⟨⟨bytesOk_bG _ _ _ (by omega), bd1 (by omega)⟩, h_id⟩, fun d1 => ⟨⟨⟨bytesOk_bG _ _ _ (by omega), bd1 (by omega)⟩, ⟨by omega, by omega⟩⟩, fun d2 => ⟨⟨⟨bytesOk_bG _ _ _ (by omega), bd1 (by omega)⟩, ⟨h_bs, h_bg⟩⟩, fun d3 => ⟨⟨⟨bytesOk_bG _ _ _ (by omega), by decide⟩, ⟨hbo, wpt_sp hn hv, hn⟩⟩, fun d4 => tailU ?_ ?_ fun i hi => ?_⟩⟩⟩⟩⟩
  · show _ = 6 + (8 + boN n)
    omega
  · simp only [Bool.or_false, rpB, rB7, hBad, Bool.or_assoc, Bool.false_or, show notIn 0 14 = false from rfl]
  · rw [wpt_gX, wpt_gY]
    show apG (14) (apG (6) (apG (5) (apG (1) (fun i => ([7] : List Int).getD i 0) (c4 c.id)) ([0])) (hL c.bs c.bg)) (boL c.o n x y) i = _
    rw [apG_ap (n := 6) (m := 14) (add_ap (hLl _ _) rfl)]
    rw [apG_ap (n := 5) (m := 6) (add_ap (rfl) rfl)]
    rw [apG_ap (n := 1) (m := 5) (add_ap (c4l _) rfl)]
    rw [apG_listQ]
    rfl
theorem reply_8 {b : Bool} {c : RV} {e1 n cap xt : Nat} {x y : Nat → Int} {wh : Bool} {e2 m cp xt2 : Nat} {u v : Nat → Int} {wh2 : Bool} (hc : rvOk c) (hn : n < 100) (hv : ∀ i, i < n → I64 (x i) ∧ I64 (y i)) (hm : m < 200) (hw : ∀ i, i < m → I64 (u i) ∧ I64 (v i)) : vcFn Try.prog ΓPr (ΛRw8 (b || (notIn c.id 2147483647 || notIn (m : Int) 64)) ([8] ++ (c4 c.id ++ ([0] ++ [(m : Int) % 256]))) m u v) Try.f78 [.vp 0 0, reS 8 0 c (.sl 1 2 0 n cap) (.sl 2 2 0 m cp)] (heapOf [wB (some b) true nilS, ptB e1 n x y xt wh, ptB e2 m u v xt2 wh2]) 64 (fun y' h' => FinE [wB (some b) true nilS, ptB e1 n x y xt wh, ptB e2 m u v xt2 wh2] (apE (.fresh (some b)) 0 True (6 + rN8 n m) (rpL 8 0 c (rT8 c n x y m u v)) (rpB 0 c (rB8 c n m u v))) y' h') := by
  have hsn := shN_le n
  obtain ⟨h_id, h_bs, h_bg, h_ver, h_gr, h_htv, h_x0v, h_x1v, h_cnt, hbo⟩ := hc
  refine Eq.mpr (vcRw8 b c e1 n cap xt x y wh e2 m cp xt2 u v wh2) ⟨⟨by omega, by omega⟩, fun d0 => ⟨⟨⟨bytesOk_bG _ _ _ (by omega), bd1 (by omega)⟩, h_id⟩, fun d1 => ⟨⟨⟨bytesOk_bG _ _ _ (by omega), bd1 (by omega)⟩, ⟨by omega, by omega⟩⟩, fun d2 => ⟨⟨⟨bytesOk_bG _ _ _ (by omega), bd1 (by omega)⟩, ⟨by omega, by omega⟩⟩, fun d3 => ⟨⟨⟨0, 7 + d3⟩, ⟨Nat.zero_le _, Nat.le_add_right _ _⟩, rfl, ⟨rfl, Nat.le_refl _, rfl, ?_⟩, rfl, Nat.le_refl _, fun i hi => ?_⟩, fun z ⟨h2, h3⟩ => sel_of (fun hlt => ?_) fun hge => ?_⟩⟩⟩⟩⟩
  · simp only [Bool.or_false, Bool.or_assoc, Bool.false_or, anyH, show notIn 0 14 = false from rfl]
  · show [SV.v (.int .u8 (apG 6 (apG 5 (apG 1 (fun i => ([8] : List Int).getD i 0) (c4 c.id)) [0]) [(m : Int) % 256] i))] = [SV.v (.int .u8 (([8] ++ (c4 c.id ++ ([0] ++ [(m : Int) % 256])) ++ []).getD i 0))]
    rw [apG_ap (n := 5) (m := 6) (L := [0]) rfl, apG_ap (n := 1) (m := 5) (add_ap (c4l _) rfl), apG_listQ, List.append_nil]
  · have hlt := of_decide_eq_true hlt
    have hlt : z.i < m := by omega
    have hwr : IntKind.i64.wrap ((z.i : Int) + 1) = ((z.i + 1 : Nat) : Int) := wrap_i64 ⟨by omega, by omega⟩
    have hvx := hw z.i hlt
    rw [show 0 + Int.toNat (z.i : Int) = z.i by omega]
    refine ⟨⟨by omega, by omega⟩, ⟨⟨bytesOk_bG _ _ _ (by omega), by show 7 + 8 * z.i ≤ 1000000000; omega⟩, hvx⟩, fun c1 => ⟨⟨z.i + 1, 7 + 8 * z.i + 8 + c1⟩, ⟨⟨by show z.i + 1 ≤ m; omega, (by show 7 + 8 * (z.i + 1) ≤ 7 + 8 * z.i + 8 + c1; omega)⟩, int_mk hwr, ⟨rfl, Nat.le_refl _, ?_, ?_⟩, ?_, Nat.le_refl _, fun i hi => ?_⟩, by show m - (z.i + 1) < m - z.i; omega⟩⟩
    · show SV.sl _ 1 0 _ _ = SV.sl _ 1 0 (7 + 8 * (z.i + 1)) _
      rw [show 7 + 8 * (z.i + 1) = 7 + 8 * z.i + 8 by omega]
    · show SV.v (.bool (b || (notIn c.id 2147483647 || notIn (m : Int) 64) || anyH u v z.i || hBad (u z.i) (v z.i))) = SV.v (.bool (b || (notIn c.id 2147483647 || notIn (m : Int) 64) || (anyH u v z.i || hBad (u z.i) (v z.i))))
      simp only [Bool.or_assoc]
    · show 7 + 8 * z.i + 8 = 7 + 8 * (z.i + 1)
      omega
    · have hl : ([8] ++ (c4 c.id ++ ([0] ++ [(m : Int) % 256])) ++ hsL u v z.i).length = 7 + 8 * z.i := by
        simp only [List.length_append, c4l, hsL_len, List.length_cons, List.length_nil]
      refine congrArg (fun z => [SV.v (.int .u8 z)]) ?_
      show apG (7 + 8 * z.i) (fun i => ([8] ++ (c4 c.id ++ ([0] ++ [(m : Int) % 256])) ++ hsL u v z.i).getD i 0) (hL (u z.i) (v z.i)) i = ([8] ++ (c4 c.id ++ ([0] ++ [(m : Int) % 256])) ++ (hsL u v z.i ++ hL (u z.i) (v z.i))).getD i 0
      rw [← List.append_assoc]
      exact apG_listL hl _ i
  · have hge := of_decide_eq_false hge
    have hx : z.i = m := by omega
    rw [hx] at h3 ⊢
    have h3 : 7 + 8 * m ≤ z.c := h3
    have he : 6 + (1 + 8 * m) + (z.c - (7 + 8 * m)) = z.c := by omega
    have he2 : 6 + (1 + 8 * m) = 7 + 8 * m := by omega
    refine ⟨z.c - (7 + 8 * m), trivial, ⟨rfl, Nat.le_refl _, ?_, ?_⟩, ?_, ?_, fun i hi => ?_⟩
    · show SV.sl 40 1 0 (7 + 8 * m) z.c = SV.sl 40 1 0 (6 + (1 + 8 * m)) (6 + (1 + 8 * m) + (z.c - (7 + 8 * m)))
      rw [he, he2]
    · simp only [rpB, rB8, show notIn 0 14 = false from rfl, Bool.false_or, Bool.or_assoc]
    · exact he2.symm
    · show 6 + (1 + 8 * m) + _ ≤ _
      omega
    · unfold rpL rT8
      simp only [List.append_assoc]
      rfl
theorem reply_9 {b : Bool} {c : RV} {e1 n cap xt : Nat} {x y : Nat → Int} {wh : Bool} {e2 m cp xt2 : Nat} {u v : Nat → Int} {wh2 : Bool} (hc : rvOk c) (hn : n < 100) (hv : ∀ i, i < n → I64 (x i) ∧ I64 (y i)) (hm : m < 200) (hw : ∀ i, i < m → I64 (u i) ∧ I64 (v i)) : vcFn Try.prog ΓPr noΛ Try.f78 [.vp 0 0, reS 9 0 c (.sl 1 2 0 n cap) (.sl 2 2 0 m cp)] (heapOf [wB (some b) true nilS, ptB e1 n x y xt wh, ptB e2 m u v xt2 wh2]) 64 (fun y' h' => FinE [wB (some b) true nilS, ptB e1 n x y xt wh, ptB e2 m u v xt2 wh2] (apE (.fresh (some b)) 0 True (6 + rN9 n m) (rpL 9 0 c (rT9 c n x y m u v)) (rpB 0 c (rB9 c n m u v))) y' h') := by
  have hsn := shN_le n
  obtain ⟨h_id, h_bs, h_bg, h_ver, h_gr, h_htv, h_x0v, h_x1v, h_cnt, hbo⟩ := hc
  have h_vc := vcRw9 b c e1 n cap xt x y wh e2 m cp xt2 u v wh2
  repeat (first | unfold vcRw9_1 at h_vc)
  refine Eq.mpr h_vc ⟨⟨by omega, by omega⟩, fun d0 => ⟨⟨⟨bytesOk_bG _ _ _ (by omega), bd1 (by omega)⟩, h_id⟩, fun d1 => ⟨⟨⟨bytesOk_bG _ _ _ (by omega), bd1 (by omega)⟩, ⟨by omega, by omega⟩⟩, fun d2 => ⟨⟨⟨bytesOk_bG _ _ _ (by omega), bd1 (by omega)⟩, ⟨h_bs, h_bg⟩⟩, fun d3 => ⟨⟨⟨bytesOk_bG _ _ _ (by omega), bd1 (by omega)⟩, trivial⟩, fun d4 => ⟨⟨⟨bytesOk_bG _ _ _ (by omega), bd1 (by omega)⟩, ⟨rfl, by omega, by omega, fun i hi => by
    have : i = 0 ∨ i = 1 ∨ i = 2 := by omega
    rcases this with rfl | rfl | rfl
    · exact h_htv
    · exact h_x0v
    · exact h_x1v⟩⟩, fun d5 => tailU ?_ ?_ fun i hi => ?_⟩⟩⟩⟩⟩⟩
  · show _ = 6 + (36)
    omega
  · simp only [Bool.or_false, rpB, rB9, hBad, Bool.or_assoc, anyMin, nV, bop, Bool.false_or, show notIn 0 14 = false from rfl]
    first | done | rfl
  · show apG (15) (apG (14) (apG (6) (apG (5) (apG (1) (fun i => ([9] : List Int).getD i 0) (c4 c.id)) ([0])) (hL c.bs c.bg)) (flB c.hit)) ((numL c.htv c.htf ++ numL c.x0v c.x0f ++ numL c.x1v c.x1f)) i = _
    rw [apG_ap (n := 14) (m := 15) (add_ap (rfl) rfl)]
    rw [apG_ap (n := 6) (m := 14) (add_ap (hLl _ _) rfl)]
    rw [apG_ap (n := 5) (m := 6) (add_ap (rfl) rfl)]
    rw [apG_ap (n := 1) (m := 5) (add_ap (c4l _) rfl)]
    rw [apG_listQ]
    rfl
theorem reply_10 {b : Bool} {c : RV} {e1 n cap xt : Nat} {x y : Nat → Int} {wh : Bool} {e2 m cp xt2 : Nat} {u v : Nat → Int} {wh2 : Bool} (hc : rvOk c) (hn : n < 100) (hv : ∀ i, i < n → I64 (x i) ∧ I64 (y i)) (hm : m < 200) (hw : ∀ i, i < m → I64 (u i) ∧ I64 (v i)) : vcFn Try.prog ΓPr noΛ Try.f78 [.vp 0 0, reS 10 0 c (.sl 1 2 0 n cap) (.sl 2 2 0 m cp)] (heapOf [wB (some b) true nilS, ptB e1 n x y xt wh, ptB e2 m u v xt2 wh2]) 64 (fun y' h' => FinE [wB (some b) true nilS, ptB e1 n x y xt wh, ptB e2 m u v xt2 wh2] (apE (.fresh (some b)) 0 True (6 + rN10 n m) (rpL 10 0 c (rT10 c n x y m u v)) (rpB 0 c (rB10 c n m u v))) y' h') := by
  have hsn := shN_le n
  obtain ⟨h_id, h_bs, h_bg, h_ver, h_gr, h_htv, h_x0v, h_x1v, h_cnt, hbo⟩ := hc
  refine Eq.mpr (vcRw10 b c e1 n cap xt x y wh e2 m cp xt2 u v wh2) ⟨⟨by omega, by omega⟩, fun d0 => ⟨⟨⟨bytesOk_bG _ _ _ (by omega), bd1 (by omega)⟩, h_id⟩, fun d1 => ⟨⟨⟨bytesOk_bG _ _ _ (by omega), bd1 (by omega)⟩, ⟨by omega, by omega⟩⟩, fun d2 => ⟨⟨⟨bytesOk_bG _ _ _ (by omega), bd1 (by omega)⟩, h_cnt⟩, fun d3 => tailU ?_ ?_ fun i hi => ?_⟩⟩⟩⟩
  · show _ = 6 + (4)
    omega
  · simp only [Bool.or_false, rpB, rB10, hBad, Bool.or_assoc, anyMin, nV, bop, Bool.false_or, show notIn 0 14 = false from rfl]
    first | done | rfl
  · show apG (6) (apG (5) (apG (1) (fun i => ([10] : List Int).getD i 0) (c4 c.id)) ([0])) (c4 c.cnt) i = _
    rw [apG_ap (n := 5) (m := 6) (add_ap (rfl) rfl)]
    rw [apG_ap (n := 1) (m := 5) (add_ap (c4l _) rfl)]
    rw [apG_listQ]
    rfl
theorem reply_P {k : Int} {a : Nat} {b : Bool} {c : RV} {e1 n cap xt : Nat} {x y : Nat → Int} {wh : Bool} {e2 m cp xt2 : Nat} {u v : Nat → Int} {wh2 : Bool} (hc : rvOk c) (hn : n < 100) (hv : ∀ i, i < n → I64 (x i) ∧ I64 (y i)) (hm : m < 200) (hw : ∀ i, i < m → I64 (u i) ∧ I64 (v i)) (hk : I64 k) (ha : I64 (Int.ofNat (a + 1))) : vcFn Try.prog ΓPr noΛ Try.f78 [.vp 0 0, reS k (Int.ofNat (a + 1)) c (.sl 1 2 0 n cap) (.sl 2 2 0 m cp)] (heapOf [wB (some b) true nilS, ptB e1 n x y xt wh, ptB e2 m u v xt2 wh2]) 64 (fun y' h' => FinE [wB (some b) true nilS, ptB e1 n x y xt wh, ptB e2 m u v xt2 wh2] (apE (.fresh (some b)) 0 True (6 + (bif Int.ofNat (a + 1) == 14 then 8 else 0)) (rpL k (Int.ofNat (a + 1)) c ((bif Int.ofNat (a + 1) == 14 then i8 c.ver else []))) (rpB (Int.ofNat (a + 1)) c ((bif Int.ofNat (a + 1) == 14 then notIn c.ver 1099511627776 else false)))) y' h') := by
  obtain ⟨h_id, h_bs, h_bg, h_ver, h_gr, h_htv, h_x0v, h_x1v, h_cnt, hbo⟩ := hc
  have h_vc := vcRwP k a b c e1 n cap xt x y wh e2 m cp xt2 u v wh2
  repeat (first | unfold vcRwP_1 at h_vc)
  refine Eq.mpr h_vc ⟨hk, fun d0 => ⟨⟨⟨bytesOk_bG _ _ _ (by omega), bd1 (by omega)⟩, h_id⟩, fun d1 => ⟨⟨⟨bytesOk_bG _ _ _ (by omega), bd1 (by omega)⟩, ha⟩, fun d2 => sel_of (fun e => ⟨⟨⟨bytesOk_bG _ _ _ (by omega), bd1 (by omega)⟩, h_ver⟩, fun d3 => ?_⟩) fun e => ?_⟩⟩⟩
  · rw [e]
    refine tailU rfl ?_ fun i hi => ?_
    · simp only [Bool.or_false, rpB, Bool.or_assoc, Bool.false_or, cond_true]
    · show apG 6 (apG 5 (apG 1 (fun i => ([k % 256] : List Int).getD i 0) (c4 c.id)) [Int.ofNat (a + 1) % 256]) (i8 c.ver) i = _
      rw [apG_ap (n := 5) (m := 6) (L := [Int.ofNat (a + 1) % 256]) rfl, apG_ap (n := 1) (m := 5) (add_ap (c4l _) rfl), apG_listQ]
      rfl
  · rw [e]
    refine tailU rfl ?_ fun i hi => ?_
    · simp only [Bool.or_false, rpB, Bool.or_assoc, Bool.false_or, cond_false]
    · show apG 5 (apG 1 (fun i => ([k % 256] : List Int).getD i 0) (c4 c.id)) [Int.ofNat (a + 1) % 256] i = _
      rw [apG_ap (n := 1) (m := 5) (add_ap (c4l _) rfl), apG_listQ]
      rfl
theorem reply_M {k : Int} {a : Nat} {b : Bool} {c : RV} {e1 n cap xt : Nat} {x y : Nat → Int} {wh : Bool} {e2 m cp xt2 : Nat} {u v : Nat → Int} {wh2 : Bool} (hc : rvOk c) (hn : n < 100) (hv : ∀ i, i < n → I64 (x i) ∧ I64 (y i)) (hm : m < 200) (hw : ∀ i, i < m → I64 (u i) ∧ I64 (v i)) (hk : I64 k) (ha : I64 (Int.negSucc a)) : vcFn Try.prog ΓPr noΛ Try.f78 [.vp 0 0, reS k (Int.negSucc a) c (.sl 1 2 0 n cap) (.sl 2 2 0 m cp)] (heapOf [wB (some b) true nilS, ptB e1 n x y xt wh, ptB e2 m u v xt2 wh2]) 64 (fun y' h' => FinE [wB (some b) true nilS, ptB e1 n x y xt wh, ptB e2 m u v xt2 wh2] (apE (.fresh (some b)) 0 True (6 + 0) (rpL k (Int.negSucc a) c ([])) (rpB (Int.negSucc a) c (false))) y' h') := by
  obtain ⟨h_id, h_bs, h_bg, h_ver, h_gr, h_htv, h_x0v, h_x1v, h_cnt, hbo⟩ := hc
  refine Eq.mpr (vcRwM k a b c e1 n cap xt x y wh e2 m cp xt2 u v wh2) ⟨hk, fun d0 => ⟨⟨⟨bytesOk_bG _ _ _ (by omega), bd1 (by omega)⟩, h_id⟩, fun d1 => ⟨⟨⟨bytesOk_bG _ _ _ (by omega), bd1 (by omega)⟩, ha⟩, fun d2 => tailU rfl ?_ fun i hi => ?_⟩⟩⟩
  · simp only [Bool.or_false, rpB, Bool.or_assoc, Bool.false_or]
  · show apG 5 (apG 1 (fun i => ([k % 256] : List Int).getD i 0) (c4 c.id)) [Int.negSucc a % 256] i = _
    rw [apG_ap (n := 1) (m := 5) (add_ap (c4l _) rfl), apG_listQ]
    rfl
end Go.Proofs.Ytjdldadmaaeimaa
end
section
namespace Go.Proofs.Ytjdldadmaaeimaa
open Go.SE Go.RowKit
def sSame_ww : List SV → List Ro → Option (Option Prop × SV)
  | [.agg x, .agg y], [⟨2, n', r1⟩, ⟨2, m', r2⟩, ⟨2, p', r3⟩, ⟨2, q', r4⟩] => match cellsOfR x, cellsOfR y with
    | some (k1, e1, a, .sl 0 2 0 n _, .sl 1 2 0 m _), some (k2, e2, b, .sl 2 2 0 p _, .sl 3 2 0 q _) => some (some (rowsPre n n' r1 ∧ rowsPre m m' r2 ∧ rowsPre p p' r3 ∧ rowsPre q q' r4), bV (sameRB k1 k2 e1 e2 a b (sameBB a.o b.o (sameS (sbOf a.o) n (fun i => gi (r1 i)) (sbOf b.o) p (fun i => gi (r3 i)))) (sameP m (fun i => gi (r2 i)) q (fun i => gi (r4 i)))))
    | _, _ => none
  | _, _ => none
def sSame_nn : List SV → List Ro → Option (Option Prop × SV)
  | [.agg x, .agg y], [⟨2, p', r1⟩, ⟨2, q', r2⟩] => match cellsOfR x, cellsOfR y with
    | some (k1, e1, a, .v (.slice none 0 0), .v (.slice none 0 0)), some (k2, e2, b, .sl 0 2 0 p _, .sl 1 2 0 q _) => some (some (rowsPre p p' r1 ∧ rowsPre q q' r2), bV (sameRB k1 k2 e1 e2 a b (sameBB a.o b.o (eqSh (sbOf a.o) (sbOf b.o) && Nat.beq p 0)) (Nat.beq q 0)))
    | _, _ => none
  | _, _ => none
def sSame_wn : List SV → List Ro → Option (Option Prop × SV)
  | [.agg x, .agg y], [⟨2, n', r1⟩, ⟨2, p', r2⟩, ⟨2, q', r3⟩] => match cellsOfR x, cellsOfR y with
    | some (k1, e1, a, .sl 0 2 0 n _, .v (.slice none 0 0)), some (k2, e2, b, .sl 1 2 0 p _, .sl 2 2 0 q _) => some (some (rowsPre n n' r1 ∧ rowsPre p p' r2 ∧ rowsPre q q' r3), bV (sameRB k1 k2 e1 e2 a b (sameBB a.o b.o (sameS (sbOf a.o) n (fun i => gi (r1 i)) (sbOf b.o) p (fun i => gi (r2 i)))) (Nat.beq q 0)))
    | _, _ => none
  | _, _ => none
def sSame_nw : List SV → List Ro → Option (Option Prop × SV)
  | [.agg x, .agg y], [⟨2, m', r1⟩, ⟨2, p', r2⟩, ⟨2, q', r3⟩] => match cellsOfR x, cellsOfR y with
    | some (k1, e1, a, .v (.slice none 0 0), .sl 0 2 0 m _), some (k2, e2, b, .sl 1 2 0 p _, .sl 2 2 0 q _) => some (some (rowsPre m m' r1 ∧ rowsPre p p' r2 ∧ rowsPre q q' r3), bV (sameRB k1 k2 e1 e2 a b (sameBB a.o b.o (eqSh (sbOf a.o) (sbOf b.o) && Nat.beq p 0)) (sameP m (fun i => gi (r1 i)) q (fun i => gi (r3 i)))))
    | _, _ => none
  | _, _ => none
def sSameR := orRo (orRo sSame_ww sSame_nn) (orRo sSame_wn sSame_nw)
theorem ΓSr0_ok : ∀ f g, ΓSr0 f = some g → g.ok Try.prog f := addCtr_ok (addCtr_ok noCtrs_ok (ro_ok Try.func81 (by kernel_rfl) (by kernel_rfl) SameB_spec)) (ro_ok Try.func82 (by kernel_rfl) (by kernel_rfl) (ro_or EqualH_spec EqualNH_spec))
theorem qsame_ww (k1 k2 e1 e2 : Int) (a b : RV) (n nc m mc p pc q qc : Nat) (g h u v : Nat → Int × Int) (hn : n < 1099511627776) (kn : ∀ i, i < n → I64 (g i).1 ∧ I64 (g i).2) (hm : m < 1099511627776) (km : ∀ i, i < m → I64 (h i).1 ∧ I64 (h i).2) (hp : p < 1099511627776) (kp : ∀ i, i < p → I64 (u i).1 ∧ I64 (u i).2) (hq : q < 1099511627776) (kq : ∀ i, i < q → I64 (v i).1 ∧ I64 (v i).2) : vcFn Try.prog ΓSr0 noΛ Try.f36 [reS k1 e1 a (.sl 0 2 0 n nc) (.sl 1 2 0 m mc), reS k2 e2 b (.sl 2 2 0 p pc) (.sl 3 2 0 q qc)] (roHeap [⟨2, n, rowsP g⟩, ⟨2, m, rowsP h⟩, ⟨2, p, rowsP u⟩, ⟨2, q, rowsP v⟩]) 64 (fun y _ => y = bV (sameRB k1 k2 e1 e2 a b (sameBB a.o b.o (sameS (sbOf a.o) n g (sbOf b.o) p u)) (sameP m h q v))) := by
  refine Eq.mpr (vcSame_ww k1 k2 e1 e2 a b n nc n m mc m p pc p q qc q g h u v _) ?_
  rw [gi_rows0 g, gi_rows0 u, gi_rows0 h, gi_rows0 v]
  unfold sameRB
  refine sel_of (fun e => ?_) fun e => by rw [e]; rfl
  rw [e, Bool.true_and]
  refine sel_of (fun e => ?_) fun e => by rw [e]; rfl
  rw [e, Bool.true_and]
  refine sel_of (fun e => ?_) fun e => by rw [e]; rfl
  rw [e, Bool.true_and]
  refine sel_of (fun e => ?_) fun e => by rw [e]; rfl
  rw [e, Bool.true_and]
  refine sel_of (fun e => ?_) fun e => by rw [e]; rfl
  rw [e, Bool.true_and]
  refine sel_of (fun e => ?_) fun e => by rw [e]; rfl
  rw [e, Bool.true_and]
  refine ⟨⟨pre_rows hn kn, pre_rows hp kp⟩, ?_⟩
  refine sel_of (fun e => ?_) fun e => by rw [e]; rfl
  rw [e, Bool.true_and]
  refine ⟨⟨pre_rows hm km, pre_rows hq kq⟩, ?_⟩
  refine sel_of (fun e => ?_) fun e => by rw [e]; rfl
  rw [e, Bool.true_and]
  refine sel_of (fun e => ?_) fun e => by rw [e]; rfl
  rw [e, Bool.true_and]
  rfl
theorem Same_ww_spec : RoSpec Try.prog 36 sSame_ww := ro_spec hm ΓSr0_ok Try.func36 (Λ := fun args bs => noΛ) fun args bs p0 x0 hs hp => by
  unfold sSame_ww at hs
  split at hs <;> try (cases hs; done)
  rename_i x y n' r1 m' r2 p' r3 q' r4
  split at hs <;> try (cases hs; done)
  rename_i k1 e1 a n nc m mc k2 e2 b p pc q qc hx hy
  have hs := Option.some.inj hs
  obtain ⟨rfl, rfl⟩ := Prod.mk.inj hs
  obtain ⟨⟨on, en, ln⟩, ⟨om, em, lm⟩, ⟨op, ep, lp⟩, ⟨oq, eq, lq⟩⟩ := hp _ rfl
  subst en em ep eq
  have on := okAll_rows.1 on
  have om := okAll_rows.1 om
  have op := okAll_rows.1 op
  have oq := okAll_rows.1 oq
  refine ⟨rfl, [⟨2, _, rowsP fun i => gi (r1 i)⟩, ⟨2, _, rowsP fun i => gi (r2 i)⟩, ⟨2, _, rowsP fun i => gi (r3 i)⟩, ⟨2, _, rowsP fun i => gi (r4 i)⟩], ⟨⟨rfl, rfl, fun i hi => (isPI_row (on i hi)).1⟩, ⟨rfl, rfl, fun i hi => (isPI_row (om i hi)).1⟩, ⟨rfl, rfl, fun i hi => (isPI_row (op i hi)).1⟩, ⟨rfl, rfl, fun i hi => (isPI_row (oq i hi)).1⟩, trivial⟩, ?_⟩
  try simp only [hx, hy]
  rw [reps_eq hx, reps_eq hy]
  exact qsame_ww k1 k2 e1 e2 a b _ _ _ _ _ _ _ _ _ _ _ _ ln (fun i hi => (isPI_row (on i hi)).2) lm (fun i hi => (isPI_row (om i hi)).2) lp (fun i hi => (isPI_row (op i hi)).2) lq (fun i hi => (isPI_row (oq i hi)).2)
theorem qsame_nn (k1 k2 e1 e2 : Int) (a b : RV) (p pc q qc : Nat) (u v : Nat → Int × Int) (hp : p < 1099511627776) (kp : ∀ i, i < p → I64 (u i).1 ∧ I64 (u i).2) (hq : q < 1099511627776) (kq : ∀ i, i < q → I64 (v i).1 ∧ I64 (v i).2) : vcFn Try.prog ΓSr0 noΛ Try.f36 [reS k1 e1 a nilS nilS, reS k2 e2 b (.sl 0 2 0 p pc) (.sl 1 2 0 q qc)] (roHeap [⟨2, p, rowsP u⟩, ⟨2, q, rowsP v⟩]) 64 (fun y _ => y = bV (sameRB k1 k2 e1 e2 a b (sameBB a.o b.o (eqSh (sbOf a.o) (sbOf b.o) && Nat.beq p 0)) (Nat.beq q 0))) := by
  refine Eq.mpr (vcSame_nn k1 k2 e1 e2 a b p pc p q qc q u v _) ?_
  unfold sameRB
  refine sel_of (fun e => ?_) fun e => by rw [e]; rfl
  rw [e, Bool.true_and]
  refine sel_of (fun e => ?_) fun e => by rw [e]; rfl
  rw [e, Bool.true_and]
  refine sel_of (fun e => ?_) fun e => by rw [e]; rfl
  rw [e, Bool.true_and]
  refine sel_of (fun e => ?_) fun e => by rw [e]; rfl
  rw [e, Bool.true_and]
  refine sel_of (fun e => ?_) fun e => by rw [e]; rfl
  rw [e, Bool.true_and]
  refine sel_of (fun e => ?_) fun e => by rw [e]; rfl
  rw [e, Bool.true_and]
  refine ⟨pre_rows hp kp, ?_⟩
  refine sel_of (fun e => ?_) fun e => by rw [e]; rfl
  rw [e, Bool.true_and]
  refine ⟨pre_rows hq kq, ?_⟩
  refine sel_of (fun e => ?_) fun e => by rw [e]; rfl
  rw [e, Bool.true_and]
  refine sel_of (fun e => ?_) fun e => by rw [e]; rfl
  rw [e, Bool.true_and]
  rfl
theorem Same_nn_spec : RoSpec Try.prog 36 sSame_nn := ro_spec hm ΓSr0_ok Try.func36 (Λ := fun args bs => noΛ) fun args bs p0 x0 hs hp => by
  unfold sSame_nn at hs
  split at hs <;> try (cases hs; done)
  rename_i x y p' r1 q' r2
  split at hs <;> try (cases hs; done)
  rename_i k1 e1 a k2 e2 b p pc q qc hx hy
  have hs := Option.some.inj hs
  obtain ⟨rfl, rfl⟩ := Prod.mk.inj hs
  obtain ⟨⟨op, ep, lp⟩, ⟨oq, eq, lq⟩⟩ := hp _ rfl
  subst ep eq
  have op := okAll_rows.1 op
  have oq := okAll_rows.1 oq
  refine ⟨rfl, [⟨2, _, rowsP fun i => gi (r1 i)⟩, ⟨2, _, rowsP fun i => gi (r2 i)⟩], ⟨⟨rfl, rfl, fun i hi => (isPI_row (op i hi)).1⟩, ⟨rfl, rfl, fun i hi => (isPI_row (oq i hi)).1⟩, trivial⟩, ?_⟩
  try simp only [hx, hy]
  rw [reps_eq hx, reps_eq hy]
  exact qsame_nn k1 k2 e1 e2 a b _ _ _ _ _ _ lp (fun i hi => (isPI_row (op i hi)).2) lq (fun i hi => (isPI_row (oq i hi)).2)
theorem qsame_wn (k1 k2 e1 e2 : Int) (a b : RV) (n nc p pc q qc : Nat) (g u v : Nat → Int × Int) (hn : n < 1099511627776) (kn : ∀ i, i < n → I64 (g i).1 ∧ I64 (g i).2) (hp : p < 1099511627776) (kp : ∀ i, i < p → I64 (u i).1 ∧ I64 (u i).2) (hq : q < 1099511627776) (kq : ∀ i, i < q → I64 (v i).1 ∧ I64 (v i).2) : vcFn Try.prog ΓSr0 noΛ Try.f36 [reS k1 e1 a (.sl 0 2 0 n nc) nilS, reS k2 e2 b (.sl 1 2 0 p pc) (.sl 2 2 0 q qc)] (roHeap [⟨2, n, rowsP g⟩, ⟨2, p, rowsP u⟩, ⟨2, q, rowsP v⟩]) 64 (fun y _ => y = bV (sameRB k1 k2 e1 e2 a b (sameBB a.o b.o (sameS (sbOf a.o) n g (sbOf b.o) p u)) (Nat.beq q 0))) := by
  refine Eq.mpr (vcSame_wn k1 k2 e1 e2 a b n nc n p pc p q qc q g u v _) ?_
  rw [gi_rows0 g, gi_rows0 u]
  unfold sameRB
  refine sel_of (fun e => ?_) fun e => by rw [e]; rfl
  rw [e, Bool.true_and]
  refine sel_of (fun e => ?_) fun e => by rw [e]; rfl
  rw [e, Bool.true_and]
  refine sel_of (fun e => ?_) fun e => by rw [e]; rfl
  rw [e, Bool.true_and]
  refine sel_of (fun e => ?_) fun e => by rw [e]; rfl
  rw [e, Bool.true_and]
  refine sel_of (fun e => ?_) fun e => by rw [e]; rfl
  rw [e, Bool.true_and]
  refine sel_of (fun e => ?_) fun e => by rw [e]; rfl
  rw [e, Bool.true_and]
  refine ⟨⟨pre_rows hn kn, pre_rows hp kp⟩, ?_⟩
  refine sel_of (fun e => ?_) fun e => by rw [e]; rfl
  rw [e, Bool.true_and]
  refine ⟨pre_rows hq kq, ?_⟩
  refine sel_of (fun e => ?_) fun e => by rw [e]; rfl
  rw [e, Bool.true_and]
  refine sel_of (fun e => ?_) fun e => by rw [e]; rfl
  rw [e, Bool.true_and]
  rfl
theorem Same_wn_spec : RoSpec Try.prog 36 sSame_wn := ro_spec hm ΓSr0_ok Try.func36 (Λ := fun args bs => noΛ) fun args bs p0 x0 hs hp => by
  unfold sSame_wn at hs
  split at hs <;> try (cases hs; done)
  rename_i x y n' r1 p' r2 q' r3
  split at hs <;> try (cases hs; done)
  rename_i k1 e1 a n nc k2 e2 b p pc q qc hx hy
  have hs := Option.some.inj hs
  obtain ⟨rfl, rfl⟩ := Prod.mk.inj hs
  obtain ⟨⟨on, en, ln⟩, ⟨op, ep, lp⟩, ⟨oq, eq, lq⟩⟩ := hp _ rfl
  subst en ep eq
  have on := okAll_rows.1 on
  have op := okAll_rows.1 op
  have oq := okAll_rows.1 oq
  refine ⟨rfl, [⟨2, _, rowsP fun i => gi (r1 i)⟩, ⟨2, _, rowsP fun i => gi (r2 i)⟩, ⟨2, _, rowsP fun i => gi (r3 i)⟩], ⟨⟨rfl, rfl, fun i hi => (isPI_row (on i hi)).1⟩, ⟨rfl, rfl, fun i hi => (isPI_row (op i hi)).1⟩, ⟨rfl, rfl, fun i hi => (isPI_row (oq i hi)).1⟩, trivial⟩, ?_⟩
  try simp only [hx, hy]
  rw [reps_eq hx, reps_eq hy]
  exact qsame_wn k1 k2 e1 e2 a b _ _ _ _ _ _ _ _ _ ln (fun i hi => (isPI_row (on i hi)).2) lp (fun i hi => (isPI_row (op i hi)).2) lq (fun i hi => (isPI_row (oq i hi)).2)
theorem qsame_nw (k1 k2 e1 e2 : Int) (a b : RV) (m mc p pc q qc : Nat) (h u v : Nat → Int × Int) (hm : m < 1099511627776) (km : ∀ i, i < m → I64 (h i).1 ∧ I64 (h i).2) (hp : p < 1099511627776) (kp : ∀ i, i < p → I64 (u i).1 ∧ I64 (u i).2) (hq : q < 1099511627776) (kq : ∀ i, i < q → I64 (v i).1 ∧ I64 (v i).2) : vcFn Try.prog ΓSr0 noΛ Try.f36 [reS k1 e1 a nilS (.sl 0 2 0 m mc), reS k2 e2 b (.sl 1 2 0 p pc) (.sl 2 2 0 q qc)] (roHeap [⟨2, m, rowsP h⟩, ⟨2, p, rowsP u⟩, ⟨2, q, rowsP v⟩]) 64 (fun y _ => y = bV (sameRB k1 k2 e1 e2 a b (sameBB a.o b.o (eqSh (sbOf a.o) (sbOf b.o) && Nat.beq p 0)) (sameP m h q v))) := by
  refine Eq.mpr (vcSame_nw k1 k2 e1 e2 a b m mc m p pc p q qc q h u v _) ?_
  rw [gi_rows0 h, gi_rows0 v]
  unfold sameRB
  refine sel_of (fun e => ?_) fun e => by rw [e]; rfl
  rw [e, Bool.true_and]
  refine sel_of (fun e => ?_) fun e => by rw [e]; rfl
  rw [e, Bool.true_and]
  refine sel_of (fun e => ?_) fun e => by rw [e]; rfl
  rw [e, Bool.true_and]
  refine sel_of (fun e => ?_) fun e => by rw [e]; rfl
  rw [e, Bool.true_and]
  refine sel_of (fun e => ?_) fun e => by rw [e]; rfl
  rw [e, Bool.true_and]
  refine sel_of (fun e => ?_) fun e => by rw [e]; rfl
  rw [e, Bool.true_and]
  refine ⟨pre_rows hp kp, ?_⟩
  refine sel_of (fun e => ?_) fun e => by rw [e]; rfl
  rw [e, Bool.true_and]
  refine ⟨⟨pre_rows hm km, pre_rows hq kq⟩, ?_⟩
  refine sel_of (fun e => ?_) fun e => by rw [e]; rfl
  rw [e, Bool.true_and]
  refine sel_of (fun e => ?_) fun e => by rw [e]; rfl
  rw [e, Bool.true_and]
  rfl
theorem Same_nw_spec : RoSpec Try.prog 36 sSame_nw := ro_spec hm ΓSr0_ok Try.func36 (Λ := fun args bs => noΛ) fun args bs p0 x0 hs hp => by
  unfold sSame_nw at hs
  split at hs <;> try (cases hs; done)
  rename_i x y m' r1 p' r2 q' r3
  split at hs <;> try (cases hs; done)
  rename_i k1 e1 a m mc k2 e2 b p pc q qc hx hy
  have hs := Option.some.inj hs
  obtain ⟨rfl, rfl⟩ := Prod.mk.inj hs
  obtain ⟨⟨om, em, lm⟩, ⟨op, ep, lp⟩, ⟨oq, eq, lq⟩⟩ := hp _ rfl
  subst em ep eq
  have om := okAll_rows.1 om
  have op := okAll_rows.1 op
  have oq := okAll_rows.1 oq
  refine ⟨rfl, [⟨2, _, rowsP fun i => gi (r1 i)⟩, ⟨2, _, rowsP fun i => gi (r2 i)⟩, ⟨2, _, rowsP fun i => gi (r3 i)⟩], ⟨⟨rfl, rfl, fun i hi => (isPI_row (om i hi)).1⟩, ⟨rfl, rfl, fun i hi => (isPI_row (op i hi)).1⟩, ⟨rfl, rfl, fun i hi => (isPI_row (oq i hi)).1⟩, trivial⟩, ?_⟩
  try simp only [hx, hy]
  rw [reps_eq hx, reps_eq hy]
  exact qsame_nw k1 k2 e1 e2 a b _ _ _ _ _ _ _ _ _ lm (fun i hi => (isPI_row (om i hi)).2) lp (fun i hi => (isPI_row (op i hi)).2) lq (fun i hi => (isPI_row (oq i hi)).2)
theorem SameR_spec' : RoSpec Try.prog 36 sSameR := ro_or (ro_or Same_ww_spec Same_nn_spec) (ro_or Same_wn_spec Same_nw_spec)
end Go.Proofs.Ytjdldadmaaeimaa
end
section
namespace Go.Proofs.Ytjdldadmaaeimaa
open Go.SE Go.RowKit
def rwPre (k e : Int) (c : RV) (n m : Nat) (S H : Blk) : Prop := (e = 0 → 1 ≤ k ∧ k ≤ 10) ∧ (I64 k ∧ I64 e) ∧ rvOk c ∧ (spPre n S ∧ n < 100) ∧ spPre m H ∧ m < 200
def sReplyW (args : List SV) (bs : List Blk) : Option Eff := match args with
  | [.vp 0 0, .agg l] => match cellsOfR l with
    | some (k, e, c, .sl 1 2 0 n _, .sl 2 2 0 m _) => match bs with
      | [B, S, H] => match wrOf [B] with
        | some (.fresh (some b)) => bif okB S && okB H then some (apE (.fresh (some b)) 0 (rwPre k e c n m S H) (6 + rNK k e n m) (rpL k e c (rTK k e c n (gX S) (gY S) m (gX H) (gY H))) (rpB e c (rBK k e c n m (gX H) (gY H)))) else none
        | _ => none
      | _ => none
    | _ => none
  | _ => none
def ΓRy : Ctrs := addCtr (addCtr (addCtr (addCtr noCtrs 77 (hpCtr false sShown)) 36 (roCtr sSameR)) 78 (hpCtr true sReplyW)) 71 (hpCtr true sDoneG)
theorem vcRep0 (c : RV) (n cap m cp : Nat) (g h : Nat→Int × Int) (R : SV→Prop) : (vcFn Try.prog ΓRy noΛ Try.f32 [reS 0 0 c (.sl 0 2 0 n cap) (.sl 1 2 0 m cp)] (roHeap [⟨2,n,rowsP g⟩,⟨2,m,rowsP h⟩]) 64 (fun y _ => R y)) = (((spPre n (winBlk (Ro.blk {s:=2,n:=n,row:=fun i => [SV.v (.int .i64 (Prod.fst (g i))),SV.v (.int .i64 (Prod.snd (g i)))]}) 2 0 n))∧(spPre m (winBlk (Ro.blk {s:=2,n:=m,row:=fun i => [SV.v (.int .i64 (Prod.fst (h i))),SV.v (.int .i64 (Prod.snd (h i)))]}) 2 0 m)))∧(((rowsPre n n fun y => [SV.v (.int .i64 (Prod.fst (g (0 + y)))),SV.v (.int .i64 (Prod.snd (g (0 + y))))])∧(rowsPre m m fun y => [SV.v (.int .i64 (Prod.fst (h (0 + y)))),SV.v (.int .i64 (Prod.snd (h (0 + y))))]))∧(sel (!sameRB 0 0 0 0 (uR0 c) c (sameBB (RV.o (uR0 c)) (RV.o c) (eqSh (sbOf (RV.o (uR0 c))) (sbOf (RV.o c))&&Nat.beq n 0)) (Nat.beq m 0)) (R (SV.tup [(SV.v (.string ({data:=#[]}))),(SV.v (.int .i64 4))])) (sel (RV.id c != 0) (R (SV.tup [(SV.v (.string ({data:=#[]}))),(SV.v (.int .i64 4))])) (R (SV.tup [(SV.v (.string ({data:=#[]}))),(SV.v (.int .i64 4))])))))):=by kernel_rfl
@[reducible] noncomputable def vcRep1_1 (n : Nat) (m : Nat) (h : Nat→Int × Int) := (winBlk (Ro.blk {s:=2,n:=m,row:=fun i => [SV.v (.int .i64 (Prod.fst (h i))),SV.v (.int .i64 (Prod.snd (h i)))]}) 2 0 m)
@[reducible] noncomputable def vcRep1_2 (n : Nat) (g : Nat→Int × Int) := (winBlk (Ro.blk {s:=2,n:=n,row:=fun i => [SV.v (.int .i64 (Prod.fst (g i))),SV.v (.int .i64 (Prod.snd (g i)))]}) 2 0 n)
theorem vcRep1 (c : RV) (n cap m cp : Nat) (g h : Nat→Int × Int) (R : SV→Prop) : (vcFn Try.prog ΓRy noΛ Try.f32 [reS 1 0 c (.sl 0 2 0 n cap) (.sl 1 2 0 m cp)] (roHeap [⟨2,n,rowsP g⟩,⟨2,m,rowsP h⟩]) 64 (fun y _ => R y)) =
(((spPre n (vcRep1_2 n g))∧(spPre m (vcRep1_1 n m h)))∧(((rowsPre n n fun y => [SV.v (.int .i64 (Prod.fst (g (0 + y)))),SV.v (.int .i64 (Prod.snd (g (0 + y))))])∧(rowsPre m m fun y => [SV.v (.int .i64 (Prod.fst (h (0 + y)))),SV.v (.int .i64 (Prod.snd (h (0 + y))))]))∧(sel (!sameRB 1 1 0 0 (uR1 c) c (sameBB (RV.o (uR1 c)) (RV.o c) (eqSh (sbOf (RV.o (uR1 c))) (sbOf (RV.o c))&&Nat.beq n 0)) (Nat.beq m 0)) (R (SV.tup [(SV.v (.string ({data:=#[]}))),(SV.v (.int .i64 4))])) ((rwPre 1 0 c n m (vcRep1_2 n g) (vcRep1_1 n m h))∧(∀ c_1 : Nat,((bytesOk (6 + rNK 1 0 n m) (6 + rNK 1 0 n m + c_1) {elem:=5,size:=1,rw:=true,lock:=false,lit:=false,flat:=true,n:=6 + rNK 1 0 n m,row:=fun i => [SV.v (.int .u8 ((fun i => List.getD (rpL 1 0 c (rTK 1 0 c n (gX (vcRep1_2 n g)) (gY (vcRep1_2 n g)) m (gX (vcRep1_1 n m h)) (gY (vcRep1_1 n m h)))) i 0) i))],ext:=6 + rNK 1 0 n m + c_1})∧(R (SV.tup [(SV.v (.string (bif false||rpB 0 c (rBK 1 0 c n m (gX (vcRep1_1 n m h)) (gY (vcRep1_1 n m h))) then emp else strOf (6 + rNK 1 0 n m) fun i => [SV.v (.int .u8 (SE.byteOf [SV.v (.int .u8 ((fun i => List.getD (rpL 1 0 c (rTK 1 0 c n (gX (vcRep1_2 n g)) (gY (vcRep1_2 n g)) m (gX (vcRep1_1 n m h)) (gY (vcRep1_1 n m h)))) i 0) i))]))]))),(SV.v (.int .i64 (bif false||rpB 0 c (rBK 1 0 c n m (gX (vcRep1_1 n m h)) (gY (vcRep1_1 n m h))) then 3 else 0)))])))))))) := by kernel_rfl
@[reducible] noncomputable def vcRep2_1 (n : Nat) (m : Nat) (h : Nat→Int × Int) := (winBlk (Ro.blk {s:=2,n:=m,row:=fun i => [SV.v (.int .i64 (Prod.fst (h i))),SV.v (.int .i64 (Prod.snd (h i)))]}) 2 0 m)
@[reducible] noncomputable def vcRep2_2 (n : Nat) (g : Nat→Int × Int) := (winBlk (Ro.blk {s:=2,n:=n,row:=fun i => [SV.v (.int .i64 (Prod.fst (g i))),SV.v (.int .i64 (Prod.snd (g i)))]}) 2 0 n)
theorem vcRep2 (c : RV) (n cap m cp : Nat) (g h : Nat→Int × Int) (R : SV→Prop) : (vcFn Try.prog ΓRy noΛ Try.f32 [reS 2 0 c (.sl 0 2 0 n cap) (.sl 1 2 0 m cp)] (roHeap [⟨2,n,rowsP g⟩,⟨2,m,rowsP h⟩]) 64 (fun y _ => R y)) =
(((spPre n (vcRep2_2 n g))∧(spPre m (vcRep2_1 n m h)))∧(((rowsPre n n fun y => [SV.v (.int .i64 (Prod.fst (g (0 + y)))),SV.v (.int .i64 (Prod.snd (g (0 + y))))])∧(rowsPre m m fun y => [SV.v (.int .i64 (Prod.fst (h (0 + y)))),SV.v (.int .i64 (Prod.snd (h (0 + y))))]))∧(sel (!sameRB 2 2 0 0 (uR2 c) c (sameBB (RV.o (uR2 c)) (RV.o c) (eqSh (sbOf (RV.o (uR2 c))) (sbOf (RV.o c))&&Nat.beq n 0)) (Nat.beq m 0)) (R (SV.tup [(SV.v (.string ({data:=#[]}))),(SV.v (.int .i64 4))])) ((rwPre 2 0 c n m (vcRep2_2 n g) (vcRep2_1 n m h))∧(∀ c_1 : Nat,((bytesOk (6 + rNK 2 0 n m) (6 + rNK 2 0 n m + c_1) {elem:=5,size:=1,rw:=true,lock:=false,lit:=false,flat:=true,n:=6 + rNK 2 0 n m,row:=fun i => [SV.v (.int .u8 ((fun i => List.getD (rpL 2 0 c (rTK 2 0 c n (gX (vcRep2_2 n g)) (gY (vcRep2_2 n g)) m (gX (vcRep2_1 n m h)) (gY (vcRep2_1 n m h)))) i 0) i))],ext:=6 + rNK 2 0 n m + c_1})∧(R (SV.tup [(SV.v (.string (bif false||rpB 0 c (rBK 2 0 c n m (gX (vcRep2_1 n m h)) (gY (vcRep2_1 n m h))) then emp else strOf (6 + rNK 2 0 n m) fun i => [SV.v (.int .u8 (SE.byteOf [SV.v (.int .u8 ((fun i => List.getD (rpL 2 0 c (rTK 2 0 c n (gX (vcRep2_2 n g)) (gY (vcRep2_2 n g)) m (gX (vcRep2_1 n m h)) (gY (vcRep2_1 n m h)))) i 0) i))]))]))),(SV.v (.int .i64 (bif false||rpB 0 c (rBK 2 0 c n m (gX (vcRep2_1 n m h)) (gY (vcRep2_1 n m h))) then 3 else 0)))])))))))) := by kernel_rfl
@[reducible] noncomputable def vcRep3_1 (n : Nat) (m : Nat) (h : Nat→Int × Int) := (winBlk (Ro.blk {s:=2,n:=m,row:=fun i => [SV.v (.int .i64 (Prod.fst (h i))),SV.v (.int .i64 (Prod.snd (h i)))]}) 2 0 m)
@[reducible] noncomputable def vcRep3_2 (n : Nat) (g : Nat→Int × Int) := (winBlk (Ro.blk {s:=2,n:=n,row:=fun i => [SV.v (.int .i64 (Prod.fst (g i))),SV.v (.int .i64 (Prod.snd (g i)))]}) 2 0 n)
theorem vcRep3 (c : RV) (n cap m cp : Nat) (g h : Nat→Int × Int) (R : SV→Prop) : (vcFn Try.prog ΓRy noΛ Try.f32 [reS 3 0 c (.sl 0 2 0 n cap) (.sl 1 2 0 m cp)] (roHeap [⟨2,n,rowsP g⟩,⟨2,m,rowsP h⟩]) 64 (fun y _ => R y)) =
(((spPre n (vcRep3_2 n g))∧(spPre m (vcRep3_1 n m h)))∧(((rowsPre n n fun y => [SV.v (.int .i64 (Prod.fst (g (0 + y)))),SV.v (.int .i64 (Prod.snd (g (0 + y))))])∧(rowsPre m m fun y => [SV.v (.int .i64 (Prod.fst (h (0 + y)))),SV.v (.int .i64 (Prod.snd (h (0 + y))))]))∧(sel (!sameRB 3 3 0 0 (uR3 c) c (sameBB (RV.o (uR3 c)) (RV.o c) (eqSh (sbOf (RV.o (uR3 c))) (sbOf (RV.o c))&&Nat.beq n 0)) (Nat.beq m 0)) (R (SV.tup [(SV.v (.string ({data:=#[]}))),(SV.v (.int .i64 4))])) ((rwPre 3 0 c n m (vcRep3_2 n g) (vcRep3_1 n m h))∧(∀ c_1 : Nat,((bytesOk (6 + rNK 3 0 n m) (6 + rNK 3 0 n m + c_1) {elem:=5,size:=1,rw:=true,lock:=false,lit:=false,flat:=true,n:=6 + rNK 3 0 n m,row:=fun i => [SV.v (.int .u8 ((fun i => List.getD (rpL 3 0 c (rTK 3 0 c n (gX (vcRep3_2 n g)) (gY (vcRep3_2 n g)) m (gX (vcRep3_1 n m h)) (gY (vcRep3_1 n m h)))) i 0) i))],ext:=6 + rNK 3 0 n m + c_1})∧(R (SV.tup [(SV.v (.string (bif false||rpB 0 c (rBK 3 0 c n m (gX (vcRep3_1 n m h)) (gY (vcRep3_1 n m h))) then emp else strOf (6 + rNK 3 0 n m) fun i => [SV.v (.int .u8 (SE.byteOf [SV.v (.int .u8 ((fun i => List.getD (rpL 3 0 c (rTK 3 0 c n (gX (vcRep3_2 n g)) (gY (vcRep3_2 n g)) m (gX (vcRep3_1 n m h)) (gY (vcRep3_1 n m h)))) i 0) i))]))]))),(SV.v (.int .i64 (bif false||rpB 0 c (rBK 3 0 c n m (gX (vcRep3_1 n m h)) (gY (vcRep3_1 n m h))) then 3 else 0)))])))))))) := by kernel_rfl
@[reducible] noncomputable def vcRep4_1 (n : Nat) (m : Nat) (h : Nat→Int × Int) := (winBlk (Ro.blk {s:=2,n:=m,row:=fun i => [SV.v (.int .i64 (Prod.fst (h i))),SV.v (.int .i64 (Prod.snd (h i)))]}) 2 0 m)
@[reducible] noncomputable def vcRep4_2 (n : Nat) (g : Nat→Int × Int) := (winBlk (Ro.blk {s:=2,n:=n,row:=fun i => [SV.v (.int .i64 (Prod.fst (g i))),SV.v (.int .i64 (Prod.snd (g i)))]}) 2 0 n)
theorem vcRep4 (c : RV) (n cap m cp : Nat) (g h : Nat→Int × Int) (R : SV→Prop) : (vcFn Try.prog ΓRy noΛ Try.f32 [reS 4 0 c (.sl 0 2 0 n cap) (.sl 1 2 0 m cp)] (roHeap [⟨2,n,rowsP g⟩,⟨2,m,rowsP h⟩]) 64 (fun y _ => R y)) =
(((spPre n (vcRep4_2 n g))∧(spPre m (vcRep4_1 n m h)))∧(((rowsPre n n fun y => [SV.v (.int .i64 (Prod.fst (g (0 + y)))),SV.v (.int .i64 (Prod.snd (g (0 + y))))])∧(rowsPre m m fun y => [SV.v (.int .i64 (Prod.fst (h (0 + y)))),SV.v (.int .i64 (Prod.snd (h (0 + y))))]))∧(sel (!sameRB 4 4 0 0 (uR4 c) c (sameBB (RV.o (uR4 c)) (RV.o c) (eqSh (sbOf (RV.o (uR4 c))) (sbOf (RV.o c))&&Nat.beq n 0)) (Nat.beq m 0)) (R (SV.tup [(SV.v (.string ({data:=#[]}))),(SV.v (.int .i64 4))])) ((rwPre 4 0 c n m (vcRep4_2 n g) (vcRep4_1 n m h))∧(∀ c_1 : Nat,((bytesOk (6 + rNK 4 0 n m) (6 + rNK 4 0 n m + c_1) {elem:=5,size:=1,rw:=true,lock:=false,lit:=false,flat:=true,n:=6 + rNK 4 0 n m,row:=fun i => [SV.v (.int .u8 ((fun i => List.getD (rpL 4 0 c (rTK 4 0 c n (gX (vcRep4_2 n g)) (gY (vcRep4_2 n g)) m (gX (vcRep4_1 n m h)) (gY (vcRep4_1 n m h)))) i 0) i))],ext:=6 + rNK 4 0 n m + c_1})∧(R (SV.tup [(SV.v (.string (bif false||rpB 0 c (rBK 4 0 c n m (gX (vcRep4_1 n m h)) (gY (vcRep4_1 n m h))) then emp else strOf (6 + rNK 4 0 n m) fun i => [SV.v (.int .u8 (SE.byteOf [SV.v (.int .u8 ((fun i => List.getD (rpL 4 0 c (rTK 4 0 c n (gX (vcRep4_2 n g)) (gY (vcRep4_2 n g)) m (gX (vcRep4_1 n m h)) (gY (vcRep4_1 n m h)))) i 0) i))]))]))),(SV.v (.int .i64 (bif false||rpB 0 c (rBK 4 0 c n m (gX (vcRep4_1 n m h)) (gY (vcRep4_1 n m h))) then 3 else 0)))])))))))) := by kernel_rfl
@[reducible] noncomputable def vcRep5_1 (n : Nat) (m : Nat) (h : Nat→Int × Int) := (winBlk (Ro.blk {s:=2,n:=m,row:=fun i => [SV.v (.int .i64 (Prod.fst (h i))),SV.v (.int .i64 (Prod.snd (h i)))]}) 2 0 m)
@[reducible] noncomputable def vcRep5_2 (n : Nat) (g : Nat→Int × Int) := (winBlk (Ro.blk {s:=2,n:=n,row:=fun i => [SV.v (.int .i64 (Prod.fst (g i))),SV.v (.int .i64 (Prod.snd (g i)))]}) 2 0 n)
theorem vcRep5 (c : RV) (n cap m cp : Nat) (g h : Nat→Int × Int) (R : SV→Prop) : (vcFn Try.prog ΓRy noΛ Try.f32 [reS 5 0 c (.sl 0 2 0 n cap) (.sl 1 2 0 m cp)] (roHeap [⟨2,n,rowsP g⟩,⟨2,m,rowsP h⟩]) 64 (fun y _ => R y)) =
(((spPre n (vcRep5_2 n g))∧(spPre m (vcRep5_1 n m h)))∧(((rowsPre n n fun y => [SV.v (.int .i64 (Prod.fst (g (0 + y)))),SV.v (.int .i64 (Prod.snd (g (0 + y))))])∧(rowsPre m m fun y => [SV.v (.int .i64 (Prod.fst (h (0 + y)))),SV.v (.int .i64 (Prod.snd (h (0 + y))))]))∧(sel (!sameRB 5 5 0 0 (uR5 c) c (sameBB (RV.o (uR5 c)) (RV.o c) (eqSh (sbOf (RV.o (uR5 c))) (sbOf (RV.o c))&&Nat.beq n 0)) (Nat.beq m 0)) (R (SV.tup [(SV.v (.string ({data:=#[]}))),(SV.v (.int .i64 4))])) ((rwPre 5 0 c n m (vcRep5_2 n g) (vcRep5_1 n m h))∧(∀ c_1 : Nat,((bytesOk (6 + rNK 5 0 n m) (6 + rNK 5 0 n m + c_1) {elem:=5,size:=1,rw:=true,lock:=false,lit:=false,flat:=true,n:=6 + rNK 5 0 n m,row:=fun i => [SV.v (.int .u8 ((fun i => List.getD (rpL 5 0 c (rTK 5 0 c n (gX (vcRep5_2 n g)) (gY (vcRep5_2 n g)) m (gX (vcRep5_1 n m h)) (gY (vcRep5_1 n m h)))) i 0) i))],ext:=6 + rNK 5 0 n m + c_1})∧(R (SV.tup [(SV.v (.string (bif false||rpB 0 c (rBK 5 0 c n m (gX (vcRep5_1 n m h)) (gY (vcRep5_1 n m h))) then emp else strOf (6 + rNK 5 0 n m) fun i => [SV.v (.int .u8 (SE.byteOf [SV.v (.int .u8 ((fun i => List.getD (rpL 5 0 c (rTK 5 0 c n (gX (vcRep5_2 n g)) (gY (vcRep5_2 n g)) m (gX (vcRep5_1 n m h)) (gY (vcRep5_1 n m h)))) i 0) i))]))]))),(SV.v (.int .i64 (bif false||rpB 0 c (rBK 5 0 c n m (gX (vcRep5_1 n m h)) (gY (vcRep5_1 n m h))) then 3 else 0)))])))))))) := by kernel_rfl
@[reducible] noncomputable def vcRep6_1 (n : Nat) (m : Nat) (h : Nat→Int × Int) := (winBlk (Ro.blk {s:=2,n:=m,row:=fun i => [SV.v (.int .i64 (Prod.fst (h i))),SV.v (.int .i64 (Prod.snd (h i)))]}) 2 0 m)
@[reducible] noncomputable def vcRep6_2 (n : Nat) (g : Nat→Int × Int) := (winBlk (Ro.blk {s:=2,n:=n,row:=fun i => [SV.v (.int .i64 (Prod.fst (g i))),SV.v (.int .i64 (Prod.snd (g i)))]}) 2 0 n)
theorem vcRep6 (c : RV) (n cap m cp : Nat) (g h : Nat→Int × Int) (R : SV→Prop) : (vcFn Try.prog ΓRy noΛ Try.f32 [reS 6 0 c (.sl 0 2 0 n cap) (.sl 1 2 0 m cp)] (roHeap [⟨2,n,rowsP g⟩,⟨2,m,rowsP h⟩]) 64 (fun y _ => R y)) =
(((spPre n (vcRep6_2 n g))∧(spPre m (vcRep6_1 n m h)))∧(((rowsPre n n fun y => [SV.v (.int .i64 (Prod.fst (g (0 + y)))),SV.v (.int .i64 (Prod.snd (g (0 + y))))])∧(rowsPre m m fun y => [SV.v (.int .i64 (Prod.fst (h (0 + y)))),SV.v (.int .i64 (Prod.snd (h (0 + y))))]))∧(sel (!sameRB 6 6 0 0 (uR6 c) c (sameBB (RV.o (uR6 c)) (RV.o c) (eqSh (sbOf (RV.o (uR6 c))) (sbOf (RV.o c))&&Nat.beq n 0)) (Nat.beq m 0)) (R (SV.tup [(SV.v (.string ({data:=#[]}))),(SV.v (.int .i64 4))])) ((rwPre 6 0 c n m (vcRep6_2 n g) (vcRep6_1 n m h))∧(∀ c_1 : Nat,((bytesOk (6 + rNK 6 0 n m) (6 + rNK 6 0 n m + c_1) {elem:=5,size:=1,rw:=true,lock:=false,lit:=false,flat:=true,n:=6 + rNK 6 0 n m,row:=fun i => [SV.v (.int .u8 ((fun i => List.getD (rpL 6 0 c (rTK 6 0 c n (gX (vcRep6_2 n g)) (gY (vcRep6_2 n g)) m (gX (vcRep6_1 n m h)) (gY (vcRep6_1 n m h)))) i 0) i))],ext:=6 + rNK 6 0 n m + c_1})∧(R (SV.tup [(SV.v (.string (bif false||rpB 0 c (rBK 6 0 c n m (gX (vcRep6_1 n m h)) (gY (vcRep6_1 n m h))) then emp else strOf (6 + rNK 6 0 n m) fun i => [SV.v (.int .u8 (SE.byteOf [SV.v (.int .u8 ((fun i => List.getD (rpL 6 0 c (rTK 6 0 c n (gX (vcRep6_2 n g)) (gY (vcRep6_2 n g)) m (gX (vcRep6_1 n m h)) (gY (vcRep6_1 n m h)))) i 0) i))]))]))),(SV.v (.int .i64 (bif false||rpB 0 c (rBK 6 0 c n m (gX (vcRep6_1 n m h)) (gY (vcRep6_1 n m h))) then 3 else 0)))])))))))) := by kernel_rfl
@[reducible] noncomputable def vcRep7_1 (n : Nat) (m : Nat) (h : Nat→Int × Int) := (winBlk (Ro.blk {s:=2,n:=m,row:=fun i => [SV.v (.int .i64 (Prod.fst (h i))),SV.v (.int .i64 (Prod.snd (h i)))]}) 2 0 m)
@[reducible] noncomputable def vcRep7_2 (n : Nat) (g : Nat→Int × Int) := (winBlk (Ro.blk {s:=2,n:=n,row:=fun i => [SV.v (.int .i64 (Prod.fst (g i))),SV.v (.int .i64 (Prod.snd (g i)))]}) 2 0 n)
theorem vcRep7 (c : RV) (n cap m cp : Nat) (g h : Nat→Int × Int) (R : SV→Prop) : (vcFn Try.prog ΓRy noΛ Try.f32 [reS 7 0 c (.sl 0 2 0 n cap) (.sl 1 2 0 m cp)] (roHeap [⟨2,n,rowsP g⟩,⟨2,m,rowsP h⟩]) 64 (fun y _ => R y)) =
(((spPre n (vcRep7_2 n g))∧(spPre m (vcRep7_1 n m h)))∧(((rowsPre n n fun y => [SV.v (.int .i64 (Prod.fst (g (0 + y)))),SV.v (.int .i64 (Prod.snd (g (0 + y))))])∧((rowsPre n n fun y => [SV.v (.int .i64 (Prod.fst (g (0 + y)))),SV.v (.int .i64 (Prod.snd (g (0 + y))))])∧(rowsPre m m fun y => [SV.v (.int .i64 (Prod.fst (h (0 + y)))),SV.v (.int .i64 (Prod.snd (h (0 + y))))])))∧(sel (!sameRB 7 7 0 0 (uR7 c) c (sameBB (RV.o (uR7 c)) (RV.o c) (sameS (sbOf (RV.o (uR7 c))) n (fun i => gi [SV.v (.int .i64 (Prod.fst (g (0 + i)))),SV.v (.int .i64 (Prod.snd (g (0 + i))))]) (sbOf (RV.o c)) n fun i => gi [SV.v (.int .i64 (Prod.fst (g (0 + i)))),SV.v (.int .i64 (Prod.snd (g (0 + i))))])) (Nat.beq m 0)) (R (SV.tup [(SV.v (.string ({data:=#[]}))),(SV.v (.int .i64 4))])) ((rwPre 7 0 c n m (vcRep7_2 n g) (vcRep7_1 n m h))∧(∀ c_1 : Nat,((bytesOk (6 + rNK 7 0 n m) (6 + rNK 7 0 n m + c_1) {elem:=5,size:=1,rw:=true,lock:=false,lit:=false,flat:=true,n:=6 + rNK 7 0 n m,row:=fun i => [SV.v (.int .u8 ((fun i => List.getD (rpL 7 0 c (rTK 7 0 c n (gX (vcRep7_2 n g)) (gY (vcRep7_2 n g)) m (gX (vcRep7_1 n m h)) (gY (vcRep7_1 n m h)))) i 0) i))],ext:=6 + rNK 7 0 n m + c_1})∧(R (SV.tup [(SV.v (.string (bif false||rpB 0 c (rBK 7 0 c n m (gX (vcRep7_1 n m h)) (gY (vcRep7_1 n m h))) then emp else strOf (6 + rNK 7 0 n m) fun i => [SV.v (.int .u8 (SE.byteOf [SV.v (.int .u8 ((fun i => List.getD (rpL 7 0 c (rTK 7 0 c n (gX (vcRep7_2 n g)) (gY (vcRep7_2 n g)) m (gX (vcRep7_1 n m h)) (gY (vcRep7_1 n m h)))) i 0) i))]))]))),(SV.v (.int .i64 (bif false||rpB 0 c (rBK 7 0 c n m (gX (vcRep7_1 n m h)) (gY (vcRep7_1 n m h))) then 3 else 0)))])))))))) := by kernel_rfl
@[reducible] noncomputable def vcRep8_1 (n : Nat) (m : Nat) (h : Nat→Int × Int) := (winBlk (Ro.blk {s:=2,n:=m,row:=fun i => [SV.v (.int .i64 (Prod.fst (h i))),SV.v (.int .i64 (Prod.snd (h i)))]}) 2 0 m)
@[reducible] noncomputable def vcRep8_2 (n : Nat) (g : Nat→Int × Int) := (winBlk (Ro.blk {s:=2,n:=n,row:=fun i => [SV.v (.int .i64 (Prod.fst (g i))),SV.v (.int .i64 (Prod.snd (g i)))]}) 2 0 n)
theorem vcRep8 (c : RV) (n cap m cp : Nat) (g h : Nat→Int × Int) (R : SV→Prop) : (vcFn Try.prog ΓRy noΛ Try.f32 [reS 8 0 c (.sl 0 2 0 n cap) (.sl 1 2 0 m cp)] (roHeap [⟨2,n,rowsP g⟩,⟨2,m,rowsP h⟩]) 64 (fun y _ => R y)) =
(((spPre n (vcRep8_2 n g))∧(spPre m (vcRep8_1 n m h)))∧(((rowsPre m m fun y => [SV.v (.int .i64 (Prod.fst (h (0 + y)))),SV.v (.int .i64 (Prod.snd (h (0 + y))))])∧((rowsPre n n fun y => [SV.v (.int .i64 (Prod.fst (g (0 + y)))),SV.v (.int .i64 (Prod.snd (g (0 + y))))])∧(rowsPre m m fun y => [SV.v (.int .i64 (Prod.fst (h (0 + y)))),SV.v (.int .i64 (Prod.snd (h (0 + y))))])))∧(sel (!sameRB 8 8 0 0 (uR8 c) c (sameBB (RV.o (uR8 c)) (RV.o c) (eqSh (sbOf (RV.o (uR8 c))) (sbOf (RV.o c))&&Nat.beq n 0)) (sameP m (fun i => gi [SV.v (.int .i64 (Prod.fst (h (0 + i)))),SV.v (.int .i64 (Prod.snd (h (0 + i))))]) m fun i => gi [SV.v (.int .i64 (Prod.fst (h (0 + i)))),SV.v (.int .i64 (Prod.snd (h (0 + i))))])) (R (SV.tup [(SV.v (.string ({data:=#[]}))),(SV.v (.int .i64 4))])) ((rwPre 8 0 c n m (vcRep8_2 n g) (vcRep8_1 n m h))∧(∀ c_1 : Nat,((bytesOk (6 + rNK 8 0 n m) (6 + rNK 8 0 n m + c_1) {elem:=5,size:=1,rw:=true,lock:=false,lit:=false,flat:=true,n:=6 + rNK 8 0 n m,row:=fun i => [SV.v (.int .u8 ((fun i => List.getD (rpL 8 0 c (rTK 8 0 c n (gX (vcRep8_2 n g)) (gY (vcRep8_2 n g)) m (gX (vcRep8_1 n m h)) (gY (vcRep8_1 n m h)))) i 0) i))],ext:=6 + rNK 8 0 n m + c_1})∧(R (SV.tup [(SV.v (.string (bif false||rpB 0 c (rBK 8 0 c n m (gX (vcRep8_1 n m h)) (gY (vcRep8_1 n m h))) then emp else strOf (6 + rNK 8 0 n m) fun i => [SV.v (.int .u8 (SE.byteOf [SV.v (.int .u8 ((fun i => List.getD (rpL 8 0 c (rTK 8 0 c n (gX (vcRep8_2 n g)) (gY (vcRep8_2 n g)) m (gX (vcRep8_1 n m h)) (gY (vcRep8_1 n m h)))) i 0) i))]))]))),(SV.v (.int .i64 (bif false||rpB 0 c (rBK 8 0 c n m (gX (vcRep8_1 n m h)) (gY (vcRep8_1 n m h))) then 3 else 0)))])))))))) := by kernel_rfl
@[reducible] noncomputable def vcRep9_1 (n : Nat) (m : Nat) (h : Nat→Int × Int) := (winBlk (Ro.blk {s:=2,n:=m,row:=fun i => [SV.v (.int .i64 (Prod.fst (h i))),SV.v (.int .i64 (Prod.snd (h i)))]}) 2 0 m)
@[reducible] noncomputable def vcRep9_2 (n : Nat) (g : Nat→Int × Int) := (winBlk (Ro.blk {s:=2,n:=n,row:=fun i => [SV.v (.int .i64 (Prod.fst (g i))),SV.v (.int .i64 (Prod.snd (g i)))]}) 2 0 n)
theorem vcRep9 (c : RV) (n cap m cp : Nat) (g h : Nat→Int × Int) (R : SV→Prop) : (vcFn Try.prog ΓRy noΛ Try.f32 [reS 9 0 c (.sl 0 2 0 n cap) (.sl 1 2 0 m cp)] (roHeap [⟨2,n,rowsP g⟩,⟨2,m,rowsP h⟩]) 64 (fun y _ => R y)) =
(((spPre n (vcRep9_2 n g))∧(spPre m (vcRep9_1 n m h)))∧(((rowsPre n n fun y => [SV.v (.int .i64 (Prod.fst (g (0 + y)))),SV.v (.int .i64 (Prod.snd (g (0 + y))))])∧(rowsPre m m fun y => [SV.v (.int .i64 (Prod.fst (h (0 + y)))),SV.v (.int .i64 (Prod.snd (h (0 + y))))]))∧(sel (!sameRB 9 9 0 0 (uR9 c) c (sameBB (RV.o (uR9 c)) (RV.o c) (eqSh (sbOf (RV.o (uR9 c))) (sbOf (RV.o c))&&Nat.beq n 0)) (Nat.beq m 0)) (R (SV.tup [(SV.v (.string ({data:=#[]}))),(SV.v (.int .i64 4))])) ((rwPre 9 0 c n m (vcRep9_2 n g) (vcRep9_1 n m h))∧(∀ c_1 : Nat,((bytesOk (6 + rNK 9 0 n m) (6 + rNK 9 0 n m + c_1) {elem:=5,size:=1,rw:=true,lock:=false,lit:=false,flat:=true,n:=6 + rNK 9 0 n m,row:=fun i => [SV.v (.int .u8 ((fun i => List.getD (rpL 9 0 c (rTK 9 0 c n (gX (vcRep9_2 n g)) (gY (vcRep9_2 n g)) m (gX (vcRep9_1 n m h)) (gY (vcRep9_1 n m h)))) i 0) i))],ext:=6 + rNK 9 0 n m + c_1})∧(R (SV.tup [(SV.v (.string (bif false||rpB 0 c (rBK 9 0 c n m (gX (vcRep9_1 n m h)) (gY (vcRep9_1 n m h))) then emp else strOf (6 + rNK 9 0 n m) fun i => [SV.v (.int .u8 (SE.byteOf [SV.v (.int .u8 ((fun i => List.getD (rpL 9 0 c (rTK 9 0 c n (gX (vcRep9_2 n g)) (gY (vcRep9_2 n g)) m (gX (vcRep9_1 n m h)) (gY (vcRep9_1 n m h)))) i 0) i))]))]))),(SV.v (.int .i64 (bif false||rpB 0 c (rBK 9 0 c n m (gX (vcRep9_1 n m h)) (gY (vcRep9_1 n m h))) then 3 else 0)))])))))))) := by kernel_rfl
@[reducible] noncomputable def vcRep10_1 (n : Nat) (m : Nat) (h : Nat→Int × Int) := (winBlk (Ro.blk {s:=2,n:=m,row:=fun i => [SV.v (.int .i64 (Prod.fst (h i))),SV.v (.int .i64 (Prod.snd (h i)))]}) 2 0 m)
@[reducible] noncomputable def vcRep10_2 (n : Nat) (g : Nat→Int × Int) := (winBlk (Ro.blk {s:=2,n:=n,row:=fun i => [SV.v (.int .i64 (Prod.fst (g i))),SV.v (.int .i64 (Prod.snd (g i)))]}) 2 0 n)
theorem vcRep10 (c : RV) (n cap m cp : Nat) (g h : Nat→Int × Int) (R : SV→Prop) : (vcFn Try.prog ΓRy noΛ Try.f32 [reS 10 0 c (.sl 0 2 0 n cap) (.sl 1 2 0 m cp)] (roHeap [⟨2,n,rowsP g⟩,⟨2,m,rowsP h⟩]) 64 (fun y _ => R y)) =
(((spPre n (vcRep10_2 n g))∧(spPre m (vcRep10_1 n m h)))∧(((rowsPre n n fun y => [SV.v (.int .i64 (Prod.fst (g (0 + y)))),SV.v (.int .i64 (Prod.snd (g (0 + y))))])∧(rowsPre m m fun y => [SV.v (.int .i64 (Prod.fst (h (0 + y)))),SV.v (.int .i64 (Prod.snd (h (0 + y))))]))∧(sel (!sameRB 10 10 0 0 (uR10 c) c (sameBB (RV.o (uR10 c)) (RV.o c) (eqSh (sbOf (RV.o (uR10 c))) (sbOf (RV.o c))&&Nat.beq n 0)) (Nat.beq m 0)) (R (SV.tup [(SV.v (.string ({data:=#[]}))),(SV.v (.int .i64 4))])) ((rwPre 10 0 c n m (vcRep10_2 n g) (vcRep10_1 n m h))∧(∀ c_1 : Nat,((bytesOk (6 + rNK 10 0 n m) (6 + rNK 10 0 n m + c_1) {elem:=5,size:=1,rw:=true,lock:=false,lit:=false,flat:=true,n:=6 + rNK 10 0 n m,row:=fun i => [SV.v (.int .u8 ((fun i => List.getD (rpL 10 0 c (rTK 10 0 c n (gX (vcRep10_2 n g)) (gY (vcRep10_2 n g)) m (gX (vcRep10_1 n m h)) (gY (vcRep10_1 n m h)))) i 0) i))],ext:=6 + rNK 10 0 n m + c_1})∧(R (SV.tup [(SV.v (.string (bif false||rpB 0 c (rBK 10 0 c n m (gX (vcRep10_1 n m h)) (gY (vcRep10_1 n m h))) then emp else strOf (6 + rNK 10 0 n m) fun i => [SV.v (.int .u8 (SE.byteOf [SV.v (.int .u8 ((fun i => List.getD (rpL 10 0 c (rTK 10 0 c n (gX (vcRep10_2 n g)) (gY (vcRep10_2 n g)) m (gX (vcRep10_1 n m h)) (gY (vcRep10_1 n m h)))) i 0) i))]))]))),(SV.v (.int .i64 (bif false||rpB 0 c (rBK 10 0 c n m (gX (vcRep10_1 n m h)) (gY (vcRep10_1 n m h))) then 3 else 0)))])))))))) := by kernel_rfl
@[reducible] noncomputable def vcRepP_1 (k : Int) (a : Nat) (c : RV) (n : Nat) (m : Nat) (g : Nat→Int × Int) (h : Nat→Int × Int) (R : SV→Prop) := ((rwPre k (Int.ofNat (a + 1)) c n m (winBlk (Ro.blk {s:=2,n:=n,row:=fun i => [SV.v (.int .i64 (Prod.fst (g i))),SV.v (.int .i64 (Prod.snd (g i)))]}) 2 0 n) (winBlk (Ro.blk {s:=2,n:=m,row:=fun i => [SV.v (.int .i64 (Prod.fst (h i))),SV.v (.int .i64 (Prod.snd (h i)))]}) 2 0 m))∧(∀ c_1 : Nat,((bytesOk (6 + rNK k (Int.ofNat (a + 1)) n m) (6 + rNK k (Int.ofNat (a + 1)) n m + c_1) {elem:=5,size:=1,rw:=true,lock:=false,lit:=false,flat:=true,n:=6 + rNK k (Int.ofNat (a + 1)) n m,row:=fun i => [SV.v (.int .u8 ((fun i => List.getD (rpL k (Int.ofNat (a + 1)) c (rTK k (Int.ofNat (a + 1)) c n (gX (winBlk (Ro.blk {s:=2,n:=n,row:=fun i => [SV.v (.int .i64 (Prod.fst (g i))),SV.v (.int .i64 (Prod.snd (g i)))]}) 2 0 n)) (gY (winBlk (Ro.blk {s:=2,n:=n,row:=fun i => [SV.v (.int .i64 (Prod.fst (g i))),SV.v (.int .i64 (Prod.snd (g i)))]}) 2 0 n)) m (gX (winBlk (Ro.blk {s:=2,n:=m,row:=fun i => [SV.v (.int .i64 (Prod.fst (h i))),SV.v (.int .i64 (Prod.snd (h i)))]}) 2 0 m)) (gY (winBlk (Ro.blk {s:=2,n:=m,row:=fun i => [SV.v (.int .i64 (Prod.fst (h i))),SV.v (.int .i64 (Prod.snd (h i)))]}) 2 0 m)))) i 0) i))],ext:=6 + rNK k (Int.ofNat (a + 1)) n m + c_1})∧(R (SV.tup [(SV.v (.string (bif false||rpB (Int.ofNat (a + 1)) c (rBK k (Int.ofNat (a + 1)) c n m (gX (winBlk (Ro.blk {s:=2,n:=m,row:=fun i => [SV.v (.int .i64 (Prod.fst (h i))),SV.v (.int .i64 (Prod.snd (h i)))]}) 2 0 m)) (gY (winBlk (Ro.blk {s:=2,n:=m,row:=fun i => [SV.v (.int .i64 (Prod.fst (h i))),SV.v (.int .i64 (Prod.snd (h i)))]}) 2 0 m))) then emp else strOf (6 + rNK k (Int.ofNat (a + 1)) n m) fun i => [SV.v (.int .u8 (SE.byteOf [SV.v (.int .u8 ((fun i => List.getD (rpL k (Int.ofNat (a + 1)) c (rTK k (Int.ofNat (a + 1)) c n (gX (winBlk (Ro.blk {s:=2,n:=n,row:=fun i => [SV.v (.int .i64 (Prod.fst (g i))),SV.v (.int .i64 (Prod.snd (g i)))]}) 2 0 n)) (gY (winBlk (Ro.blk {s:=2,n:=n,row:=fun i => [SV.v (.int .i64 (Prod.fst (g i))),SV.v (.int .i64 (Prod.snd (g i)))]}) 2 0 n)) m (gX (winBlk (Ro.blk {s:=2,n:=m,row:=fun i => [SV.v (.int .i64 (Prod.fst (h i))),SV.v (.int .i64 (Prod.snd (h i)))]}) 2 0 m)) (gY (winBlk (Ro.blk {s:=2,n:=m,row:=fun i => [SV.v (.int .i64 (Prod.fst (h i))),SV.v (.int .i64 (Prod.snd (h i)))]}) 2 0 m)))) i 0) i))]))]))),(SV.v (.int .i64 (bif false||rpB (Int.ofNat (a + 1)) c (rBK k (Int.ofNat (a + 1)) c n m (gX (winBlk (Ro.blk {s:=2,n:=m,row:=fun i => [SV.v (.int .i64 (Prod.fst (h i))),SV.v (.int .i64 (Prod.snd (h i)))]}) 2 0 m)) (gY (winBlk (Ro.blk {s:=2,n:=m,row:=fun i => [SV.v (.int .i64 (Prod.fst (h i))),SV.v (.int .i64 (Prod.snd (h i)))]}) 2 0 m))) then 3 else 0)))])))))
theorem vcRepP (k : Int) (a : Nat) (c : RV) (n cap m cp : Nat) (g h : Nat→Int × Int) (R : SV→Prop) : (vcFn Try.prog ΓRy noΛ Try.f32 [reS k (Int.ofNat (a + 1)) c (.sl 0 2 0 n cap) (.sl 1 2 0 m cp)] (roHeap [⟨2,n,rowsP g⟩,⟨2,m,rowsP h⟩]) 64 (fun y _ => R y)) =
(sel (decide (k < 0)) (R (SV.tup [(SV.v (.string ({data:=#[]}))),(SV.v (.int .i64 8))])) (sel (decide (k > 10)) (R (SV.tup [(SV.v (.string ({data:=#[]}))),(SV.v (.int .i64 8))])) (((spPre n (winBlk (Ro.blk {s:=2,n:=n,row:=fun i => [SV.v (.int .i64 (Prod.fst (g i))),SV.v (.int .i64 (Prod.snd (g i)))]}) 2 0 n))∧(spPre m (winBlk (Ro.blk {s:=2,n:=m,row:=fun i => [SV.v (.int .i64 (Prod.fst (h i))),SV.v (.int .i64 (Prod.snd (h i)))]}) 2 0 m)))∧(((rowsPre n n fun y => [SV.v (.int .i64 (Prod.fst (g (0 + y)))),SV.v (.int .i64 (Prod.snd (g (0 + y))))])∧(rowsPre m m fun y => [SV.v (.int .i64 (Prod.fst (h (0 + y)))),SV.v (.int .i64 (Prod.snd (h (0 + y))))]))∧(sel (!sameRB k k (Int.ofNat (a + 1)) (Int.ofNat (a + 1)) (uRN (Int.ofNat (a + 1)) c) c (sameBB (RV.o (uRN (Int.ofNat (a + 1)) c)) (RV.o c) (eqSh (sbOf (RV.o (uRN (Int.ofNat (a + 1)) c))) (sbOf (RV.o c))&&Nat.beq n 0)) (Nat.beq m 0)) (R (SV.tup [(SV.v (.string ({data:=#[]}))),(SV.v (.int .i64 4))])) (sel (k == 0) (sel (RV.id c != 0) (R (SV.tup [(SV.v (.string ({data:=#[]}))),(SV.v (.int .i64 4))])) (sel (Int.ofNat (a + 1) == 14) (R (SV.tup [(SV.v (.string ({data:=#[]}))),(SV.v (.int .i64 4))])) (vcRepP_1 k a c n m g h R))) (vcRepP_1 k a c n m g h R))))))) := by kernel_rfl
@[reducible] noncomputable def vcRepM_1 (k : Int) (a : Nat) (c : RV) (n : Nat) (m : Nat) (g : Nat→Int × Int) (h : Nat→Int × Int) (R : SV→Prop) := ((rwPre k (Int.negSucc a) c n m (winBlk (Ro.blk {s:=2,n:=n,row:=fun i => [SV.v (.int .i64 (Prod.fst (g i))),SV.v (.int .i64 (Prod.snd (g i)))]}) 2 0 n) (winBlk (Ro.blk {s:=2,n:=m,row:=fun i => [SV.v (.int .i64 (Prod.fst (h i))),SV.v (.int .i64 (Prod.snd (h i)))]}) 2 0 m))∧(∀ c_1 : Nat,((bytesOk (6 + rNK k (Int.negSucc a) n m) (6 + rNK k (Int.negSucc a) n m + c_1) {elem:=5,size:=1,rw:=true,lock:=false,lit:=false,flat:=true,n:=6 + rNK k (Int.negSucc a) n m,row:=fun i => [SV.v (.int .u8 ((fun i => List.getD (rpL k (Int.negSucc a) c (rTK k (Int.negSucc a) c n (gX (winBlk (Ro.blk {s:=2,n:=n,row:=fun i => [SV.v (.int .i64 (Prod.fst (g i))),SV.v (.int .i64 (Prod.snd (g i)))]}) 2 0 n)) (gY (winBlk (Ro.blk {s:=2,n:=n,row:=fun i => [SV.v (.int .i64 (Prod.fst (g i))),SV.v (.int .i64 (Prod.snd (g i)))]}) 2 0 n)) m (gX (winBlk (Ro.blk {s:=2,n:=m,row:=fun i => [SV.v (.int .i64 (Prod.fst (h i))),SV.v (.int .i64 (Prod.snd (h i)))]}) 2 0 m)) (gY (winBlk (Ro.blk {s:=2,n:=m,row:=fun i => [SV.v (.int .i64 (Prod.fst (h i))),SV.v (.int .i64 (Prod.snd (h i)))]}) 2 0 m)))) i 0) i))],ext:=6 + rNK k (Int.negSucc a) n m + c_1})∧(R (SV.tup [(SV.v (.string (bif false||rpB (Int.negSucc a) c (rBK k (Int.negSucc a) c n m (gX (winBlk (Ro.blk {s:=2,n:=m,row:=fun i => [SV.v (.int .i64 (Prod.fst (h i))),SV.v (.int .i64 (Prod.snd (h i)))]}) 2 0 m)) (gY (winBlk (Ro.blk {s:=2,n:=m,row:=fun i => [SV.v (.int .i64 (Prod.fst (h i))),SV.v (.int .i64 (Prod.snd (h i)))]}) 2 0 m))) then emp else strOf (6 + rNK k (Int.negSucc a) n m) fun i => [SV.v (.int .u8 (SE.byteOf [SV.v (.int .u8 ((fun i => List.getD (rpL k (Int.negSucc a) c (rTK k (Int.negSucc a) c n (gX (winBlk (Ro.blk {s:=2,n:=n,row:=fun i => [SV.v (.int .i64 (Prod.fst (g i))),SV.v (.int .i64 (Prod.snd (g i)))]}) 2 0 n)) (gY (winBlk (Ro.blk {s:=2,n:=n,row:=fun i => [SV.v (.int .i64 (Prod.fst (g i))),SV.v (.int .i64 (Prod.snd (g i)))]}) 2 0 n)) m (gX (winBlk (Ro.blk {s:=2,n:=m,row:=fun i => [SV.v (.int .i64 (Prod.fst (h i))),SV.v (.int .i64 (Prod.snd (h i)))]}) 2 0 m)) (gY (winBlk (Ro.blk {s:=2,n:=m,row:=fun i => [SV.v (.int .i64 (Prod.fst (h i))),SV.v (.int .i64 (Prod.snd (h i)))]}) 2 0 m)))) i 0) i))]))]))),(SV.v (.int .i64 (bif false||rpB (Int.negSucc a) c (rBK k (Int.negSucc a) c n m (gX (winBlk (Ro.blk {s:=2,n:=m,row:=fun i => [SV.v (.int .i64 (Prod.fst (h i))),SV.v (.int .i64 (Prod.snd (h i)))]}) 2 0 m)) (gY (winBlk (Ro.blk {s:=2,n:=m,row:=fun i => [SV.v (.int .i64 (Prod.fst (h i))),SV.v (.int .i64 (Prod.snd (h i)))]}) 2 0 m))) then 3 else 0)))])))))
theorem vcRepM (k : Int) (a : Nat) (c : RV) (n cap m cp : Nat) (g h : Nat→Int × Int) (R : SV→Prop) : (vcFn Try.prog ΓRy noΛ Try.f32 [reS k (Int.negSucc a) c (.sl 0 2 0 n cap) (.sl 1 2 0 m cp)] (roHeap [⟨2,n,rowsP g⟩,⟨2,m,rowsP h⟩]) 64 (fun y _ => R y)) =
(sel (decide (k < 0)) (R (SV.tup [(SV.v (.string ({data:=#[]}))),(SV.v (.int .i64 8))])) (sel (decide (k > 10)) (R (SV.tup [(SV.v (.string ({data:=#[]}))),(SV.v (.int .i64 8))])) (((spPre n (winBlk (Ro.blk {s:=2,n:=n,row:=fun i => [SV.v (.int .i64 (Prod.fst (g i))),SV.v (.int .i64 (Prod.snd (g i)))]}) 2 0 n))∧(spPre m (winBlk (Ro.blk {s:=2,n:=m,row:=fun i => [SV.v (.int .i64 (Prod.fst (h i))),SV.v (.int .i64 (Prod.snd (h i)))]}) 2 0 m)))∧(((rowsPre n n fun y => [SV.v (.int .i64 (Prod.fst (g (0 + y)))),SV.v (.int .i64 (Prod.snd (g (0 + y))))])∧(rowsPre m m fun y => [SV.v (.int .i64 (Prod.fst (h (0 + y)))),SV.v (.int .i64 (Prod.snd (h (0 + y))))]))∧(sel (!sameRB k k (Int.negSucc a) (Int.negSucc a) (uRN (Int.negSucc a) c) c (sameBB (RV.o (uRN (Int.negSucc a) c)) (RV.o c) (eqSh (sbOf (RV.o (uRN (Int.negSucc a) c))) (sbOf (RV.o c))&&Nat.beq n 0)) (Nat.beq m 0)) (R (SV.tup [(SV.v (.string ({data:=#[]}))),(SV.v (.int .i64 4))])) (sel (k == 0) (sel (RV.id c != 0) (R (SV.tup [(SV.v (.string ({data:=#[]}))),(SV.v (.int .i64 4))])) (vcRepM_1 k a c n m g h R)) (vcRepM_1 k a c n m g h R))))))) := by kernel_rfl
theorem vcRepO (k e : Int) (c : RV) (n cap m cp : Nat) (g h : Nat→Int × Int) (R : SV→Prop) : (vcFn Try.prog noCtrs noΛ Try.f32 [reS k e c (.sl 0 2 0 n cap) (.sl 1 2 0 m cp)] (roHeap [⟨2,n,rowsP g⟩,⟨2,m,rowsP h⟩]) 64 (fun y _ => R y)) = (sel (decide (k < 0)) (R (SV.tup [(SV.v (.string ({data:=#[]}))),(SV.v (.int .i64 8))])) (sel (decide (k > 10)) (R (SV.tup [(SV.v (.string ({data:=#[]}))),(SV.v (.int .i64 8))])) False)):=by kernel_rfl
theorem e_P (a : Nat) : (Int.ofNat (a + 1) == 0) = false := by
  cases hb : (Int.ofNat (a + 1) == 0) with
  | false => rfl
  | true =>
    have hb := beq_iff_eq.1 hb
    have : ((a + 1 : Nat) : Int) = 0 := hb
    omega
theorem e_M (a : Nat) : (Int.negSucc a == 0) = false := by
  cases hb : (Int.negSucc a == 0) with
  | false => rfl
  | true => cases beq_iff_eq.1 hb
theorem e_M14 (a : Nat) : (Int.negSucc a == 14) = false := by
  cases hb : (Int.negSucc a == 14) with
  | false => rfl
  | true => cases beq_iff_eq.1 hb
theorem ReplyW_spec : HpSpec Try.prog 78 sReplyW := hp_spec hm ΓPr_ok Try.func78 (Λ := fun args bs => match args, bs with
    | [_, .agg l], [B, _, H] => match cellsOfR l, wrOf [B] with
      | some (8, 0, c, _, .sl _ _ _ m _), some (.fresh (some b)) => ΛRw8 (b || (notIn c.id 2147483647 || notIn (m : Int) 64)) ([8] ++ (c4 c.id ++ ([0] ++ [(m : Int) % 256]))) m (gX H) (gY H)
      | _, _ => noΛ
    | _, _ => noΛ) fun args bs e0 hs hp => by
  unfold sReplyW at hs
  split at hs <;> try (cases hs; done)
  rename_i l
  split at hs <;> try (cases hs; done)
  rename_i k e c n cap m cp hl
  split at hs <;> try (cases hs; done)
  rename_i B S H
  split at hs <;> try (cases hs; done)
  rename_i b hw
  obtain ⟨hS, he⟩ := bif_some hs
  subst he
  rw [Bool.and_eq_true] at hS
  obtain ⟨hk, ⟨ik, ie⟩, hc, ⟨hsp, hn⟩, hsh, hm'⟩ := hp
  refine ⟨[wB (some b) true nilS, ptB S.elem n (gX S) (gY S) S.ext S.whole, ptB H.elem m (gX H) (gY H) H.ext H.whole], ⟨(wrOf_fresh hw).1, same_ptB hS.1 hsp, same_ptB hS.2 hsh, trivial⟩, ?_⟩
  have hv : ∀ i, i < n → I64 (gX S i) ∧ I64 (gY S i) := (pre_of hsp).2
  have hu : ∀ i, i < m → I64 (gX H i) ∧ I64 (gY H i) := (pre_of hsh).2
  cases e with
  | ofNat e =>
    cases e with
    | zero =>
      have hk := hk rfl
      have hk' : k = 1 ∨ k = 2 ∨ k = 3 ∨ k = 4 ∨ k = 5 ∨ k = 6 ∨ k = 7 ∨ k = 8 ∨ k = 9 ∨ k = 10 := by omega
      rcases hk' with x | x | x | x | x | x | x | x | x | x <;> subst x
      · simp only [hl, hw]
        rw [reps_eq hl]
        exact reply_1 hc hn hv hm' hu
      · simp only [hl, hw]
        rw [reps_eq hl]
        exact reply_2 hc hn hv hm' hu
      · simp only [hl, hw]
        rw [reps_eq hl]
        exact reply_3 hc hn hv hm' hu
      · simp only [hl, hw]
        rw [reps_eq hl]
        exact reply_4 hc hn hv hm' hu
      · simp only [hl, hw]
        rw [reps_eq hl]
        exact reply_5 hc hn hv hm' hu
      · simp only [hl, hw]
        rw [reps_eq hl]
        exact reply_6 hc hn hv hm' hu
      · simp only [hl, hw]
        rw [reps_eq hl]
        exact reply_7 hc hn hv hm' hu
      · simp only [hl, hw]
        rw [reps_eq hl]
        exact reply_8 hc hn hv hm' hu
      · simp only [hl, hw]
        rw [reps_eq hl]
        exact reply_9 hc hn hv hm' hu
      · simp only [hl, hw]
        rw [reps_eq hl]
        exact reply_10 hc hn hv hm' hu
    | succ a =>
      have hΛ : (match (k, Int.ofNat (a + 1)) with | (8, 0) => false | _ => true) = true := by
        split
        · rename_i h
          cases h
        · rfl
      simp only [hl, hw]
      rw [reps_eq hl]
      unfold rNK rTK rBK
      rw [e_P a]
      exact reply_P hc hn hv hm' hu ik ie
  | negSucc a =>
    simp only [hl, hw]
    rw [reps_eq hl]
    unfold rNK rTK rBK
    rw [e_M a, e_M14 a]
    exact reply_M hc hn hv hm' hu ik ie
end Go.Proofs.Ytjdldadmaaeimaa
end
section
namespace Go.Proofs.Ytjdldadmaaeimaa
open Go.SE Go.RowKit
def rkOk (k : Int) : Bool := decide (0 ≤ k) && decide (k ≤ 10)
def rForm (k e : Int) (c : RV) (n : Nat) (g : Nat → Int × Int) (m : Nat) (h : Nat → Int × Int) : Bool := (!(k == 0) || (c.id == 0 && (!(e == 0) && !(e == 14)))) && sameRB k k e e (uRK k e c) c (sameBB (uRK k e c).o c.o (bif e == 0 && k == 7 then sameS (sbOf (uRK k e c).o) n g (sbOf c.o) n g else eqSh (sbOf (uRK k e c).o) (sbOf c.o) && Nat.beq n 0)) (bif e == 0 && k == 8 then sameP m h m h else Nat.beq m 0)
def rBad (k e : Int) (c : RV) (n m : Nat) (h : Nat → Int × Int) : Bool := rpB e c (rBK k e c n m (fun i => (h i).1) (fun i => (h i).2))
def repL (k e : Int) (c : RV) (n : Nat) (g : Nat → Int × Int) (m : Nat) (h : Nat → Int × Int) : List Int := rpL k e c (rTK k e c n (fun i => (g i).1) (fun i => (g i).2) m (fun i => (h i).1) (fun i => (h i).2))
def repBs (k e : Int) (c : RV) (n : Nat) (g : Nat → Int × Int) (m : Nat) (h : Nat → Int × Int) : ByteArray := strOf (6 + rNK k e n m) fun i => [.v (.int .u8 ((repL k e c n g m h).getD i 0))]
def repT (k e : Int) (c : RV) (n : Nat) (g : Nat → Int × Int) (m : Nat) (h : Nat → Int × Int) : ByteArray := bif rkOk k && (rForm k e c n g m h && !rBad k e c n m h) then repBs k e c n g m h else emp
def repE (k e : Int) (c : RV) (n : Nat) (g : Nat → Int × Int) (m : Nat) (h : Nat → Int × Int) : Int := bif rkOk k then (bif rForm k e c n g m h then (bif rBad k e c n m h then 3 else 0) else 4) else 8
def repPre (k e : Int) (c : RV) (n n' m m' : Nat) (r1 r2 : Nat → List SV) : Prop := (rowsPre n n' r1 ∧ rowsPre m m' r2) ∧ (rvOk c ∧ I64 k ∧ I64 e) ∧ n < 100 ∧ m < 200
def sRepG : List SV → List Ro → Option (Option Prop × SV)
  | [.agg l], [⟨2, n', r1⟩, ⟨2, m', r2⟩] => match cellsOfR l with
    | some (k, e, c, .sl 0 2 0 n _, .sl 1 2 0 m _) => some (some (repPre k e c n n' m m' r1 r2), .tup [strS (repT k e c n (fun i => gi (r1 i)) m fun i => gi (r2 i)), iV (repE k e c n (fun i => gi (r1 i)) m fun i => gi (r2 i))])
    | _ => none
  | _, _ => none
def ΓRk : Ctrs := addCtr noCtrs 32 (roCtr sRepG)
theorem vcCheckR (k e : Int) (c : RV) (n cap m cp : Nat) (g h : Nat→Int × Int) (R : SV→Prop) : (vcFn Try.prog ΓRk noΛ Try.f34 [reS k e c (.sl 0 2 0 n cap) (.sl 1 2 0 m cp)] (roHeap [⟨2,n,rowsP g⟩,⟨2,m,rowsP h⟩]) 64 (fun y _ => R y)) = ((repPre k e c n n m m (fun y => [SV.v (.int .i64 (Prod.fst (g (0 + y)))),SV.v (.int .i64 (Prod.snd (g (0 + y))))]) fun y => [SV.v (.int .i64 (Prod.fst (h (0 + y)))),SV.v (.int .i64 (Prod.snd (h (0 + y))))])∧(R (SV.v (.int .i64 (repE k e c n (fun i => gi [SV.v (.int .i64 (Prod.fst (g (0 + i)))),SV.v (.int .i64 (Prod.snd (g (0 + i))))]) m fun i => gi [SV.v (.int .i64 (Prod.fst (h (0 + i)))),SV.v (.int .i64 (Prod.snd (h (0 + i))))]))))):=by kernel_rfl
def sCheckR : List SV → List Ro → Option (Option Prop × SV)
  | [.agg l], [⟨2, n', r1⟩, ⟨2, m', r2⟩] => match cellsOfR l with
    | some (k, e, c, .sl 0 2 0 n _, .sl 1 2 0 m _) => some (some (repPre k e c n n' m m' r1 r2), iV (repE k e c n (fun i => gi (r1 i)) m fun i => gi (r2 i)))
    | _ => none
  | _, _ => none
theorem ΓRy_ok : ∀ f g, ΓRy f = some g → g.ok Try.prog f := addCtr_ok (addCtr_ok (addCtr_ok (addCtr_ok noCtrs_ok (hp_ok Try.func77 (by kernel_rfl) (by kernel_rfl) Shown_spec)) (ro_ok Try.func36 (by kernel_rfl) (by kernel_rfl) SameR_spec')) (hp_ok Try.func78 (by kernel_rfl) (by kernel_rfl) ReplyW_spec)) (hp_ok Try.func71 (by kernel_rfl) (by kernel_rfl) DoneG_spec)
theorem bif_le {b : Bool} {x y z : Nat} (h1 : x ≤ z) (h2 : y ≤ z) : (bif b then x else y) ≤ z := by
  cases b
  · exact h2
  · exact h1
theorem rNK_le (k e : Int) {n m : Nat} (hn : n < 100) (hm' : m < 200) : rNK k e n m ≤ 6000 := by
  have hsn := shN_le n
  unfold rNK
  cases e == 0 with
  | false =>
    rw [cond_false]
    cases e == 14 <;> simp
  | true =>
    rw [cond_true]
    unfold rN1 rN2 rN3 rN4 rN5 rN6 rN7 rN8 rN9 rN10 boN
    repeat (first | omega | (refine bif_le ?_ ?_))
theorem rep_0 {c : RV} {n cap m cp : Nat} {g h : Nat → Int × Int} (hc : rvOk c) (hn : n < 100) (hg : ∀ i, i < n → I64 (g i).1 ∧ I64 (g i).2) (hm' : m < 200) (hh : ∀ i, i < m → I64 (h i).1 ∧ I64 (h i).2) : vcFn Try.prog ΓRy noΛ Try.f32 [reS 0 0 c (.sl 0 2 0 n cap) (.sl 1 2 0 m cp)] (roHeap [⟨2, n, rowsP g⟩, ⟨2, m, rowsP h⟩]) 64 (fun y _ => y = .tup [strS (repT 0 0 c n g m h), iV (repE 0 0 c n g m h)]) := by
  have hn4 : n < 1099511627776 := by omega
  have hm4 : m < 1099511627776 := by omega
  refine Eq.mpr (vcRep0 c n cap m cp g h _) ⟨⟨win_sp hn4 hg, win_sp hm4 hh⟩, ⟨pre_rows hn4 hg, pre_rows hm4 hh⟩, ?_⟩
  have hf : rForm 0 0 c n g m h = false := by
    unfold rForm
    rw [show (!((0 : Int) == 0)) = false from rfl, Bool.false_and, Bool.and_false]
    rfl
  unfold repT repE
  rw [hf]
  exact sel_of (fun _ => rfl) fun _ => sel_of (fun _ => rfl) fun _ => rfl
theorem rep_1 {c : RV} {n cap m cp : Nat} {g h : Nat → Int × Int} (hc : rvOk c) (hn : n < 100) (hg : ∀ i, i < n → I64 (g i).1 ∧ I64 (g i).2) (hm' : m < 200) (hh : ∀ i, i < m → I64 (h i).1 ∧ I64 (h i).2) : vcFn Try.prog ΓRy noΛ Try.f32 [reS 1 0 c (.sl 0 2 0 n cap) (.sl 1 2 0 m cp)] (roHeap [⟨2, n, rowsP g⟩, ⟨2, m, rowsP h⟩]) 64 (fun y _ => y = .tup [strS (repT 1 0 c n g m h), iV (repE 1 0 c n g m h)]) := by
  have hn4 : n < 1099511627776 := by omega
  have hm4 : m < 1099511627776 := by omega
  have hN := rNK_le 1 0 hn hm'
  refine Eq.mpr (vcRep1 c n cap m cp g h _) ?_
  repeat (first | unfold vcRep1_2 | unfold vcRep1_1)
  refine ⟨⟨win_sp hn4 hg, win_sp hm4 hh⟩, ⟨pre_rows hn4 hg, pre_rows hm4 hh⟩, ?_⟩
  rw [win_gX g, win_gY g, win_gX h, win_gY h]
  have hf : rForm 1 0 c n g m h = sameRB 1 1 0 0 (uR1 c) c (sameBB (uR1 c).o c.o (eqSh (sbOf (uR1 c).o) (sbOf c.o) && Nat.beq n 0)) (Nat.beq m 0) := rfl
  unfold repT repE
  rw [hf, show rkOk 1 = true from rfl]
  generalize sameRB 1 1 0 0 (uR1 c) c (sameBB (uR1 c).o c.o (eqSh (sbOf (uR1 c).o) (sbOf c.o) && Nat.beq n 0)) (Nat.beq m 0) = s
  cases s with
  | false => exact sel_of (fun _ => rfl) fun e => by cases e
  | true =>
    refine sel_of (fun e => by cases e) fun _ => ⟨⟨fun _ => ⟨by omega, by omega⟩, ⟨⟨by omega, by omega⟩, ⟨by omega, by omega⟩⟩, hc, ⟨win_sp hn4 hg, hn⟩, win_sp hm4 hh, hm'⟩, fun c1 => ⟨bytesOk_bG _ _ _ (by omega), ?_⟩⟩
    show SV.tup [.v (.string (bif false || rBad 1 0 c n m h then emp else repBs 1 0 c n g m h)), .v (.int .i64 (bif false || rBad 1 0 c n m h then 3 else 0))] = _
    cases rBad 1 0 c n m h <;> rfl
theorem rep_2 {c : RV} {n cap m cp : Nat} {g h : Nat → Int × Int} (hc : rvOk c) (hn : n < 100) (hg : ∀ i, i < n → I64 (g i).1 ∧ I64 (g i).2) (hm' : m < 200) (hh : ∀ i, i < m → I64 (h i).1 ∧ I64 (h i).2) : vcFn Try.prog ΓRy noΛ Try.f32 [reS 2 0 c (.sl 0 2 0 n cap) (.sl 1 2 0 m cp)] (roHeap [⟨2, n, rowsP g⟩, ⟨2, m, rowsP h⟩]) 64 (fun y _ => y = .tup [strS (repT 2 0 c n g m h), iV (repE 2 0 c n g m h)]) := by
  have hn4 : n < 1099511627776 := by omega
  have hm4 : m < 1099511627776 := by omega
  have hN := rNK_le 2 0 hn hm'
  refine Eq.mpr (vcRep2 c n cap m cp g h _) ?_
  repeat (first | unfold vcRep2_2 | unfold vcRep2_1)
  refine ⟨⟨win_sp hn4 hg, win_sp hm4 hh⟩, ⟨pre_rows hn4 hg, pre_rows hm4 hh⟩, ?_⟩
  rw [win_gX g, win_gY g, win_gX h, win_gY h]
  have hf : rForm 2 0 c n g m h = sameRB 2 2 0 0 (uR2 c) c (sameBB (uR2 c).o c.o (eqSh (sbOf (uR2 c).o) (sbOf c.o) && Nat.beq n 0)) (Nat.beq m 0) := rfl
  unfold repT repE
  rw [hf, show rkOk 2 = true from rfl]
  generalize sameRB 2 2 0 0 (uR2 c) c (sameBB (uR2 c).o c.o (eqSh (sbOf (uR2 c).o) (sbOf c.o) && Nat.beq n 0)) (Nat.beq m 0) = s
  cases s with
  | false => exact sel_of (fun _ => rfl) fun e => by cases e
  | true =>
    refine sel_of (fun e => by cases e) fun _ => ⟨⟨fun _ => ⟨by omega, by omega⟩, ⟨⟨by omega, by omega⟩, ⟨by omega, by omega⟩⟩, hc, ⟨win_sp hn4 hg, hn⟩, win_sp hm4 hh, hm'⟩, fun c1 => ⟨bytesOk_bG _ _ _ (by omega), ?_⟩⟩
    show SV.tup [.v (.string (bif false || rBad 2 0 c n m h then emp else repBs 2 0 c n g m h)), .v (.int .i64 (bif false || rBad 2 0 c n m h then 3 else 0))] = _
    cases rBad 2 0 c n m h <;> rfl
theorem rep_3 {c : RV} {n cap m cp : Nat} {g h : Nat → Int × Int} (hc : rvOk c) (hn : n < 100) (hg : ∀ i, i < n → I64 (g i).1 ∧ I64 (g i).2) (hm' : m < 200) (hh : ∀ i, i < m → I64 (h i).1 ∧ I64 (h i).2) : vcFn Try.prog ΓRy noΛ Try.f32 [reS 3 0 c (.sl 0 2 0 n cap) (.sl 1 2 0 m cp)] (roHeap [⟨2, n, rowsP g⟩, ⟨2, m, rowsP h⟩]) 64 (fun y _ => y = .tup [strS (repT 3 0 c n g m h), iV (repE 3 0 c n g m h)]) := by
  have hn4 : n < 1099511627776 := by omega
  have hm4 : m < 1099511627776 := by omega
  have hN := rNK_le 3 0 hn hm'
  refine Eq.mpr (vcRep3 c n cap m cp g h _) ?_
  repeat (first | unfold vcRep3_2 | unfold vcRep3_1)
  refine ⟨⟨win_sp hn4 hg, win_sp hm4 hh⟩, ⟨pre_rows hn4 hg, pre_rows hm4 hh⟩, ?_⟩
  rw [win_gX g, win_gY g, win_gX h, win_gY h]
  have hf : rForm 3 0 c n g m h = sameRB 3 3 0 0 (uR3 c) c (sameBB (uR3 c).o c.o (eqSh (sbOf (uR3 c).o) (sbOf c.o) && Nat.beq n 0)) (Nat.beq m 0) := rfl
  unfold repT repE
  rw [hf, show rkOk 3 = true from rfl]
  generalize sameRB 3 3 0 0 (uR3 c) c (sameBB (uR3 c).o c.o (eqSh (sbOf (uR3 c).o) (sbOf c.o) && Nat.beq n 0)) (Nat.beq m 0) = s
  cases s with
  | false => exact sel_of (fun _ => rfl) fun e => by cases e
  | true =>
    refine sel_of (fun e => by cases e) fun _ => ⟨⟨fun _ => ⟨by omega, by omega⟩, ⟨⟨by omega, by omega⟩, ⟨by omega, by omega⟩⟩, hc, ⟨win_sp hn4 hg, hn⟩, win_sp hm4 hh, hm'⟩, fun c1 => ⟨bytesOk_bG _ _ _ (by omega), ?_⟩⟩
    show SV.tup [.v (.string (bif false || rBad 3 0 c n m h then emp else repBs 3 0 c n g m h)), .v (.int .i64 (bif false || rBad 3 0 c n m h then 3 else 0))] = _
    cases rBad 3 0 c n m h <;> rfl
theorem rep_4 {c : RV} {n cap m cp : Nat} {g h : Nat → Int × Int} (hc : rvOk c) (hn : n < 100) (hg : ∀ i, i < n → I64 (g i).1 ∧ I64 (g i).2) (hm' : m < 200) (hh : ∀ i, i < m → I64 (h i).1 ∧ I64 (h i).2) : vcFn Try.prog ΓRy noΛ Try.f32 [reS 4 0 c (.sl 0 2 0 n cap) (.sl 1 2 0 m cp)] (roHeap [⟨2, n, rowsP g⟩, ⟨2, m, rowsP h⟩]) 64 (fun y _ => y = .tup [strS (repT 4 0 c n g m h), iV (repE 4 0 c n g m h)]) := by
  have hn4 : n < 1099511627776 := by omega
  have hm4 : m < 1099511627776 := by omega
  have hN := rNK_le 4 0 hn hm'
  refine Eq.mpr (vcRep4 c n cap m cp g h _) ?_
  repeat (first | unfold vcRep4_2 | unfold vcRep4_1)
  refine ⟨⟨win_sp hn4 hg, win_sp hm4 hh⟩, ⟨pre_rows hn4 hg, pre_rows hm4 hh⟩, ?_⟩
  rw [win_gX g, win_gY g, win_gX h, win_gY h]
  have hf : rForm 4 0 c n g m h = sameRB 4 4 0 0 (uR4 c) c (sameBB (uR4 c).o c.o (eqSh (sbOf (uR4 c).o) (sbOf c.o) && Nat.beq n 0)) (Nat.beq m 0) := rfl
  unfold repT repE
  rw [hf, show rkOk 4 = true from rfl]
  generalize sameRB 4 4 0 0 (uR4 c) c (sameBB (uR4 c).o c.o (eqSh (sbOf (uR4 c).o) (sbOf c.o) && Nat.beq n 0)) (Nat.beq m 0) = s
  cases s with
  | false => exact sel_of (fun _ => rfl) fun e => by cases e
  | true =>
    refine sel_of (fun e => by cases e) fun _ => ⟨⟨fun _ => ⟨by omega, by omega⟩, ⟨⟨by omega, by omega⟩, ⟨by omega, by omega⟩⟩, hc, ⟨win_sp hn4 hg, hn⟩, win_sp hm4 hh, hm'⟩, fun c1 => ⟨bytesOk_bG _ _ _ (by omega), ?_⟩⟩
    show SV.tup [.v (.string (bif false || rBad 4 0 c n m h then emp else repBs 4 0 c n g m h)), .v (.int .i64 (bif false || rBad 4 0 c n m h then 3 else 0))] = _
    cases rBad 4 0 c n m h <;> rfl
theorem rep_5 {c : RV} {n cap m cp : Nat} {g h : Nat → Int × Int} (hc : rvOk c) (hn : n < 100) (hg : ∀ i, i < n → I64 (g i).1 ∧ I64 (g i).2) (hm' : m < 200) (hh : ∀ i, i < m → I64 (h i).1 ∧ I64 (h i).2) : vcFn Try.prog ΓRy noΛ Try.f32 [reS 5 0 c (.sl 0 2 0 n cap) (.sl 1 2 0 m cp)] (roHeap [⟨2, n, rowsP g⟩, ⟨2, m, rowsP h⟩]) 64 (fun y _ => y = .tup [strS (repT 5 0 c n g m h), iV (repE 5 0 c n g m h)]) := by
  have hn4 : n < 1099511627776 := by omega
  have hm4 : m < 1099511627776 := by omega
  have hN := rNK_le 5 0 hn hm'
  refine Eq.mpr (vcRep5 c n cap m cp g h _) ?_
  repeat (first | unfold vcRep5_2 | unfold vcRep5_1)
  refine ⟨⟨win_sp hn4 hg, win_sp hm4 hh⟩, ⟨pre_rows hn4 hg, pre_rows hm4 hh⟩, ?_⟩
  rw [win_gX g, win_gY g, win_gX h, win_gY h]
  have hf : rForm 5 0 c n g m h = sameRB 5 5 0 0 (uR5 c) c (sameBB (uR5 c).o c.o (eqSh (sbOf (uR5 c).o) (sbOf c.o) && Nat.beq n 0)) (Nat.beq m 0) := rfl
  unfold repT repE
  rw [hf, show rkOk 5 = true from rfl]
  generalize sameRB 5 5 0 0 (uR5 c) c (sameBB (uR5 c).o c.o (eqSh (sbOf (uR5 c).o) (sbOf c.o) && Nat.beq n 0)) (Nat.beq m 0) = s
  cases s with
  | false => exact sel_of (fun _ => rfl) fun e => by cases e
  | true =>
    refine sel_of (fun e => by cases e) fun _ => ⟨⟨fun _ => ⟨by omega, by omega⟩, ⟨⟨by omega, by omega⟩, ⟨by omega, by omega⟩⟩, hc, ⟨win_sp hn4 hg, hn⟩, win_sp hm4 hh, hm'⟩, fun c1 => ⟨bytesOk_bG _ _ _ (by omega), ?_⟩⟩
    show SV.tup [.v (.string (bif false || rBad 5 0 c n m h then emp else repBs 5 0 c n g m h)), .v (.int .i64 (bif false || rBad 5 0 c n m h then 3 else 0))] = _
    cases rBad 5 0 c n m h <;> rfl
theorem rep_6 {c : RV} {n cap m cp : Nat} {g h : Nat → Int × Int} (hc : rvOk c) (hn : n < 100) (hg : ∀ i, i < n → I64 (g i).1 ∧ I64 (g i).2) (hm' : m < 200) (hh : ∀ i, i < m → I64 (h i).1 ∧ I64 (h i).2) : vcFn Try.prog ΓRy noΛ Try.f32 [reS 6 0 c (.sl 0 2 0 n cap) (.sl 1 2 0 m cp)] (roHeap [⟨2, n, rowsP g⟩, ⟨2, m, rowsP h⟩]) 64 (fun y _ => y = .tup [strS (repT 6 0 c n g m h), iV (repE 6 0 c n g m h)]) := by
  have hn4 : n < 1099511627776 := by omega
  have hm4 : m < 1099511627776 := by omega
  have hN := rNK_le 6 0 hn hm'
  refine Eq.mpr (vcRep6 c n cap m cp g h _) ?_
  repeat (first | unfold vcRep6_2 | unfold vcRep6_1)
  refine ⟨⟨win_sp hn4 hg, win_sp hm4 hh⟩, ⟨pre_rows hn4 hg, pre_rows hm4 hh⟩, ?_⟩
  rw [win_gX g, win_gY g, win_gX h, win_gY h]
  have hf : rForm 6 0 c n g m h = sameRB 6 6 0 0 (uR6 c) c (sameBB (uR6 c).o c.o (eqSh (sbOf (uR6 c).o) (sbOf c.o) && Nat.beq n 0)) (Nat.beq m 0) := rfl
  unfold repT repE
  rw [hf, show rkOk 6 = true from rfl]
  generalize sameRB 6 6 0 0 (uR6 c) c (sameBB (uR6 c).o c.o (eqSh (sbOf (uR6 c).o) (sbOf c.o) && Nat.beq n 0)) (Nat.beq m 0) = s
  cases s with
  | false => exact sel_of (fun _ => rfl) fun e => by cases e
  | true =>
    refine sel_of (fun e => by cases e) fun _ => ⟨⟨fun _ => ⟨by omega, by omega⟩, ⟨⟨by omega, by omega⟩, ⟨by omega, by omega⟩⟩, hc, ⟨win_sp hn4 hg, hn⟩, win_sp hm4 hh, hm'⟩, fun c1 => ⟨bytesOk_bG _ _ _ (by omega), ?_⟩⟩
    show SV.tup [.v (.string (bif false || rBad 6 0 c n m h then emp else repBs 6 0 c n g m h)), .v (.int .i64 (bif false || rBad 6 0 c n m h then 3 else 0))] = _
    cases rBad 6 0 c n m h <;> rfl
theorem rep_7 {c : RV} {n cap m cp : Nat} {g h : Nat → Int × Int} (hc : rvOk c) (hn : n < 100) (hg : ∀ i, i < n → I64 (g i).1 ∧ I64 (g i).2) (hm' : m < 200) (hh : ∀ i, i < m → I64 (h i).1 ∧ I64 (h i).2) : vcFn Try.prog ΓRy noΛ Try.f32 [reS 7 0 c (.sl 0 2 0 n cap) (.sl 1 2 0 m cp)] (roHeap [⟨2, n, rowsP g⟩, ⟨2, m, rowsP h⟩]) 64 (fun y _ => y = .tup [strS (repT 7 0 c n g m h), iV (repE 7 0 c n g m h)]) := by
  have hn4 : n < 1099511627776 := by omega
  have hm4 : m < 1099511627776 := by omega
  have hN := rNK_le 7 0 hn hm'
  refine Eq.mpr (vcRep7 c n cap m cp g h _) ?_
  repeat (first | unfold vcRep7_2 | unfold vcRep7_1)
  refine ⟨⟨win_sp hn4 hg, win_sp hm4 hh⟩, ⟨pre_rows hn4 hg, pre_rows hn4 hg, pre_rows hm4 hh⟩, ?_⟩
  rw [win_gX g, win_gY g, win_gX h, win_gY h]
  rw [gi_rows0 g]
  have hf : rForm 7 0 c n g m h = sameRB 7 7 0 0 (uR7 c) c (sameBB (uR7 c).o c.o (sameS (sbOf (uR7 c).o) n g (sbOf c.o) n g)) (Nat.beq m 0) := rfl
  unfold repT repE
  rw [hf, show rkOk 7 = true from rfl]
  generalize sameRB 7 7 0 0 (uR7 c) c (sameBB (uR7 c).o c.o (sameS (sbOf (uR7 c).o) n g (sbOf c.o) n g)) (Nat.beq m 0) = s
  cases s with
  | false => exact sel_of (fun _ => rfl) fun e => by cases e
  | true =>
    refine sel_of (fun e => by cases e) fun _ => ⟨⟨fun _ => ⟨by omega, by omega⟩, ⟨⟨by omega, by omega⟩, ⟨by omega, by omega⟩⟩, hc, ⟨win_sp hn4 hg, hn⟩, win_sp hm4 hh, hm'⟩, fun c1 => ⟨bytesOk_bG _ _ _ (by omega), ?_⟩⟩
    show SV.tup [.v (.string (bif false || rBad 7 0 c n m h then emp else repBs 7 0 c n g m h)), .v (.int .i64 (bif false || rBad 7 0 c n m h then 3 else 0))] = _
    cases rBad 7 0 c n m h <;> rfl
theorem rep_8 {c : RV} {n cap m cp : Nat} {g h : Nat → Int × Int} (hc : rvOk c) (hn : n < 100) (hg : ∀ i, i < n → I64 (g i).1 ∧ I64 (g i).2) (hm' : m < 200) (hh : ∀ i, i < m → I64 (h i).1 ∧ I64 (h i).2) : vcFn Try.prog ΓRy noΛ Try.f32 [reS 8 0 c (.sl 0 2 0 n cap) (.sl 1 2 0 m cp)] (roHeap [⟨2, n, rowsP g⟩, ⟨2, m, rowsP h⟩]) 64 (fun y _ => y = .tup [strS (repT 8 0 c n g m h), iV (repE 8 0 c n g m h)]) := by
  have hn4 : n < 1099511627776 := by omega
  have hm4 : m < 1099511627776 := by omega
  have hN := rNK_le 8 0 hn hm'
  refine Eq.mpr (vcRep8 c n cap m cp g h _) ?_
  repeat (first | unfold vcRep8_2 | unfold vcRep8_1)
  refine ⟨⟨win_sp hn4 hg, win_sp hm4 hh⟩, ⟨pre_rows hm4 hh, pre_rows hn4 hg, pre_rows hm4 hh⟩, ?_⟩
  rw [win_gX g, win_gY g, win_gX h, win_gY h]
  rw [gi_rows0 h]
  have hf : rForm 8 0 c n g m h = sameRB 8 8 0 0 (uR8 c) c (sameBB (uR8 c).o c.o (eqSh (sbOf (uR8 c).o) (sbOf c.o) && Nat.beq n 0)) (sameP m h m h) := rfl
  unfold repT repE
  rw [hf, show rkOk 8 = true from rfl]
  generalize sameRB 8 8 0 0 (uR8 c) c (sameBB (uR8 c).o c.o (eqSh (sbOf (uR8 c).o) (sbOf c.o) && Nat.beq n 0)) (sameP m h m h) = s
  cases s with
  | false => exact sel_of (fun _ => rfl) fun e => by cases e
  | true =>
    refine sel_of (fun e => by cases e) fun _ => ⟨⟨fun _ => ⟨by omega, by omega⟩, ⟨⟨by omega, by omega⟩, ⟨by omega, by omega⟩⟩, hc, ⟨win_sp hn4 hg, hn⟩, win_sp hm4 hh, hm'⟩, fun c1 => ⟨bytesOk_bG _ _ _ (by omega), ?_⟩⟩
    show SV.tup [.v (.string (bif false || rBad 8 0 c n m h then emp else repBs 8 0 c n g m h)), .v (.int .i64 (bif false || rBad 8 0 c n m h then 3 else 0))] = _
    cases rBad 8 0 c n m h <;> rfl
theorem rep_9 {c : RV} {n cap m cp : Nat} {g h : Nat → Int × Int} (hc : rvOk c) (hn : n < 100) (hg : ∀ i, i < n → I64 (g i).1 ∧ I64 (g i).2) (hm' : m < 200) (hh : ∀ i, i < m → I64 (h i).1 ∧ I64 (h i).2) : vcFn Try.prog ΓRy noΛ Try.f32 [reS 9 0 c (.sl 0 2 0 n cap) (.sl 1 2 0 m cp)] (roHeap [⟨2, n, rowsP g⟩, ⟨2, m, rowsP h⟩]) 64 (fun y _ => y = .tup [strS (repT 9 0 c n g m h), iV (repE 9 0 c n g m h)]) := by
  have hn4 : n < 1099511627776 := by omega
  have hm4 : m < 1099511627776 := by omega
  have hN := rNK_le 9 0 hn hm'
  refine Eq.mpr (vcRep9 c n cap m cp g h _) ?_
  repeat (first | unfold vcRep9_2 | unfold vcRep9_1)
  refine ⟨⟨win_sp hn4 hg, win_sp hm4 hh⟩, ⟨pre_rows hn4 hg, pre_rows hm4 hh⟩, ?_⟩
  rw [win_gX g, win_gY g, win_gX h, win_gY h]
  have hf : rForm 9 0 c n g m h = sameRB 9 9 0 0 (uR9 c) c (sameBB (uR9 c).o c.o (eqSh (sbOf (uR9 c).o) (sbOf c.o) && Nat.beq n 0)) (Nat.beq m 0) := rfl
  unfold repT repE
  rw [hf, show rkOk 9 = true from rfl]
  generalize sameRB 9 9 0 0 (uR9 c) c (sameBB (uR9 c).o c.o (eqSh (sbOf (uR9 c).o) (sbOf c.o) && Nat.beq n 0)) (Nat.beq m 0) = s
  cases s with
  | false => exact sel_of (fun _ => rfl) fun e => by cases e
  | true =>
    refine sel_of (fun e => by cases e) fun _ => ⟨⟨fun _ => ⟨by omega, by omega⟩, ⟨⟨by omega, by omega⟩, ⟨by omega, by omega⟩⟩, hc, ⟨win_sp hn4 hg, hn⟩, win_sp hm4 hh, hm'⟩, fun c1 => ⟨bytesOk_bG _ _ _ (by omega), ?_⟩⟩
    show SV.tup [.v (.string (bif false || rBad 9 0 c n m h then emp else repBs 9 0 c n g m h)), .v (.int .i64 (bif false || rBad 9 0 c n m h then 3 else 0))] = _
    cases rBad 9 0 c n m h <;> rfl
theorem rep_10 {c : RV} {n cap m cp : Nat} {g h : Nat → Int × Int} (hc : rvOk c) (hn : n < 100) (hg : ∀ i, i < n → I64 (g i).1 ∧ I64 (g i).2) (hm' : m < 200) (hh : ∀ i, i < m → I64 (h i).1 ∧ I64 (h i).2) : vcFn Try.prog ΓRy noΛ Try.f32 [reS 10 0 c (.sl 0 2 0 n cap) (.sl 1 2 0 m cp)] (roHeap [⟨2, n, rowsP g⟩, ⟨2, m, rowsP h⟩]) 64 (fun y _ => y = .tup [strS (repT 10 0 c n g m h), iV (repE 10 0 c n g m h)]) := by
  have hn4 : n < 1099511627776 := by omega
  have hm4 : m < 1099511627776 := by omega
  have hN := rNK_le 10 0 hn hm'
  refine Eq.mpr (vcRep10 c n cap m cp g h _) ?_
  repeat (first | unfold vcRep10_2 | unfold vcRep10_1)
  refine ⟨⟨win_sp hn4 hg, win_sp hm4 hh⟩, ⟨pre_rows hn4 hg, pre_rows hm4 hh⟩, ?_⟩
  rw [win_gX g, win_gY g, win_gX h, win_gY h]
  have hf : rForm 10 0 c n g m h = sameRB 10 10 0 0 (uR10 c) c (sameBB (uR10 c).o c.o (eqSh (sbOf (uR10 c).o) (sbOf c.o) && Nat.beq n 0)) (Nat.beq m 0) := rfl
  unfold repT repE
  rw [hf, show rkOk 10 = true from rfl]
  generalize sameRB 10 10 0 0 (uR10 c) c (sameBB (uR10 c).o c.o (eqSh (sbOf (uR10 c).o) (sbOf c.o) && Nat.beq n 0)) (Nat.beq m 0) = s
  cases s with
  | false => exact sel_of (fun _ => rfl) fun e => by cases e
  | true =>
    refine sel_of (fun e => by cases e) fun _ => ⟨⟨fun _ => ⟨by omega, by omega⟩, ⟨⟨by omega, by omega⟩, ⟨by omega, by omega⟩⟩, hc, ⟨win_sp hn4 hg, hn⟩, win_sp hm4 hh, hm'⟩, fun c1 => ⟨bytesOk_bG _ _ _ (by omega), ?_⟩⟩
    show SV.tup [.v (.string (bif false || rBad 10 0 c n m h then emp else repBs 10 0 c n g m h)), .v (.int .i64 (bif false || rBad 10 0 c n m h then 3 else 0))] = _
    cases rBad 10 0 c n m h <;> rfl
theorem rep_P {k : Int} {a : Nat} {c : RV} {n cap m cp : Nat} {g h : Nat → Int × Int} (hc : rvOk c) (hn : n < 100) (hg : ∀ i, i < n → I64 (g i).1 ∧ I64 (g i).2) (hm' : m < 200) (hh : ∀ i, i < m → I64 (h i).1 ∧ I64 (h i).2) (hk : I64 k) (he : I64 (Int.ofNat (a + 1))) : vcFn Try.prog ΓRy noΛ Try.f32 [reS k (Int.ofNat (a + 1)) c (.sl 0 2 0 n cap) (.sl 1 2 0 m cp)] (roHeap [⟨2, n, rowsP g⟩, ⟨2, m, rowsP h⟩]) 64 (fun y _ => y = .tup [strS (repT k (Int.ofNat (a + 1)) c n g m h), iV (repE k (Int.ofNat (a + 1)) c n g m h)]) := by
  have hn4 : n < 1099511627776 := by omega
  have hm4 : m < 1099511627776 := by omega
  have hN := rNK_le k (Int.ofNat (a + 1)) hn hm'
  have he0 : (Int.ofNat (a + 1)) ≠ 0 := fun hz => by have := e_P a; rw [hz] at this; cases this
  refine Eq.mpr (vcRepP k a c n cap m cp g h _) ?_
  repeat (first | unfold vcRepP_1)
  refine (sel_of (fun e1 => ?_) fun e1 => sel_of (fun e2 => ?_) fun e2 => ⟨⟨win_sp hn4 hg, win_sp hm4 hh⟩, ⟨pre_rows hn4 hg, pre_rows hm4 hh⟩, ?_⟩)
  · have e1 := of_decide_eq_true e1
    unfold repT repE rkOk
    rw [decide_eq_false (show ¬ 0 ≤ k by omega)]
    rfl
  · have e2 := of_decide_eq_true e2
    unfold repT repE rkOk
    rw [decide_eq_false (show ¬ k ≤ 10 by omega), Bool.and_false]
    rfl
  have e1 := of_decide_eq_false e1
  have e2 := of_decide_eq_false e2
  have hko : rkOk k = true := by
    unfold rkOk
    rw [decide_eq_true (show 0 ≤ k by omega), decide_eq_true (show k ≤ 10 by omega)]
    rfl
  rw [win_gX g, win_gY g, win_gX h, win_gY h]
  have hf : rForm k (Int.ofNat (a + 1)) c n g m h = ((!(k == 0) || (c.id == 0 && !((Int.ofNat (a + 1)) == 14))) && sameRB k k (Int.ofNat (a + 1)) (Int.ofNat (a + 1)) (uRN (Int.ofNat (a + 1)) c) c (sameBB (uRN (Int.ofNat (a + 1)) c).o c.o (eqSh (sbOf (uRN (Int.ofNat (a + 1)) c).o) (sbOf c.o) && Nat.beq n 0)) (Nat.beq m 0)) := by
    unfold rForm uRK
    rw [e_P a]
    rfl
  unfold repT repE
  rw [hko, hf]
  generalize sameRB k k (Int.ofNat (a + 1)) (Int.ofNat (a + 1)) (uRN (Int.ofNat (a + 1)) c) c (sameBB (uRN (Int.ofNat (a + 1)) c).o c.o (eqSh (sbOf (uRN (Int.ofNat (a + 1)) c).o) (sbOf c.o) && Nat.beq n 0)) (Nat.beq m 0) = s
  have fin : ∀ f : Bool, f = true → SV.tup [.v (.string (bif false || rBad k (Int.ofNat (a + 1)) c n m h then emp else repBs k (Int.ofNat (a + 1)) c n g m h)), .v (.int .i64 (bif false || rBad k (Int.ofNat (a + 1)) c n m h then 3 else 0))] = .tup [strS (bif true && (f && !rBad k (Int.ofNat (a + 1)) c n m h) then repBs k (Int.ofNat (a + 1)) c n g m h else emp), iV (bif true then (bif f then (bif rBad k (Int.ofNat (a + 1)) c n m h then 3 else 0) else 4) else 8)] := fun f hf => by
    subst hf
    cases rBad k (Int.ofNat (a + 1)) c n m h <;> rfl
  cases s with
  | false => exact sel_of (fun _ => by rw [Bool.and_false]; rfl) fun e => by cases e
  | true =>
    rw [Bool.and_true]
    refine sel_of (fun e => by cases e) fun _ => sel_of (fun h0 => ?_) fun h0 => ?_
    · rw [h0]
      refine sel_of (fun h1 => ?_) fun h1 => ?_
      · have h1 : (c.id == 0) = false := by simpa using h1
        rw [h1]
        rfl
      · have h1 : (c.id == 0) = true := by simpa using h1
        rw [h1]
        refine sel_of (fun h2 => ?_) fun h2 => ?_
        · rw [h2]
          rfl
        · rw [h2]
          refine ⟨⟨fun h0 => absurd h0 he0, ⟨hk, he⟩, hc, ⟨win_sp hn4 hg, hn⟩, win_sp hm4 hh, hm'⟩, fun c1 => ⟨bytesOk_bG _ _ _ (by omega), ?_⟩⟩
          exact fin _ rfl
    · rw [h0]
      refine ⟨⟨fun h0 => absurd h0 he0, ⟨hk, he⟩, hc, ⟨win_sp hn4 hg, hn⟩, win_sp hm4 hh, hm'⟩, fun c1 => ⟨bytesOk_bG _ _ _ (by omega), ?_⟩⟩
      exact fin _ rfl
theorem rep_M {k : Int} {a : Nat} {c : RV} {n cap m cp : Nat} {g h : Nat → Int × Int} (hc : rvOk c) (hn : n < 100) (hg : ∀ i, i < n → I64 (g i).1 ∧ I64 (g i).2) (hm' : m < 200) (hh : ∀ i, i < m → I64 (h i).1 ∧ I64 (h i).2) (hk : I64 k) (he : I64 (Int.negSucc a)) : vcFn Try.prog ΓRy noΛ Try.f32 [reS k (Int.negSucc a) c (.sl 0 2 0 n cap) (.sl 1 2 0 m cp)] (roHeap [⟨2, n, rowsP g⟩, ⟨2, m, rowsP h⟩]) 64 (fun y _ => y = .tup [strS (repT k (Int.negSucc a) c n g m h), iV (repE k (Int.negSucc a) c n g m h)]) := by
  have hn4 : n < 1099511627776 := by omega
  have hm4 : m < 1099511627776 := by omega
  have hN := rNK_le k (Int.negSucc a) hn hm'
  have he0 : (Int.negSucc a) ≠ 0 := fun hz => by have := e_M a; rw [hz] at this; cases this
  refine Eq.mpr (vcRepM k a c n cap m cp g h _) ?_
  repeat (first | unfold vcRepM_1)
  refine (sel_of (fun e1 => ?_) fun e1 => sel_of (fun e2 => ?_) fun e2 => ⟨⟨win_sp hn4 hg, win_sp hm4 hh⟩, ⟨pre_rows hn4 hg, pre_rows hm4 hh⟩, ?_⟩)
  · have e1 := of_decide_eq_true e1
    unfold repT repE rkOk
    rw [decide_eq_false (show ¬ 0 ≤ k by omega)]
    rfl
  · have e2 := of_decide_eq_true e2
    unfold repT repE rkOk
    rw [decide_eq_false (show ¬ k ≤ 10 by omega), Bool.and_false]
    rfl
  have e1 := of_decide_eq_false e1
  have e2 := of_decide_eq_false e2
  have hko : rkOk k = true := by
    unfold rkOk
    rw [decide_eq_true (show 0 ≤ k by omega), decide_eq_true (show k ≤ 10 by omega)]
    rfl
  rw [win_gX g, win_gY g, win_gX h, win_gY h]
  have hf : rForm k (Int.negSucc a) c n g m h = ((!(k == 0) || (c.id == 0 && !((Int.negSucc a) == 14))) && sameRB k k (Int.negSucc a) (Int.negSucc a) (uRN (Int.negSucc a) c) c (sameBB (uRN (Int.negSucc a) c).o c.o (eqSh (sbOf (uRN (Int.negSucc a) c).o) (sbOf c.o) && Nat.beq n 0)) (Nat.beq m 0)) := by
    unfold rForm uRK
    rw [e_M a]
    rfl
  unfold repT repE
  rw [hko, hf]
  generalize sameRB k k (Int.negSucc a) (Int.negSucc a) (uRN (Int.negSucc a) c) c (sameBB (uRN (Int.negSucc a) c).o c.o (eqSh (sbOf (uRN (Int.negSucc a) c).o) (sbOf c.o) && Nat.beq n 0)) (Nat.beq m 0) = s
  have fin : ∀ f : Bool, f = true → SV.tup [.v (.string (bif false || rBad k (Int.negSucc a) c n m h then emp else repBs k (Int.negSucc a) c n g m h)), .v (.int .i64 (bif false || rBad k (Int.negSucc a) c n m h then 3 else 0))] = .tup [strS (bif true && (f && !rBad k (Int.negSucc a) c n m h) then repBs k (Int.negSucc a) c n g m h else emp), iV (bif true then (bif f then (bif rBad k (Int.negSucc a) c n m h then 3 else 0) else 4) else 8)] := fun f hf => by
    subst hf
    cases rBad k (Int.negSucc a) c n m h <;> rfl
  cases s with
  | false => exact sel_of (fun _ => by rw [Bool.and_false]; rfl) fun e => by cases e
  | true =>
    rw [Bool.and_true]
    refine sel_of (fun e => by cases e) fun _ => sel_of (fun h0 => ?_) fun h0 => ?_
    · rw [h0]
      refine sel_of (fun h1 => ?_) fun h1 => ?_
      · have h1 : (c.id == 0) = false := by simpa using h1
        rw [h1]
        rfl
      · have h1 : (c.id == 0) = true := by simpa using h1
        rw [h1]
        rw [e_M14 a]
        refine ⟨⟨fun h0 => absurd h0 he0, ⟨hk, he⟩, hc, ⟨win_sp hn4 hg, hn⟩, win_sp hm4 hh, hm'⟩, fun c1 => ⟨bytesOk_bG _ _ _ (by omega), ?_⟩⟩
        exact fin _ rfl
    · rw [h0]
      refine ⟨⟨fun h0 => absurd h0 he0, ⟨hk, he⟩, hc, ⟨win_sp hn4 hg, hn⟩, win_sp hm4 hh, hm'⟩, fun c1 => ⟨bytesOk_bG _ _ _ (by omega), ?_⟩⟩
      exact fin _ rfl
theorem rep_O {k e : Int} {c : RV} {n cap m cp : Nat} {g h : Nat → Int × Int} (hk : ¬ (0 ≤ k ∧ k ≤ 10)) : vcFn Try.prog noCtrs noΛ Try.f32 [reS k e c (.sl 0 2 0 n cap) (.sl 1 2 0 m cp)] (roHeap [⟨2, n, rowsP g⟩, ⟨2, m, rowsP h⟩]) 64 (fun y _ => y = .tup [strS (repT k e c n g m h), iV (repE k e c n g m h)]) := by
  refine Eq.mpr (vcRepO k e c n cap m cp g h _) (sel_of (fun e1 => ?_) fun e1 => sel_of (fun e2 => ?_) fun e2 => ?_)
  · have e1 := of_decide_eq_true e1
    unfold repT repE rkOk
    rw [decide_eq_false (show ¬ 0 ≤ k by omega)]
    rfl
  · have e2 := of_decide_eq_true e2
    unfold repT repE rkOk
    rw [decide_eq_false (show ¬ k ≤ 10 by omega), Bool.and_false]
    rfl
  · have e1 := of_decide_eq_false e1
    have e2 := of_decide_eq_false e2
    omega
def sRepO : List SV → List Ro → Option (Option Prop × SV)
  | [.agg l], [⟨2, n', r1⟩, ⟨2, m', r2⟩] => match cellsOfR l with
    | some (k, e, c, .sl 0 2 0 n _, .sl 1 2 0 m _) => bif rkOk k then none else some (some (repPre k e c n n' m m' r1 r2), .tup [strS (repT k e c n (fun i => gi (r1 i)) m fun i => gi (r2 i)), iV (repE k e c n (fun i => gi (r1 i)) m fun i => gi (r2 i))])
    | _ => none
  | _, _ => none
def sRepI : List SV → List Ro → Option (Option Prop × SV)
  | [.agg l], [⟨2, n', r1⟩, ⟨2, m', r2⟩] => match cellsOfR l with
    | some (k, e, c, .sl 0 2 0 n _, .sl 1 2 0 m _) => bif rkOk k then some (some (repPre k e c n n' m m' r1 r2), .tup [strS (repT k e c n (fun i => gi (r1 i)) m fun i => gi (r2 i)), iV (repE k e c n (fun i => gi (r1 i)) m fun i => gi (r2 i))]) else none
    | _ => none
  | _, _ => none
theorem bif_no {b : Bool} {α : Type _} {x : Option α} {y : α} (h : (bif b then none else x) = some y) : b = false ∧ x = some y := by
  cases b with
  | true => cases h
  | false => exact ⟨rfl, h⟩
theorem rk_in {k : Int} (h : rkOk k = true) : 0 ≤ k ∧ k ≤ 10 := by
  unfold rkOk at h
  rw [Bool.and_eq_true] at h
  exact ⟨of_decide_eq_true h.1, of_decide_eq_true h.2⟩
theorem rk_out {k : Int} (h : rkOk k = false) : ¬ (0 ≤ k ∧ k ≤ 10) := fun hk => by
  unfold rkOk at h
  rw [decide_eq_true hk.1, decide_eq_true hk.2] at h
  cases h
theorem RepI_spec : RoSpec Try.prog 32 sRepI := ro_spec hm ΓRy_ok Try.func32 (Λ := fun _ _ => noΛ) fun args bs p x hs hp => by
  unfold sRepI at hs
  split at hs <;> try (cases hs; done)
  rename_i l n' r1 m' r2
  split at hs <;> try (cases hs; done)
  rename_i k e c n cap m cp hl
  obtain ⟨hko, hs⟩ := bif_some2' hs
  have hs := Option.some.inj hs
  obtain ⟨rfl, rfl⟩ := Prod.mk.inj hs
  obtain ⟨⟨⟨o1, e1, l1⟩, o2, e2, l2⟩, ⟨hc, ik, ie⟩, hn, hm'⟩ := hp _ rfl
  subst e1 e2
  have o1 := okAll_rows.1 o1
  have o2 := okAll_rows.1 o2
  refine ⟨rfl, [⟨2, _, rowsP fun i => gi (r1 i)⟩, ⟨2, _, rowsP fun i => gi (r2 i)⟩], ⟨⟨rfl, rfl, fun i hi => (isPI_row (o1 i hi)).1⟩, ⟨rfl, rfl, fun i hi => (isPI_row (o2 i hi)).1⟩, trivial⟩, ?_⟩
  rw [reps_eq hl]
  have hg := fun i hi => (isPI_row (o1 i hi)).2
  have hh := fun i hi => (isPI_row (o2 i hi)).2
  have hk := rk_in hko
  cases e with
  | ofNat e =>
    cases e with
    | zero =>
      have hk' : k = 0 ∨ k = 1 ∨ k = 2 ∨ k = 3 ∨ k = 4 ∨ k = 5 ∨ k = 6 ∨ k = 7 ∨ k = 8 ∨ k = 9 ∨ k = 10 := by omega
      rcases hk' with x | x | x | x | x | x | x | x | x | x | x <;> subst x
      · exact rep_0 hc hn hg hm' hh
      · exact rep_1 hc hn hg hm' hh
      · exact rep_2 hc hn hg hm' hh
      · exact rep_3 hc hn hg hm' hh
      · exact rep_4 hc hn hg hm' hh
      · exact rep_5 hc hn hg hm' hh
      · exact rep_6 hc hn hg hm' hh
      · exact rep_7 hc hn hg hm' hh
      · exact rep_8 hc hn hg hm' hh
      · exact rep_9 hc hn hg hm' hh
      · exact rep_10 hc hn hg hm' hh
    | succ a => exact rep_P hc hn hg hm' hh ik ie
  | negSucc a => exact rep_M hc hn hg hm' hh ik ie
theorem RepO_spec : RoSpec Try.prog 32 sRepO := ro_spec hm noCtrs_ok Try.func32 (Λ := fun _ _ => noΛ) fun args bs p x hs hp => by
  unfold sRepO at hs
  split at hs <;> try (cases hs; done)
  rename_i l n' r1 m' r2
  split at hs <;> try (cases hs; done)
  rename_i k e c n cap m cp hl
  obtain ⟨hko, hs⟩ := bif_no hs
  have hs := Option.some.inj hs
  obtain ⟨rfl, rfl⟩ := Prod.mk.inj hs
  obtain ⟨⟨⟨o1, e1, l1⟩, o2, e2, l2⟩, ⟨hc, ik, ie⟩, hn, hm'⟩ := hp _ rfl
  subst e1 e2
  have o1 := okAll_rows.1 o1
  have o2 := okAll_rows.1 o2
  refine ⟨rfl, [⟨2, _, rowsP fun i => gi (r1 i)⟩, ⟨2, _, rowsP fun i => gi (r2 i)⟩], ⟨⟨rfl, rfl, fun i hi => (isPI_row (o1 i hi)).1⟩, ⟨rfl, rfl, fun i hi => (isPI_row (o2 i hi)).1⟩, trivial⟩, ?_⟩
  rw [reps_eq hl]
  exact rep_O (rk_out hko)
theorem RepG_spec : RoSpec Try.prog 32 sRepG := ro_split' RepI_spec RepO_spec fun args rs p h => by
  unfold sRepG at h
  split at h <;> try (cases h; done)
  rename_i l n' r1 m' r2
  split at h <;> try (cases h; done)
  rename_i k e c n cap m cp hl
  cases hk : rkOk k with
  | true =>
    left
    unfold sRepI
    simp only [hl, hk, cond_true]
    exact h
  | false =>
    right
    unfold sRepO
    simp only [hl, hk, cond_false]
    exact h
theorem ΓRk_ok : ∀ f g, ΓRk f = some g → g.ok Try.prog f := addCtr_ok noCtrs_ok (ro_ok Try.func32 (by kernel_rfl) (by kernel_rfl) RepG_spec)
theorem CheckR_spec : RoSpec Try.prog 34 sCheckR := ro_spec hm ΓRk_ok Try.func34 (Λ := fun _ _ => noΛ) fun args bs p x hs hp => by
  unfold sCheckR at hs
  split at hs <;> try (cases hs; done)
  rename_i l n' r1 m' r2
  split at hs <;> try (cases hs; done)
  rename_i k e c n cap m cp hl
  have hs := Option.some.inj hs
  obtain ⟨rfl, rfl⟩ := Prod.mk.inj hs
  obtain ⟨⟨⟨o1, e1, l1⟩, o2, e2, l2⟩, ⟨hc, ik, ie⟩, hn, hm'⟩ := hp _ rfl
  subst e1 e2
  have o1 := okAll_rows.1 o1
  have o2 := okAll_rows.1 o2
  refine ⟨rfl, [⟨2, _, rowsP fun i => gi (r1 i)⟩, ⟨2, _, rowsP fun i => gi (r2 i)⟩], ⟨⟨rfl, rfl, fun i hi => (isPI_row (o1 i hi)).1⟩, ⟨rfl, rfl, fun i hi => (isPI_row (o2 i hi)).1⟩, trivial⟩, ?_⟩
  rw [reps_eq hl, vcCheckR, gi_rows0 fun i => gi (r1 i), gi_rows0 fun i => gi (r2 i)]
  exact ⟨⟨⟨pre_rows l1 fun i hi => (isPI_row (o1 i hi)).2, pre_rows l2 fun i hi => (isPI_row (o2 i hi)).2⟩, ⟨hc, ik, ie⟩, hn, hm'⟩, rfl⟩
end Go.Proofs.Ytjdldadmaaeimaa
end
section
namespace Go.Proofs.Ytjdldadmaaeimaa
open Go.SE Go.RowKit
end Go.Proofs.Ytjdldadmaaeimaa
end
section
namespace Go.Proofs.Ytjdldadmaaeimaa
open Go.SE Go.RowKit
theorem not_f {b : Bool} (h : (!b) = false) : b = true := by
  cases b with
  | true => rfl
  | false => cases h
end Go.Proofs.Ytjdldadmaaeimaa
end
section
namespace Go.Proofs.Ytjdldadmaaeimaa
open Go.SE Go.RowKit
theorem boLl (b : BV) (n : Nat) (x y : Nat → Int) : (boL b n x y).length = boN n := by
  unfold boL boT boN
  simp only [List.length_append, hLl, i8l, c4l, numl, vecl, poBl, voBl, wmBl, shLl, hsL_len, List.length_cons, List.length_nil, flB_len]
theorem rT1_len (c : RV) (n : Nat) (x y : Nat → Int) (m : Nat) (u v : Nat → Int) : (rT1 c n x y m u v).length = rN1 n m := by
  unfold rT1 rN1
  first | rfl | (simp only [boLl, List.length_append, hLl, i8l, c4l, numl, vecl, poBl, voBl, wmBl, shLl, hsL_len, List.length_cons, List.length_nil, flB_len]; done) | (simp only [boLl, List.length_append, hLl, i8l, c4l, numl, vecl, poBl, voBl, wmBl, shLl, hsL_len, List.length_cons, List.length_nil, flB_len]; omega)
theorem rT2_len (c : RV) (n : Nat) (x y : Nat → Int) (m : Nat) (u v : Nat → Int) : (rT2 c n x y m u v).length = rN2 n m := by
  unfold rT2 rN2
  first | rfl | (simp only [boLl, List.length_append, hLl, i8l, c4l, numl, vecl, poBl, voBl, wmBl, shLl, hsL_len, List.length_cons, List.length_nil, flB_len]; done) | (simp only [boLl, List.length_append, hLl, i8l, c4l, numl, vecl, poBl, voBl, wmBl, shLl, hsL_len, List.length_cons, List.length_nil, flB_len]; omega)
theorem rT3_len (c : RV) (n : Nat) (x y : Nat → Int) (m : Nat) (u v : Nat → Int) : (rT3 c n x y m u v).length = rN3 n m := by
  unfold rT3 rN3
  first | rfl | (simp only [boLl, List.length_append, hLl, i8l, c4l, numl, vecl, poBl, voBl, wmBl, shLl, hsL_len, List.length_cons, List.length_nil, flB_len]; done) | (simp only [boLl, List.length_append, hLl, i8l, c4l, numl, vecl, poBl, voBl, wmBl, shLl, hsL_len, List.length_cons, List.length_nil, flB_len]; omega)
theorem rT4_len (c : RV) (n : Nat) (x y : Nat → Int) (m : Nat) (u v : Nat → Int) : (rT4 c n x y m u v).length = rN4 n m := by
  unfold rT4 rN4
  first | rfl | (simp only [boLl, List.length_append, hLl, i8l, c4l, numl, vecl, poBl, voBl, wmBl, shLl, hsL_len, List.length_cons, List.length_nil, flB_len]; done) | (simp only [boLl, List.length_append, hLl, i8l, c4l, numl, vecl, poBl, voBl, wmBl, shLl, hsL_len, List.length_cons, List.length_nil, flB_len]; omega)
theorem rT5_len (c : RV) (n : Nat) (x y : Nat → Int) (m : Nat) (u v : Nat → Int) : (rT5 c n x y m u v).length = rN5 n m := by
  unfold rT5 rN5
  first | rfl | (simp only [boLl, List.length_append, hLl, i8l, c4l, numl, vecl, poBl, voBl, wmBl, shLl, hsL_len, List.length_cons, List.length_nil, flB_len]; done) | (simp only [boLl, List.length_append, hLl, i8l, c4l, numl, vecl, poBl, voBl, wmBl, shLl, hsL_len, List.length_cons, List.length_nil, flB_len]; omega)
theorem rT6_len (c : RV) (n : Nat) (x y : Nat → Int) (m : Nat) (u v : Nat → Int) : (rT6 c n x y m u v).length = rN6 n m := by
  unfold rT6 rN6
  first | rfl | (simp only [boLl, List.length_append, hLl, i8l, c4l, numl, vecl, poBl, voBl, wmBl, shLl, hsL_len, List.length_cons, List.length_nil, flB_len]; done) | (simp only [boLl, List.length_append, hLl, i8l, c4l, numl, vecl, poBl, voBl, wmBl, shLl, hsL_len, List.length_cons, List.length_nil, flB_len]; omega)
theorem rT7_len (c : RV) (n : Nat) (x y : Nat → Int) (m : Nat) (u v : Nat → Int) : (rT7 c n x y m u v).length = rN7 n m := by
  unfold rT7 rN7
  first | rfl | (simp only [boLl, List.length_append, hLl, i8l, c4l, numl, vecl, poBl, voBl, wmBl, shLl, hsL_len, List.length_cons, List.length_nil, flB_len]; done) | (simp only [boLl, List.length_append, hLl, i8l, c4l, numl, vecl, poBl, voBl, wmBl, shLl, hsL_len, List.length_cons, List.length_nil, flB_len]; omega)
theorem rT8_len (c : RV) (n : Nat) (x y : Nat → Int) (m : Nat) (u v : Nat → Int) : (rT8 c n x y m u v).length = rN8 n m := by
  unfold rT8 rN8
  first | rfl | (simp only [boLl, List.length_append, hLl, i8l, c4l, numl, vecl, poBl, voBl, wmBl, shLl, hsL_len, List.length_cons, List.length_nil, flB_len]; done) | (simp only [boLl, List.length_append, hLl, i8l, c4l, numl, vecl, poBl, voBl, wmBl, shLl, hsL_len, List.length_cons, List.length_nil, flB_len]; omega)
theorem rT9_len (c : RV) (n : Nat) (x y : Nat → Int) (m : Nat) (u v : Nat → Int) : (rT9 c n x y m u v).length = rN9 n m := by
  unfold rT9 rN9
  first | rfl | (simp only [boLl, List.length_append, hLl, i8l, c4l, numl, vecl, poBl, voBl, wmBl, shLl, hsL_len, List.length_cons, List.length_nil, flB_len]; done) | (simp only [boLl, List.length_append, hLl, i8l, c4l, numl, vecl, poBl, voBl, wmBl, shLl, hsL_len, List.length_cons, List.length_nil, flB_len]; omega)
theorem rT10_len (c : RV) (n : Nat) (x y : Nat → Int) (m : Nat) (u v : Nat → Int) : (rT10 c n x y m u v).length = rN10 n m := by
  unfold rT10 rN10
  first | rfl | (simp only [boLl, List.length_append, hLl, i8l, c4l, numl, vecl, poBl, voBl, wmBl, shLl, hsL_len, List.length_cons, List.length_nil, flB_len]; done) | (simp only [boLl, List.length_append, hLl, i8l, c4l, numl, vecl, poBl, voBl, wmBl, shLl, hsL_len, List.length_cons, List.length_nil, flB_len]; omega)
theorem rTK_len {k e : Int} (hk : e = 0 → 1 ≤ k ∧ k ≤ 10) (c : RV) (n : Nat) (x y : Nat → Int) (m : Nat) (u v : Nat → Int) : (rTK k e c n x y m u v).length = rNK k e n m := by
  by_cases h0 : e = 0
  · subst h0
    have hk := hk rfl
    have hk' : k = 1 ∨ k = 2 ∨ k = 3 ∨ k = 4 ∨ k = 5 ∨ k = 6 ∨ k = 7 ∨ k = 8 ∨ k = 9 ∨ k = 10 := by omega
    rcases hk' with z | z | z | z | z | z | z | z | z | z <;> subst z
    · exact rT1_len c n x y m u v
    · exact rT2_len c n x y m u v
    · exact rT3_len c n x y m u v
    · exact rT4_len c n x y m u v
    · exact rT5_len c n x y m u v
    · exact rT6_len c n x y m u v
    · exact rT7_len c n x y m u v
    · exact rT8_len c n x y m u v
    · exact rT9_len c n x y m u v
    · exact rT10_len c n x y m u v
  · unfold rTK rNK
    rw [show (e == 0) = false by simpa using h0, cond_false, cond_false]
    cases e == 14
    · rfl
    · exact i8l _
theorem repBs_eq {k e : Int} (hk : e = 0 → 1 ≤ k ∧ k ≤ 10) (c : RV) (n : Nat) (g : Nat → Int × Int) (m : Nat) (h : Nat → Int × Int) : repBs k e c n g m h = strOfNums (repL k e c n g m h) := by
  unfold repBs
  have hl : (repL k e c n g m h).length = 6 + rNK k e n m := by
    unfold repL rpL
    simp only [List.length_append, c4l, rTK_len hk, List.length_cons, List.length_nil]
    omega
  rw [strOf_lst]
  congr 1
  have := lstG_list (repL k e c n g m h)
  rw [hl] at this
  exact this
theorem repE0 {k e : Int} {c : RV} {n : Nat} {g : Nat → Int × Int} {m : Nat} {h : Nat → Int × Int} (hE : repE k e c n g m h = 0) : (0 ≤ k ∧ k ≤ 10) ∧ (e = 0 → 1 ≤ k ∧ k ≤ 10) ∧ rForm k e c n g m h = true ∧ rBad k e c n m h = false := by
  unfold repE at hE
  cases h1 : rkOk k with
  | false => rw [h1] at hE; cases hE
  | true =>
    rw [h1] at hE
    cases h2 : rForm k e c n g m h with
    | false => rw [h2] at hE; cases hE
    | true =>
      rw [h2] at hE
      cases h3 : rBad k e c n m h with
      | true => rw [h3] at hE; cases hE
      | false =>
        have hk := rk_in h1
        refine ⟨hk, fun h0 => ?_, rfl, rfl⟩
        unfold rForm at h2
        rw [Bool.and_eq_true] at h2
        have h2 := h2.1
        by_cases hk0 : k = 0
        · subst hk0 h0
          rw [show (!((0 : Int) == 0)) = false from rfl, Bool.false_and, Bool.and_false] at h2
          cases h2
        · omega
theorem repT_ok {k e : Int} {c : RV} {n : Nat} {g : Nat → Int × Int} {m : Nat} {h : Nat → Int × Int} (hE : repE k e c n g m h = 0) : repT k e c n g m h = repBs k e c n g m h := by
  obtain ⟨h1, _, h2, h3⟩ := repE0 hE
  unfold repT rkOk
  rw [decide_eq_true h1.1, decide_eq_true h1.2, h2, h3]
  rfl
end Go.Proofs.Ytjdldadmaaeimaa
end
section
namespace Go.Proofs.Ytjdldadmaaeimaa
open Go.SE Go.RowKit
theorem fr_no {m : Int} (hm : 0 ≤ m) (x : Int) : notIn (frV m x) m = false := notIn_of (fr_rng hm x)
theorem fr_i64 {m : Int} (hm : 0 ≤ m) (hm2 : m ≤ 4611686018427387904) (x : Int) : I64 (frV m x) := by
  have := fr_rng hm x
  exact ⟨by omega, by omega⟩
theorem nuV_i64 {x : Int} (h : I64 x) : I64 (nuV x) := by
  unfold nuV
  rw [hide_eq]
  cases decide (x = -9223372036854775808) with
  | true => exact i0
  | false => exact h
theorem nuV_no (x : Int) : isMin (nuV x) = false := by
  unfold nuV isMin
  rw [hide_eq]
  by_cases h : x = -9223372036854775808
  · rw [decide_eq_true h]; rfl
  · rw [decide_eq_false h]
    simpa using h
end Go.Proofs.Ytjdldadmaaeimaa
end
section
namespace Go.Proofs.Ytjdldadmaaeimaa
open Go.SE Go.RowKit
theorem rdT_pre {s t : ByteArray} {X : List Int} (h : byt t = byt s ++ X) {k : Int} {n : Nat} (h0 : 0 ≤ k) (h1 : k + n ≤ (s.size : Int)) : rdT t k n = rdT s k n := by
  rw [rdT_byt t h0, rdT_byt s h0, h, rdL_left]
  rw [byt_len]
  omega
theorem sameS_congr {a : ShB} {n : Nat} {g h : Nat → Int × Int} (e : ∀ i, i < n → g i = h i) : sameS a n g a n h = true := by
  unfold sameS
  rw [eqSh_self, Bool.true_and]
  unfold sameP
  rw [Nat.beq_refl, Bool.true_and]
  exact List.all_eq_true.2 fun i hi => by
    rw [e i (List.mem_range.1 hi)]
    unfold eqP
    rw [beq_self_eq_true, beq_self_eq_true]; rfl
end Go.Proofs.Ytjdldadmaaeimaa
end
section
namespace Go.Proofs.Ytjdldadmaaeimaa
open Go.SE Go.RowKit
theorem bv_eq {a b : BV} (h : bodB a b = true) (hs : eqSh (sbOf a) (sbOf b) = true) : a = b := by
  simp only [bodB, Bool.and_eq_true, beq_iff_eq, and_assoc] at h
  simp only [eqSh, sbOf, Bool.and_eq_true, beq_iff_eq] at hs
  obtain ⟨e_p0v, e_p0f, e_p1v, e_p1f, e_p2v, e_p2f, e_p3v, e_p3f, e_v0v, e_v0f, e_v1v, e_v1f, e_w0v, e_w0f, e_m0v, e_m0f, e_m1v, e_m1f, e_st, e_asl, e_flt, e_bv⟩ := h
  obtain ⟨e_sk, e_sr, e_sw, e_sh⟩ := hs
  obtain ⟨a_sk, a_sr, a_sw, a_sh, a_p0v, a_p0f, a_p1v, a_p1f, a_p2v, a_p2f, a_p3v, a_p3f, a_v0v, a_v0f, a_v1v, a_v1f, a_w0v, a_w0f, a_m0v, a_m0f, a_m1v, a_m1f, a_st, a_asl, a_flt, a_bv⟩ := a
  obtain ⟨b_sk, b_sr, b_sw, b_sh, b_p0v, b_p0f, b_p1v, b_p1f, b_p2v, b_p2f, b_p3v, b_p3f, b_v0v, b_v0f, b_v1v, b_v1f, b_w0v, b_w0f, b_m0v, b_m0f, b_m1v, b_m1f, b_st, b_asl, b_flt, b_bv⟩ := b
  simp only at e_sk e_sr e_sw e_sh e_p0v e_p0f e_p1v e_p1f e_p2v e_p2f e_p3v e_p3f e_v0v e_v0f e_v1v e_v1f e_w0v e_w0f e_m0v e_m0f e_m1v e_m1f e_st e_asl e_flt e_bv
  subst e_sk e_sr e_sw e_sh e_p0v e_p0f e_p1v e_p1f e_p2v e_p2f e_p3v e_p3f e_v0v e_v0f e_v1v e_v1f e_w0v e_w0f e_m0v e_m0f e_m1v e_m1f e_st e_asl e_flt e_bv
  rfl
theorem rv_eq {k1 k2 e1 e2 : Int} {a b : RV} {s t : Bool} (h : sameRB k1 k2 e1 e2 a b s t = true) (ho : a.o = b.o) : a = b := by
  simp only [sameRB, Bool.and_eq_true, beq_iff_eq, and_assoc] at h
  obtain ⟨e_k, e_id, e_e, e_bs, e_bg, e_ver, e_gr, e_s, e_t, e_hit, e_htv, e_htf, e_x0v, e_x0f, e_x1v, e_x1f, e_cnt⟩ := h
  obtain ⟨a_id, a_bs, a_bg, a_ver, a_gr, a_o, a_hit, a_htv, a_htf, a_x0v, a_x0f, a_x1v, a_x1f, a_cnt⟩ := a
  obtain ⟨b_id, b_bs, b_bg, b_ver, b_gr, b_o, b_hit, b_htv, b_htf, b_x0v, b_x0f, b_x1v, b_x1f, b_cnt⟩ := b
  simp only at e_id e_bs e_bg e_ver e_gr e_hit e_htv e_htf e_x0v e_x0f e_x1v e_x1f e_cnt ho
  subst e_id e_bs e_bg e_ver e_gr e_hit e_htv e_htf e_x0v e_x0f e_x1v e_x1f e_cnt ho
  rfl
theorem rv_st {k1 k2 e1 e2 : Int} {a b : RV} {s t : Bool} (h : sameRB k1 k2 e1 e2 a b s t = true) : s = true ∧ t = true := by
  simp only [sameRB, Bool.and_eq_true, beq_iff_eq, and_assoc] at h
  exact ⟨h.2.2.2.2.2.2.2.1, h.2.2.2.2.2.2.2.2.1⟩
theorem rv_self (k e : Int) (c : RV) : sameRB k k e e c c true true = true := by
  unfold sameRB
  simp only [beq_self_eq_true, Bool.and_true, Bool.true_and]
theorem bb_self (a : BV) : sameBB a a true = true := by
  unfold sameBB bodB
  simp only [beq_self_eq_true, Bool.and_true, Bool.true_and]
theorem form_eqR {k e : Int} {c : RV} {n : Nat} {g : Nat → Int × Int} {m : Nat} {h : Nat → Int × Int} (hf : rForm k e c n g m h = true) : uRK k e c = c ∧ (¬ (e = 0 ∧ k = 7) → n = 0) ∧ (¬ (e = 0 ∧ k = 8) → m = 0) ∧ (k = 0 → c.id = 0 ∧ e ≠ 0 ∧ e ≠ 14) := by
  unfold rForm at hf
  rw [Bool.and_eq_true] at hf
  obtain ⟨h0, h1⟩ := hf
  obtain ⟨hs, ht⟩ := rv_st h1
  unfold sameBB at hs
  rw [Bool.and_eq_true] at hs
  have ho : (uRK k e c).o = c.o ∧ (¬ (e = 0 ∧ k = 7) → n = 0) := by
    cases h7 : (e == 0 && k == 7) with
    | true =>
      have h := hs.2
      rw [h7, cond_true] at h
      unfold sameS at h
      rw [Bool.and_eq_true] at h
      refine ⟨bv_eq hs.1 h.1, fun hn => ?_⟩
      rw [Bool.and_eq_true] at h7
      exact absurd ⟨beq_iff_eq.1 h7.1, beq_iff_eq.1 h7.2⟩ hn
    | false =>
      have h := hs.2
      rw [h7, cond_false, Bool.and_eq_true] at h
      exact ⟨bv_eq hs.1 h.1, fun _ => Nat.eq_of_beq_eq_true h.2⟩
  refine ⟨rv_eq h1 ho.1, ho.2, fun hn => ?_, fun hk => ?_⟩
  · cases h8 : (e == 0 && k == 8) with
    | true =>
      rw [Bool.and_eq_true] at h8
      exact absurd ⟨beq_iff_eq.1 h8.1, beq_iff_eq.1 h8.2⟩ hn
    | false =>
      rw [h8, cond_false] at ht
      exact Nat.eq_of_beq_eq_true ht
  · rw [hk, show (!((0 : Int) == 0)) = false from rfl, Bool.false_or, Bool.and_eq_true, Bool.and_eq_true] at h0
    refine ⟨beq_iff_eq.1 h0.1, fun he => ?_, fun he => ?_⟩
    · rw [he] at h0; exact absurd h0.2.1 (by decide)
    · rw [he] at h0; exact absurd h0.2.2 (by decide)
theorem form_ofR {k e : Int} {c : RV} {n : Nat} {g : Nat → Int × Int} {m : Nat} {h : Nat → Int × Int} (h1 : uRK k e c = c) (hn : ¬ (e = 0 ∧ k = 7) → n = 0) (hm' : ¬ (e = 0 ∧ k = 8) → m = 0) (hk : k = 0 → c.id = 0 ∧ e ≠ 0 ∧ e ≠ 14) : rForm k e c n g m h = true := by
  unfold rForm
  rw [h1]
  have a1 : (!(k == 0) || (c.id == 0 && (!(e == 0) && !(e == 14)))) = true := by
    by_cases h0 : k = 0
    · obtain ⟨b1, b2, b3⟩ := hk h0
      rw [b1, eq_no b2, eq_no b3]
      cases k == 0 <;> rfl
    · rw [eq_no h0]; rfl
  have a2 : (bif e == 0 && k == 7 then sameS (sbOf c.o) n g (sbOf c.o) n g else eqSh (sbOf c.o) (sbOf c.o) && Nat.beq n 0) = true := by
    cases h7 : (e == 0 && k == 7) with
    | true => exact sameS_congr fun _ _ => rfl
    | false =>
      rw [hn (fun hc => by rw [hc.1, hc.2] at h7; cases h7), eqSh_self]
      rfl
  have a3 : (bif e == 0 && k == 8 then sameP m h m h else Nat.beq m 0) = true := by
    cases h8 : (e == 0 && k == 8) with
    | true => exact sameP_self m h
    | false =>
      rw [hm' (fun hc => by rw [hc.1, hc.2] at h8; cases h8)]
      rfl
  rw [a1, a2, a3, bb_self, rv_self]
  rfl
theorem vE {x : Int} (h : notIn x 14 = false) : (0 ≤ x ∧ x < 256 ^ aE.n) ∧ aE.bd x = false := by
  have h := notIn_f h
  exact ⟨⟨h.1, by show x < 256; omega⟩, decide_eq_false (by omega)⟩
theorem vok_allR {k e : Int} {c : RV} {n : Nat} (g : Nat → Int × Int) {m : Nat} {h : Nat → Int × Int} (hk : 0 ≤ k ∧ k ≤ 10) (hk1 : e = 0 → 1 ≤ k ∧ k ≤ 10) (hc : rvOk c) (hb : rBad k e c n m h = false) : vok (atR k e n m) (vsR k e c n g m h) := by
  have hb : rpB e c (rBK k e c n m (fun i => (h i).1) (fun i => (h i).2)) = false := hb
  simp only [rpB, Bool.or_eq_false_iff] at hb
  obtain ⟨b1, b2, b3⟩ := hb
  refine ⟨vKd (by omega) hk.1 hk.2, vC b1, vE b2, ?_⟩
  by_cases h0 : e = 0
  · subst h0
    have hk2 := hk1 rfl
    rcases ten_b hk2 with z | z | z | z | z | z | z | z | z | z <;> subst z
    · exact R_vok_1 (n := n) (m := m) (h := h) g hc b3
    · exact R_vok_2 (n := n) (m := m) (h := h) g hc b3
    · exact R_vok_3 (n := n) (m := m) (h := h) g hc b3
    · exact R_vok_4 (n := n) (m := m) (h := h) g hc b3
    · exact R_vok_5 (n := n) (m := m) (h := h) g hc b3
    · exact R_vok_6 (n := n) (m := m) (h := h) g hc b3
    · exact R_vok_7 (n := n) (m := m) (h := h) g hc b3
    · exact R_vok_8 (n := n) (m := m) (h := h) g hc b3
    · exact R_vok_9 (n := n) (m := m) (h := h) g hc b3
    · exact R_vok_10 (n := n) (m := m) (h := h) g hc b3
  · unfold rAK rVK
    unfold rBK at b3
    rw [eq_no h0] at b3 ⊢
    by_cases h14 : e = 14
    · subst h14
      exact ⟨vV b3, trivial⟩
    · rw [eq_no h14]
      trivial
theorem bytesR {k e : Int} {c : RV} {n : Nat} {g : Nat → Int × Int} {m : Nat} {h : Nat → Int × Int} (hk1 : e = 0 → 1 ≤ k ∧ k ≤ 10) (hn : e = 0 → k = 7 → n ≤ 8) : byt (repBs k e c n g m h) = enc (atR k e n m) (vsR k e c n g m h) := by
  have hT : rTK k e c n (fun i => (g i).1) (fun i => (g i).2) m (fun i => (h i).1) (fun i => (h i).2) = enc (rAK k e n m) (rVK k e c n g m h) := by
    by_cases h0 : e = 0
    · subst h0
      rcases ten_b (hk1 rfl) with z | z | z | z | z | z | z | z | z | z <;> subst z
      · exact R_enc_1 c n g m h
      · exact R_enc_2 c n g m h
      · exact R_enc_3 c n g m h
      · exact R_enc_4 c n g m h
      · exact R_enc_5 c n g m h
      · exact R_enc_6 c n g m h
      · exact R_enc_7 c n (hn rfl rfl) g m h
      · exact R_enc_8 c n g m h
      · exact R_enc_9 c n g m h
      · exact R_enc_10 c n g m h
    · unfold rTK rAK rVK
      rw [eq_no h0]
      by_cases h14 : e = 14
      · subst h14
        show i8 c.ver = be _ 8 ++ []
        rw [List.append_nil]
        rfl
      · rw [eq_no h14]
        rfl
  have hL : repL k e c n g m h = enc (atR k e n m) (vsR k e c n g m h) := by
    unfold repL rpL atR vsR
    rw [hT, ← be1, ← be1]
    rfl
  rw [repBs_eq hk1, hL]
  exact byt_str (enc_rng _ _)
theorem bad_nR {c : RV} {n m : Nat} {h : Nat → Int × Int} (hb : rBad 7 0 c n m h = false) : n ≤ 8 := by
  have hb : rpB 0 c (rB7 c n m (fun i => (h i).1) (fun i => (h i).2)) = false := hb
  simp only [rpB, rB7, Bool.or_eq_false_iff] at hb
  exact bo_n hb.2.2.2
theorem bad_mR {c : RV} {n m : Nat} {h : Nat → Int × Int} (hb : rBad 8 0 c n m h = false) : m ≤ 64 := by
  have hb : rpB 0 c (rB8 c n m (fun i => (h i).1) (fun i => (h i).2)) = false := hb
  simp only [rpB, rB8, Bool.or_eq_false_iff] at hb
  have := notIn_f hb.2.2.1
  omega
theorem ray_ok {s : ByteArray} {c : RV} (hu : uR9 c = c) (hq : qV9 s 0 = c) : (rayP s 0).bad = false := by
  have f_bs : rdT s (0 + 1 + 4 + 1) 4 = c.bs := congrArg RV.bs hq
  have f_bg : rdT s (0 + 1 + 4 + 1 + 4) 4 = c.bg := congrArg RV.bg hq
  have f_hit : rdF s (0 + 1 + 4 + 1 + 4 + 4) = c.hit := congrArg RV.hit hq
  have f_htv : rdI s (0 + 1 + 4 + 1 + 4 + 4 + 1) = c.htv := congrArg RV.htv hq
  have f_htf : rdF s (0 + 1 + 4 + 1 + 4 + 4 + 1 + 8) = c.htf := congrArg RV.htf hq
  have f_x0v : rdI s (0 + 1 + 4 + 1 + 4 + 4 + 1 + 8 + 1) = c.x0v := congrArg RV.x0v hq
  have f_x0f : rdF s (0 + 1 + 4 + 1 + 4 + 4 + 1 + 8 + 1 + 8) = c.x0f := congrArg RV.x0f hq
  have f_x1v : rdI s (0 + 1 + 4 + 1 + 4 + 4 + 1 + 8 + 1 + 8 + 1) = c.x1v := congrArg RV.x1v hq
  have f_x1f : rdF s (0 + 1 + 4 + 1 + 4 + 4 + 1 + 8 + 1 + 8 + 1 + 8) = c.x1f := congrArg RV.x1f hq
  show (!(rdF s (0 + 1 + 4 + 1 + 4 + 4) || ((rdI s (0 + 1 + 4 + 1 + 4 + 4 + 1) == 0 && rdF s (0 + 1 + 4 + 1 + 4 + 4 + 1 + 8) == false && (rdI s (0 + 1 + 4 + 1 + 4 + 4 + 1 + 8 + 1) == 0 && rdF s (0 + 1 + 4 + 1 + 4 + 4 + 1 + 8 + 1 + 8) == false && (rdI s (0 + 1 + 4 + 1 + 4 + 4 + 1 + 8 + 1 + 8 + 1) == 0 && rdF s (0 + 1 + 4 + 1 + 4 + 4 + 1 + 8 + 1 + 8 + 1 + 8) == false))) && (rdT s (0 + 1 + 4 + 1) 4 == 0 && rdT s (0 + 1 + 4 + 1 + 4) 4 == 0)))) = false
  rw [f_bs, f_bg, f_hit, f_htv, f_htf, f_x0v, f_x0f, f_x1v, f_x1f]
  cases hh : c.hit with
  | true => rfl
  | false =>
    have u_bs := congrArg RV.bs hu
    have u_bg := congrArg RV.bg hu
    have u_htv := congrArg RV.htv hu
    have u_htf := congrArg RV.htf hu
    have u_x0v := congrArg RV.x0v hu
    have u_x0f := congrArg RV.x0f hu
    have u_x1v := congrArg RV.x1v hu
    have u_x1f := congrArg RV.x1f hu
    simp only [uR9, hh, cond_false] at u_bs u_bg u_htv u_htf u_x0v u_x0f u_x1v u_x1f
    rw [← u_bs, ← u_bg, ← u_htv, ← u_htf, ← u_x0v, ← u_x0f, ← u_x1v, ← u_x1f]
    rfl
theorem en_t {s : ByteArray} {k : Nat} (h : k = s.size) : (enP s (k : Int)).bad = false := by
  show (!((k : Int) == (s.size : Int))) = false
  rw [h, beq_self_eq_true]
  rfl
theorem reply_back {k e : Int} {c : RV} {n : Nat} {g : Nat → Int × Int} {m : Nat} {h : Nat → Int × Int} (hc : rvOk c) (hg : ∀ i, i < n → I64 (g i).1 ∧ I64 (g i).2) (hE : repE k e c n g m h = 0) : (rpP (repT k e c n g m h) 0).bad = false ∧ rdT (repT k e c n g m h) 0 1 = k ∧ rdT (repT k e c n g m h) (0 + 1 + 4) 1 = e ∧ rpV (repT k e c n g m h) 0 = c ∧ rpN (repT k e c n g m h) 0 = n ∧ rpM (repT k e c n g m h) 0 = m ∧ (∀ i, i < n → rpSp (repT k e c n g m h) 0 i = g i) ∧ ∀ i, i < m → rpHd (repT k e c n g m h) 0 i = h i := by
  obtain ⟨hk, hk1, hf, hb⟩ := repE0 hE
  obtain ⟨hu, hn0, hm0, hz⟩ := form_eqR hf
  rw [repT_ok hE]
  have hB := bytesR (c := c) (n := n) (g := g) (m := m) (h := h) hk1 fun h0 h7 => by
    subst h0 h7
    exact bad_nR hb
  have hv := vok_allR g hk hk1 hc hb
  have hlen := enc_len hv
  have hb2 : rpB e c (rBK k e c n m (fun i => (h i).1) (fun i => (h i).2)) = false := hb
  simp only [rpB, Bool.or_eq_false_iff] at hb2
  obtain ⟨b1, b2, b3⟩ := hb2
  generalize repBs k e c n g m h = s at hB ⊢
  have hsz : s.size = atL (atR k e n m) := by rw [← byt_len, hB, hlen]
  obtain ⟨r1, r2⟩ := run_enc (s := s) (X := []) (fin := finR s k e) (P := []) (by rw [List.append_nil]; exact hB) hv
  have r1 : runA s (finR s k e) 0 (atR k e n m) = finR s k e ((0 + atL (atR k e n m) : Nat) : Int) := r1
  have r2 : rds s 0 (atR k e n m) = vsR k e c n g m h := r2
  rw [Nat.zero_add, ← hsz] at r1
  have hen : (enP s (s.size : Int)).bad = false := en_t rfl
  have fields : ((rdT s 0 1 = k ∧ rdT s (0 + 1 + 4) 1 = e) ∧ rpV s 0 = c ∧ rpN s 0 = n ∧ rpM s 0 = m ∧ (∀ i, i < n → rpSp s 0 i = g i) ∧ ∀ i, i < m → rpHd s 0 i = h i) ∧ (finR s k e (s.size : Int)).bad = false := by
    by_cases h0 : e = 0
    · subst h0
      have hk2 := hk1 rfl
      have n0 := hn0
      have m0 := hm0
      clear hn0 hm0 hz hv hB hE hf hk1
      rcases ten_b hk2 with z | z | z | z | z | z | z | z | z | z <;> subst z
      · have hn := n0 (by decide)
        have hm := m0 (by decide)
        obtain ⟨⟨q1, q2⟩, q3⟩ := R_back_1 hc b1 b3 hu r2
        exact ⟨⟨⟨q1, q2⟩, by unfold rpV; rw [q1, q2]; exact q3, by unfold rpN; rw [q1, q2, hn]; rfl, by unfold rpM; rw [q1, q2, hm]; rfl, fun i hi => by omega, fun i hi => by omega⟩, hen⟩
      · have hn := n0 (by decide)
        have hm := m0 (by decide)
        obtain ⟨⟨q1, q2⟩, q3⟩ := R_back_2 hc b1 b3 hu r2
        exact ⟨⟨⟨q1, q2⟩, by unfold rpV; rw [q1, q2]; exact q3, by unfold rpN; rw [q1, q2, hn]; rfl, by unfold rpM; rw [q1, q2, hm]; rfl, fun i hi => by omega, fun i hi => by omega⟩, hen⟩
      · have hn := n0 (by decide)
        have hm := m0 (by decide)
        obtain ⟨⟨q1, q2⟩, q3⟩ := R_back_3 hc b1 b3 hu r2
        exact ⟨⟨⟨q1, q2⟩, by unfold rpV; rw [q1, q2]; exact q3, by unfold rpN; rw [q1, q2, hn]; rfl, by unfold rpM; rw [q1, q2, hm]; rfl, fun i hi => by omega, fun i hi => by omega⟩, hen⟩
      · have hn := n0 (by decide)
        have hm := m0 (by decide)
        obtain ⟨⟨q1, q2⟩, q3⟩ := R_back_4 hc b1 b3 hu r2
        exact ⟨⟨⟨q1, q2⟩, by unfold rpV; rw [q1, q2]; exact q3, by unfold rpN; rw [q1, q2, hn]; rfl, by unfold rpM; rw [q1, q2, hm]; rfl, fun i hi => by omega, fun i hi => by omega⟩, hen⟩
      · have hn := n0 (by decide)
        have hm := m0 (by decide)
        obtain ⟨⟨q1, q2⟩, q3⟩ := R_back_5 hc b1 b3 hu r2
        exact ⟨⟨⟨q1, q2⟩, by unfold rpV; rw [q1, q2]; exact q3, by unfold rpN; rw [q1, q2, hn]; rfl, by unfold rpM; rw [q1, q2, hm]; rfl, fun i hi => by omega, fun i hi => by omega⟩, hen⟩
      · have hn := n0 (by decide)
        have hm := m0 (by decide)
        obtain ⟨⟨q1, q2⟩, q3⟩ := R_back_6 hc b1 b3 hu r2
        exact ⟨⟨⟨q1, q2⟩, by unfold rpV; rw [q1, q2]; exact q3, by unfold rpN; rw [q1, q2, hn]; rfl, by unfold rpM; rw [q1, q2, hm]; rfl, fun i hi => by omega, fun i hi => by omega⟩, hen⟩
      · have hm := m0 (by decide)
        obtain ⟨⟨q1, q2⟩, q3, q4, q5⟩ := R_back_7 hc b1 b3 hu hg r2
        exact ⟨⟨⟨q1, q2⟩, by unfold rpV; rw [q1, q2]; exact q3, by unfold rpN; rw [q1, q2]; exact q4, by unfold rpM; rw [q1, q2, hm]; rfl, q5, fun i hi => by omega⟩, hen⟩
      · have hn := n0 (by decide)
        obtain ⟨⟨q1, q2⟩, q3, q4, q5⟩ := R_back_8 hc b1 b3 hu r2
        exact ⟨⟨⟨q1, q2⟩, by unfold rpV; rw [q1, q2]; exact q3, by unfold rpN; rw [q1, q2, hn]; rfl, by unfold rpM; rw [q1, q2]; exact q4, fun i hi => by omega, q5⟩, hen⟩
      · have hn := n0 (by decide)
        have hm := m0 (by decide)
        obtain ⟨⟨q1, q2⟩, q3⟩ := R_back_9 hc b1 b3 hu r2
        exact ⟨⟨⟨q1, q2⟩, by unfold rpV; rw [q1, q2]; exact q3, by unfold rpN; rw [q1, q2, hn]; rfl, by unfold rpM; rw [q1, q2, hm]; rfl, fun i hi => by omega, fun i hi => by omega⟩, (by show ((rayP s 0).seq (enP s (s.size : Int))).bad = false; rw [seq_ok (ray_ok hu q3)]; exact hen)⟩
      · have hn := n0 (by decide)
        have hm := m0 (by decide)
        obtain ⟨⟨q1, q2⟩, q3⟩ := R_back_10 hc b1 b3 hu r2
        exact ⟨⟨⟨q1, q2⟩, by unfold rpV; rw [q1, q2]; exact q3, by unfold rpN; rw [q1, q2, hn]; rfl, by unfold rpM; rw [q1, q2, hm]; rfl, fun i hi => by omega, fun i hi => by omega⟩, hen⟩
    · have hn := hn0 fun hc => h0 hc.1
      have hm := hm0 fun hc => h0 hc.1
      have hu2 : uRN e c = c := by
        unfold uRK at hu
        rw [eq_no h0] at hu
        exact hu
      obtain ⟨⟨q1, q2⟩, q3⟩ := R_back_N h0 b1 (fun h14 => by
        unfold rBK at b3
        rw [eq_no h0, h14] at b3
        exact b3) hu2 r2
      exact ⟨⟨⟨q1, q2⟩, by unfold rpV; rw [q2, eq_no h0]; exact q3, by unfold rpN; rw [q2, eq_no h0, hn]; rfl, by unfold rpM; rw [q2, eq_no h0, hm]; rfl, fun i hi => by omega, fun i hi => by omega⟩, by unfold finR; rw [eq_no h0]; exact hen⟩
  obtain ⟨⟨⟨f1, f2⟩, f3, f4, f5, f6, f7⟩, f8⟩ := fields
  refine ⟨?_, f1, f2, f3, f4, f5, f6, f7⟩
  have hid : k = 0 → rdT s (0 + 1) 4 = 0 := fun h0 => by
    have hi : (rds s 0 (atR k e n m)).getD 1 0 = (vsR k e c n g m h).getD 1 0 := by rw [r2]
    have hi : rdT s (0 + 1) 4 = c.id % 4294967296 := hi
    rw [hi, (hz h0).1]
    rfl
  have a1 : (n1P s 0).bad = false := n1_of (by
    by_cases h0 : k = 0
    · exact .inr (hid h0)
    · exact .inl (by rw [f1]; exact h0))
  have a2 : (n2P s 0).bad = false := n2_of (by
    by_cases h0 : k = 0
    · exact .inr (by rw [f2]; exact (hz h0).2)
    · exact .inl (by rw [f1]; exact h0))
  rw [rpP_run f1 f2 hk1 a1 a2, f4, f5, r1]
  exact f8
theorem rp_parts {s : ByteArray} (hb : (rpP s 0).bad = false) : (0 ≤ rdT s 0 1 ∧ rdT s 0 1 ≤ 10) ∧ (n1P s 0).bad = false ∧ (n2P s 0).bad = false ∧ (rdT s (0 + 1 + 4) 1 = 0 → 1 ≤ rdT s 0 1 ∧ rdT s 0 1 ≤ 10) := by
  have g1 := seq_f hb
  have g2 := seq_f g1.2
  have g3 := seq_f g2.2
  have g4 := seq_f g3.2
  have g5 := seq_f g4.2
  have hk := ki_rng g1.1
  refine ⟨hk, g3.1, g5.1, fun he => ?_⟩
  have := n2_k g5.1 he
  omega
theorem n1_id {s : ByteArray} {k : Int} (h : (n1P s k).bad = false) (hk : rdT s k 1 = 0) : rdT s (k + 1) 4 = 0 := by
  have h : (!(rdT s k 1 != 0 || rdT s (k + 1) 4 == 0)) = false := h
  rw [hk] at h
  have h : (!(rdT s (k + 1) 4 == 0)) = false := h
  cases hb : (rdT s (k + 1) 4 == 0) with
  | true => exact beq_iff_eq.1 hb
  | false => rw [hb] at h; cases h
theorem n2_e {s : ByteArray} {k : Int} (h : (n2P s k).bad = false) (hk : rdT s k 1 = 0) : rdT s (k + 1 + 4) 1 ≠ 0 ∧ rdT s (k + 1 + 4) 1 ≠ 14 := by
  have h : (!(rdT s k 1 != 0 || (rdT s (k + 1 + 4) 1 != 0 && rdT s (k + 1 + 4) 1 != 14))) = false := h
  rw [hk] at h
  refine ⟨fun he => ?_, fun he => ?_⟩
  · rw [he] at h; cases h
  · rw [he] at h; cases h
theorem ray_u {s : ByteArray} (h : (rayP s 0).bad = false) : uR9 (qV9 s 0) = qV9 s 0 := by
  have h : (!(rdF s (0 + 1 + 4 + 1 + 4 + 4) || ((rdI s (0 + 1 + 4 + 1 + 4 + 4 + 1) == 0 && rdF s (0 + 1 + 4 + 1 + 4 + 4 + 1 + 8) == false && (rdI s (0 + 1 + 4 + 1 + 4 + 4 + 1 + 8 + 1) == 0 && rdF s (0 + 1 + 4 + 1 + 4 + 4 + 1 + 8 + 1 + 8) == false && (rdI s (0 + 1 + 4 + 1 + 4 + 4 + 1 + 8 + 1 + 8 + 1) == 0 && rdF s (0 + 1 + 4 + 1 + 4 + 4 + 1 + 8 + 1 + 8 + 1 + 8) == false))) && (rdT s (0 + 1 + 4 + 1) 4 == 0 && rdT s (0 + 1 + 4 + 1 + 4) 4 == 0)))) = false := h
  unfold qV9 uR9
  cases hh : rdF s (0 + 1 + 4 + 1 + 4 + 4) with
  | true => rfl
  | false =>
    rw [hh, Bool.false_or] at h
    have h := not_f h
    simp only [Bool.and_eq_true, beq_iff_eq] at h
    obtain ⟨⟨⟨z1, z2⟩, ⟨z3, z4⟩, z5, z6⟩, z7, z8⟩ := h
    rw [z1, z2, z3, z4, z5, z6, z7, z8]
    rfl
theorem rdT_i64 (s : ByteArray) (p : Int) : I64 (rdT s p 4) := by
  have h := rdT_rng s p 4
  have h2 : rdT s p 4 < 4294967296 := h.2
  exact ⟨by omega, by omega⟩
theorem reply_fwd {s : ByteArray} (hb : (rpP s 0).bad = false) : (rvOk (rpV s 0) ∧ (rpN s 0 ≤ 8 ∧ rpM s 0 ≤ 64) ∧ (∀ i, I64 (rpSp s 0 i).1 ∧ I64 (rpSp s 0 i).2) ∧ ∀ i, I64 (rpHd s 0 i).1 ∧ I64 (rpHd s 0 i).2) ∧ repE (rdT s 0 1) (rdT s (0 + 1 + 4) 1) (rpV s 0) (rpN s 0) (rpSp s 0) (rpM s 0) (rpHd s 0) = 0 ∧ repT (rdT s 0 1) (rdT s (0 + 1 + 4) 1) (rpV s 0) (rpN s 0) (rpSp s 0) (rpM s 0) (rpHd s 0) = s := by
  obtain ⟨hk, h1, h2, hk1⟩ := rp_parts hb
  rw [rpP_run rfl rfl hk1 h1 h2] at hb
  obtain ⟨⟨d1, d2⟩, d3, d4⟩ := run_dec (k := 0) hb (Nat.zero_le _)
  have d4 : vok (atR (rdT s 0 1) (rdT s (0 + 1 + 4) 1) (rpN s 0) (rpM s 0)) (rds s 0 (atR (rdT s 0 1) (rdT s (0 + 1 + 4) 1) (rpN s 0) (rpM s 0))) := d4
  have main : (rds s 0 (atR (rdT s 0 1) (rdT s (0 + 1 + 4) 1) (rpN s 0) (rpM s 0)) = vsR (rdT s 0 1) (rdT s (0 + 1 + 4) 1) (rpV s 0) (rpN s 0) (rpSp s 0) (rpM s 0) (rpHd s 0) ∧ notIn (rpV s 0).id 2147483647 = false ∧ rBK (rdT s 0 1) (rdT s (0 + 1 + 4) 1) (rpV s 0) (rpN s 0) (rpM s 0) (fun i => (rpHd s 0 i).1) (fun i => (rpHd s 0 i).2) = false) ∧ rvOk (rpV s 0) ∧ (uRK (rdT s 0 1) (rdT s (0 + 1 + 4) 1) (rpV s 0) = rpV s 0 ∧ (¬ (rdT s (0 + 1 + 4) 1 = 0 ∧ rdT s 0 1 = 7) → rpN s 0 = 0) ∧ (¬ (rdT s (0 + 1 + 4) 1 = 0 ∧ rdT s 0 1 = 8) → rpM s 0 = 0)) ∧ (rpV s 0).id = rdT s (0 + 1) 4 ∧ (enP s ((0 + atL (atR (rdT s 0 1) (rdT s (0 + 1 + 4) 1) (rpN s 0) (rpM s 0)) : Nat) : Int)).bad = false := by
    by_cases he : rdT s (0 + 1 + 4) 1 = 0
    · rcases ten_b (hk1 he) with z | z | z | z | z | z | z | z | z | z
      · have eV : rpV s 0 = qV1 s 0 := by unfold rpV; rw [z, he]; rfl
        have eN : rpN s 0 = 0 := by unfold rpN; rw [z, he]; rfl
        have eM : rpM s 0 = 0 := by unfold rpM; rw [z, he]; rfl
        rw [z, he, eN, eM] at d2 d4
        rw [z, he, eV, eN, eM]
        obtain ⟨a1, ⟨a2, a3⟩, a4⟩ := R_fwd_1 (rpSp s 0) (rpHd s 0) z he d4
        exact ⟨⟨a1, a2, a3⟩, a4, ⟨rfl, fun hc => rfl, fun hc => rfl⟩, rfl, d2⟩
      · have eV : rpV s 0 = qV2 s 0 := by unfold rpV; rw [z, he]; rfl
        have eN : rpN s 0 = 0 := by unfold rpN; rw [z, he]; rfl
        have eM : rpM s 0 = 0 := by unfold rpM; rw [z, he]; rfl
        rw [z, he, eN, eM] at d2 d4
        rw [z, he, eV, eN, eM]
        obtain ⟨a1, ⟨a2, a3⟩, a4⟩ := R_fwd_2 (rpSp s 0) (rpHd s 0) z he d4
        exact ⟨⟨a1, a2, a3⟩, a4, ⟨rfl, fun hc => rfl, fun hc => rfl⟩, rfl, d2⟩
      · have eV : rpV s 0 = qV3 s 0 := by unfold rpV; rw [z, he]; rfl
        have eN : rpN s 0 = 0 := by unfold rpN; rw [z, he]; rfl
        have eM : rpM s 0 = 0 := by unfold rpM; rw [z, he]; rfl
        rw [z, he, eN, eM] at d2 d4
        rw [z, he, eV, eN, eM]
        obtain ⟨a1, ⟨a2, a3⟩, a4⟩ := R_fwd_3 (rpSp s 0) (rpHd s 0) z he d4
        exact ⟨⟨a1, a2, a3⟩, a4, ⟨rfl, fun hc => rfl, fun hc => rfl⟩, rfl, d2⟩
      · have eV : rpV s 0 = qV4 s 0 := by unfold rpV; rw [z, he]; rfl
        have eN : rpN s 0 = 0 := by unfold rpN; rw [z, he]; rfl
        have eM : rpM s 0 = 0 := by unfold rpM; rw [z, he]; rfl
        rw [z, he, eN, eM] at d2 d4
        rw [z, he, eV, eN, eM]
        obtain ⟨a1, ⟨a2, a3⟩, a4⟩ := R_fwd_4 (rpSp s 0) (rpHd s 0) z he d4
        exact ⟨⟨a1, a2, a3⟩, a4, ⟨rfl, fun hc => rfl, fun hc => rfl⟩, rfl, d2⟩
      · have eV : rpV s 0 = qV5 s 0 := by unfold rpV; rw [z, he]; rfl
        have eN : rpN s 0 = 0 := by unfold rpN; rw [z, he]; rfl
        have eM : rpM s 0 = 0 := by unfold rpM; rw [z, he]; rfl
        rw [z, he, eN, eM] at d2 d4
        rw [z, he, eV, eN, eM]
        obtain ⟨a1, ⟨a2, a3⟩, a4⟩ := R_fwd_5 (rpSp s 0) (rpHd s 0) z he d4
        exact ⟨⟨a1, a2, a3⟩, a4, ⟨rfl, fun hc => rfl, fun hc => rfl⟩, rfl, d2⟩
      · have eV : rpV s 0 = qV6 s 0 := by unfold rpV; rw [z, he]; rfl
        have eN : rpN s 0 = 0 := by unfold rpN; rw [z, he]; rfl
        have eM : rpM s 0 = 0 := by unfold rpM; rw [z, he]; rfl
        rw [z, he, eN, eM] at d2 d4
        rw [z, he, eV, eN, eM]
        obtain ⟨a1, ⟨a2, a3⟩, a4⟩ := R_fwd_6 (rpSp s 0) (rpHd s 0) z he d4
        exact ⟨⟨a1, a2, a3⟩, a4, ⟨rfl, fun hc => rfl, fun hc => rfl⟩, rfl, d2⟩
      · have eV : rpV s 0 = qV7 s 0 := by unfold rpV; rw [z, he]; rfl
        have eN : rpN s 0 = shC s (0 + 1 + 4 + 1 + 4 + 4) := by unfold rpN; rw [z, he]; rfl
        have eM : rpM s 0 = 0 := by unfold rpM; rw [z, he]; rfl
        rw [z, he, eN, eM] at d2 d4
        rw [z, he, eV, eN, eM]
        obtain ⟨a1, ⟨a2, a3⟩, a4⟩ := R_fwd_7 (rpHd s 0) z he d4
        exact ⟨⟨a1, a2, a3⟩, a4, ⟨rfl, fun hc => absurd ⟨rfl, rfl⟩ hc, fun hc => rfl⟩, rfl, d2⟩
      · have eV : rpV s 0 = qV8 s 0 := by unfold rpV; rw [z, he]; rfl
        have eN : rpN s 0 = 0 := by unfold rpN; rw [z, he]; rfl
        have eM : rpM s 0 = hdC s 0 := by unfold rpM; rw [z, he]; rfl
        rw [z, he, eN, eM] at d2 d4
        rw [z, he, eV, eN, eM]
        obtain ⟨a1, ⟨a2, a3⟩, a4⟩ := R_fwd_8 (rpSp s 0) z he d4
        exact ⟨⟨a1, a2, a3⟩, a4, ⟨rfl, fun hc => rfl, fun hc => absurd ⟨rfl, rfl⟩ hc⟩, rfl, d2⟩
      · have eV : rpV s 0 = qV9 s 0 := by unfold rpV; rw [z, he]; rfl
        have eN : rpN s 0 = 0 := by unfold rpN; rw [z, he]; rfl
        have eM : rpM s 0 = 0 := by unfold rpM; rw [z, he]; rfl
        rw [z, he, eN, eM] at d2 d4
        rw [z, he, eV, eN, eM]
        obtain ⟨a1, ⟨a2, a3⟩, a4⟩ := R_fwd_9 (rpSp s 0) (rpHd s 0) z he d4
        exact ⟨⟨a1, a2, a3⟩, a4, ⟨ray_u (seq_f d2).1, fun hc => rfl, fun hc => rfl⟩, rfl, (seq_f d2).2⟩
      · have eV : rpV s 0 = qV10 s 0 := by unfold rpV; rw [z, he]; rfl
        have eN : rpN s 0 = 0 := by unfold rpN; rw [z, he]; rfl
        have eM : rpM s 0 = 0 := by unfold rpM; rw [z, he]; rfl
        rw [z, he, eN, eM] at d2 d4
        rw [z, he, eV, eN, eM]
        obtain ⟨a1, ⟨a2, a3⟩, a4⟩ := R_fwd_10 (rpSp s 0) (rpHd s 0) z he d4
        exact ⟨⟨a1, a2, a3⟩, a4, ⟨rfl, fun hc => rfl, fun hc => rfl⟩, rfl, d2⟩
    · have eV : rpV s 0 = qVN s 0 := by unfold rpV; rw [eq_no he]; rfl
      have eN : rpN s 0 = 0 := by unfold rpN; rw [eq_no he]; rfl
      have eM : rpM s 0 = 0 := by unfold rpM; rw [eq_no he]; rfl
      obtain ⟨a1, ⟨a2, a3⟩, a4⟩ := R_fwd_N (rpSp s 0) (rpHd s 0) rfl rfl he d4
      have d2 : (enP s ((0 + atL (atR (rdT s 0 1) (rdT s (0 + 1 + 4) 1) (rpN s 0) (rpM s 0)) : Nat) : Int)).bad = false := by
        have d2' := d2
        unfold finR at d2'
        rw [eq_no he] at d2'
        exact d2'
      rw [eV]
      refine ⟨⟨a1, a2, ?_⟩, a4, ⟨?_, fun _ => eN, fun _ => eM⟩, rfl, d2⟩
      · unfold rBK
        rw [eq_no he]
        by_cases h14 : rdT s (0 + 1 + 4) 1 = 14
        · rw [h14]
          exact a3 h14
        · rw [eq_no h14]
          rfl
      · unfold uRK
        rw [eq_no he]
        show uRN _ (qVN s 0) = qVN s 0
        unfold uRN qVN vrN
        by_cases h14 : rdT s (0 + 1 + 4) 1 = 14
        · rw [h14]
          rfl
        · rw [eq_no h14]
          rfl
  obtain ⟨⟨m1, m2, m3⟩, m4, ⟨m5, m6, m7⟩, m8, m9⟩ := main
  have hbad : rBad (rdT s 0 1) (rdT s (0 + 1 + 4) 1) (rpV s 0) (rpN s 0) (rpM s 0) (rpHd s 0) = false := by
    unfold rBad rpB
    rw [m2, m3, Bool.or_false, Bool.false_or]
    have v_e : (0 ≤ rdT s (0 + 1 + 4) 1 ∧ rdT s (0 + 1 + 4) 1 < 256 ^ aE.n) ∧ aE.bd (rdT s (0 + 1 + 4) 1) = false := d4.2.2.1
    exact notIn_of ⟨v_e.1.1, by have := of_decide_eq_false v_e.2; omega⟩
  have hform : rForm (rdT s 0 1) (rdT s (0 + 1 + 4) 1) (rpV s 0) (rpN s 0) (rpSp s 0) (rpM s 0) (rpHd s 0) = true := form_ofR m5 m6 m7 fun h0 => ⟨by rw [m8]; exact n1_id h1 h0, n2_e h2 h0⟩
  have hE : repE (rdT s 0 1) (rdT s (0 + 1 + 4) 1) (rpV s 0) (rpN s 0) (rpSp s 0) (rpM s 0) (rpHd s 0) = 0 := by
    unfold repE rkOk
    rw [decide_eq_true hk.1, decide_eq_true hk.2, hform, hbad]
    rfl
  have hn7 : rdT s (0 + 1 + 4) 1 = 0 → rdT s 0 1 = 7 → rpN s 0 ≤ 8 := fun x0 x7 => by
    rw [x0, x7] at hbad
    exact bad_nR hbad
  have hn : rpN s 0 ≤ 8 := by
    by_cases hc : rdT s (0 + 1 + 4) 1 = 0 ∧ rdT s 0 1 = 7
    · exact hn7 hc.1 hc.2
    · rw [m6 hc]; omega
  have hm : rpM s 0 ≤ 64 := by
    by_cases hc : rdT s (0 + 1 + 4) 1 = 0 ∧ rdT s 0 1 = 8
    · rw [hc.1, hc.2] at hbad
      exact bad_mR hbad
    · rw [m7 hc]; omega
  refine ⟨⟨m4, ⟨hn, hm⟩, fun i => ⟨rdI_rng _ _, rdI_rng _ _⟩, fun i => ⟨rdT_i64 _ _, rdT_i64 _ _⟩⟩, hE, ?_⟩
  rw [repT_ok hE]
  apply byt_inj
  rw [bytesR hk1 hn7, ← m1]
  have d3 : enc (atR (rdT s 0 1) (rdT s (0 + 1 + 4) 1) (rpN s 0) (rpM s 0)) (rds s 0 (atR (rdT s 0 1) (rdT s (0 + 1 + 4) 1) (rpN s 0) (rpM s 0))) = ((byt s).drop 0).take (atL (atR (rdT s 0 1) (rdT s (0 + 1 + 4) 1) (rpN s 0) (rpM s 0))) := d3
  have hz := en_f m9
  rw [d3, List.drop_zero, List.take_of_length_le (by rw [byt_len]; omega)]
end Go.Proofs.Ytjdldadmaaeimaa
end
section
namespace Go.Proofs.Ytjdldadmaaeimaa
open Go.SE Go.RowKit
theorem ray_same {s t : ByteArray} (H : ∀ (p : Int) (n : Nat), 0 ≤ p → p + (n : Int) ≤ 42 → rdT t p n = rdT s p n) : rayP t 0 = rayP s 0 := by
  unfold rayP rdF
  simp only [rdI_eq]
  have e0 : rdT t (0 + 1 + 4 + 1) 4 = rdT s (0 + 1 + 4 + 1) 4 := H _ _ (by omega) (by omega)
  have e1 : rdT t (0 + 1 + 4 + 1 + 4) 4 = rdT s (0 + 1 + 4 + 1 + 4) 4 := H _ _ (by omega) (by omega)
  have e2 : rdT t (0 + 1 + 4 + 1 + 4 + 4) 1 = rdT s (0 + 1 + 4 + 1 + 4 + 4) 1 := H _ _ (by omega) (by omega)
  have e3 : rdT t (0 + 1 + 4 + 1 + 4 + 4 + 1) 8 = rdT s (0 + 1 + 4 + 1 + 4 + 4 + 1) 8 := H _ _ (by omega) (by omega)
  have e4 : rdT t (0 + 1 + 4 + 1 + 4 + 4 + 1 + 8) 1 = rdT s (0 + 1 + 4 + 1 + 4 + 4 + 1 + 8) 1 := H _ _ (by omega) (by omega)
  have e5 : rdT t (0 + 1 + 4 + 1 + 4 + 4 + 1 + 8 + 1) 8 = rdT s (0 + 1 + 4 + 1 + 4 + 4 + 1 + 8 + 1) 8 := H _ _ (by omega) (by omega)
  have e6 : rdT t (0 + 1 + 4 + 1 + 4 + 4 + 1 + 8 + 1 + 8) 1 = rdT s (0 + 1 + 4 + 1 + 4 + 4 + 1 + 8 + 1 + 8) 1 := H _ _ (by omega) (by omega)
  have e7 : rdT t (0 + 1 + 4 + 1 + 4 + 4 + 1 + 8 + 1 + 8 + 1) 8 = rdT s (0 + 1 + 4 + 1 + 4 + 4 + 1 + 8 + 1 + 8 + 1) 8 := H _ _ (by omega) (by omega)
  have e8 : rdT t (0 + 1 + 4 + 1 + 4 + 4 + 1 + 8 + 1 + 8 + 1 + 8) 1 = rdT s (0 + 1 + 4 + 1 + 4 + 4 + 1 + 8 + 1 + 8 + 1 + 8) 1 := H _ _ (by omega) (by omega)
  rw [e0, e1, e2, e3, e4, e5, e6, e7, e8]
theorem atR_len (k e : Int) (n m : Nat) : 6 ≤ atL (atR k e n m) ∧ (e = 0 → k = 7 → 40 ≤ atL (atR k e n m)) ∧ (e = 0 → k = 8 → 7 ≤ atL (atR k e n m)) ∧ (e = 0 → k = 9 → atL (atR k e n m) = 42) := by
  refine ⟨by show 6 ≤ 1 + (4 + (1 + _)); omega, fun h0 h7 => ?_, fun h0 h8 => ?_, fun h0 h9 => ?_⟩
  · subst h0 h7
    show 40 ≤ atL ([aKd 0, aC, aE, aC, aC, aS, aI, aI, aI, aN] ++ (spA n ++ _))
    rw [atL_app]
    show 40 ≤ 40 + _
    omega
  · subst h0 h8
    show 7 ≤ atL ([aKd 0, aC, aE, aHs] ++ hsA m)
    rw [atL_app]
    show 7 ≤ 7 + _
    omega
  · subst h0 h9
    rfl
theorem rpN_of {s t : ByteArray} (hk : rdT t 0 1 = rdT s 0 1) (he : rdT t (0 + 1 + 4) 1 = rdT s (0 + 1 + 4) 1) (hc : rdT s (0 + 1 + 4) 1 = 0 → rdT s 0 1 = 7 → rdT t (0 + 1 + 4 + 1 + 4 + 4 + 1 + 8 + 8 + 8) 1 = rdT s (0 + 1 + 4 + 1 + 4 + 4 + 1 + 8 + 8 + 8) 1) : rpN t 0 = rpN s 0 := by
  unfold rpN
  rw [hk, he]
  by_cases h : rdT s (0 + 1 + 4) 1 = 0 ∧ rdT s 0 1 = 7
  · rw [h.1, h.2]
    show shC t (0 + 1 + 4 + 1 + 4 + 4) = shC s (0 + 1 + 4 + 1 + 4 + 4)
    unfold shC
    rw [hc h.1 h.2]
  · rw [show (rdT s (0 + 1 + 4) 1 == 0 && rdT s 0 1 == 7) = false from by
      cases hb : (rdT s (0 + 1 + 4) 1 == 0 && rdT s 0 1 == 7) with
      | false => rfl
      | true =>
        rw [Bool.and_eq_true] at hb
        exact absurd ⟨beq_iff_eq.1 hb.1, beq_iff_eq.1 hb.2⟩ h]
    rfl
theorem rpM_of {s t : ByteArray} (hk : rdT t 0 1 = rdT s 0 1) (he : rdT t (0 + 1 + 4) 1 = rdT s (0 + 1 + 4) 1) (hc : rdT s (0 + 1 + 4) 1 = 0 → rdT s 0 1 = 8 → rdT t (0 + 1 + 4 + 1) 1 = rdT s (0 + 1 + 4 + 1) 1) : rpM t 0 = rpM s 0 := by
  unfold rpM
  rw [hk, he]
  by_cases h : rdT s (0 + 1 + 4) 1 = 0 ∧ rdT s 0 1 = 8
  · rw [h.1, h.2]
    show hdC t 0 = hdC s 0
    unfold hdC
    rw [hc h.1 h.2]
  · rw [show (rdT s (0 + 1 + 4) 1 == 0 && rdT s 0 1 == 8) = false from by
      cases hb : (rdT s (0 + 1 + 4) 1 == 0 && rdT s 0 1 == 8) with
      | false => rfl
      | true =>
        rw [Bool.and_eq_true] at hb
        exact absurd ⟨beq_iff_eq.1 hb.1, beq_iff_eq.1 hb.2⟩ h]
    rfl
theorem reply_shape {s : ByteArray} (hb : (rpP s 0).bad = false) : ((runA s (finR s (rdT s 0 1) (rdT s (0 + 1 + 4) 1)) 0 (atR (rdT s 0 1) (rdT s (0 + 1 + 4) 1) (rpN s 0) (rpM s 0))).bad = false ∧ s.size = atL (atR (rdT s 0 1) (rdT s (0 + 1 + 4) 1) (rpN s 0) (rpM s 0))) ∧ (rdT s (0 + 1 + 4) 1 = 0 → rdT s 0 1 = 9 → (rayP s 0).bad = false) := by
  obtain ⟨hk, h1, h2, hk1⟩ := rp_parts hb
  rw [rpP_run rfl rfl hk1 h1 h2] at hb
  obtain ⟨⟨d1, d2⟩, d3, d4⟩ := run_dec (k := 0) hb (Nat.zero_le _)
  by_cases h : rdT s (0 + 1 + 4) 1 = 0 ∧ rdT s 0 1 = 9
  · have d2' := d2
    unfold finR at d2'
    rw [h.1, h.2] at d2'
    have d5 := seq_f d2'
    have d6 := en_f d5.2
    refine ⟨⟨hb, ?_⟩, fun _ _ => d5.1⟩
    rw [h.1, h.2]
    omega
  · have d2' := d2
    unfold finR at d2'
    rw [show (rdT s (0 + 1 + 4) 1 == 0 && rdT s 0 1 == 9) = false from by
      cases hb : (rdT s (0 + 1 + 4) 1 == 0 && rdT s 0 1 == 9) with
      | false => rfl
      | true =>
        rw [Bool.and_eq_true] at hb
        exact absurd ⟨beq_iff_eq.1 hb.1, beq_iff_eq.1 hb.2⟩ h] at d2'
    have d6 := en_f d2'
    exact ⟨⟨hb, by omega⟩, fun a b => absurd ⟨a, b⟩ h⟩
theorem rq_ext {s t : ByteArray} {x : Int} (hb : (rpP s 0).bad = false) (ht : byt t = byt s ++ [x]) : rqEr t = 6 := by
  obtain ⟨hk, h1, h2, hk1⟩ := rp_parts hb
  obtain ⟨⟨hr, hsz⟩, hray⟩ := reply_shape hb
  obtain ⟨l6, l40, l7, l42⟩ := atR_len (rdT s 0 1) (rdT s (0 + 1 + 4) 1) (rpN s 0) (rpM s 0)
  have H : ∀ (p : Int) (n : Nat), 0 ≤ p → p + (n : Int) ≤ (s.size : Int) → rdT t p n = rdT s p n := fun p n h0 h1 => rdT_pre ht h0 h1
  have e1 : rdT t 0 1 = rdT s 0 1 := H _ _ (by omega) (by omega)
  have e2 : rdT t (0 + 1) 4 = rdT s (0 + 1) 4 := H _ _ (by omega) (by omega)
  have e3 : rdT t (0 + 1 + 4) 1 = rdT s (0 + 1 + 4) 1 := H _ _ (by omega) (by omega)
  have eN : rpN t 0 = rpN s 0 := rpN_of e1 e3 fun a b => H _ _ (by omega) (by have := l40 a b; omega)
  have eM : rpM t 0 = rpM s 0 := rpM_of e1 e3 fun a b => H _ _ (by omega) (by have := l7 a b; omega)
  have a1 : (n1P t 0).bad = false := n1_of (by
    by_cases h0 : rdT s 0 1 = 0
    · exact .inr (by rw [show rdT t (0 + 1) 4 = rdT s (0 + 1) 4 from e2]; exact n1_id h1 h0)
    · exact .inl (by rw [e1]; exact h0))
  have a2 : (n2P t 0).bad = false := n2_of (by
    by_cases h0 : rdT s 0 1 = 0
    · exact .inr (by rw [e3]; exact n2_e h2 h0)
    · exact .inl (by rw [e1]; exact h0))
  obtain ⟨⟨_, _⟩, d3, d4⟩ := run_dec (k := 0) hr (Nat.zero_le _)
  have d3 : enc (atR (rdT s 0 1) (rdT s (0 + 1 + 4) 1) (rpN s 0) (rpM s 0)) (rds s 0 (atR (rdT s 0 1) (rdT s (0 + 1 + 4) 1) (rpN s 0) (rpM s 0))) = byt s := by
    have d3 : enc (atR (rdT s 0 1) (rdT s (0 + 1 + 4) 1) (rpN s 0) (rpM s 0)) (rds s 0 (atR (rdT s 0 1) (rdT s (0 + 1 + 4) 1) (rpN s 0) (rpM s 0))) = ((byt s).drop 0).take (atL (atR (rdT s 0 1) (rdT s (0 + 1 + 4) 1) (rpN s 0) (rpM s 0))) := d3
    rw [d3, List.drop_zero, List.take_of_length_le (by rw [byt_len]; omega)]
  have d4 : vok (atR (rdT s 0 1) (rdT s (0 + 1 + 4) 1) (rpN s 0) (rpM s 0)) (rds s 0 (atR (rdT s 0 1) (rdT s (0 + 1 + 4) 1) (rpN s 0) (rpM s 0))) := d4
  obtain ⟨r1, _⟩ := run_enc (s := t) (X := [x]) (fin := finR t (rdT s 0 1) (rdT s (0 + 1 + 4) 1)) (P := []) (by rw [d3]; exact ht) d4
  have r1 : runA t (finR t (rdT s 0 1) (rdT s (0 + 1 + 4) 1)) 0 (atR (rdT s 0 1) (rdT s (0 + 1 + 4) 1) (rpN s 0) (rpM s 0)) = finR t (rdT s 0 1) (rdT s (0 + 1 + 4) 1) ((0 + atL (atR (rdT s 0 1) (rdT s (0 + 1 + 4) 1) (rpN s 0) (rpM s 0)) : Nat) : Int) := r1
  have hrun := rpP_run (s := t) e1 e3 hk1 a1 a2
  rw [eN, eM, r1, Nat.zero_add, ← hsz] at hrun
  have hts : t.size = s.size + 1 := by rw [← byt_len, ht, List.length_append, byt_len]; rfl
  have hfin : finR t (rdT s 0 1) (rdT s (0 + 1 + 4) 1) (s.size : Int) = enP t (s.size : Int) := by
    unfold finR
    by_cases h : rdT s (0 + 1 + 4) 1 = 0 ∧ rdT s 0 1 = 9
    · have hy := hray h.1 h.2
      have h42 := l42 h.1 h.2
      rw [h.1, h.2]
      show (rayP t 0).seq (enP t (s.size : Int)) = _
      rw [ray_same (s := s) fun p n h0 h1 => H p n h0 (by omega), seq_ok hy]
    · rw [show (rdT s (0 + 1 + 4) 1 == 0 && rdT s 0 1 == 9) = false from by
        cases hb : (rdT s (0 + 1 + 4) 1 == 0 && rdT s 0 1 == 9) with
        | false => rfl
        | true =>
          rw [Bool.and_eq_true] at hb
          exact absurd ⟨beq_iff_eq.1 hb.1, beq_iff_eq.1 hb.2⟩ h]
      rfl
  rw [hfin] at hrun
  have hbd : (rpP t 0).bad = true := by
    rw [hrun]
    show (!((s.size : Int) == (t.size : Int))) = true
    rw [show ((s.size : Int) == (t.size : Int)) = false by rw [hts]; simp; omega]
    rfl
  unfold rqEr
  rw [hbd, cond_true, hrun]
  rfl
theorem rq_cut {s t : ByteArray} {m : Nat} (hb : (rpP s 0).bad = false) (hK : rdT s 0 1 ≠ 0) (ht : byt t = (byt s).take m) (hm : m < s.size) : rqEr t = 7 := by
  obtain ⟨hk, h1, h2, hk1⟩ := rp_parts hb
  obtain ⟨⟨hr, hsz⟩, _⟩ := reply_shape hb
  have hts : t.size = m := by rw [← byt_len, ht, List.length_take, byt_len]; omega
  have key : (rpP t 0).bad = true ∧ (rpP t 0).er = 7 → rqEr t = 7 := fun hb => by
    unfold rqEr
    rw [hb.1, cond_true, hb.2]
  apply key
  have hpre : ∀ {k : Int} {n : Nat}, 0 ≤ k → k + n ≤ (t.size : Int) → rdT t k n = rdT s k n := fun h0 h1 => (rdT_pre (X := (byt s).drop m) (by rw [ht, List.take_append_drop]) h0 h1).symm
  by_cases h0 : m = 0
  · subst h0
    have hn := tk_no (s := t) (k := 0) (n := 1) (by omega)
    have a1 := seq_no (b := ⟨!(decide (0 ≤ rdT t 0 1) && decide (rdT t 0 1 ≤ 10)), 8⟩) hn.1
    have a2 := seq_no (b := (upP t (0 + 1) 2147483647 4).seq ((n1P t 0).seq ((upP t (0 + 1 + 4) 14 1).seq ((n2P t 0).seq (rpR t 0))))) a1.1
    exact ⟨a2.1, a2.2.symm.trans (a1.2.symm.trans hn.2)⟩
  have e1 : rdT t 0 1 = rdT s 0 1 := hpre (by omega) (by show (0 : Int) + 1 ≤ _; omega)
  have a1 : (n1P t 0).bad = false := n1_of (.inl (by rw [e1]; exact hK))
  have a2 : (n2P t 0).bad = false := n2_of (.inl (by rw [e1]; exact hK))
  have hrun := rpP_run (s := t) e1 rfl (fun _ => ⟨by omega, hk.2⟩) a1 a2
  by_cases h6 : m < 6
  · have hA : ∀ e n q, atR (rdT s 0 1) e n q = [aKd 0, aC, aE] ++ rAK (rdT s 0 1) e n q := fun _ _ _ => rfl
    rw [hA, runA_app] at hrun hr
    rw [hrun]
    exact run_cut ht hts (k := 0) hr (Nat.zero_le _) (by show m < 0 + 6; omega)
  have e3 : rdT t (0 + 1 + 4) 1 = rdT s (0 + 1 + 4) 1 := hpre (by omega) (by show (5 : Int) + 1 ≤ _; omega)
  rw [e3] at hrun
  have full : rpN t 0 = rpN s 0 → rpM t 0 = rpM s 0 → (rpP t 0).bad = true ∧ (rpP t 0).er = 7 := fun q1 q2 => by
    rw [hrun, q1, q2]
    exact run_cut ht hts (k := 0) hr (Nat.zero_le _) (by omega)
  by_cases h7 : rdT s (0 + 1 + 4) 1 = 0 ∧ rdT s 0 1 = 7
  · by_cases h40 : 40 ≤ m
    · exact full (rpN_of e1 e3 fun _ _ => hpre (by omega) (by show (39 : Int) + 1 ≤ _; omega)) (rpM_of e1 e3 fun _ b => by rw [h7.2] at b; cases b)
    · rw [h7.1, h7.2] at hrun hr
      have hA : ∀ n q, ∃ Y, atR 7 0 n q = [aKd 0, aC, aE, aC, aC, aS, aI, aI, aI, aN] ++ Y := fun n q => ⟨_, rfl⟩
      obtain ⟨Y1, y1⟩ := hA (rpN s 0) (rpM s 0)
      obtain ⟨Y2, y2⟩ := hA (rpN t 0) (rpM t 0)
      rw [y2, runA_app] at hrun
      rw [y1, runA_app] at hr
      rw [hrun]
      exact run_cut ht hts (k := 0) hr (Nat.zero_le _) (by show m < 0 + 40; omega)
  by_cases h8 : rdT s (0 + 1 + 4) 1 = 0 ∧ rdT s 0 1 = 8
  · by_cases h70 : 7 ≤ m
    · exact full (rpN_of e1 e3 fun _ b => by rw [h8.2] at b; cases b) (rpM_of e1 e3 fun _ _ => hpre (by omega) (by show (6 : Int) + 1 ≤ _; omega))
    · rw [h8.1, h8.2] at hrun hr
      have hA : ∀ n q, ∃ Y, atR 8 0 n q = [aKd 0, aC, aE, aHs] ++ Y := fun n q => ⟨_, rfl⟩
      obtain ⟨Y1, y1⟩ := hA (rpN s 0) (rpM s 0)
      obtain ⟨Y2, y2⟩ := hA (rpN t 0) (rpM t 0)
      rw [y2, runA_app] at hrun
      rw [y1, runA_app] at hr
      rw [hrun]
      exact run_cut ht hts (k := 0) hr (Nat.zero_le _) (by show m < 0 + 7; omega)
  exact full (rpN_of e1 e3 fun a b => absurd ⟨a, b⟩ h7) (rpM_of e1 e3 fun a b => absurd ⟨a, b⟩ h8)
theorem sameP_congr {n : Nat} {g h : Nat → Int × Int} (e : ∀ i, i < n → g i = h i) : sameP n g n h = true := by
  unfold sameP
  rw [Nat.beq_refl, Bool.true_and]
  exact List.all_eq_true.2 fun i hi => by
    rw [e i (List.mem_range.1 hi)]
    unfold eqP
    rw [beq_self_eq_true, beq_self_eq_true]; rfl
end Go.Proofs.Ytjdldadmaaeimaa
end
section
namespace Go.Proofs.Ytjdldadmaaeimaa
open Go.SE Go.RowKit
def zBody : List SV := zShape ++ (zN ++ zN ++ zN ++ zN) ++ (zN ++ zN) ++ zN ++ (zN ++ zN) ++ [iV 0, bV false, bV false, iV 0]
def zBo : SV := .agg zBody
def repC : SV := .agg ([iV 10, iV 7, iV 0, iV 0, iV 0, iV 0, iV 0] ++ zBody ++ [nilS] ++ [bV false] ++ zN ++ (zN ++ zN) ++ [iV 3])
def repLs : List Int := [10] ++ (c4 7 ++ ([0] ++ c4 3))
def ΓK0 : Ctrs := addCtr noCtrs 72 (pureCtr (sAt [zSh, zSh] (bV true)))
def ΓK1 : Ctrs := addCtr (addCtr noCtrs 81 (pureCtr (sAt [zBo, zBo] (bV true)))) 82 (pureCtr (sAt [nilS, nilS] (bV true)))
theorem vcShownR (R : SV→Prop) : (vcPure Try.prog noCtrs noΛ Try.f77 [repC] R) = (R (SV.agg [(SV.v (.int .i64 10)),(SV.v (.int .i64 7)),zI,zI,zI,zI,zI,zI,zI,zI,zI,zS,zI,zF,zI,zF,zI,zF,zI,zF,zI,zF,zI,zF,zI,zF,zI,zF,zI,zF,zI,zF,zF,zI,zS,zF,zI,zF,zI,zF,zI,zF,(SV.v (.int .i64 3))])):=by kernel_rfl
theorem vcEqH (R : SV→Prop) : (vcPure Try.prog noCtrs (ΛZ Try.f82 13) Try.f82 [nilS,nilS] R) = ((∃ x : Nat,(((x : Nat) = 0)∧((zI = (SV.v (.int .i64 ((↑x : Int)))))∧True)))∧(∀ x : Nat,(((x : Nat) = 0)→(R (SV.v (.bool true)))))):=by kernel_rfl
theorem vcSameBoZ (R : SV→Prop) : (vcPure Try.prog ΓK0 noΛ Try.f81 [zBo,zBo] R) = (([(SV.agg [zI,zI,zI,zI,zS]),(SV.agg [zI,zI,zI,zI,zS])] = [(SV.agg [zI,zI,zI,zI,zS]),(SV.agg [zI,zI,zI,zI,zS])])∧(R (SV.v (.bool true)))):=by kernel_rfl
theorem vcSameRep (R : SV→Prop) : (vcPure Try.prog ΓK1 noΛ Try.f36 [repC,repC] R) = (([(SV.agg [zI,zI,zI,zI,zS,zI,zF,zI,zF,zI,zF,zI,zF,zI,zF,zI,zF,zI,zF,zI,zF,zI,zF,zI,zF,zF,zI]),(SV.agg [zI,zI,zI,zI,zS,zI,zF,zI,zF,zI,zF,zI,zF,zI,zF,zI,zF,zI,zF,zI,zF,zI,zF,zI,zF,zF,zI])] = [(SV.agg [zI,zI,zI,zI,zS,zI,zF,zI,zF,zI,zF,zI,zF,zI,zF,zI,zF,zI,zF,zI,zF,zI,zF,zI,zF,zF,zI]),(SV.agg [zI,zI,zI,zI,zS,zI,zF,zI,zF,zI,zF,zI,zF,zI,zF,zI,zF,zI,zF,zI,zF,zI,zF,zI,zF,zF,zI])])∧(([zS,zS] = [zS,zS])∧(R (SV.v (.bool true))))):=by kernel_rfl
def ΓK3 : Ctrs := addCtr ΓG0 118 (hpCtr true sSmall)
theorem vcReplyR (b : Bool) : (vcFn Try.prog ΓK3 noΛ Try.f78 [.vp 0 0,repC] (heapOf (fB (some b))) 64 (fun y h' => FinE (fB (some b)) (apE (.fresh (some b)) 0 True 10 repLs false) y h')) =
((I64 10)∧(∀ c : Nat,((((bytesOk 1 (1 + c) {elem:=5,size:=1,rw:=true,lock:=false,lit:=false,flat:=true,n:=1,row:=fun i => [SV.v (.int .u8 ((fun i => List.getD [10] i 0) i))],ext:=1 + c})∧((1 : Nat) ≤ M0))∧(I64 7))∧(∀ c_1 : Nat,((((bytesOk 5 (5 + c_1) {elem:=5,size:=1,rw:=true,lock:=false,lit:=false,flat:=true,n:=5,row:=fun i => [SV.v (.int .u8 (apG 1 (fun i => SE.byteOf [SV.v (.int .u8 ((fun i => List.getD [10] i 0) i))]) (be 7 4) i))],ext:=5 + c_1})∧((5 : Nat) ≤ M0))∧(I64 0))∧(∀ c_2 : Nat,((((bytesOk 6 (6 + c_2) {elem:=5,size:=1,rw:=true,lock:=false,lit:=false,flat:=true,n:=6,row:=fun i => [SV.v (.int .u8 (apG 5 (fun i => SE.byteOf [SV.v (.int .u8 (apG 1 (fun i => SE.byteOf [SV.v (.int .u8 ((fun i => List.getD [10] i 0) i))]) (be 7 4) i))]) [0] i))],ext:=6 + c_2})∧((6 : Nat) ≤ M0))∧(I64 3))∧(∀ c_3 : Nat,(∃ c_4 : Nat,(True∧((((1 : Nat) = 1)∧(((1 : Nat) ≤ 1)∧(((SV.sl 464 1 0 10 (10 + c_3)) = (SV.sl 464 1 0 10 (10 + c_4)))∧((SV.v (.bool (b||false||false||false||false))) = (SV.v (.bool (b||false)))))))∧(((10 : Nat) = 10)∧((((10 + c_4) : Nat) ≤ (10 + c_3))∧(∀ i : Nat,(((i : Nat) < 10)→([(SV.v (.int .u8 (apG 6 (fun i => SE.byteOf [SV.v (.int .u8 (apG 5 (fun i => SE.byteOf [SV.v (.int .u8 (apG 1 (fun i => SE.byteOf [SV.v (.int .u8 ((fun i => List.getD [10] i 0) i))]) (be 7 4) i))]) [0] i))]) (be 3 4) i)))] = [(SV.v (.int .u8 (List.getD repLs i 0)))])))))))))))))))) := by kernel_rfl
def sReplyR (args : List SV) (bs : List Blk) : Option Eff := match args with
  | [.vp 0 0, x] => match wrOf bs with
    | some (.fresh (some b)) => some (apE (.fresh (some b)) 0 (x = repC) 10 repLs false)
    | _ => none
  | _ => none
def ΓK2 : Ctrs := addCtr (addCtr (addCtr (addCtr noCtrs 77 (pureCtr (sAt [repC] repC))) 36 (pureCtr (sAt [repC, repC] (bV true)))) 78 (hpCtr true sReplyR)) 71 (hpCtr true sDoneX)
@[reducible] noncomputable def vcReply_1  := (SV.agg [(SV.v (.int .i64 10)),(SV.v (.int .i64 7)),zI,zI,zI,zI,zI,zI,zI,zI,zI,zS,zI,zF,zI,zF,zI,zF,zI,zF,zI,zF,zI,zF,zI,zF,zI,zF,zI,zF,zI,zF,zF,zI,zS,zF,zI,zF,zI,zF,zI,zF,(SV.v (.int .i64 3))])
theorem vcReply (R : SV→Prop) : (vcPure Try.prog ΓK2 noΛ Try.f32 [repC] R) =
(([(vcReply_1)] = [(vcReply_1)])∧(([(vcReply_1),(vcReply_1)] = [(vcReply_1),(vcReply_1)])∧(((vcReply_1) = (vcReply_1))∧(∀ c : Nat,((bytesOk 10 (10 + c) {elem:=5,size:=1,rw:=true,lock:=false,lit:=false,flat:=true,n:=10,row:=fun i => [SV.v (.int .u8 ((fun i => List.getD repLs i 0) i))],ext:=10 + c})∧(R (SV.tup [(SV.v (.string (strOf 10 fun i => [SV.v (.int .u8 (SE.byteOf [SV.v (.int .u8 ((fun i => List.getD repLs i 0) i))]))]))),zI]))))))) := by kernel_rfl
theorem ShownR_spec : PureSpec Try.prog 77 (sAt [repC] repC) := at_spec noCtrs_ok Try.func77 (by kernel_rfl) (by kernel_rfl) (by rw [vcShownR]; kernel_rfl)
theorem EqH_spec : PureSpec Try.prog 82 (sAt [nilS, nilS] (bV true)) := at_spec noCtrs_ok Try.func82 (by kernel_rfl) (by kernel_rfl) (Eq.mpr (vcEqH _) ⟨⟨0, rfl, rfl, trivial⟩, fun _ _ => rfl⟩)
theorem ΓK0_ok : ∀ f g, ΓK0 f = some g → g.ok Try.prog f := addCtr_ok noCtrs_ok (pure_ok Try.func72 (by kernel_rfl) (by kernel_rfl) SameShZ_spec)
theorem SameBoZ_spec : PureSpec Try.prog 81 (sAt [zBo, zBo] (bV true)) := at_spec ΓK0_ok Try.func81 (by kernel_rfl) (by kernel_rfl) (Λ := noΛ) (by rw [vcSameBoZ]; exact ⟨rfl, rfl⟩)
theorem ΓK1_ok : ∀ f g, ΓK1 f = some g → g.ok Try.prog f := addCtr_ok (addCtr_ok noCtrs_ok (pure_ok Try.func81 (by kernel_rfl) (by kernel_rfl) SameBoZ_spec)) (pure_ok Try.func82 (by kernel_rfl) (by kernel_rfl) EqH_spec)
theorem SameRep_spec : PureSpec Try.prog 36 (sAt [repC, repC] (bV true)) := at_spec ΓK1_ok Try.func36 (by kernel_rfl) (by kernel_rfl) (Λ := noΛ) (by rw [vcSameRep]; exact ⟨rfl, rfl, rfl⟩)
theorem ΓK3_ok : ∀ f g, ΓK3 f = some g → g.ok Try.prog f := addCtr_ok ΓG0_ok (hp_ok Try.func118 (by kernel_rfl) (by kernel_rfl) Small_spec)
theorem apG_list (x : Int) (M : List Int) (i : Nat) : apG 1 (fun i => ([x] : List Int).getD i 0) M i = ([x] ++ M).getD i 0 := by
  by_cases h1 : i < 1
  · have : i = 0 := by omega
    subst this; rfl
  · obtain ⟨j, rfl⟩ : ∃ j, i = j + 1 := ⟨i - 1, by omega⟩
    rw [apG_new h1, Nat.add_sub_cancel]
    rfl
theorem rep_row (i : Nat) : apG 6 (apG 5 (apG 1 (fun i => ([10] : List Int).getD i 0) (be 7 4)) [0]) (be 3 4) i = repLs.getD i 0 := by
  rw [apG_ap (n := 5) (m := 6) (L := [0]) rfl, apG_ap (n := 1) (m := 5) (by rw [be_len]), apG_list]
  rfl
def relStr : ByteArray := ⟨#[6, 0, 0, 0, 1, 0, 0, 0, 2]⟩
def repStr : ByteArray := ⟨#[10, 0, 0, 0, 7, 0, 0, 0, 0, 3]⟩
theorem rel_str : (strOf 9 fun i => [SV.v (.int .u8 (relL.getD i 0))]) = relStr := by kernel_rfl
theorem rep_str : (strOf 10 fun i => [SV.v (.int .u8 (repLs.getD i 0))]) = repStr := by kernel_rfl
theorem Call_spec : PureSpec Try.prog 24 (sAt [relC] (.tup [strS relStr, iV 0])) := at_spec ΓI0_ok Try.func24 (by kernel_rfl) (by kernel_rfl) (Λ := noΛ) (by
  rw [vcCall]
  repeat (first | unfold vcCall_1)
  exact ⟨rfl, rfl, rfl, fun c => ⟨bytesOk_bG _ _ _ (by omega), congrArg (fun z => SV.tup [SV.v (.string z), SV.v (.int .i64 0)]) rel_str⟩⟩)
theorem ReplyR_spec : HpSpec Try.prog 78 sReplyR := hp_spec hm ΓK3_ok Try.func78 (Λ := fun _ _ => noΛ) fun args bs e hs hp => by
  unfold sReplyR at hs
  split at hs <;> try (cases hs; done)
  rename_i x
  split at hs <;> try (cases hs; done)
  rename_i b hw
  cases hs
  have hx : x = repC := hp
  subst hx
  refine ⟨_, wrOf_fresh hw, Eq.mpr (vcReplyR b) ⟨⟨by omega, by omega⟩, fun c => ⟨⟨⟨bytesOk_bG _ _ _ (by omega), by show 1 ≤ 1099511627776; omega⟩, ⟨by omega, by omega⟩⟩, fun c1 => ⟨⟨⟨bytesOk_bG _ _ _ (by omega), by show 5 ≤ 1099511627776; omega⟩, ⟨by omega, by omega⟩⟩, fun c2 => ⟨⟨⟨bytesOk_bG _ _ _ (by omega), by show 6 ≤ 1099511627776; omega⟩, ⟨by omega, by omega⟩⟩, fun c3 => tailU rfl (by simp) fun i hi => rep_row i⟩⟩⟩⟩⟩
theorem ΓK2_ok : ∀ f g, ΓK2 f = some g → g.ok Try.prog f := addCtr_ok (addCtr_ok (addCtr_ok (addCtr_ok noCtrs_ok (pure_ok Try.func77 (by kernel_rfl) (by kernel_rfl) ShownR_spec)) (pure_ok Try.func36 (by kernel_rfl) (by kernel_rfl) SameRep_spec)) (hp_ok Try.func78 (by kernel_rfl) (by kernel_rfl) ReplyR_spec)) (hp_ok Try.func71 (by kernel_rfl) (by kernel_rfl) Done_spec)
theorem Reply_spec : PureSpec Try.prog 32 (sAt [repC] (.tup [strS repStr, iV 0])) := at_spec ΓK2_ok Try.func32 (by kernel_rfl) (by kernel_rfl) (Λ := noΛ) (by
  rw [vcReply]
  repeat (first | unfold vcReply_1)
  exact ⟨rfl, rfl, rfl, fun c => ⟨bytesOk_bG _ _ _ (by omega), congrArg (fun z => SV.tup [SV.v (.string z), SV.v (.int .i64 0)]) rep_str⟩⟩)
end Go.Proofs.Ytjdldadmaaeimaa
end
section
namespace Go.Proofs.Ytjdldadmaaeimaa
open Go.SE Go.RowKit
def frT (s : ByteArray) : ByteArray := bif Nat.beq s.size 0 then emp else bif Nat.blt 2048 s.size then emp else strOfNums (be (s.size : Int) 4) ++ s
def frE (s : ByteArray) : Int := bif Nat.beq s.size 0 then 7 else bif Nat.blt 2048 s.size then 6 else 0
def sFrame2 : List SV → Option (Option Prop × SV)
  | [.v (.string s)] => some (some (s.size < 4294967296), .tup [strS (frT s), iV (frE s)])
  | _ => none
def ΓA0 : Ctrs := addCtr (addCtr (addCtr (addCtr (addCtr (addCtr noCtrs 24 (pureCtr (sAt [relC] (.tup [strS relStr, iV 0])))) 38 (hpCtr true sReadC)) 32 (pureCtr (sAt [repC] (.tup [strS repStr, iV 0])))) 21 (pureCtr sFrame2)) 16 (pureCtr sName)) 18 (pureCtr sKind)
theorem vcAwake (R : SV→Prop) : (vcPure Try.prog ΓA0 noΛ Try.f20 [] R) = (([(SV.agg [(SV.v (.int .i64 6)),(SV.v (.int .i64 1)),zI,zI,zI,zI,zI,zI,zI,zS,zI,zF,zI,zF,zI,zF,zI,zF,zI,zF,zI,zF,zI,zF,zI,zF,zI,zF,zI,zF,zI,zF,zI,zF,(SV.v (.int .i64 2)),zI,zI,zI,zI,zI,zI,zI,zI])] = [(SV.agg [(SV.v (.int .i64 6)),(SV.v (.int .i64 1)),zI,zI,zI,zI,zI,zI,zI,zS,zI,zF,zI,zF,zI,zF,zI,zF,zI,zF,zI,zF,zI,zF,zI,zF,zI,zF,zI,zF,zI,zF,zI,zF,(SV.v (.int .i64 2)),zI,zI,zI,zI,zI,zI,zI,zI])])∧(({data:=#[10,0,0,0,7]} = cntStr)∧(([(SV.agg [(SV.v (.int .i64 10)),(SV.v (.int .i64 7)),zI,zI,zI,zI,zI,zI,zI,zI,zI,zS,zI,zF,zI,zF,zI,zF,zI,zF,zI,zF,zI,zF,zI,zF,zI,zF,zI,zF,zI,zF,zF,zI,zS,zF,zI,zF,zI,zF,zI,zF,(SV.v (.int .i64 3))])] = [(SV.agg [(SV.v (.int .i64 10)),(SV.v (.int .i64 7)),zI,zI,zI,zI,zI,zI,zI,zI,zI,zS,zI,zF,zI,zF,zI,zF,zI,zF,zI,zF,zI,zF,zI,zF,zI,zF,zI,zF,zI,zF,zF,zI,zS,zF,zI,zF,zI,zF,zI,zF,(SV.v (.int .i64 3))])])∧(((2 : Nat) < 4294967296)∧(((((-9223372036854775808) : Int) ≤ 9)∧((9 : Int) < 9223372036854775808))∧(R (SV.v (.bool true)))))))):=by kernel_rfl
def sAwake : List SV → Option (Option Prop × SV)
  | [] => some (none, bV true)
  | _ => none
theorem frame2 (s : ByteArray) : frameS s = .tup [strS (frT s), iV (frE s)] := by
  unfold frameS frT frE
  cases Nat.beq s.size 0 with
  | true => rfl
  | false => cases Nat.blt 2048 s.size <;> rfl
theorem sFrame_eq (s : ByteArray) : sFrame [.v (.string s)] = sFrame2 [.v (.string s)] := by
  show some (some (s.size < 4294967296), frameS s) = _
  rw [frame2]
  rfl
theorem frame2_of {f : FuncId} (h : PureSpec Try.prog f sFrame) : PureSpec Try.prog f sFrame2 := fun args p x hs hp => by
  refine h args p x ?_ hp
  rw [← hs]
  unfold sFrame2 at hs
  split at hs
  · exact sFrame_eq _
  · cases hs
theorem ΓA0_ok : ∀ f g, ΓA0 f = some g → g.ok Try.prog f := addCtr_ok (addCtr_ok (addCtr_ok (addCtr_ok (addCtr_ok (addCtr_ok noCtrs_ok (pure_ok Try.func24 (by kernel_rfl) (by kernel_rfl) Call_spec)) (hp_ok Try.func38 (by kernel_rfl) (by kernel_rfl) ReadC_spec)) (pure_ok Try.func32 (by kernel_rfl) (by kernel_rfl) Reply_spec)) (pure_ok Try.func21 (by kernel_rfl) (by kernel_rfl) (frame2_of Frame_spec))) (pure_ok Try.func16 (by kernel_rfl) (by kernel_rfl) Name_spec)) (pure_ok Try.func18 (by kernel_rfl) (by kernel_rfl) Kind_spec)
theorem Awake_spec : PureSpec Try.prog 20 (sAt [] (bV true)) := at_spec ΓA0_ok Try.func20 (by kernel_rfl) (by kernel_rfl) (Λ := noΛ) (by
  rw [vcAwake]
  exact ⟨rfl, rfl, rfl, by omega, ⟨by omega, by omega⟩, rfl⟩)
theorem Awake0_spec : PureSpec Try.prog 20 sAwake := fun args p x hs hp => by
  unfold sAwake at hs
  split at hs
  · cases hs
    exact Awake_spec [] (some ([] = [])) (bV true) rfl (fun q hq => by cases hq; rfl)
  · cases hs
end Go.Proofs.Ytjdldadmaaeimaa
end
section
namespace Go.Proofs.Ytjdldadmaaeimaa
open Go.SE Go.RowKit
def rowI (g : Nat → Int) : Nat → List SV := fun i => [.v (.int .i64 (g i))]
theorem gI_ro {n : Nat} {g : Nat → Int} : gI (winBlk (Ro.blk { s := 1, n := n, row := fun i => [SV.v (Value.int IntKind.i64 (g i))] }) 1 0 n) = g := funext fun i => by
  show i1 [SV.v (.int .i64 (g (0 + i)))] = g i
  rw [Nat.zero_add]; rfl
theorem niPre_ro {n : Nat} {g : Nat → Int} (h : gOk n g) : niPre n (winBlk (Ro.blk { s := 1, n := n, row := fun i => [SV.v (Value.int IntKind.i64 (g i))] }) 1 0 n) := ⟨⟨rfl, h.1⟩, fun i hi => by
  show I64 (g (0 + i))
  rw [Nat.zero_add]; exact h.2 i hi⟩
theorem gi_rows1 (g : Nat → Int × Int) : (fun i => gi [SV.v (.int .i64 (g (0 + i)).1), SV.v (.int .i64 (g (0 + i)).2)]) = g := by
  funext i
  rw [Nat.zero_add]
  rfl
theorem pre_rows1 {n : Nat} {g : Nat → Int × Int} (hn : n < 1099511627776) (hg : ∀ i, I64 (g i).1 ∧ I64 (g i).2) : rowsPre n n fun y => [SV.v (.int .i64 (g (0 + y)).1), SV.v (.int .i64 (g (0 + y)).2)] := ⟨okAll_rows.2 fun i hi => by rw [Nat.zero_add]; exact hg i, rfl, hn⟩
theorem strOf_byte {x : Int} (h : 0 ≤ x ∧ x < 256) : byt (strOf 1 fun _ => [SV.v (.int .u8 x)]) = [x] := by
  rw [strOf_one]
  exact byt_str fun y hy => by
    rw [List.mem_singleton] at hy
    rw [hy]; exact h
end Go.Proofs.Ytjdldadmaaeimaa
end
section
namespace Go.Proofs.Ytjdldadmaaeimaa
open Go.SE Go.RowKit
def gRo (n : Nat) (g : Nat → Int) : Nat → Int := gI (winBlk (Ro.blk { s := 1, n := n, row := fun i => [SV.v (Value.int IntKind.i64 (g i))] }) 1 0 n)
noncomputable def ΓRbk : Ctrs := addCtr (addCtr (addCtr (addCtr (addCtr (addCtr (addCtr noCtrs 53 (hpCtr false sReplyOf)) 32 (roCtr sRepG)) 36 (roCtr sSame_ww)) 20 (pureCtr sAwake)) 34 (roCtr sCheckR)) 54 (hpCtr false sReadRG)) 39 (pureCtr sModH)
@[reducible] noncomputable def vcRBack_1 (a : Int) (b : Int) (n : Nat) (g : Nat→Int) := (repT (coK a) (eoE b) (roV a b n ((gRo n g))) (roN a b n ((gRo n g))) (fun i => gi [SV.v (.int .i64 (Prod.fst (roSp n ((gRo n g)) (0 + i)))),SV.v (.int .i64 (Prod.snd (roSp n ((gRo n g)) (0 + i))))]) (roM a b n ((gRo n g))) fun i => gi [SV.v (.int .i64 (Prod.fst (rhG n ((gRo n g)) (0 + i)))),SV.v (.int .i64 (Prod.snd (rhG n ((gRo n g)) (0 + i))))])
@[reducible] noncomputable def vcRBack_2 (a : Int) (b : Int) (n : Nat) (g : Nat→Int) := (repPre (coK a) (eoE b) (roV a b n ((gRo n g))) (roN a b n ((gRo n g))) (roN a b n ((gRo n g))) (roM a b n ((gRo n g))) (roM a b n ((gRo n g))) (fun y => [SV.v (.int .i64 (Prod.fst (roSp n ((gRo n g)) (0 + y)))),SV.v (.int .i64 (Prod.snd (roSp n ((gRo n g)) (0 + y))))]) fun y => [SV.v (.int .i64 (Prod.fst (rhG n ((gRo n g)) (0 + y)))),SV.v (.int .i64 (Prod.snd (rhG n ((gRo n g)) (0 + y))))])
@[reducible] noncomputable def vcRBack_3 (a : Int) (b : Int) (n : Nat) (g : Nat→Int) := ((repE (coK a) (eoE b) (roV a b n ((gRo n g))) (roN a b n ((gRo n g))) (fun i => gi [SV.v (.int .i64 (Prod.fst (roSp n ((gRo n g)) (0 + i)))),SV.v (.int .i64 (Prod.snd (roSp n ((gRo n g)) (0 + i))))]) (roM a b n ((gRo n g))) fun i => gi [SV.v (.int .i64 (Prod.fst (rhG n ((gRo n g)) (0 + i)))),SV.v (.int .i64 (Prod.snd (rhG n ((gRo n g)) (0 + i))))]) != 0)
@[reducible] noncomputable def vcRBack_4 (a : Int) (b : Int) (cut : Int) (n : Nat) (g : Nat→Int) := (Option.getD (some (md cut (max 1 (↑(ByteArray.size (vcRBack_1 a b n g)) : Int)))) (↑(ByteArray.size (vcRBack_1 a b n g)) : Int))
theorem vcRBack (a b cut : Int) (more : Int) (n cap : Nat) (g : Nat→Int) (R : SV→Prop) : (vcFn Try.prog ΓRbk noΛ Try.f14 [.v (.int .i64 a),.v (.int .i64 b),.sl 0 1 0 n cap,.v (.int .i64 cut),.v (.int .u8 more)] (roHeap [⟨1,n,rowI g⟩]) 64 (fun y _ => R y)) =
(((niPre n (winBlk (Ro.blk {s:=1,n:=n,row:=fun i => [SV.v (.int .i64 (g i))]}) 1 0 n))∧((I64 a)∧(I64 b)))∧(∀ c : RC,((vcRBack_2 a b n g)∧(sel (vcRBack_3 a b n g) (R zF) ((vcRBack_2 a b n g)∧(sel (vcRBack_3 a b n g) (R zF) (sel (decide ((↑(ByteArray.size (vcRBack_1 a b n g)) : Int) > 2048)) (R zF) ((((ByteArray.size (vcRBack_1 a b n g)) : Nat) ≤ 1099511627776)∧(∀ c_1 : RC,((repPre (rqK (vcRBack_1 a b n g)) (rqE (vcRBack_1 a b n g)) (rqV (vcRBack_1 a b n g)) (rqN (vcRBack_1 a b n g)) (rqN (vcRBack_1 a b n g)) (rqM (vcRBack_1 a b n g)) (rqM (vcRBack_1 a b n g)) (fun y => [SV.v (.int .i64 (Prod.fst (rpSp (vcRBack_1 a b n g) 0 (0 + y)))),SV.v (.int .i64 (Prod.snd (rpSp (vcRBack_1 a b n g) 0 (0 + y))))]) fun y => [SV.v (.int .i64 (Prod.fst (rpHd (vcRBack_1 a b n g) 0 (0 + y)))),SV.v (.int .i64 (Prod.snd (rpHd (vcRBack_1 a b n g) 0 (0 + y))))])∧(sel (rqEr (vcRBack_1 a b n g) != 0) (R zF) (((rowsPre (roN a b n ((gRo n g))) (roN a b n ((gRo n g))) fun y => [SV.v (.int .i64 (Prod.fst (roSp n ((gRo n g)) (0 + y)))),SV.v (.int .i64 (Prod.snd (roSp n ((gRo n g)) (0 + y))))])∧((rowsPre (roM a b n ((gRo n g))) (roM a b n ((gRo n g))) fun y => [SV.v (.int .i64 (Prod.fst (rhG n ((gRo n g)) (0 + y)))),SV.v (.int .i64 (Prod.snd (rhG n ((gRo n g)) (0 + y))))])∧((rowsPre (rqN (vcRBack_1 a b n g)) (rqN (vcRBack_1 a b n g)) fun y => [SV.v (.int .i64 (Prod.fst (rpSp (vcRBack_1 a b n g) 0 (0 + y)))),SV.v (.int .i64 (Prod.snd (rpSp (vcRBack_1 a b n g) 0 (0 + y))))])∧(rowsPre (rqM (vcRBack_1 a b n g)) (rqM (vcRBack_1 a b n g)) fun y => [SV.v (.int .i64 (Prod.fst (rpHd (vcRBack_1 a b n g) 0 (0 + y)))),SV.v (.int .i64 (Prod.snd (rpHd (vcRBack_1 a b n g) 0 (0 + y))))]))))∧(sel (!sameRB (coK a) (rqK (vcRBack_1 a b n g)) (eoE b) (rqE (vcRBack_1 a b n g)) (roV a b n ((gRo n g))) (rqV (vcRBack_1 a b n g)) (sameBB (RV.o (roV a b n ((gRo n g)))) (RV.o (rqV (vcRBack_1 a b n g))) (sameS (sbOf (RV.o (roV a b n ((gRo n g))))) (roN a b n ((gRo n g))) (fun i => gi [SV.v (.int .i64 (Prod.fst (roSp n ((gRo n g)) (0 + i)))),SV.v (.int .i64 (Prod.snd (roSp n ((gRo n g)) (0 + i))))]) (sbOf (RV.o (rqV (vcRBack_1 a b n g)))) (rqN (vcRBack_1 a b n g)) fun i => gi [SV.v (.int .i64 (Prod.fst (rpSp (vcRBack_1 a b n g) 0 (0 + i)))),SV.v (.int .i64 (Prod.snd (rpSp (vcRBack_1 a b n g) 0 (0 + i))))])) (sameP (roM a b n ((gRo n g))) (fun i => gi [SV.v (.int .i64 (Prod.fst (rhG n ((gRo n g)) (0 + i)))),SV.v (.int .i64 (Prod.snd (rhG n ((gRo n g)) (0 + i))))]) (rqM (vcRBack_1 a b n g)) fun i => gi [SV.v (.int .i64 (Prod.fst (rpHd (vcRBack_1 a b n g) 0 (0 + i)))),SV.v (.int .i64 (Prod.snd (rpHd (vcRBack_1 a b n g) 0 (0 + i))))])) (R zF) (sel ((repE (rqK (vcRBack_1 a b n g)) (rqE (vcRBack_1 a b n g)) (rqV (vcRBack_1 a b n g)) (rqN (vcRBack_1 a b n g)) (fun i => gi [SV.v (.int .i64 (Prod.fst (rpSp (vcRBack_1 a b n g) 0 (0 + i)))),SV.v (.int .i64 (Prod.snd (rpSp (vcRBack_1 a b n g) 0 (0 + i))))]) (rqM (vcRBack_1 a b n g)) fun i => gi [SV.v (.int .i64 (Prod.fst (rpHd (vcRBack_1 a b n g) 0 (0 + i)))),SV.v (.int .i64 (Prod.snd (rpHd (vcRBack_1 a b n g) 0 (0 + i))))]) != 0) (R zF) (sel (!(repT (rqK (vcRBack_1 a b n g)) (rqE (vcRBack_1 a b n g)) (rqV (vcRBack_1 a b n g)) (rqN (vcRBack_1 a b n g)) (fun i => gi [SV.v (.int .i64 (Prod.fst (rpSp (vcRBack_1 a b n g) 0 (0 + i)))),SV.v (.int .i64 (Prod.snd (rpSp (vcRBack_1 a b n g) 0 (0 + i))))]) (rqM (vcRBack_1 a b n g)) fun i => gi [SV.v (.int .i64 (Prod.fst (rpHd (vcRBack_1 a b n g) 0 (0 + i)))),SV.v (.int .i64 (Prod.snd (rpHd (vcRBack_1 a b n g) 0 (0 + i))))]) == repT (coK a) (eoE b) (roV a b n ((gRo n g))) (roN a b n ((gRo n g))) (fun i => gi [SV.v (.int .i64 (Prod.fst (roSp n ((gRo n g)) (0 + i)))),SV.v (.int .i64 (Prod.snd (roSp n ((gRo n g)) (0 + i))))]) (roM a b n ((gRo n g))) fun i => gi [SV.v (.int .i64 (Prod.fst (rhG n ((gRo n g)) (0 + i)))),SV.v (.int .i64 (Prod.snd (rhG n ((gRo n g)) (0 + i))))]) (R zF) ((∀ y : Nat,(((y : Nat) < 1)→True))∧(((((↑(ByteArray.size (vcRBack_1 a b n g) + 1) : Int)) : Int) ≤ 9223372036854775807)∧((((ByteArray.size ((vcRBack_1 a b n g)++strOf 1 fun y => [SV.v (.int .u8 more)])) : Nat) ≤ 1099511627776)∧(∀ c_2 : RC,(((I64 cut)∧(((0 : Int) < (max 1 (↑(ByteArray.size (vcRBack_1 a b n g)) : Int)))∧(((max 1 (↑(ByteArray.size (vcRBack_1 a b n g)) : Int)) : Int) < 4611686018427387904)))∧((((0 : Int) ≤ 0)∧(((0 : Int) ≤ (vcRBack_4 a b cut n g))∧(((vcRBack_4 a b cut n g) : Int) ≤ ((↑(ByteArray.size (vcRBack_1 a b n g)) : Int)))))∧((((ByteArray.size (ByteArray.extract (vcRBack_1 a b n g) 0 (Int.toNat (vcRBack_4 a b cut n g)))) : Nat) ≤ 1099511627776)∧(∀ c_3 : RC,(sel (rqEr ((vcRBack_1 a b n g)++strOf 1 fun y => [SV.v (.int .u8 more)]) == 6) (sel (rqEr (ByteArray.extract (vcRBack_1 a b n g) 0 (Int.toNat (vcRBack_4 a b cut n g))) == 7) (R (SV.v (.bool true))) (R zF)) (R zF))))))))))))))))))))))))) := by kernel_rfl
theorem anyH_no {u v : Nat → Int} (h : ∀ i, hBad (u i) (v i) = false) : ∀ m : Nat, anyH u v m = false
  | 0 => rfl
  | m + 1 => by
    unfold anyH
    rw [anyH_no h m, h m]
    rfl
theorem hB_no (x y : Int) : hBad (frV 2147483647 x) (frV 2147483647 y) = false := by
  unfold hBad
  rw [fr_no (by omega), fr_no (by omega)]
  rfl
theorem zb_ok' : bvOk zBV := ⟨i0, i0, i0, i0, i0, i0, i0, i0, i0, i0, i0, i0, i0, i0, i0⟩
theorem sb_ok {n : Nat} {g : Nat → Int} {a : Int} (hg : gOk n g) (h0 : 0 ≤ a) : bvOk (sbV n g a) ∧ boBad (sbV n g a) (srC n g a) = false := by
  refine ⟨⟨fr_i64 (by omega) (by omega) _, nx_rng hg (by show (0 : Int) ≤ a + 1; omega), nx_rng hg (by show (0 : Int) ≤ a + 1 + 1; omega), nx_rng hg (by show (0 : Int) ≤ a + 1 + 1 + 1; omega), nuV_i64 (nx_rng hg (by have := srEnd_le n g a; show (0 : Int) ≤ srEnd n g (a); omega)), nuV_i64 (nx_rng hg (by have := srEnd_le n g a; show (0 : Int) ≤ srEnd n g (a) + 1; omega)), nuV_i64 (nx_rng hg (by have := srEnd_le n g a; show (0 : Int) ≤ srEnd n g (a) + 1 + 1; omega)), nuV_i64 (nx_rng hg (by have := srEnd_le n g a; show (0 : Int) ≤ srEnd n g (a) + 1 + 1 + 1; omega)), nuV_i64 (nx_rng hg (by have := srEnd_le n g a; show (0 : Int) ≤ srEnd n g (a) + 1 + 1 + 1 + 1; omega)), nuV_i64 (nx_rng hg (by have := srEnd_le n g a; show (0 : Int) ≤ srEnd n g (a) + 1 + 1 + 1 + 1 + 1; omega)), nuV_i64 (nx_rng hg (by have := srEnd_le n g a; show (0 : Int) ≤ srEnd n g (a) + 1 + 1 + 1 + 1 + 1 + 1; omega)), nuV_i64 (nx_rng hg (by have := srEnd_le n g a; show (0 : Int) ≤ srEnd n g (a) + 1 + 1 + 1 + 1 + 1 + 1 + 1; omega)), nuV_i64 (nx_rng hg (by have := srEnd_le n g a; show (0 : Int) ≤ srEnd n g (a) + 1 + 1 + 1 + 1 + 1 + 1 + 1 + 1; omega)), fr_i64 (by omega) (by omega) _, fr_i64 (by omega) (by omega) _⟩, ?_⟩
  simp only [boBad, shBad, Bool.or_eq_false_iff, and_assoc]
  exact ⟨fr_no (by omega) _, notIn_of ⟨by omega, by have := srC_le n g a; omega⟩, nuV_no _, nuV_no _, nuV_no _, nuV_no _, nuV_no _, nuV_no _, nuV_no _, nuV_no _, nuV_no _, fr_no (by omega) _, fr_no (by omega) _⟩
theorem wo_1 {n : Nat} {g : Nat → Int} (hg : gOk n g) : (rvOk (wV1 n g) ∧ uR1 (wV1 n g) = wV1 n g) ∧ notIn (wV1 n g).id 2147483647 = false ∧ rB1 (wV1 n g) 0 0 (fun i => (rhG n g i).1) (fun i => (rhG n g i).2) = false := by
  refine ⟨⟨⟨fr_i64 (by omega) (by omega) _, fr_i64 (by omega) (by omega) _, fr_i64 (by omega) (by omega) _, fr_i64 (by omega) (by omega) _, i0, i0, i0, i0, i0, zb_ok'⟩, rfl⟩, fr_no (by omega) _, ?_⟩
  simp only [rB1, hBad, Bool.or_eq_false_iff, and_assoc]
  exact ⟨fr_no (by omega) _, fr_no (by omega) _, fr_no (by omega) _⟩
theorem wo_2 {n : Nat} {g : Nat → Int} (hg : gOk n g) : (rvOk (wV2 n g) ∧ uR2 (wV2 n g) = wV2 n g) ∧ notIn (wV2 n g).id 2147483647 = false ∧ rB2 (wV2 n g) 0 0 (fun i => (rhG n g i).1) (fun i => (rhG n g i).2) = false := by
  refine ⟨⟨⟨fr_i64 (by omega) (by omega) _, fr_i64 (by omega) (by omega) _, fr_i64 (by omega) (by omega) _, i0, i0, i0, i0, i0, i0, zb_ok'⟩, rfl⟩, fr_no (by omega) _, ?_⟩
  simp only [rB2, hBad, Bool.or_eq_false_iff, and_assoc]
  exact ⟨fr_no (by omega) _, fr_no (by omega) _⟩
theorem wo_3 {n : Nat} {g : Nat → Int} (hg : gOk n g) : (rvOk (wV3 n g) ∧ uR3 (wV3 n g) = wV3 n g) ∧ notIn (wV3 n g).id 2147483647 = false ∧ rB3 (wV3 n g) 0 0 (fun i => (rhG n g i).1) (fun i => (rhG n g i).2) = false := by
  refine ⟨⟨⟨fr_i64 (by omega) (by omega) _, fr_i64 (by omega) (by omega) _, fr_i64 (by omega) (by omega) _, fr_i64 (by omega) (by omega) _, i0, i0, i0, i0, i0, zb_ok'⟩, rfl⟩, fr_no (by omega) _, ?_⟩
  simp only [rB3, hBad, Bool.or_eq_false_iff, and_assoc]
  exact ⟨fr_no (by omega) _, fr_no (by omega) _, fr_no (by omega) _⟩
theorem wo_4 {n : Nat} {g : Nat → Int} (hg : gOk n g) : (rvOk (wV4 n g) ∧ uR4 (wV4 n g) = wV4 n g) ∧ notIn (wV4 n g).id 2147483647 = false ∧ rB4 (wV4 n g) 0 0 (fun i => (rhG n g i).1) (fun i => (rhG n g i).2) = false := by
  refine ⟨⟨⟨fr_i64 (by omega) (by omega) _, fr_i64 (by omega) (by omega) _, fr_i64 (by omega) (by omega) _, fr_i64 (by omega) (by omega) _, fr_i64 (by omega) (by omega) _, i0, i0, i0, i0, zb_ok'⟩, rfl⟩, fr_no (by omega) _, ?_⟩
  simp only [rB4, hBad, Bool.or_eq_false_iff, and_assoc]
  exact ⟨fr_no (by omega) _, fr_no (by omega) _, fr_no (by omega) _, fr_no (by omega) _⟩
theorem wo_5 {n : Nat} {g : Nat → Int} (hg : gOk n g) : (rvOk (wV5 n g) ∧ uR5 (wV5 n g) = wV5 n g) ∧ notIn (wV5 n g).id 2147483647 = false ∧ rB5 (wV5 n g) 0 0 (fun i => (rhG n g i).1) (fun i => (rhG n g i).2) = false := by
  refine ⟨⟨⟨fr_i64 (by omega) (by omega) _, i0, i0, i0, fr_i64 (by omega) (by omega) _, i0, i0, i0, i0, zb_ok'⟩, rfl⟩, fr_no (by omega) _, ?_⟩
  simp only [rB5, hBad, Bool.or_eq_false_iff, and_assoc]
  exact fr_no (by omega) _
theorem wo_6 {n : Nat} {g : Nat → Int} (hg : gOk n g) : (rvOk (wV6 n g) ∧ uR6 (wV6 n g) = wV6 n g) ∧ notIn (wV6 n g).id 2147483647 = false ∧ rB6 (wV6 n g) 0 0 (fun i => (rhG n g i).1) (fun i => (rhG n g i).2) = false := by
  refine ⟨⟨⟨fr_i64 (by omega) (by omega) _, i0, i0, i0, fr_i64 (by omega) (by omega) _, i0, i0, i0, i0, zb_ok'⟩, rfl⟩, fr_no (by omega) _, ?_⟩
  simp only [rB6, hBad, Bool.or_eq_false_iff, and_assoc]
  exact fr_no (by omega) _
theorem wo_7 {n : Nat} {g : Nat → Int} (hg : gOk n g) : (rvOk (wV7 n g) ∧ uR7 (wV7 n g) = wV7 n g) ∧ notIn (wV7 n g).id 2147483647 = false ∧ rB7 (wV7 n g) (srC n g (0 + 1 + 1 + 1)) 0 (fun i => (rhG n g i).1) (fun i => (rhG n g i).2) = false := by
  obtain ⟨s1, s2⟩ := sb_ok (n := n) (g := g) (a := 0 + 1 + 1 + 1) hg (by omega)
  refine ⟨⟨⟨fr_i64 (by omega) (by omega) _, fr_i64 (by omega) (by omega) _, fr_i64 (by omega) (by omega) _, i0, i0, i0, i0, i0, i0, s1⟩, rfl⟩, fr_no (by omega) _, ?_⟩
  show (hBad (frV 2147483647 _) (frV 2147483647 _) || boBad (sbV n g (0 + 1 + 1 + 1)) (srC n g (0 + 1 + 1 + 1))) = false
  rw [hB_no, s2]
  rfl
theorem wo_8 {n : Nat} {g : Nat → Int} (hg : gOk n g) : (rvOk (wV8 n g) ∧ uR8 (wV8 n g) = wV8 n g) ∧ notIn (wV8 n g).id 2147483647 = false ∧ rB8 (wV8 n g) 0 (rhC n g) (fun i => (rhG n g i).1) (fun i => (rhG n g i).2) = false := by
  refine ⟨⟨⟨fr_i64 (by omega) (by omega) _, i0, i0, i0, i0, i0, i0, i0, i0, zb_ok'⟩, rfl⟩, fr_no (by omega) _, ?_⟩
  show (notIn (rhC n g : Int) 64 || anyH (fun i => (rhG n g i).1) (fun i => (rhG n g i).2) (rhC n g)) = false
  rw [notIn_of ⟨by omega, by have := rhC_le n g; omega⟩, anyH_no (u := fun i => (rhG n g i).1) (v := fun i => (rhG n g i).2) fun i => hB_no _ _]
  rfl
theorem wo_9 {n : Nat} {g : Nat → Int} (hg : gOk n g) : (rvOk (wV9 n g) ∧ uR9 (wV9 n g) = wV9 n g) ∧ notIn (wV9 n g).id 2147483647 = false ∧ rB9 (wV9 n g) 0 0 (fun i => (rhG n g i).1) (fun i => (rhG n g i).2) = false := by
  unfold wV9
  cases decide (0 < frV 2 (nxV n g (0 + 1))) with
  | true =>
    refine ⟨⟨⟨fr_i64 (by omega) (by omega) _, fr_i64 (by omega) (by omega) _, fr_i64 (by omega) (by omega) _, i0, i0, nuV_i64 (nx_rng hg (by show (0 : Int) ≤ 0 + 1 + 1 + 1 + 1; omega)), nuV_i64 (nx_rng hg (by show (0 : Int) ≤ 0 + 1 + 1 + 1 + 1 + 1; omega)), nuV_i64 (nx_rng hg (by show (0 : Int) ≤ 0 + 1 + 1 + 1 + 1 + 1 + 1; omega)), i0, zb_ok'⟩, rfl⟩, fr_no (by omega) _, ?_⟩
    show (hBad (frV 2147483647 _) (frV 2147483647 _) || (isMin (nuV _) || isMin (nuV _) || isMin (nuV _))) = false
    rw [hB_no, nuV_no, nuV_no, nuV_no]
    rfl
  | false => exact ⟨⟨⟨fr_i64 (by omega) (by omega) _, i0, i0, i0, i0, i0, i0, i0, i0, zb_ok'⟩, rfl⟩, fr_no (by omega) _, rfl⟩
theorem wo_10 {n : Nat} {g : Nat → Int} (hg : gOk n g) : (rvOk (wV10 n g) ∧ uR10 (wV10 n g) = wV10 n g) ∧ notIn (wV10 n g).id 2147483647 = false ∧ rB10 (wV10 n g) 0 0 (fun i => (rhG n g i).1) (fun i => (rhG n g i).2) = false := by
  refine ⟨⟨⟨fr_i64 (by omega) (by omega) _, i0, i0, i0, i0, i0, i0, i0, fr_i64 (by omega) (by omega) _, zb_ok'⟩, rfl⟩, fr_no (by omega) _, ?_⟩
  simp only [rB10, hBad, Bool.or_eq_false_iff, and_assoc]
  exact fr_no (by omega) _
theorem wo_N (err : Int) {n : Nat} {g : Nat → Int} (hg : gOk n g) : (rvOk (wVN err n g) ∧ uRN (eoE err) (wVN err n g) = wVN err n g) ∧ notIn (wVN err n g).id 2147483647 = false ∧ (bif eoE err == 14 then notIn (wVN err n g).ver 1099511627776 else false) = false := by
  unfold wVN uRN
  cases eoE err == 14 with
  | true => exact ⟨⟨⟨fr_i64 (by omega) (by omega) _, i0, i0, fr_i64 (by omega) (by omega) _, i0, i0, i0, i0, i0, zb_ok'⟩, rfl⟩, fr_no (by omega) _, fr_no (by omega) _⟩
  | false => exact ⟨⟨⟨fr_i64 (by omega) (by omega) _, i0, i0, i0, i0, i0, i0, i0, i0, zb_ok'⟩, rfl⟩, fr_no (by omega) _, rfl⟩
theorem ro_okR (kind err : Int) {n : Nat} {g : Nat → Int} (hg : gOk n g) : (rvOk (roV kind err n g) ∧ (roN kind err n g ≤ 8 ∧ roM kind err n g ≤ 64) ∧ (∀ i, I64 (roSp n g i).1 ∧ I64 (roSp n g i).2) ∧ ∀ i, I64 (rhG n g i).1 ∧ I64 (rhG n g i).2) ∧ repE (coK kind) (eoE err) (roV kind err n g) (roN kind err n g) (roSp n g) (roM kind err n g) (rhG n g) = 0 := by
  have hs : ∀ i, I64 (roSp n g i).1 ∧ I64 (roSp n g i).2 := fun i => ⟨nx_rng hg (by show (0 : Int) ≤ 0 + 1 + 1 + 1 + 1 + 1 + 1 + 1 + 1 + 2 * (i : Int); omega), nx_rng hg (by show (0 : Int) ≤ 0 + 1 + 1 + 1 + 1 + 1 + 1 + 1 + 1 + 2 * (i : Int) + 1; omega)⟩
  have hh : ∀ i, I64 (rhG n g i).1 ∧ I64 (rhG n g i).2 := fun i => ⟨fr_i64 (by omega) (by omega) _, fr_i64 (by omega) (by omega) _⟩
  have hk := coK_rng kind
  have he := eoE_rng err
  have hC := srC_le n g (0 + 1 + 1 + 1)
  have hM := rhC_le n g
  have fin : ∀ {c : RV} {N M : Nat}, uRK (coK kind) (eoE err) c = c → (¬ (eoE err = 0 ∧ coK kind = 7) → N = 0) → (¬ (eoE err = 0 ∧ coK kind = 8) → M = 0) → notIn c.id 2147483647 = false → rBK (coK kind) (eoE err) c N M (fun i => (rhG n g i).1) (fun i => (rhG n g i).2) = false → repE (coK kind) (eoE err) c N (roSp n g) M (rhG n g) = 0 := fun a1 a2 a3 a4 a5 => by
    have hf := form_ofR (g := roSp n g) (h := rhG n g) a1 a2 a3 (fun h0 => absurd h0 (by omega))
    unfold repE rkOk rBad rpB
    rw [decide_eq_true (show 0 ≤ coK kind by omega), decide_eq_true (show coK kind ≤ 10 by omega), hf, a4, a5, notIn_of ⟨he.1, he.2⟩]
    rfl
  by_cases h0 : eoE err = 0
  · rcases coK_cases kind with h | h | h | h | h | h | h | h | h | h
    · have eV : roV kind err n g = wV1 n g := by unfold roV; rw [h0, h]; rfl
      have eN : roN kind err n g = 0 := by unfold roN; rw [h0, h]; rfl
      have eM : roM kind err n g = 0 := by unfold roM; rw [h0, h]; rfl
      rw [eV, eN, eM]
      obtain ⟨⟨b1, b2⟩, b3, b4⟩ := wo_1 hg
      exact ⟨⟨b1, ⟨by omega, by omega⟩, hs, hh⟩, fin (by rw [h0, h]; exact b2) (fun hc => rfl) (fun hc => rfl) b3 (by rw [h0, h]; exact b4)⟩
    · have eV : roV kind err n g = wV2 n g := by unfold roV; rw [h0, h]; rfl
      have eN : roN kind err n g = 0 := by unfold roN; rw [h0, h]; rfl
      have eM : roM kind err n g = 0 := by unfold roM; rw [h0, h]; rfl
      rw [eV, eN, eM]
      obtain ⟨⟨b1, b2⟩, b3, b4⟩ := wo_2 hg
      exact ⟨⟨b1, ⟨by omega, by omega⟩, hs, hh⟩, fin (by rw [h0, h]; exact b2) (fun hc => rfl) (fun hc => rfl) b3 (by rw [h0, h]; exact b4)⟩
    · have eV : roV kind err n g = wV3 n g := by unfold roV; rw [h0, h]; rfl
      have eN : roN kind err n g = 0 := by unfold roN; rw [h0, h]; rfl
      have eM : roM kind err n g = 0 := by unfold roM; rw [h0, h]; rfl
      rw [eV, eN, eM]
      obtain ⟨⟨b1, b2⟩, b3, b4⟩ := wo_3 hg
      exact ⟨⟨b1, ⟨by omega, by omega⟩, hs, hh⟩, fin (by rw [h0, h]; exact b2) (fun hc => rfl) (fun hc => rfl) b3 (by rw [h0, h]; exact b4)⟩
    · have eV : roV kind err n g = wV4 n g := by unfold roV; rw [h0, h]; rfl
      have eN : roN kind err n g = 0 := by unfold roN; rw [h0, h]; rfl
      have eM : roM kind err n g = 0 := by unfold roM; rw [h0, h]; rfl
      rw [eV, eN, eM]
      obtain ⟨⟨b1, b2⟩, b3, b4⟩ := wo_4 hg
      exact ⟨⟨b1, ⟨by omega, by omega⟩, hs, hh⟩, fin (by rw [h0, h]; exact b2) (fun hc => rfl) (fun hc => rfl) b3 (by rw [h0, h]; exact b4)⟩
    · have eV : roV kind err n g = wV5 n g := by unfold roV; rw [h0, h]; rfl
      have eN : roN kind err n g = 0 := by unfold roN; rw [h0, h]; rfl
      have eM : roM kind err n g = 0 := by unfold roM; rw [h0, h]; rfl
      rw [eV, eN, eM]
      obtain ⟨⟨b1, b2⟩, b3, b4⟩ := wo_5 hg
      exact ⟨⟨b1, ⟨by omega, by omega⟩, hs, hh⟩, fin (by rw [h0, h]; exact b2) (fun hc => rfl) (fun hc => rfl) b3 (by rw [h0, h]; exact b4)⟩
    · have eV : roV kind err n g = wV6 n g := by unfold roV; rw [h0, h]; rfl
      have eN : roN kind err n g = 0 := by unfold roN; rw [h0, h]; rfl
      have eM : roM kind err n g = 0 := by unfold roM; rw [h0, h]; rfl
      rw [eV, eN, eM]
      obtain ⟨⟨b1, b2⟩, b3, b4⟩ := wo_6 hg
      exact ⟨⟨b1, ⟨by omega, by omega⟩, hs, hh⟩, fin (by rw [h0, h]; exact b2) (fun hc => rfl) (fun hc => rfl) b3 (by rw [h0, h]; exact b4)⟩
    · have eV : roV kind err n g = wV7 n g := by unfold roV; rw [h0, h]; rfl
      have eN : roN kind err n g = srC n g (0 + 1 + 1 + 1) := by unfold roN; rw [h0, h]; rfl
      have eM : roM kind err n g = 0 := by unfold roM; rw [h0, h]; rfl
      rw [eV, eN, eM]
      obtain ⟨⟨b1, b2⟩, b3, b4⟩ := wo_7 hg
      exact ⟨⟨b1, ⟨by omega, by omega⟩, hs, hh⟩, fin (by rw [h0, h]; exact b2) (fun hc => absurd ⟨h0, h⟩ hc) (fun hc => rfl) b3 (by rw [h0, h]; exact b4)⟩
    · have eV : roV kind err n g = wV8 n g := by unfold roV; rw [h0, h]; rfl
      have eN : roN kind err n g = 0 := by unfold roN; rw [h0, h]; rfl
      have eM : roM kind err n g = rhC n g := by unfold roM; rw [h0, h]; rfl
      rw [eV, eN, eM]
      obtain ⟨⟨b1, b2⟩, b3, b4⟩ := wo_8 hg
      exact ⟨⟨b1, ⟨by omega, by omega⟩, hs, hh⟩, fin (by rw [h0, h]; exact b2) (fun hc => rfl) (fun hc => absurd ⟨h0, h⟩ hc) b3 (by rw [h0, h]; exact b4)⟩
    · have eV : roV kind err n g = wV9 n g := by unfold roV; rw [h0, h]; rfl
      have eN : roN kind err n g = 0 := by unfold roN; rw [h0, h]; rfl
      have eM : roM kind err n g = 0 := by unfold roM; rw [h0, h]; rfl
      rw [eV, eN, eM]
      obtain ⟨⟨b1, b2⟩, b3, b4⟩ := wo_9 hg
      exact ⟨⟨b1, ⟨by omega, by omega⟩, hs, hh⟩, fin (by rw [h0, h]; exact b2) (fun hc => rfl) (fun hc => rfl) b3 (by rw [h0, h]; exact b4)⟩
    · have eV : roV kind err n g = wV10 n g := by unfold roV; rw [h0, h]; rfl
      have eN : roN kind err n g = 0 := by unfold roN; rw [h0, h]; rfl
      have eM : roM kind err n g = 0 := by unfold roM; rw [h0, h]; rfl
      rw [eV, eN, eM]
      obtain ⟨⟨b1, b2⟩, b3, b4⟩ := wo_10 hg
      exact ⟨⟨b1, ⟨by omega, by omega⟩, hs, hh⟩, fin (by rw [h0, h]; exact b2) (fun hc => rfl) (fun hc => rfl) b3 (by rw [h0, h]; exact b4)⟩
  · have eV : roV kind err n g = wVN err n g := by unfold roV; rw [eq_no h0]; rfl
    have eN : roN kind err n g = 0 := by unfold roN; rw [eq_no h0]; rfl
    have eM : roM kind err n g = 0 := by unfold roM; rw [eq_no h0]; rfl
    rw [eV, eN, eM]
    obtain ⟨⟨b1, b2⟩, b3, b4⟩ := wo_N err hg
    exact ⟨⟨b1, ⟨by omega, by omega⟩, hs, hh⟩, fin (by unfold uRK; rw [eq_no h0]; exact b2) (fun _ => rfl) (fun _ => rfl) b3 (by unfold rBK; rw [eq_no h0]; exact b4)⟩
end Go.Proofs.Ytjdldadmaaeimaa
end
section
namespace Go.Proofs.Ytjdldadmaaeimaa
open Go.SE Go.RowKit
theorem ΓRbk_ok : ∀ f g, ΓRbk f = some g → g.ok Try.prog f := addCtr_ok (addCtr_ok (addCtr_ok (addCtr_ok (addCtr_ok (addCtr_ok (addCtr_ok noCtrs_ok (hp_ok Try.func53 (by kernel_rfl) (by kernel_rfl) ReplyOf_spec)) (ro_ok Try.func32 (by kernel_rfl) (by kernel_rfl) RepG_spec)) (ro_ok Try.func36 (by kernel_rfl) (by kernel_rfl) Same_ww_spec)) (pure_ok Try.func20 (by kernel_rfl) (by kernel_rfl) Awake0_spec)) (ro_ok Try.func34 (by kernel_rfl) (by kernel_rfl) CheckR_spec)) (hp_ok Try.func54 (by kernel_rfl) (by kernel_rfl) ReadRG_spec)) (pure_ok Try.func39 (by kernel_rfl) (by kernel_rfl) ModH_spec)
theorem rNK_le2 (k e : Int) {n m : Nat} (hn : n ≤ 8) (hm' : m ≤ 64) : rNK k e n m ≤ 600 := by
  have hsn := shN_le n
  unfold rNK
  cases e == 0 with
  | false =>
    rw [cond_false]
    cases e == 14 <;> simp
  | true =>
    rw [cond_true]
    unfold rN1 rN2 rN3 rN4 rN5 rN6 rN7 rN8 rN9 rN10 boN
    repeat (first | omega | (refine bif_le ?_ ?_))
theorem repT_size {k e : Int} {c : RV} {n : Nat} {g : Nat → Int × Int} {m : Nat} {h : Nat → Int × Int} (hn : n ≤ 8) (hm' : m ≤ 64) (hE : repE k e c n g m h = 0) : 6 ≤ (repT k e c n g m h).size ∧ (repT k e c n g m h).size ≤ 606 := by
  rw [repT_ok hE]
  have := rNK_le2 k e hn hm'
  unfold repBs
  rw [show (strOf (6 + rNK k e n m) fun i => [SV.v (.int .u8 ((repL k e c n g m h).getD i 0))]).size = 6 + rNK k e n m by simp [strOf, ByteArray.size]]
  omega
theorem rback_holds {a b cut more : Int} {n cap : Nat} {g : Nat → Int} (ha : I64 a) (hb : I64 b) (hcut : I64 cut) (hmore : 0 ≤ more ∧ more < 256) (hg : gOk n g) : vcFn Try.prog ΓRbk noΛ Try.f14 [.v (.int .i64 a), .v (.int .i64 b), .sl 0 1 0 n cap, .v (.int .i64 cut), .v (.int .u8 more)] (roHeap [⟨1, n, rowI g⟩]) 64 (fun y _ => y = bV true) := by
  rw [vcRBack]
  repeat (first | unfold vcRBack_4 | unfold vcRBack_3 | unfold vcRBack_2 | unfold vcRBack_1)
  rw [show gRo n g = g from gI_ro, gi_rows1 (roSp n g), gi_rows1 (rhG n g)]
  obtain ⟨⟨a1, ⟨a2, a2'⟩, a3, a3'⟩, a4⟩ := ro_okR a b hg
  have hK := coK_rng a
  have hE := eoE_rng b
  generalize roV a b n g = V at a1 a4 ⊢
  generalize roN a b n g = N at a2 a4 ⊢
  generalize roM a b n g = M at a2' a4 ⊢
  generalize roSp n g = S at a3 a4 ⊢
  generalize rhG n g = H at a3' a4 ⊢
  generalize coK a = K at a4 hK ⊢
  generalize eoE b = E at a4 hE ⊢
  have hk : I64 K := ⟨by omega, by omega⟩
  have he : I64 E := ⟨by omega, by omega⟩
  have pa := pre_rows1 (n := N) (by omega) a3
  have pm := pre_rows1 (n := M) (by omega) a3'
  have cp : repPre K E V N N M M (fun y => [SV.v (.int .i64 (S (0 + y)).1), SV.v (.int .i64 (S (0 + y)).2)]) (fun y => [SV.v (.int .i64 (H (0 + y)).1), SV.v (.int .i64 (H (0 + y)).2)]) := ⟨⟨pa, pm⟩, ⟨a1, hk, he⟩, by omega, by omega⟩
  have hsz := repT_size a2 a2' a4
  obtain ⟨ok, r1, r2, r3, r4, r5, r6, r7⟩ := reply_back a1 (fun i _ => a3 i) a4
  obtain ⟨⟨f1, f2, f3, f4⟩, f5, f6⟩ := reply_fwd ok
  generalize repT K E V N S M H = s at hsz ok r1 r2 r3 r4 r5 r6 r7 f1 f2 f3 f4 f5 f6 ⊢
  have q1 : rqK s = K := by unfold rqK; rw [ok]; exact r1
  have q2 : rqE s = E := by unfold rqE; rw [ok]; exact r2
  have q3 : rqV s = V := by unfold rqV; rw [ok]; exact r3
  have q4 : rqN s = N := by unfold rqN; rw [ok]; exact r4
  have q5 : rqM s = M := by unfold rqM; rw [ok]; exact r5
  have q6 : rqEr s = 0 := by unfold rqEr; rw [ok]; rfl
  rw [r1, r2, r3, r4, r5] at f5 f6
  rw [gi_rows1 (rpSp s 0), gi_rows1 (rpHd s 0), q1, q2, q3, q4, q5, q6, f5, f6, a4]
  have pb := pre_rows1 (n := N) (by omega) f3
  have pc := pre_rows1 (n := M) (by omega) f4
  have cq : repPre K E V N N M M (fun y => [SV.v (.int .i64 (rpSp s 0 (0 + y)).1), SV.v (.int .i64 (rpSp s 0 (0 + y)).2)]) (fun y => [SV.v (.int .i64 (rpHd s 0 (0 + y)).1), SV.v (.int .i64 (rpHd s 0 (0 + y)).2)]) := ⟨⟨pb, pc⟩, ⟨a1, hk, he⟩, by omega, by omega⟩
  refine ⟨⟨niPre_ro hg, ha, hb⟩, fun _ => ⟨cp, selF_of rfl ⟨cp, selF_of rfl (selF_of (decide_eq_false (by omega)) ⟨by omega, fun _ => ⟨cq, selF_of rfl ⟨⟨pa, pm, pb, pc⟩, selF_of ?_ (selF_of rfl (selF_of ?_ ⟨fun _ _ => trivial, ?_⟩))⟩⟩⟩)⟩⟩⟩
  · rw [sameS_congr fun i hi => (r6 i hi).symm, sameP_congr fun i hi => (r7 i hi).symm, bb_self, rv_self]
    rfl
  · rw [show (s == s) = true from (ba_beq _ _).2 rfl]
    rfl
  · have hmax : max 1 (s.size : Int) = (s.size : Int) := by omega
    rw [hmax]
    have em : md cut (s.size : Int) = cut % (s.size : Int) := hide_eq _
    rw [em]
    have h1 := Int.emod_nonneg cut (show (s.size : Int) ≠ 0 by omega)
    have h2 := Int.emod_lt_of_pos cut (show (0 : Int) < (s.size : Int) by omega)
    rw [show Option.getD (some (cut % (s.size : Int))) (s.size : Int) = cut % (s.size : Int) from rfl]
    have hx : byt (s ++ strOf 1 fun _ => [SV.v (Value.int IntKind.u8 more)]) = byt s ++ [more] := by rw [byt_append, strOf_byte hmore]
    have hx2 : (s ++ strOf 1 fun _ => [SV.v (Value.int IntKind.u8 more)]).size = s.size + 1 := by rw [← byt_len, hx, List.length_append, byt_len]; rfl
    have hc : byt (s.extract 0 (cut % (s.size : Int)).toNat) = (byt s).take (cut % (s.size : Int)).toNat := by rw [byt_extract, List.drop_zero]
    have hc2 : (s.extract 0 (cut % (s.size : Int)).toNat).size ≤ s.size := by rw [← byt_len, hc, List.length_take, byt_len]; omega
    exact ⟨by show ((s.size + 1 : Nat) : Int) ≤ 9223372036854775807; omega, by rw [hx2]; omega, fun _ => ⟨⟨hcut, by omega, by omega⟩, ⟨by omega, h1, by omega⟩, by omega, fun _ => selT_of (by rw [rq_ext ok hx]; rfl) (selT_of (by rw [rq_cut ok (by omega) hc (by omega)]; rfl) rfl)⟩⟩
def sRBackL : List SV → List Ro → Option (Option Prop × SV)
  | [.v (.int .i64 a), .v (.int .i64 b), .sl 0 1 0 n _, .v (.int .i64 cut), .v (.int .u8 more)], [⟨1, n', row⟩] => some (some (((okAll isI1 (rowsOf n' row) ∧ n' = n) ∧ I64 a ∧ I64 b) ∧ I64 cut ∧ 0 ≤ more ∧ more < 256), bV true)
  | _, _ => none
theorem RBackL_spec : RoSpec Try.prog 14 sRBackL := ro_spec hm ΓRbk_ok Try.func14 (Λ := fun _ _ => noΛ) fun args bs p x hs hp => by
  unfold sRBackL at hs
  split at hs <;> try (cases hs; done)
  rename_i a b n cap cut more n' row
  have hs := Option.some.inj hs
  obtain ⟨rfl, rfl⟩ := Prod.mk.inj hs
  obtain ⟨⟨⟨h0, rfl⟩, hai, hbi⟩, hc, hm'⟩ := hp _ rfl
  have h0 := okAll_rows.1 h0
  refine ⟨rfl, [⟨1, n', rowI fun i => i1 (row i)⟩], ⟨⟨rfl, rfl, fun i hi => (isI1_row (h0 i hi)).1⟩, trivial⟩, ?_⟩
  exact rback_holds hai hbi hc hm' ⟨trivial, fun i hi => (isI1_row (h0 i hi)).2⟩
end Go.Proofs.Ytjdldadmaaeimaa
end
