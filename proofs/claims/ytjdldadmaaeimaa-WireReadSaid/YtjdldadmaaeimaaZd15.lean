/-
 What the proof uses, part 15.
-/
import Derived.Test.YtjdldadmaaeimaaZd14
set_option maxRecDepth 100000
set_option linter.unusedSimpArgs false
set_option linter.unusedVariables false

section
namespace Go.Proofs.Ytjdldadmaaeimaa
open Go.SE Go.RowKit
theorem bd1 {x B : Nat} (h : x ≤ 850000000) (hB : 850000000 ≤ B := by decide) : x ≤ B := Nat.le_trans h hB
theorem Qny (b : BV) : (poB b).length = 36 := by unfold poB; rw [List.length_append, Qgm, List.length_append, Qf1, Qf1]
theorem Qnj (b : BV) : (voB b).length = 18 := Qgm _ _ _ _
theorem Qni (b : BV) : (wmB b).length = 27 := by unfold wmB; rw [List.length_append, List.length_append, Qf1, Qf1, Qf1]
theorem Qwf (o : BV) (n0 : Nat) (g : Nat → Int) (n : Nat) (x y : Nat → Int) (mk : Int) (h : mk = bmk o) (i : Nat) : (apG (n0 + shN n + 36 + 18 + 27 + 4 + 1) (apG (n0 + shN n + 36 + 18 + 27 + 4) (apG (n0 + shN n + 36 + 18 + 27) (apG (n0 + shN n + 36 + 18) (apG (n0 + shN n + 36) (apG (n0 + shN n) (apG n0 g (shL o.sk o.sr o.sw o.sh n (fun i => x (0 + i)) (fun i => y (0 + i)))) (poB o)) (voB o)) (wmB o)) (c4 o.st)) [mk]) (i8 o.bv)) i = apG n0 g (boL o n x y) i := by
 subst h
 rw [show (fun i => x (0 + i)) = x from funext fun i => by rw [Nat.zero_add], show (fun i => y (0 + i)) = y from funext fun i => by rw [Nat.zero_add]]
 rw [Qay (n := n0 + shN n + 36 + 18 + 27 + 4) (m := n0 + shN n + 36 + 18 + 27 + 4 + 1) (L := [bmk o]) rfl]
 rw [Qay (n := n0 + shN n + 36 + 18 + 27) (m := n0 + shN n + 36 + 18 + 27 + 4) (Qbd (c4l _) rfl)]
 rw [Qay (n := n0 + shN n + 36 + 18) (m := n0 + shN n + 36 + 18 + 27) (Qbd (Qni o) rfl)]
 rw [Qay (n := n0 + shN n + 36) (m := n0 + shN n + 36 + 18) (Qbd (Qnj o) rfl)]
 rw [Qay (n := n0 + shN n) (m := n0 + shN n + 36) (Qbd (Qny o) rfl)]
 rw [Qay (n := n0) (m := n0 + shN n) (Qbd (Qgw _ _ _ _ _ _ _) rfl)]
 rfl
theorem Q08 {b : Bool} {n0 : Nat} {g : Nat → Int} {c : Nat} {o : BV} {e n m cap xt : Nat} {x y : Nat → Int} {wh : Bool} (hc : Qx6 o) (hn0 : n0 ≤ 800000000) (hn : n < 100) (hv : ∀ i, i < n → I64 (x i) ∧ I64 (y i)) : Qa6 Try.prog Zh9 Qas Try.f93 [.vp 0 0, boS o (.sl 2 2 0 n cap)] (Qac [wB (some b) false (.sl 1 1 0 n0 c), bG n0 g c, ptB e m x y xt wh]) 64 (fun y' h' => Qbh [wB (some b) false (.sl 1 1 0 n0 c), bG n0 g c, ptB e m x y xt wh] (apE (.used (some b) n0 g c True) 0 True (boN n) (boL o n x y) (Qd4 o n)) y' h') := by
 have hsn := Qdc n
 obtain ⟨h_sk, h_sr, h_sw, h_sh, h_p0v, h_p1v, h_p2v, h_p3v, h_v0v, h_v1v, h_w0v, h_m0v, h_m1v, h_st, h_bv⟩ := hc
 have h_vc := Q9g b n0 g c o e n m cap xt x y wh
 repeat (first | unfold Qks at h_vc | unfold Qew at h_vc | unfold Qit at h_vc | unfold Qhm at h_vc)
 refine Eq.mpr h_vc ⟨⟨⟨Qaa _ _ _ (by omega), bd1 (by omega)⟩, ⟨⟨h_sk, h_sr, h_sw, h_sh⟩, rfl, hn⟩, fun i hi => by rw [Nat.zero_add]; exact hv i hi⟩, fun d1 => ⟨⟨⟨Qaa _ _ _ (by omega), bd1 (by omega)⟩, ⟨h_p0v, h_p1v, h_p2v, h_p3v⟩⟩, fun d2 => ⟨⟨⟨Qaa _ _ _ (by omega), bd1 (by omega)⟩, ⟨h_v0v, h_v1v⟩⟩, fun d3 => ⟨⟨⟨Qaa _ _ _ (by omega), bd1 (by omega)⟩, ⟨rfl, by omega, by omega, fun i hi => by
   have : i = 0 ∨ i = 1 ∨ i = 2 := by omega
   rcases this with rfl | rfl | rfl
   · exact h_w0v
   · exact h_m0v
   · exact h_m1v⟩⟩, fun d4 => ⟨⟨⟨Qaa _ _ _ (by omega), bd1 (by omega)⟩, h_st⟩, fun d5 => Qab (fun ea => Qab (fun ef => ⟨⟨⟨Qaa _ _ _ (by omega), bd1 (by omega)⟩, ⟨by omega, by omega⟩⟩, fun d6 => ⟨⟨⟨Qaa _ _ _ (by omega), bd1 (by omega)⟩, h_bv⟩, fun d7 => Qb9 ?_ ?_ fun i hi => Qwf o n0 g n x y 3 (by unfold bmk; rw [ea, ef]; rfl) i⟩⟩) fun ef => ⟨⟨⟨Qaa _ _ _ (by omega), bd1 (by omega)⟩, ⟨by omega, by omega⟩⟩, fun d6 => ⟨⟨⟨Qaa _ _ _ (by omega), bd1 (by omega)⟩, h_bv⟩, fun d7 => Qb9 ?_ ?_ fun i hi => Qwf o n0 g n x y 1 (by unfold bmk; rw [ea, ef]; rfl) i⟩⟩) fun ea => Qab (fun ef => ⟨⟨⟨Qaa _ _ _ (by omega), bd1 (by omega)⟩, ⟨by omega, by omega⟩⟩, fun d6 => ⟨⟨⟨Qaa _ _ _ (by omega), bd1 (by omega)⟩, h_bv⟩, fun d7 => Qb9 ?_ ?_ fun i hi => Qwf o n0 g n x y 2 (by unfold bmk; rw [ea, ef]; rfl) i⟩⟩) fun ef => ⟨⟨⟨Qaa _ _ _ (by omega), bd1 (by omega)⟩, ⟨by omega, by omega⟩⟩, fun d6 => ⟨⟨⟨Qaa _ _ _ (by omega), bd1 (by omega)⟩, h_bv⟩, fun d7 => Qb9 ?_ ?_ fun i hi => Qwf o n0 g n x y 0 (by unfold bmk; rw [ea, ef]; rfl) i⟩⟩⟩⟩⟩⟩⟩
 · show _ = n0 + (shN n + 94)
   omega
 · simp only [Bool.or_false, Qd4, Qc5, Qbv, nV, bop, Bool.false_or, Bool.or_assoc]
   first | rfl | skip
 · show _ = n0 + (shN n + 94)
   omega
 · simp only [Bool.or_false, Qd4, Qc5, Qbv, nV, bop, Bool.false_or, Bool.or_assoc]
   first | rfl | skip
 · show _ = n0 + (shN n + 94)
   omega
 · simp only [Bool.or_false, Qd4, Qc5, Qbv, nV, bop, Bool.false_or, Bool.or_assoc]
   first | rfl | skip
 · show _ = n0 + (shN n + 94)
   omega
 · simp only [Bool.or_false, Qd4, Qc5, Qbv, nV, bop, Bool.false_or, Bool.or_assoc]
   first | rfl | skip
theorem Q7x : ∀ f g, Zh9 f = some g → g.ok Try.prog f := Qah (Qah Qlk (Qcf Try.func118 (by kernel_rfl) (by kernel_rfl) Qgl)) (Qcf Try.func97 (by kernel_rfl) (by kernel_rfl) Qpv)
theorem Q13 : Qbt Try.prog 93 Zac := Qc0 hm Q7x Try.func93 (Λ := fun _ _ => Qas) fun args bs e hs hp => by
 unfold Zac at hs
 split at hs
 · rename_i l
   split at hs
   · rename_i o n cap B D S hl
     split at hs
     · rename_i b n0 g c p hw
       obtain ⟨hS, he⟩ := Qcl hs
       subst he
       obtain ⟨⟨hp, hm⟩, hc, hsp, hn⟩ := hp
       have hsame := (Qdy hw hp).1
       refine ⟨[wB (some b) false (.sl 1 1 0 n0 c), bG n0 g c, ptB S.elem n (gX S) (gY S) S.ext S.whole], ⟨hsame.1, hsame.2.1, Qcq hS hsp, trivial⟩, ?_⟩
       rw [Qkl hl]
       exact Q08 hc hm hn (Qsd hsp).2
     · cases hs
   · cases hs
 · cases hs
theorem Q7w : ∀ f g, Qms f = some g → g.ok Try.prog f := Qah (Qah Qlk (Qcf Try.func118 (by kernel_rfl) (by kernel_rfl) Qgl)) (Qcf Try.func93 (by kernel_rfl) (by kernel_rfl) Q13)
theorem Zeo {e n xt : Nat} {x y : Nat → Int} {wh : Bool} (hn : n < 100) (hv : ∀ i, i < n → I64 (x i) ∧ I64 (y i)) : Qbg n (Qaz (ptB e n x y xt wh) 2 0 n) := ⟨okAll_rows.2 fun i hi => by
 show Zee [SV.v (.int .i64 (x (0 + i))), SV.v (.int .i64 (y (0 + i)))]
 rw [Nat.zero_add]; exact hv i hi, rfl, by omega⟩
theorem Zeq {e n xt : Nat} {x y : Nat → Int} {wh : Bool} : gX (Qaz (ptB e n x y xt wh) 2 0 n) = x := funext fun i => by
 show x (0 + i) = x i
 rw [Nat.zero_add]
theorem Zep {e n xt : Nat} {x y : Nat → Int} {wh : Bool} : gY (Qaz (ptB e n x y xt wh) 2 0 n) = y := funext fun i => by
 show y (0 + i) = y i
 rw [Nat.zero_add]
theorem Qco (u v : Nat → Int) : ∀ m : Nat, (hsL u v m).length = 8 * m
 | 0 => rfl
 | m + 1 => by
   show (hsL u v m ++ hL (u m) (v m)).length = _
   rw [List.length_append, Qco u v m, hLl]; omega
theorem Qsw {A : List Int} {n : Nat} (h : A.length = n) (M : List Int) (i : Nat) : apG n (fun i => A.getD i 0) M i = (A ++ M).getD i 0 := by
 subst h
 by_cases h1 : i < A.length
 · rw [Qf4 h1, List.getD_eq_getElem?_getD, List.getD_eq_getElem?_getD, List.getElem?_append_left h1]
 · rw [Qf5 h1, List.getD_eq_getElem?_getD, List.getD_eq_getElem?_getD, List.getElem?_append_right (by omega)]
theorem Zas {b : Bool} {c : RV} {e1 n cap xt : Nat} {x y : Nat → Int} {wh : Bool} {e2 m cp xt2 : Nat} {u v : Nat → Int} {wh2 : Bool} (hc : Qfz c) (hn : n < 100) (hv : ∀ i, i < n → I64 (x i) ∧ I64 (y i)) (hm : m < 200) (hw : ∀ i, i < m → I64 (u i) ∧ I64 (v i)) : Qa6 Try.prog Qms Qas Try.f78 [.vp 0 0, reS 1 0 c (.sl 1 2 0 n cap) (.sl 2 2 0 m cp)] (Qac [wB (some b) true Qa8, ptB e1 n x y xt wh, ptB e2 m u v xt2 wh2]) 64 (fun y' h' => Qbh [wB (some b) true Qa8, ptB e1 n x y xt wh, ptB e2 m u v xt2 wh2] (apE (.fresh (some b)) 0 True (6 + rN1 n m) (rpL 1 0 c (rT1 c n x y m u v)) (rpB 0 c (rB1 c n m u v))) y' h') := by
 have hsn := Qdc n
 obtain ⟨h_id, h_bs, h_bg, h_ver, h_gr, h_htv, h_x0v, h_x1v, h_cnt, hbo⟩ := hc
 refine Eq.mpr (Zir b c e1 n cap xt x y wh e2 m cp xt2 u v wh2) ⟨⟨by omega, by omega⟩, fun d0 => ⟨⟨⟨Qaa _ _ _ (by omega), bd1 (by omega)⟩, h_id⟩, fun d1 => ⟨⟨⟨Qaa _ _ _ (by omega), bd1 (by omega)⟩, ⟨by omega, by omega⟩⟩, fun d2 => ⟨⟨⟨Qaa _ _ _ (by omega), bd1 (by omega)⟩, ⟨h_bs, h_bg⟩⟩, fun d3 => ⟨⟨⟨Qaa _ _ _ (by omega), bd1 (by omega)⟩, h_ver⟩, fun d4 => Qb9 ?_ ?_ fun i hi => ?_⟩⟩⟩⟩⟩
 · show _ = 6 + (16)
   omega
 · simp only [Bool.or_false, rpB, rB1, Qei, Bool.or_assoc, Qbv, nV, bop, Bool.false_or, show Qal 0 14 = false from rfl]
   first | done | rfl
 · show apG (14) (apG (6) (apG (5) (apG (1) (fun i => ([1] : List Int).getD i 0) (c4 c.id)) ([0])) (hL c.bs c.bg)) (i8 c.ver) i = _
   rw [Qay (n := 6) (m := 14) (Qbd (hLl _ _) rfl)]
   rw [Qay (n := 5) (m := 6) (Qbd (rfl) rfl)]
   rw [Qay (n := 1) (m := 5) (Qbd (c4l _) rfl)]
   rw [Qbr]
   rfl
theorem Zar {b : Bool} {c : RV} {e1 n cap xt : Nat} {x y : Nat → Int} {wh : Bool} {e2 m cp xt2 : Nat} {u v : Nat → Int} {wh2 : Bool} (hc : Qfz c) (hn : n < 100) (hv : ∀ i, i < n → I64 (x i) ∧ I64 (y i)) (hm : m < 200) (hw : ∀ i, i < m → I64 (u i) ∧ I64 (v i)) : Qa6 Try.prog Qms Qas Try.f78 [.vp 0 0, reS 2 0 c (.sl 1 2 0 n cap) (.sl 2 2 0 m cp)] (Qac [wB (some b) true Qa8, ptB e1 n x y xt wh, ptB e2 m u v xt2 wh2]) 64 (fun y' h' => Qbh [wB (some b) true Qa8, ptB e1 n x y xt wh, ptB e2 m u v xt2 wh2] (apE (.fresh (some b)) 0 True (6 + rN2 n m) (rpL 2 0 c (rT2 c n x y m u v)) (rpB 0 c (rB2 c n m u v))) y' h') := by
 have hsn := Qdc n
 obtain ⟨h_id, h_bs, h_bg, h_ver, h_gr, h_htv, h_x0v, h_x1v, h_cnt, hbo⟩ := hc
 refine Eq.mpr (Ziq b c e1 n cap xt x y wh e2 m cp xt2 u v wh2) ⟨⟨by omega, by omega⟩, fun d0 => ⟨⟨⟨Qaa _ _ _ (by omega), bd1 (by omega)⟩, h_id⟩, fun d1 => ⟨⟨⟨Qaa _ _ _ (by omega), bd1 (by omega)⟩, ⟨by omega, by omega⟩⟩, fun d2 => ⟨⟨⟨Qaa _ _ _ (by omega), bd1 (by omega)⟩, ⟨h_bs, h_bg⟩⟩, fun d3 => Qb9 ?_ ?_ fun i hi => ?_⟩⟩⟩⟩
 · show _ = 6 + (8)
   omega
 · simp only [Bool.or_false, rpB, rB2, Qei, Bool.or_assoc, Qbv, nV, bop, Bool.false_or, show Qal 0 14 = false from rfl]
   first | done | rfl
 · show apG (6) (apG (5) (apG (1) (fun i => ([2] : List Int).getD i 0) (c4 c.id)) ([0])) (hL c.bs c.bg) i = _
   rw [Qay (n := 5) (m := 6) (Qbd (rfl) rfl)]
   rw [Qay (n := 1) (m := 5) (Qbd (c4l _) rfl)]
   rw [Qbr]
   rfl
theorem Zaq {b : Bool} {c : RV} {e1 n cap xt : Nat} {x y : Nat → Int} {wh : Bool} {e2 m cp xt2 : Nat} {u v : Nat → Int} {wh2 : Bool} (hc : Qfz c) (hn : n < 100) (hv : ∀ i, i < n → I64 (x i) ∧ I64 (y i)) (hm : m < 200) (hw : ∀ i, i < m → I64 (u i) ∧ I64 (v i)) : Qa6 Try.prog Qms Qas Try.f78 [.vp 0 0, reS 3 0 c (.sl 1 2 0 n cap) (.sl 2 2 0 m cp)] (Qac [wB (some b) true Qa8, ptB e1 n x y xt wh, ptB e2 m u v xt2 wh2]) 64 (fun y' h' => Qbh [wB (some b) true Qa8, ptB e1 n x y xt wh, ptB e2 m u v xt2 wh2] (apE (.fresh (some b)) 0 True (6 + rN3 n m) (rpL 3 0 c (rT3 c n x y m u v)) (rpB 0 c (rB3 c n m u v))) y' h') := by
 have hsn := Qdc n
 obtain ⟨h_id, h_bs, h_bg, h_ver, h_gr, h_htv, h_x0v, h_x1v, h_cnt, hbo⟩ := hc
 refine Eq.mpr (Zip b c e1 n cap xt x y wh e2 m cp xt2 u v wh2) ⟨⟨by omega, by omega⟩, fun d0 => ⟨⟨⟨Qaa _ _ _ (by omega), bd1 (by omega)⟩, h_id⟩, fun d1 => ⟨⟨⟨Qaa _ _ _ (by omega), bd1 (by omega)⟩, ⟨by omega, by omega⟩⟩, fun d2 => ⟨⟨⟨Qaa _ _ _ (by omega), bd1 (by omega)⟩, ⟨h_bs, h_bg⟩⟩, fun d3 => ⟨⟨⟨Qaa _ _ _ (by omega), bd1 (by omega)⟩, h_ver⟩, fun d4 => Qb9 ?_ ?_ fun i hi => ?_⟩⟩⟩⟩⟩
 · show _ = 6 + (16)
   omega
 · simp only [Bool.or_false, rpB, rB3, Qei, Bool.or_assoc, Qbv, nV, bop, Bool.false_or, show Qal 0 14 = false from rfl]
   first | done | rfl
 · show apG (14) (apG (6) (apG (5) (apG (1) (fun i => ([3] : List Int).getD i 0) (c4 c.id)) ([0])) (hL c.bs c.bg)) (i8 c.ver) i = _
   rw [Qay (n := 6) (m := 14) (Qbd (hLl _ _) rfl)]
   rw [Qay (n := 5) (m := 6) (Qbd (rfl) rfl)]
   rw [Qay (n := 1) (m := 5) (Qbd (c4l _) rfl)]
   rw [Qbr]
   rfl
theorem Zap {b : Bool} {c : RV} {e1 n cap xt : Nat} {x y : Nat → Int} {wh : Bool} {e2 m cp xt2 : Nat} {u v : Nat → Int} {wh2 : Bool} (hc : Qfz c) (hn : n < 100) (hv : ∀ i, i < n → I64 (x i) ∧ I64 (y i)) (hm : m < 200) (hw : ∀ i, i < m → I64 (u i) ∧ I64 (v i)) : Qa6 Try.prog Qms Qas Try.f78 [.vp 0 0, reS 4 0 c (.sl 1 2 0 n cap) (.sl 2 2 0 m cp)] (Qac [wB (some b) true Qa8, ptB e1 n x y xt wh, ptB e2 m u v xt2 wh2]) 64 (fun y' h' => Qbh [wB (some b) true Qa8, ptB e1 n x y xt wh, ptB e2 m u v xt2 wh2] (apE (.fresh (some b)) 0 True (6 + rN4 n m) (rpL 4 0 c (rT4 c n x y m u v)) (rpB 0 c (rB4 c n m u v))) y' h') := by
 have hsn := Qdc n
 obtain ⟨h_id, h_bs, h_bg, h_ver, h_gr, h_htv, h_x0v, h_x1v, h_cnt, hbo⟩ := hc
 have h_vc := Zio b c e1 n cap xt x y wh e2 m cp xt2 u v wh2
 repeat (first | unfold Qnl at h_vc)
 refine Eq.mpr h_vc ⟨⟨by omega, by omega⟩, fun d0 => ⟨⟨⟨Qaa _ _ _ (by omega), bd1 (by omega)⟩, h_id⟩, fun d1 => ⟨⟨⟨Qaa _ _ _ (by omega), bd1 (by omega)⟩, ⟨by omega, by omega⟩⟩, fun d2 => ⟨⟨⟨Qaa _ _ _ (by omega), bd1 (by omega)⟩, ⟨h_bs, h_bg⟩⟩, fun d3 => ⟨⟨⟨Qaa _ _ _ (by omega), bd1 (by omega)⟩, h_ver⟩, fun d4 => ⟨⟨⟨Qaa _ _ _ (by omega), bd1 (by omega)⟩, h_gr⟩, fun d5 => Qb9 ?_ ?_ fun i hi => ?_⟩⟩⟩⟩⟩⟩
 · show _ = 6 + (20)
   omega
 · simp only [Bool.or_false, rpB, rB4, Qei, Bool.or_assoc, Qbv, nV, bop, Bool.false_or, show Qal 0 14 = false from rfl]
   first | done | rfl
 · show apG (22) (apG (14) (apG (6) (apG (5) (apG (1) (fun i => ([4] : List Int).getD i 0) (c4 c.id)) ([0])) (hL c.bs c.bg)) (i8 c.ver)) (c4 c.gr) i = _
   rw [Qay (n := 14) (m := 22) (Qbd (i8l _) rfl)]
   rw [Qay (n := 6) (m := 14) (Qbd (hLl _ _) rfl)]
   rw [Qay (n := 5) (m := 6) (Qbd (rfl) rfl)]
   rw [Qay (n := 1) (m := 5) (Qbd (c4l _) rfl)]
   rw [Qbr]
   rfl
theorem Zao {b : Bool} {c : RV} {e1 n cap xt : Nat} {x y : Nat → Int} {wh : Bool} {e2 m cp xt2 : Nat} {u v : Nat → Int} {wh2 : Bool} (hc : Qfz c) (hn : n < 100) (hv : ∀ i, i < n → I64 (x i) ∧ I64 (y i)) (hm : m < 200) (hw : ∀ i, i < m → I64 (u i) ∧ I64 (v i)) : Qa6 Try.prog Qms Qas Try.f78 [.vp 0 0, reS 5 0 c (.sl 1 2 0 n cap) (.sl 2 2 0 m cp)] (Qac [wB (some b) true Qa8, ptB e1 n x y xt wh, ptB e2 m u v xt2 wh2]) 64 (fun y' h' => Qbh [wB (some b) true Qa8, ptB e1 n x y xt wh, ptB e2 m u v xt2 wh2] (apE (.fresh (some b)) 0 True (6 + rN5 n m) (rpL 5 0 c (rT5 c n x y m u v)) (rpB 0 c (rB5 c n m u v))) y' h') := by
 have hsn := Qdc n
 obtain ⟨h_id, h_bs, h_bg, h_ver, h_gr, h_htv, h_x0v, h_x1v, h_cnt, hbo⟩ := hc
 refine Eq.mpr (Zin b c e1 n cap xt x y wh e2 m cp xt2 u v wh2) ⟨⟨by omega, by omega⟩, fun d0 => ⟨⟨⟨Qaa _ _ _ (by omega), bd1 (by omega)⟩, h_id⟩, fun d1 => ⟨⟨⟨Qaa _ _ _ (by omega), bd1 (by omega)⟩, ⟨by omega, by omega⟩⟩, fun d2 => ⟨⟨⟨Qaa _ _ _ (by omega), bd1 (by omega)⟩, h_gr⟩, fun d3 => Qb9 ?_ ?_ fun i hi => ?_⟩⟩⟩⟩
 · show _ = 6 + (4)
   omega
 · simp only [Bool.or_false, rpB, rB5, Qei, Bool.or_assoc, Qbv, nV, bop, Bool.false_or, show Qal 0 14 = false from rfl]
   first | done | rfl
 · show apG (6) (apG (5) (apG (1) (fun i => ([5] : List Int).getD i 0) (c4 c.id)) ([0])) (c4 c.gr) i = _
   rw [Qay (n := 5) (m := 6) (Qbd (rfl) rfl)]
   rw [Qay (n := 1) (m := 5) (Qbd (c4l _) rfl)]
   rw [Qbr]
   rfl
theorem Zan {b : Bool} {c : RV} {e1 n cap xt : Nat} {x y : Nat → Int} {wh : Bool} {e2 m cp xt2 : Nat} {u v : Nat → Int} {wh2 : Bool} (hc : Qfz c) (hn : n < 100) (hv : ∀ i, i < n → I64 (x i) ∧ I64 (y i)) (hm : m < 200) (hw : ∀ i, i < m → I64 (u i) ∧ I64 (v i)) : Qa6 Try.prog Qms Qas Try.f78 [.vp 0 0, reS 6 0 c (.sl 1 2 0 n cap) (.sl 2 2 0 m cp)] (Qac [wB (some b) true Qa8, ptB e1 n x y xt wh, ptB e2 m u v xt2 wh2]) 64 (fun y' h' => Qbh [wB (some b) true Qa8, ptB e1 n x y xt wh, ptB e2 m u v xt2 wh2] (apE (.fresh (some b)) 0 True (6 + rN6 n m) (rpL 6 0 c (rT6 c n x y m u v)) (rpB 0 c (rB6 c n m u v))) y' h') := by
 have hsn := Qdc n
 obtain ⟨h_id, h_bs, h_bg, h_ver, h_gr, h_htv, h_x0v, h_x1v, h_cnt, hbo⟩ := hc
 refine Eq.mpr (Zim b c e1 n cap xt x y wh e2 m cp xt2 u v wh2) ⟨⟨by omega, by omega⟩, fun d0 => ⟨⟨⟨Qaa _ _ _ (by omega), bd1 (by omega)⟩, h_id⟩, fun d1 => ⟨⟨⟨Qaa _ _ _ (by omega), bd1 (by omega)⟩, ⟨by omega, by omega⟩⟩, fun d2 => ⟨⟨⟨Qaa _ _ _ (by omega), bd1 (by omega)⟩, h_gr⟩, fun d3 => Qb9 ?_ ?_ fun i hi => ?_⟩⟩⟩⟩
 · show _ = 6 + (4)
   omega
 · simp only [Bool.or_false, rpB, rB6, Qei, Bool.or_assoc, Qbv, nV, bop, Bool.false_or, show Qal 0 14 = false from rfl]
   first | done | rfl
 · show apG (6) (apG (5) (apG (1) (fun i => ([6] : List Int).getD i 0) (c4 c.id)) ([0])) (c4 c.gr) i = _
   rw [Qay (n := 5) (m := 6) (Qbd (rfl) rfl)]
   rw [Qay (n := 1) (m := 5) (Qbd (c4l _) rfl)]
   rw [Qbr]
   rfl
theorem Zam {b : Bool} {c : RV} {e1 n cap xt : Nat} {x y : Nat → Int} {wh : Bool} {e2 m cp xt2 : Nat} {u v : Nat → Int} {wh2 : Bool} (hc : Qfz c) (hn : n < 100) (hv : ∀ i, i < n → I64 (x i) ∧ I64 (y i)) (hm : m < 200) (hw : ∀ i, i < m → I64 (u i) ∧ I64 (v i)) : Qa6 Try.prog Qms Qas Try.f78 [.vp 0 0, reS 7 0 c (.sl 1 2 0 n cap) (.sl 2 2 0 m cp)] (Qac [wB (some b) true Qa8, ptB e1 n x y xt wh, ptB e2 m u v xt2 wh2]) 64 (fun y' h' => Qbh [wB (some b) true Qa8, ptB e1 n x y xt wh, ptB e2 m u v xt2 wh2] (apE (.fresh (some b)) 0 True (6 + rN7 n m) (rpL 7 0 c (rT7 c n x y m u v)) (rpB 0 c (rB7 c n m u v))) y' h') := by
 have hsn := Qdc n
 obtain ⟨h_id, h_bs, h_bg, h_ver, h_gr, h_htv, h_x0v, h_x1v, h_cnt, hbo⟩ := hc
 have hbN : boN n ≤ 2000 := by unfold boN; omega
 refine Eq.mpr (Zil b c e1 n cap xt x y wh e2 m cp xt2 u v wh2) ⟨⟨by omega, by omega⟩, fun d0 => ⟨⟨⟨Qaa _ _ _ (by omega), bd1 (by omega)⟩, h_id⟩, fun d1 => ⟨⟨⟨Qaa _ _ _ (by omega), bd1 (by omega)⟩, ⟨by omega, by omega⟩⟩, fun d2 => ⟨⟨⟨Qaa _ _ _ (by omega), bd1 (by omega)⟩, ⟨h_bs, h_bg⟩⟩, fun d3 => ⟨⟨⟨Qaa _ _ _ (by omega), by decide⟩, ⟨hbo, Zeo hn hv, hn⟩⟩, fun d4 => Qb9 ?_ ?_ fun i hi => ?_⟩⟩⟩⟩⟩
 · show _ = 6 + (8 + boN n)
   omega
 · simp only [Bool.or_false, rpB, rB7, Qei, Bool.or_assoc, Bool.false_or, show Qal 0 14 = false from rfl]
 · rw [Zeq, Zep]
   show apG (14) (apG (6) (apG (5) (apG (1) (fun i => ([7] : List Int).getD i 0) (c4 c.id)) ([0])) (hL c.bs c.bg)) (boL c.o n x y) i = _
   rw [Qay (n := 6) (m := 14) (Qbd (hLl _ _) rfl)]
   rw [Qay (n := 5) (m := 6) (Qbd (rfl) rfl)]
   rw [Qay (n := 1) (m := 5) (Qbd (c4l _) rfl)]
   rw [Qbr]
   rfl
theorem Zal {b : Bool} {c : RV} {e1 n cap xt : Nat} {x y : Nat → Int} {wh : Bool} {e2 m cp xt2 : Nat} {u v : Nat → Int} {wh2 : Bool} (hc : Qfz c) (hn : n < 100) (hv : ∀ i, i < n → I64 (x i) ∧ I64 (y i)) (hm : m < 200) (hw : ∀ i, i < m → I64 (u i) ∧ I64 (v i)) : Qa6 Try.prog Qms (Q7l (b || (Qal c.id 2147483647 || Qal (m : Int) 64)) ([8] ++ (c4 c.id ++ ([0] ++ [(m : Int) % 256]))) m u v) Try.f78 [.vp 0 0, reS 8 0 c (.sl 1 2 0 n cap) (.sl 2 2 0 m cp)] (Qac [wB (some b) true Qa8, ptB e1 n x y xt wh, ptB e2 m u v xt2 wh2]) 64 (fun y' h' => Qbh [wB (some b) true Qa8, ptB e1 n x y xt wh, ptB e2 m u v xt2 wh2] (apE (.fresh (some b)) 0 True (6 + rN8 n m) (rpL 8 0 c (rT8 c n x y m u v)) (rpB 0 c (rB8 c n m u v))) y' h') := by
 have hsn := Qdc n
 obtain ⟨h_id, h_bs, h_bg, h_ver, h_gr, h_htv, h_x0v, h_x1v, h_cnt, hbo⟩ := hc
 refine Eq.mpr (Zik b c e1 n cap xt x y wh e2 m cp xt2 u v wh2) ⟨⟨by omega, by omega⟩, fun d0 => ⟨⟨⟨Qaa _ _ _ (by omega), bd1 (by omega)⟩, h_id⟩, fun d1 => ⟨⟨⟨Qaa _ _ _ (by omega), bd1 (by omega)⟩, ⟨by omega, by omega⟩⟩, fun d2 => ⟨⟨⟨Qaa _ _ _ (by omega), bd1 (by omega)⟩, ⟨by omega, by omega⟩⟩, fun d3 => ⟨⟨⟨0, 7 + d3⟩, ⟨Nat.zero_le _, Nat.le_add_right _ _⟩, rfl, ⟨rfl, Nat.le_refl _, rfl, ?_⟩, rfl, Nat.le_refl _, fun i hi => ?_⟩, fun z ⟨h2, h3⟩ => Qab (fun hlt => ?_) fun hge => ?_⟩⟩⟩⟩⟩
 · simp only [Bool.or_false, Bool.or_assoc, Bool.false_or, Qwk, show Qal 0 14 = false from rfl]
 · show [SV.v (.int .u8 (apG 6 (apG 5 (apG 1 (fun i => ([8] : List Int).getD i 0) (c4 c.id)) [0]) [(m : Int) % 256] i))] = [SV.v (.int .u8 (([8] ++ (c4 c.id ++ ([0] ++ [(m : Int) % 256])) ++ []).getD i 0))]
   rw [Qay (n := 5) (m := 6) (L := [0]) rfl, Qay (n := 1) (m := 5) (Qbd (c4l _) rfl), Qbr, List.append_nil]
 · have hlt := of_decide_eq_true hlt
   have hlt : z.i < m := by omega
   have hwr : IntKind.i64.wrap ((z.i : Int) + 1) = ((z.i + 1 : Nat) : Int) := Qbn ⟨by omega, by omega⟩
   have hvx := hw z.i hlt
   rw [show 0 + Int.toNat (z.i : Int) = z.i by omega]
   refine ⟨⟨by omega, by omega⟩, ⟨⟨Qaa _ _ _ (by omega), by show 7 + 8 * z.i ≤ 1000000000; omega⟩, hvx⟩, fun c1 => ⟨⟨z.i + 1, 7 + 8 * z.i + 8 + c1⟩, ⟨⟨by show z.i + 1 ≤ m; omega, (by show 7 + 8 * (z.i + 1) ≤ 7 + 8 * z.i + 8 + c1; omega)⟩, Qin hwr, ⟨rfl, Nat.le_refl _, ?_, ?_⟩, ?_, Nat.le_refl _, fun i hi => ?_⟩, by show m - (z.i + 1) < m - z.i; omega⟩⟩
   · show SV.sl _ 1 0 _ _ = SV.sl _ 1 0 (7 + 8 * (z.i + 1)) _
     rw [show 7 + 8 * (z.i + 1) = 7 + 8 * z.i + 8 by omega]
   · show SV.v (.bool (b || (Qal c.id 2147483647 || Qal (m : Int) 64) || Qwk u v z.i || Qei (u z.i) (v z.i))) = SV.v (.bool (b || (Qal c.id 2147483647 || Qal (m : Int) 64) || (Qwk u v z.i || Qei (u z.i) (v z.i))))
     simp only [Bool.or_assoc]
   · show 7 + 8 * z.i + 8 = 7 + 8 * (z.i + 1)
     omega
   · have hl : ([8] ++ (c4 c.id ++ ([0] ++ [(m : Int) % 256])) ++ hsL u v z.i).length = 7 + 8 * z.i := by
       simp only [List.length_append, c4l, Qco, List.length_cons, List.length_nil]
     refine congrArg (fun z => [SV.v (.int .u8 z)]) ?_
     show apG (7 + 8 * z.i) (fun i => ([8] ++ (c4 c.id ++ ([0] ++ [(m : Int) % 256])) ++ hsL u v z.i).getD i 0) (hL (u z.i) (v z.i)) i = ([8] ++ (c4 c.id ++ ([0] ++ [(m : Int) % 256])) ++ (hsL u v z.i ++ hL (u z.i) (v z.i))).getD i 0
     rw [← List.append_assoc]
     exact Qsw hl _ i
 · have hge := of_decide_eq_false hge
   have hx : z.i = m := by omega
   rw [hx] at h3 ⊢
   have h3 : 7 + 8 * m ≤ z.c := h3
   have he : 6 + (1 + 8 * m) + (z.c - (7 + 8 * m)) = z.c := by omega
   have he2 : 6 + (1 + 8 * m) = 7 + 8 * m := by omega
   refine ⟨z.c - (7 + 8 * m), trivial, ⟨rfl, Nat.le_refl _, ?_, ?_⟩, ?_, ?_, fun i hi => ?_⟩
   · show SV.sl 40 1 0 (7 + 8 * m) z.c = SV.sl 40 1 0 (6 + (1 + 8 * m)) (6 + (1 + 8 * m) + (z.c - (7 + 8 * m)))
     rw [he, he2]
   · simp only [rpB, rB8, show Qal 0 14 = false from rfl, Bool.false_or, Bool.or_assoc]
   · exact he2.symm
   · show 6 + (1 + 8 * m) + _ ≤ _
     omega
   · unfold rpL rT8
     simp only [List.append_assoc]
     rfl
theorem Zak {b : Bool} {c : RV} {e1 n cap xt : Nat} {x y : Nat → Int} {wh : Bool} {e2 m cp xt2 : Nat} {u v : Nat → Int} {wh2 : Bool} (hc : Qfz c) (hn : n < 100) (hv : ∀ i, i < n → I64 (x i) ∧ I64 (y i)) (hm : m < 200) (hw : ∀ i, i < m → I64 (u i) ∧ I64 (v i)) : Qa6 Try.prog Qms Qas Try.f78 [.vp 0 0, reS 9 0 c (.sl 1 2 0 n cap) (.sl 2 2 0 m cp)] (Qac [wB (some b) true Qa8, ptB e1 n x y xt wh, ptB e2 m u v xt2 wh2]) 64 (fun y' h' => Qbh [wB (some b) true Qa8, ptB e1 n x y xt wh, ptB e2 m u v xt2 wh2] (apE (.fresh (some b)) 0 True (6 + rN9 n m) (rpL 9 0 c (rT9 c n x y m u v)) (rpB 0 c (rB9 c n m u v))) y' h') := by
 have hsn := Qdc n
 obtain ⟨h_id, h_bs, h_bg, h_ver, h_gr, h_htv, h_x0v, h_x1v, h_cnt, hbo⟩ := hc
 have h_vc := Zij b c e1 n cap xt x y wh e2 m cp xt2 u v wh2
 repeat (first | unfold Qnk at h_vc)
 refine Eq.mpr h_vc ⟨⟨by omega, by omega⟩, fun d0 => ⟨⟨⟨Qaa _ _ _ (by omega), bd1 (by omega)⟩, h_id⟩, fun d1 => ⟨⟨⟨Qaa _ _ _ (by omega), bd1 (by omega)⟩, ⟨by omega, by omega⟩⟩, fun d2 => ⟨⟨⟨Qaa _ _ _ (by omega), bd1 (by omega)⟩, ⟨h_bs, h_bg⟩⟩, fun d3 => ⟨⟨⟨Qaa _ _ _ (by omega), bd1 (by omega)⟩, trivial⟩, fun d4 => ⟨⟨⟨Qaa _ _ _ (by omega), bd1 (by omega)⟩, ⟨rfl, by omega, by omega, fun i hi => by
   have : i = 0 ∨ i = 1 ∨ i = 2 := by omega
   rcases this with rfl | rfl | rfl
   · exact h_htv
   · exact h_x0v
   · exact h_x1v⟩⟩, fun d5 => Qb9 ?_ ?_ fun i hi => ?_⟩⟩⟩⟩⟩⟩
 · show _ = 6 + (36)
   omega
 · simp only [Bool.or_false, rpB, rB9, Qei, Bool.or_assoc, Qbv, nV, bop, Bool.false_or, show Qal 0 14 = false from rfl]
   first | done | rfl
 · show apG (15) (apG (14) (apG (6) (apG (5) (apG (1) (fun i => ([9] : List Int).getD i 0) (c4 c.id)) ([0])) (hL c.bs c.bg)) (flB c.hit)) ((Qdu c.htv c.htf ++ Qdu c.x0v c.x0f ++ Qdu c.x1v c.x1f)) i = _
   rw [Qay (n := 14) (m := 15) (Qbd (rfl) rfl)]
   rw [Qay (n := 6) (m := 14) (Qbd (hLl _ _) rfl)]
   rw [Qay (n := 5) (m := 6) (Qbd (rfl) rfl)]
   rw [Qay (n := 1) (m := 5) (Qbd (c4l _) rfl)]
   rw [Qbr]
   rfl
theorem Q4k {b : Bool} {c : RV} {e1 n cap xt : Nat} {x y : Nat → Int} {wh : Bool} {e2 m cp xt2 : Nat} {u v : Nat → Int} {wh2 : Bool} (hc : Qfz c) (hn : n < 100) (hv : ∀ i, i < n → I64 (x i) ∧ I64 (y i)) (hm : m < 200) (hw : ∀ i, i < m → I64 (u i) ∧ I64 (v i)) : Qa6 Try.prog Qms Qas Try.f78 [.vp 0 0, reS 10 0 c (.sl 1 2 0 n cap) (.sl 2 2 0 m cp)] (Qac [wB (some b) true Qa8, ptB e1 n x y xt wh, ptB e2 m u v xt2 wh2]) 64 (fun y' h' => Qbh [wB (some b) true Qa8, ptB e1 n x y xt wh, ptB e2 m u v xt2 wh2] (apE (.fresh (some b)) 0 True (6 + Q16 n m) (rpL 10 0 c (Q6n c n x y m u v)) (rpB 0 c (Q4q c n m u v))) y' h') := by
 have hsn := Qdc n
 obtain ⟨h_id, h_bs, h_bg, h_ver, h_gr, h_htv, h_x0v, h_x1v, h_cnt, hbo⟩ := hc
 refine Eq.mpr (Zeu b c e1 n cap xt x y wh e2 m cp xt2 u v wh2) ⟨⟨by omega, by omega⟩, fun d0 => ⟨⟨⟨Qaa _ _ _ (by omega), bd1 (by omega)⟩, h_id⟩, fun d1 => ⟨⟨⟨Qaa _ _ _ (by omega), bd1 (by omega)⟩, ⟨by omega, by omega⟩⟩, fun d2 => ⟨⟨⟨Qaa _ _ _ (by omega), bd1 (by omega)⟩, h_cnt⟩, fun d3 => Qb9 ?_ ?_ fun i hi => ?_⟩⟩⟩⟩
 · show _ = 6 + (4)
   omega
 · simp only [Bool.or_false, rpB, Q4q, Qei, Bool.or_assoc, Qbv, nV, bop, Bool.false_or, show Qal 0 14 = false from rfl]
   first | done | rfl
 · show apG (6) (apG (5) (apG (1) (fun i => ([10] : List Int).getD i 0) (c4 c.id)) ([0])) (c4 c.cnt) i = _
   rw [Qay (n := 5) (m := 6) (Qbd (rfl) rfl)]
   rw [Qay (n := 1) (m := 5) (Qbd (c4l _) rfl)]
   rw [Qbr]
   rfl
theorem Zai {k : Int} {a : Nat} {b : Bool} {c : RV} {e1 n cap xt : Nat} {x y : Nat → Int} {wh : Bool} {e2 m cp xt2 : Nat} {u v : Nat → Int} {wh2 : Bool} (hc : Qfz c) (hn : n < 100) (hv : ∀ i, i < n → I64 (x i) ∧ I64 (y i)) (hm : m < 200) (hw : ∀ i, i < m → I64 (u i) ∧ I64 (v i)) (hk : I64 k) (ha : I64 (Int.ofNat (a + 1))) : Qa6 Try.prog Qms Qas Try.f78 [.vp 0 0, reS k (Int.ofNat (a + 1)) c (.sl 1 2 0 n cap) (.sl 2 2 0 m cp)] (Qac [wB (some b) true Qa8, ptB e1 n x y xt wh, ptB e2 m u v xt2 wh2]) 64 (fun y' h' => Qbh [wB (some b) true Qa8, ptB e1 n x y xt wh, ptB e2 m u v xt2 wh2] (apE (.fresh (some b)) 0 True (6 + (bif Int.ofNat (a + 1) == 14 then 8 else 0)) (rpL k (Int.ofNat (a + 1)) c ((bif Int.ofNat (a + 1) == 14 then i8 c.ver else []))) (rpB (Int.ofNat (a + 1)) c ((bif Int.ofNat (a + 1) == 14 then Qal c.ver 1099511627776 else false)))) y' h') := by
 obtain ⟨h_id, h_bs, h_bg, h_ver, h_gr, h_htv, h_x0v, h_x1v, h_cnt, hbo⟩ := hc
 have h_vc := Zih k a b c e1 n cap xt x y wh e2 m cp xt2 u v wh2
 repeat (first | unfold Qp4 at h_vc)
 refine Eq.mpr h_vc ⟨hk, fun d0 => ⟨⟨⟨Qaa _ _ _ (by omega), bd1 (by omega)⟩, h_id⟩, fun d1 => ⟨⟨⟨Qaa _ _ _ (by omega), bd1 (by omega)⟩, ha⟩, fun d2 => Qab (fun e => ⟨⟨⟨Qaa _ _ _ (by omega), bd1 (by omega)⟩, h_ver⟩, fun d3 => ?_⟩) fun e => ?_⟩⟩⟩
 · rw [e]
   refine Qb9 rfl ?_ fun i hi => ?_
   · simp only [Bool.or_false, rpB, Bool.or_assoc, Bool.false_or, cond_true]
   · show apG 6 (apG 5 (apG 1 (fun i => ([k % 256] : List Int).getD i 0) (c4 c.id)) [Int.ofNat (a + 1) % 256]) (i8 c.ver) i = _
     rw [Qay (n := 5) (m := 6) (L := [Int.ofNat (a + 1) % 256]) rfl, Qay (n := 1) (m := 5) (Qbd (c4l _) rfl), Qbr]
     rfl
 · rw [e]
   refine Qb9 rfl ?_ fun i hi => ?_
   · simp only [Bool.or_false, rpB, Bool.or_assoc, Bool.false_or, cond_false]
   · show apG 5 (apG 1 (fun i => ([k % 256] : List Int).getD i 0) (c4 c.id)) [Int.ofNat (a + 1) % 256] i = _
     rw [Qay (n := 1) (m := 5) (Qbd (c4l _) rfl), Qbr]
     rfl
theorem Zaj {k : Int} {a : Nat} {b : Bool} {c : RV} {e1 n cap xt : Nat} {x y : Nat → Int} {wh : Bool} {e2 m cp xt2 : Nat} {u v : Nat → Int} {wh2 : Bool} (hc : Qfz c) (hn : n < 100) (hv : ∀ i, i < n → I64 (x i) ∧ I64 (y i)) (hm : m < 200) (hw : ∀ i, i < m → I64 (u i) ∧ I64 (v i)) (hk : I64 k) (ha : I64 (Int.negSucc a)) : Qa6 Try.prog Qms Qas Try.f78 [.vp 0 0, reS k (Int.negSucc a) c (.sl 1 2 0 n cap) (.sl 2 2 0 m cp)] (Qac [wB (some b) true Qa8, ptB e1 n x y xt wh, ptB e2 m u v xt2 wh2]) 64 (fun y' h' => Qbh [wB (some b) true Qa8, ptB e1 n x y xt wh, ptB e2 m u v xt2 wh2] (apE (.fresh (some b)) 0 True (6 + 0) (rpL k (Int.negSucc a) c ([])) (rpB (Int.negSucc a) c (false))) y' h') := by
 obtain ⟨h_id, h_bs, h_bg, h_ver, h_gr, h_htv, h_x0v, h_x1v, h_cnt, hbo⟩ := hc
 refine Eq.mpr (Zii k a b c e1 n cap xt x y wh e2 m cp xt2 u v wh2) ⟨hk, fun d0 => ⟨⟨⟨Qaa _ _ _ (by omega), bd1 (by omega)⟩, h_id⟩, fun d1 => ⟨⟨⟨Qaa _ _ _ (by omega), bd1 (by omega)⟩, ha⟩, fun d2 => Qb9 rfl ?_ fun i hi => ?_⟩⟩⟩
 · simp only [Bool.or_false, rpB, Bool.or_assoc, Bool.false_or]
 · show apG 5 (apG 1 (fun i => ([k % 256] : List Int).getD i 0) (c4 c.id)) [Int.negSucc a % 256] i = _
   rw [Qay (n := 1) (m := 5) (Qbd (c4l _) rfl), Qbr]
   rfl
theorem Q3i (n n' c m m' d : Nat) (g h : Nat→Int × Int) (R : SV→Prop) : (Qa6 Try.prog Qaq (Qp1 Try.f82 13 n g h) Try.f82 [.sl 0 2 0 n c,.sl 1 2 0 m d] (Qa0 [⟨2,n',Qan g⟩,⟨2,m',Qan h⟩]) 64 (fun y _ => R y)) = (sel ((↑n : Int) != (↑m : Int)) (R zF) ((∃ x : Nat,((((x : Nat) ≤ n)∧(∀ j : Nat,(((j : Nat) < x)→(eqP (g j) (h j) = true))))∧((zI = (yI ((↑x : Int))))∧True)))∧(∀ x : Nat,((((x : Nat) ≤ n)∧(∀ j : Nat,(((j : Nat) < x)→(eqP (g j) (h j) = true))))→(sel (decide ((↑x : Int) < (↑n : Int))) ((((0 : Int) ≤ ((↑x : Int)))∧((((↑x : Int)) : Int) < ((↑n : Int))))∧((((0 : Int) ≤ ((↑x : Int)))∧((((↑x : Int)) : Int) < ((↑m : Int))))∧(sel (!(Prod.fst (g (0 + Int.toNat (↑x : Int))) == Prod.fst (h (0 + Int.toNat (↑x : Int)))&&Prod.snd (g (0 + Int.toNat (↑x : Int))) == Prod.snd (h (0 + Int.toNat (↑x : Int))))) (R zF) (∃ x' : Nat,(((((x' : Nat) ≤ n)∧(∀ j : Nat,(((j : Nat) < x')→(eqP (g j) (h j) = true))))∧(((yI (IntKind.wrap IntKind.i64 ((↑x : Int) + 1))) = (yI ((↑x' : Int))))∧True))∧(((n - x') : Nat) < (n - x))))))) (R (yF true))))))):=by kernel_rfl
theorem Qys (m m' d : Nat) (g : Nat→Int × Int) (R : SV→Prop) : (Qa6 Try.prog Qaq (ΛZ Try.f82 13) Try.f82 [Qa8,.sl 0 2 0 m d] (Qa0 [⟨2,m',Qan g⟩]) 64 (fun y _ => R y)) = (sel (0 != (↑m : Int)) (R zF) ((∃ x : Nat,(((x : Nat) = 0)∧((zI = (yI ((↑x : Int))))∧True)))∧(∀ x : Nat,(((x : Nat) = 0)→(R (yF true)))))):=by kernel_rfl
def Zei : Qb6 := Qap Qaq 72 (Qmv (Q6o Qvn Qvo))
def Qb0 (b : BV) : ShB := ⟨b.sk, b.sr, b.sw, b.sh⟩
def Zeg (a b : BV) : Bool := (a.p0v == b.p0v && a.p0f == b.p0f && (a.p1v == b.p1v && a.p1f == b.p1f) && (a.p2v == b.p2v && a.p2f == b.p2f && (a.p3v == b.p3v && a.p3f == b.p3f))) && ((a.v0v == b.v0v && a.v0f == b.v0f && (a.v1v == b.v1v && a.v1f == b.v1f)) && ((a.w0v == b.w0v && a.w0f == b.w0f) && ((a.m0v == b.m0v && a.m0f == b.m0f && (a.m1v == b.m1v && a.m1f == b.m1f)) && ((a.st == b.st) && ((a.asl == b.asl) && ((a.flt == b.flt) && ((a.bv == b.bv))))))))
def Qbj (a b : BV) (s : Bool) : Bool := Zeg a b && s
theorem Q8x (a b : BV) (n nc n' m mc m' : Nat) (g h : Nat→Int × Int) (R : SV→Prop) : (Qa6 Try.prog Zei Qas Try.f81 [boS a (.sl 0 2 0 n nc),boS b (.sl 1 2 0 m mc)] (Qa0 [⟨2,n',Qan g⟩,⟨2,m',Qan h⟩]) 64 (fun y _ => R y)) = (sel (BV.p0v a == BV.p0v b&&BV.p0f a == BV.p0f b&&(BV.p1v a == BV.p1v b&&BV.p1f a == BV.p1f b)&&(BV.p2v a == BV.p2v b&&BV.p2f a == BV.p2f b&&(BV.p3v a == BV.p3v b&&BV.p3f a == BV.p3f b))&&(BV.v0v a == BV.v0v b&&BV.v0f a == BV.v0f b&&(BV.v1v a == BV.v1v b&&BV.v1f a == BV.v1f b)&&(BV.w0v a == BV.w0v b&&BV.w0f a == BV.w0f b&&(BV.m0v a == BV.m0v b&&BV.m0f a == BV.m0f b&&(BV.m1v a == BV.m1v b&&BV.m1f a == BV.m1f b)&&(BV.st a == BV.st b&&(BV.asl a == BV.asl b&&(BV.flt a == BV.flt b&&BV.bv a == BV.bv b))))))) (((Qam n n fun y => [yI (Prod.fst (g (0 + y))),yI (Prod.snd (g (0 + y)))])∧(Qam m m fun y => [yI (Prod.fst (h (0 + y))),yI (Prod.snd (h (0 + y)))]))∧(R (yF (Qey {k:=BV.sk a,r:=BV.sr a,w:=BV.sw a,h:=BV.sh a} n (fun i => gi [yI (Prod.fst (g (0 + i))),yI (Prod.snd (g (0 + i)))]) {k:=BV.sk b,r:=BV.sr b,w:=BV.sw b,h:=BV.sh b} m fun i => gi [yI (Prod.fst (h (0 + i))),yI (Prod.snd (h (0 + i)))])))) (R zF)):=by kernel_rfl
theorem Q23 (a b : BV) (m mc m' : Nat) (h : Nat→Int × Int) (R : SV→Prop) : (Qa6 Try.prog Zei Qas Try.f81 [boS a Qa8,boS b (.sl 0 2 0 m mc)] (Qa0 [⟨2,m',Qan h⟩]) 64 (fun y _ => R y)) = (sel (BV.p0v a == BV.p0v b&&BV.p0f a == BV.p0f b&&(BV.p1v a == BV.p1v b&&BV.p1f a == BV.p1f b)&&(BV.p2v a == BV.p2v b&&BV.p2f a == BV.p2f b&&(BV.p3v a == BV.p3v b&&BV.p3f a == BV.p3f b))&&(BV.v0v a == BV.v0v b&&BV.v0f a == BV.v0f b&&(BV.v1v a == BV.v1v b&&BV.v1f a == BV.v1f b)&&(BV.w0v a == BV.w0v b&&BV.w0f a == BV.w0f b&&(BV.m0v a == BV.m0v b&&BV.m0f a == BV.m0f b&&(BV.m1v a == BV.m1v b&&BV.m1f a == BV.m1f b)&&(BV.st a == BV.st b&&(BV.asl a == BV.asl b&&(BV.flt a == BV.flt b&&BV.bv a == BV.bv b))))))) ((Qam m m fun y => [yI (Prod.fst (h (0 + y))),yI (Prod.snd (h (0 + y)))])∧(R (yF (Qcp {k:=BV.sk a,r:=BV.sr a,w:=BV.sw a,h:=BV.sh a} {k:=BV.sk b,r:=BV.sr b,w:=BV.sw b,h:=BV.sh b}&&Nat.beq m 0)))) (R zF)):=by kernel_rfl
def Qzg : List SV → List Ro → Option (Option Prop × SV)
 | [.agg x, .agg y], rs => match Qii x, Qii y, rs with
   | some (a, .sl 0 2 0 n _), some (b, .sl 1 2 0 m _), [⟨2, n', row⟩, ⟨2, m', row'⟩] => some (some (Qam n n' row ∧ Qam m m' row'), bV (Qbj a b (Qey (Qb0 a) n (fun i => gi (row i)) (Qb0 b) m fun i => gi (row' i))))
   | some (a, .v (.slice none 0 0)), some (b, .sl 0 2 0 m _), [⟨2, m', row⟩] => some (some (Qam m m' row), bV (Qbj a b (Qcp (Qb0 a) (Qb0 b) && Nat.beq m 0)))
   | _, _, _ => none
 | _, _ => none
def Qbo (k1 k2 e1 e2 : Int) (a b : RV) (s t : Bool) : Bool := (k1 == k2) && ((a.id == b.id) && ((e1 == e2) && ((a.bs == b.bs && a.bg == b.bg) && ((a.ver == b.ver) && ((a.gr == b.gr) && ((s) && ((t) && ((a.hit == b.hit && ((a.htv == b.htv && a.htf == b.htf) && ((a.x0v == b.x0v && a.x0f == b.x0f) && (a.x1v == b.x1v && a.x1f == b.x1f)))) && ((a.cnt == b.cnt))))))))))
def Qp3 : Qb6 := Qap (Qap Qaq 81 (Qmv Qzg)) 82 (Qmv (Q6o Qpe Qlx))
theorem Qyi (k1 k2 e1 e2 : Int) (a b : RV) (n nc n' m mc m' p pc p' q qc q' : Nat) (g h u v : Nat→Int × Int) (R : SV→Prop) : (Qa6 Try.prog Qp3 Qas Try.f36 [reS k1 e1 a (.sl 0 2 0 n nc) (.sl 1 2 0 m mc),reS k2 e2 b (.sl 2 2 0 p pc) (.sl 3 2 0 q qc)] (Qa0 [⟨2,n',Qan g⟩,⟨2,m',Qan h⟩,⟨2,p',Qan u⟩,⟨2,q',Qan v⟩]) 64 (fun y _ => R y)) =
(sel (k1 == k2) (sel (RV.id a == RV.id b) (sel (e1 == e2) (sel (RV.bs a == RV.bs b&&RV.bg a == RV.bg b) (sel (RV.ver a == RV.ver b) (sel (RV.gr a == RV.gr b) (((Qam n n fun y => [yI (Prod.fst (g (0 + y))),yI (Prod.snd (g (0 + y)))])∧(Qam p p fun y => [yI (Prod.fst (u (0 + y))),yI (Prod.snd (u (0 + y)))]))∧(sel (Qbj (RV.o a) (RV.o b) (Qey (Qb0 (RV.o a)) n (fun i => gi [yI (Prod.fst (g (0 + i))),yI (Prod.snd (g (0 + i)))]) (Qb0 (RV.o b)) p fun i => gi [yI (Prod.fst (u (0 + i))),yI (Prod.snd (u (0 + i)))])) (((Qam m m fun y => [yI (Prod.fst (h (0 + y))),yI (Prod.snd (h (0 + y)))])∧(Qam q q fun y => [yI (Prod.fst (v (0 + y))),yI (Prod.snd (v (0 + y)))]))∧(sel (Qfs m (fun i => gi [yI (Prod.fst (h (0 + i))),yI (Prod.snd (h (0 + i)))]) q fun i => gi [yI (Prod.fst (v (0 + i))),yI (Prod.snd (v (0 + i)))]) (sel (RV.hit a == RV.hit b&&(RV.htv a == RV.htv b&&RV.htf a == RV.htf b&&(RV.x0v a == RV.x0v b&&RV.x0f a == RV.x0f b&&(RV.x1v a == RV.x1v b&&RV.x1f a == RV.x1f b)))) (R (yF (RV.cnt a == RV.cnt b))) (R zF)) (R zF))) (R zF))) (R zF)) (R zF)) (R zF)) (R zF)) (R zF)) (R zF)) := by kernel_rfl
theorem Qyl (k1 k2 e1 e2 : Int) (a b : RV) (p pc p' q qc q' : Nat) (u v : Nat→Int × Int) (R : SV→Prop) : (Qa6 Try.prog Qp3 Qas Try.f36 [reS k1 e1 a (Qa8) (Qa8),reS k2 e2 b (.sl 0 2 0 p pc) (.sl 1 2 0 q qc)] (Qa0 [⟨2,p',Qan u⟩,⟨2,q',Qan v⟩]) 64 (fun y _ => R y)) = (sel (k1 == k2) (sel (RV.id a == RV.id b) (sel (e1 == e2) (sel (RV.bs a == RV.bs b&&RV.bg a == RV.bg b) (sel (RV.ver a == RV.ver b) (sel (RV.gr a == RV.gr b) ((Qam p p fun y => [yI (Prod.fst (u (0 + y))),yI (Prod.snd (u (0 + y)))])∧(sel (Qbj (RV.o a) (RV.o b) (Qcp (Qb0 (RV.o a)) (Qb0 (RV.o b))&&Nat.beq p 0)) ((Qam q q fun y => [yI (Prod.fst (v (0 + y))),yI (Prod.snd (v (0 + y)))])∧(sel (Nat.beq q 0) (sel (RV.hit a == RV.hit b&&(RV.htv a == RV.htv b&&RV.htf a == RV.htf b&&(RV.x0v a == RV.x0v b&&RV.x0f a == RV.x0f b&&(RV.x1v a == RV.x1v b&&RV.x1f a == RV.x1f b)))) (R (yF (RV.cnt a == RV.cnt b))) (R zF)) (R zF))) (R zF))) (R zF)) (R zF)) (R zF)) (R zF)) (R zF)) (R zF)):=by kernel_rfl
theorem Qyj (k1 k2 e1 e2 : Int) (a b : RV) (n nc n' p pc p' q qc q' : Nat) (g u v : Nat→Int × Int) (R : SV→Prop) : (Qa6 Try.prog Qp3 Qas Try.f36 [reS k1 e1 a (.sl 0 2 0 n nc) (Qa8),reS k2 e2 b (.sl 1 2 0 p pc) (.sl 2 2 0 q qc)] (Qa0 [⟨2,n',Qan g⟩,⟨2,p',Qan u⟩,⟨2,q',Qan v⟩]) 64 (fun y _ => R y)) =
(sel (k1 == k2) (sel (RV.id a == RV.id b) (sel (e1 == e2) (sel (RV.bs a == RV.bs b&&RV.bg a == RV.bg b) (sel (RV.ver a == RV.ver b) (sel (RV.gr a == RV.gr b) (((Qam n n fun y => [yI (Prod.fst (g (0 + y))),yI (Prod.snd (g (0 + y)))])∧(Qam p p fun y => [yI (Prod.fst (u (0 + y))),yI (Prod.snd (u (0 + y)))]))∧(sel (Qbj (RV.o a) (RV.o b) (Qey (Qb0 (RV.o a)) n (fun i => gi [yI (Prod.fst (g (0 + i))),yI (Prod.snd (g (0 + i)))]) (Qb0 (RV.o b)) p fun i => gi [yI (Prod.fst (u (0 + i))),yI (Prod.snd (u (0 + i)))])) ((Qam q q fun y => [yI (Prod.fst (v (0 + y))),yI (Prod.snd (v (0 + y)))])∧(sel (Nat.beq q 0) (sel (RV.hit a == RV.hit b&&(RV.htv a == RV.htv b&&RV.htf a == RV.htf b&&(RV.x0v a == RV.x0v b&&RV.x0f a == RV.x0f b&&(RV.x1v a == RV.x1v b&&RV.x1f a == RV.x1f b)))) (R (yF (RV.cnt a == RV.cnt b))) (R zF)) (R zF))) (R zF))) (R zF)) (R zF)) (R zF)) (R zF)) (R zF)) (R zF)) := by kernel_rfl
theorem Qyk (k1 k2 e1 e2 : Int) (a b : RV) (m mc m' p pc p' q qc q' : Nat) (h u v : Nat→Int × Int) (R : SV→Prop) : (Qa6 Try.prog Qp3 Qas Try.f36 [reS k1 e1 a (Qa8) (.sl 0 2 0 m mc),reS k2 e2 b (.sl 1 2 0 p pc) (.sl 2 2 0 q qc)] (Qa0 [⟨2,m',Qan h⟩,⟨2,p',Qan u⟩,⟨2,q',Qan v⟩]) 64 (fun y _ => R y)) =
(sel (k1 == k2) (sel (RV.id a == RV.id b) (sel (e1 == e2) (sel (RV.bs a == RV.bs b&&RV.bg a == RV.bg b) (sel (RV.ver a == RV.ver b) (sel (RV.gr a == RV.gr b) ((Qam p p fun y => [yI (Prod.fst (u (0 + y))),yI (Prod.snd (u (0 + y)))])∧(sel (Qbj (RV.o a) (RV.o b) (Qcp (Qb0 (RV.o a)) (Qb0 (RV.o b))&&Nat.beq p 0)) (((Qam m m fun y => [yI (Prod.fst (h (0 + y))),yI (Prod.snd (h (0 + y)))])∧(Qam q q fun y => [yI (Prod.fst (v (0 + y))),yI (Prod.snd (v (0 + y)))]))∧(sel (Qfs m (fun i => gi [yI (Prod.fst (h (0 + i))),yI (Prod.snd (h (0 + i)))]) q fun i => gi [yI (Prod.fst (v (0 + i))),yI (Prod.snd (v (0 + i)))]) (sel (RV.hit a == RV.hit b&&(RV.htv a == RV.htv b&&RV.htf a == RV.htf b&&(RV.x0v a == RV.x0v b&&RV.x0f a == RV.x0f b&&(RV.x1v a == RV.x1v b&&RV.x1f a == RV.x1f b)))) (R (yF (RV.cnt a == RV.cnt b))) (R zF)) (R zF))) (R zF))) (R zF)) (R zF)) (R zF)) (R zF)) (R zF)) (R zF)) := by kernel_rfl
theorem Qu8 : Qcj Try.prog 82 Qpe := Qdg hm Qax Try.func82 (Λ := fun args bs => match args, bs with | [.sl 0 2 0 n _, .sl 1 2 0 m _], [⟨2, _, row⟩, ⟨2, _, row'⟩] => Qp1 Try.f82 13 n (fun i => gi (row i)) (fun i => gi (row' i)) | _, _ => Qas) fun args bs p x h hp => by
 unfold Qpe at h
 split at h <;> try (cases h; done)
 rename_i n c m d n' row m' row'
 cases h
 obtain ⟨⟨h0, rfl, hn⟩, k0, rfl, hm'⟩ := hp _ rfl
 have h0 := okAll_rows.1 h0
 have k0 := okAll_rows.1 k0
 refine ⟨rfl, [⟨2, n', Qan fun i => gi (row i)⟩, ⟨2, m', Qan fun i => gi (row' i)⟩], ⟨⟨rfl, rfl, fun i hi => (Qao (h0 i hi)).1⟩, ⟨rfl, rfl, fun i hi => (Qao (k0 i hi)).1⟩, trivial⟩, ?_⟩
 refine Eq.mpr (Q3i n' n' c m' m' d (fun i => gi (row i)) (fun i => gi (row' i)) _) ?_
 exact Qpl hn hm'
theorem Qta : Qcj Try.prog 82 Qlx := Qdg hm Qax Try.func82 (Λ := fun _ _ => ΛZ Try.f82 13) fun args bs p x h hp => by
 unfold Qlx at h
 split at h <;> try (cases h; done)
 rename_i m d m' row
 cases h
 obtain ⟨h0, rfl, hn⟩ := hp _ rfl
 have h0 := okAll_rows.1 h0
 refine ⟨rfl, [⟨2, m', Qan fun i => gi (row i)⟩], ⟨⟨rfl, rfl, fun i hi => (Qao (h0 i hi)).1⟩, trivial⟩, ?_⟩
 refine Eq.mpr (Qys m' m' d (fun i => gi (row i)) _) (Qab (fun e => Qjd ?_) fun e => ⟨⟨0, rfl, rfl, trivial⟩, fun _ _ => Qjd ?_⟩)
 · refine (Go.SE.Qb4 fun e0 => ?_).symm
   rw [e0] at e; cases e
 · have : m' = 0 := by
     have : ((0 : Int) != (m' : Int)) = false := e
     simp at this; omega
   rw [this]; rfl
theorem Q7m : ∀ f g, Zei f = some g → g.ok Try.prog f := Qah Qax (Qnv Try.func72 (by kernel_rfl) (by kernel_rfl) (Qwu Qpw Qpx))
theorem Q4c (a b : BV) (n c m d : Nat) (g h : Nat → Int × Int) (hn : n < 1099511627776) (hg : ∀ i, i < n → I64 (g i).1 ∧ I64 (g i).2) (hm : m < 1099511627776) (hh : ∀ i, i < m → I64 (h i).1 ∧ I64 (h i).2) : Qa6 Try.prog Zei Qas Try.f81 [boS a (.sl 0 2 0 n c), boS b (.sl 1 2 0 m d)] (Qa0 [⟨2, n, Qan g⟩, ⟨2, m, Qan h⟩]) 64 (fun y _ => y = bV (Qbj a b (Qey (Qb0 a) n g (Qb0 b) m h))) := by
 refine Eq.mpr (Q8x a b n c n m d m g h _) ?_
 rw [Qd8 g, Qd8 h]
 unfold Qbj Zeg
 refine Qab (fun e => ⟨⟨Qav hn hg, Qav hm hh⟩, ?_⟩) fun e => by rw [e]; rfl
 rw [e, Bool.true_and]
 rfl
theorem Q4d (a b : BV) (m d : Nat) (h : Nat → Int × Int) (hm : m < 1099511627776) (hh : ∀ i, i < m → I64 (h i).1 ∧ I64 (h i).2) : Qa6 Try.prog Zei Qas Try.f81 [boS a Qa8, boS b (.sl 0 2 0 m d)] (Qa0 [⟨2, m, Qan h⟩]) 64 (fun y _ => y = bV (Qbj a b (Qcp (Qb0 a) (Qb0 b) && Nat.beq m 0))) := by
 refine Eq.mpr (Q23 a b m d m h _) ?_
 unfold Qbj Zeg
 refine Qab (fun e => ⟨Qav hm hh, ?_⟩) fun e => by rw [e]; rfl
 rw [e, Bool.true_and]
 rfl
theorem Qxj : Qcj Try.prog 81 Qzg := Qdg hm Q7m Try.func81 (Λ := fun _ _ => Qas) fun args bs p x hs hp => by
 unfold Qzg at hs
 split at hs
 · rename_i x y rs
   split at hs
   · rename_i a n c b m d n' row m' row' hx hy
     cases hs
     obtain ⟨⟨h0, rfl, hn⟩, k0, rfl, hm'⟩ := hp _ rfl
     have h0 := okAll_rows.1 h0
     have k0 := okAll_rows.1 k0
     refine ⟨rfl, [⟨2, n', Qan fun i => gi (row i)⟩, ⟨2, m', Qan fun i => gi (row' i)⟩], ⟨⟨rfl, rfl, fun i hi => (Qao (h0 i hi)).1⟩, ⟨rfl, rfl, fun i hi => (Qao (k0 i hi)).1⟩, trivial⟩, ?_⟩
     rw [Qkl hx, Qkl hy]
     exact Q4c a b n' c m' d _ _ hn (fun i hi => (Qao (h0 i hi)).2) hm' fun i hi => (Qao (k0 i hi)).2
   · rename_i a b m d m' row hx hy
     cases hs
     obtain ⟨h0, rfl, hn⟩ := hp _ rfl
     have h0 := okAll_rows.1 h0
     refine ⟨rfl, [⟨2, m', Qan fun i => gi (row i)⟩], ⟨⟨rfl, rfl, fun i hi => (Qao (h0 i hi)).1⟩, trivial⟩, ?_⟩
     rw [Qkl hx, Qkl hy]
     exact Q4d a b m' d _ hn fun i hi => (Qao (h0 i hi)).2
   · cases hs
 · cases hs
def Qqo : List SV → List Ro → Option (Option Prop × SV)
 | [.agg x, .agg y], [⟨2, n', r1⟩, ⟨2, m', r2⟩, ⟨2, p', r3⟩, ⟨2, q', r4⟩] => match Qc2 x, Qc2 y with
   | some (k1, e1, a, .sl 0 2 0 n _, .sl 1 2 0 m _), some (k2, e2, b, .sl 2 2 0 p _, .sl 3 2 0 q _) => some (some (Qam n n' r1 ∧ Qam m m' r2 ∧ Qam p p' r3 ∧ Qam q q' r4), bV (Qbo k1 k2 e1 e2 a b (Qbj a.o b.o (Qey (Qb0 a.o) n (fun i => gi (r1 i)) (Qb0 b.o) p (fun i => gi (r3 i)))) (Qfs m (fun i => gi (r2 i)) q (fun i => gi (r4 i)))))
   | _, _ => none
 | _, _ => none
def Qqr : List SV → List Ro → Option (Option Prop × SV)
 | [.agg x, .agg y], [⟨2, p', r1⟩, ⟨2, q', r2⟩] => match Qc2 x, Qc2 y with
   | some (k1, e1, a, .v (.slice none 0 0), .v (.slice none 0 0)), some (k2, e2, b, .sl 0 2 0 p _, .sl 1 2 0 q _) => some (some (Qam p p' r1 ∧ Qam q q' r2), bV (Qbo k1 k2 e1 e2 a b (Qbj a.o b.o (Qcp (Qb0 a.o) (Qb0 b.o) && Nat.beq p 0)) (Nat.beq q 0)))
   | _, _ => none
 | _, _ => none
def Qqp : List SV → List Ro → Option (Option Prop × SV)
 | [.agg x, .agg y], [⟨2, n', r1⟩, ⟨2, p', r2⟩, ⟨2, q', r3⟩] => match Qc2 x, Qc2 y with
   | some (k1, e1, a, .sl 0 2 0 n _, .v (.slice none 0 0)), some (k2, e2, b, .sl 1 2 0 p _, .sl 2 2 0 q _) => some (some (Qam n n' r1 ∧ Qam p p' r2 ∧ Qam q q' r3), bV (Qbo k1 k2 e1 e2 a b (Qbj a.o b.o (Qey (Qb0 a.o) n (fun i => gi (r1 i)) (Qb0 b.o) p (fun i => gi (r2 i)))) (Nat.beq q 0)))
   | _, _ => none
 | _, _ => none
def Qqq : List SV → List Ro → Option (Option Prop × SV)
 | [.agg x, .agg y], [⟨2, m', r1⟩, ⟨2, p', r2⟩, ⟨2, q', r3⟩] => match Qc2 x, Qc2 y with
   | some (k1, e1, a, .v (.slice none 0 0), .sl 0 2 0 m _), some (k2, e2, b, .sl 1 2 0 p _, .sl 2 2 0 q _) => some (some (Qam m m' r1 ∧ Qam p p' r2 ∧ Qam q q' r3), bV (Qbo k1 k2 e1 e2 a b (Qbj a.o b.o (Qcp (Qb0 a.o) (Qb0 b.o) && Nat.beq p 0)) (Qfs m (fun i => gi (r1 i)) q (fun i => gi (r3 i)))))
   | _, _ => none
 | _, _ => none
def Q6j := Q6o (Q6o Qqo Qqr) (Q6o Qqp Qqq)
theorem Qmz : ∀ f g, Qp3 f = some g → g.ok Try.prog f := Qah (Qah Qax (Qnv Try.func81 (by kernel_rfl) (by kernel_rfl) Qxj)) (Qnv Try.func82 (by kernel_rfl) (by kernel_rfl) (Qwu Qu8 Qta))
theorem Q4r (k1 k2 e1 e2 : Int) (a b : RV) (n nc m mc p pc q qc : Nat) (g h u v : Nat → Int × Int) (hn : n < 1099511627776) (kn : ∀ i, i < n → I64 (g i).1 ∧ I64 (g i).2) (hm : m < 1099511627776) (km : ∀ i, i < m → I64 (h i).1 ∧ I64 (h i).2) (hp : p < 1099511627776) (kp : ∀ i, i < p → I64 (u i).1 ∧ I64 (u i).2) (hq : q < 1099511627776) (kq : ∀ i, i < q → I64 (v i).1 ∧ I64 (v i).2) : Qa6 Try.prog Qp3 Qas Try.f36 [reS k1 e1 a (.sl 0 2 0 n nc) (.sl 1 2 0 m mc), reS k2 e2 b (.sl 2 2 0 p pc) (.sl 3 2 0 q qc)] (Qa0 [⟨2, n, Qan g⟩, ⟨2, m, Qan h⟩, ⟨2, p, Qan u⟩, ⟨2, q, Qan v⟩]) 64 (fun y _ => y = bV (Qbo k1 k2 e1 e2 a b (Qbj a.o b.o (Qey (Qb0 a.o) n g (Qb0 b.o) p u)) (Qfs m h q v))) := by
 refine Eq.mpr (Qyi k1 k2 e1 e2 a b n nc n m mc m p pc p q qc q g h u v _) ?_
 rw [Qd8 g, Qd8 u, Qd8 h, Qd8 v]
 unfold Qbo
 refine Qab (fun e => ?_) fun e => by rw [e]; rfl
 rw [e, Bool.true_and]
 refine Qab (fun e => ?_) fun e => by rw [e]; rfl
 rw [e, Bool.true_and]
 refine Qab (fun e => ?_) fun e => by rw [e]; rfl
 rw [e, Bool.true_and]
 refine Qab (fun e => ?_) fun e => by rw [e]; rfl
 rw [e, Bool.true_and]
 refine Qab (fun e => ?_) fun e => by rw [e]; rfl
 rw [e, Bool.true_and]
 refine Qab (fun e => ?_) fun e => by rw [e]; rfl
 rw [e, Bool.true_and]
 refine ⟨⟨Qav hn kn, Qav hp kp⟩, ?_⟩
 refine Qab (fun e => ?_) fun e => by rw [e]; rfl
 rw [e, Bool.true_and]
 refine ⟨⟨Qav hm km, Qav hq kq⟩, ?_⟩
 refine Qab (fun e => ?_) fun e => by rw [e]; rfl
 rw [e, Bool.true_and]
 refine Qab (fun e => ?_) fun e => by rw [e]; rfl
 rw [e, Bool.true_and]
 rfl
theorem Qs1 : Qcj Try.prog 36 Qqo := Qdg hm Qmz Try.func36 (Λ := fun args bs => Qas) fun args bs p0 x0 hs hp => by
 unfold Qqo at hs
 split at hs <;> try (cases hs; done)
 rename_i x y n' r1 m' r2 p' r3 q' r4
 split at hs <;> try (cases hs; done)
 rename_i k1 e1 a n nc m mc k2 e2 b p pc q qc hx hy
 have hs := Option.some.inj hs
 obtain ⟨rfl, rfl⟩ := Prod.mk.inj hs
 obtain ⟨⟨on, en, ln⟩, ⟨om, em, lm⟩, ⟨op, ep, lp⟩, ⟨oq, eq, lq⟩⟩ := hp _ rfl
 subst en em ep eq
 have on := okAll_rows.1 on
 have om := okAll_rows.1 om
 have op := okAll_rows.1 op
 have oq := okAll_rows.1 oq
 refine ⟨rfl, [⟨2, _, Qan fun i => gi (r1 i)⟩, ⟨2, _, Qan fun i => gi (r2 i)⟩, ⟨2, _, Qan fun i => gi (r3 i)⟩, ⟨2, _, Qan fun i => gi (r4 i)⟩], ⟨⟨rfl, rfl, fun i hi => (Qao (on i hi)).1⟩, ⟨rfl, rfl, fun i hi => (Qao (om i hi)).1⟩, ⟨rfl, rfl, fun i hi => (Qao (op i hi)).1⟩, ⟨rfl, rfl, fun i hi => (Qao (oq i hi)).1⟩, trivial⟩, ?_⟩
 try simp only [hx, hy]
 rw [Qbu hx, Qbu hy]
 exact Q4r k1 k2 e1 e2 a b _ _ _ _ _ _ _ _ _ _ _ _ ln (fun i hi => (Qao (on i hi)).2) lm (fun i hi => (Qao (om i hi)).2) lp (fun i hi => (Qao (op i hi)).2) lq (fun i hi => (Qao (oq i hi)).2)
theorem Q4u (k1 k2 e1 e2 : Int) (a b : RV) (p pc q qc : Nat) (u v : Nat → Int × Int) (hp : p < 1099511627776) (kp : ∀ i, i < p → I64 (u i).1 ∧ I64 (u i).2) (hq : q < 1099511627776) (kq : ∀ i, i < q → I64 (v i).1 ∧ I64 (v i).2) : Qa6 Try.prog Qp3 Qas Try.f36 [reS k1 e1 a Qa8 Qa8, reS k2 e2 b (.sl 0 2 0 p pc) (.sl 1 2 0 q qc)] (Qa0 [⟨2, p, Qan u⟩, ⟨2, q, Qan v⟩]) 64 (fun y _ => y = bV (Qbo k1 k2 e1 e2 a b (Qbj a.o b.o (Qcp (Qb0 a.o) (Qb0 b.o) && Nat.beq p 0)) (Nat.beq q 0))) := by
 refine Eq.mpr (Qyl k1 k2 e1 e2 a b p pc p q qc q u v _) ?_
 unfold Qbo
 refine Qab (fun e => ?_) fun e => by rw [e]; rfl
 rw [e, Bool.true_and]
 refine Qab (fun e => ?_) fun e => by rw [e]; rfl
 rw [e, Bool.true_and]
 refine Qab (fun e => ?_) fun e => by rw [e]; rfl
 rw [e, Bool.true_and]
 refine Qab (fun e => ?_) fun e => by rw [e]; rfl
 rw [e, Bool.true_and]
 refine Qab (fun e => ?_) fun e => by rw [e]; rfl
 rw [e, Bool.true_and]
 refine Qab (fun e => ?_) fun e => by rw [e]; rfl
 rw [e, Bool.true_and]
 refine ⟨Qav hp kp, ?_⟩
 refine Qab (fun e => ?_) fun e => by rw [e]; rfl
 rw [e, Bool.true_and]
 refine ⟨Qav hq kq, ?_⟩
 refine Qab (fun e => ?_) fun e => by rw [e]; rfl
 rw [e, Bool.true_and]
 refine Qab (fun e => ?_) fun e => by rw [e]; rfl
 rw [e, Bool.true_and]
 rfl
theorem Qs4 : Qcj Try.prog 36 Qqr := Qdg hm Qmz Try.func36 (Λ := fun args bs => Qas) fun args bs p0 x0 hs hp => by
 unfold Qqr at hs
 split at hs <;> try (cases hs; done)
 rename_i x y p' r1 q' r2
 split at hs <;> try (cases hs; done)
 rename_i k1 e1 a k2 e2 b p pc q qc hx hy
 have hs := Option.some.inj hs
 obtain ⟨rfl, rfl⟩ := Prod.mk.inj hs
 obtain ⟨⟨op, ep, lp⟩, ⟨oq, eq, lq⟩⟩ := hp _ rfl
 subst ep eq
 have op := okAll_rows.1 op
 have oq := okAll_rows.1 oq
 refine ⟨rfl, [⟨2, _, Qan fun i => gi (r1 i)⟩, ⟨2, _, Qan fun i => gi (r2 i)⟩], ⟨⟨rfl, rfl, fun i hi => (Qao (op i hi)).1⟩, ⟨rfl, rfl, fun i hi => (Qao (oq i hi)).1⟩, trivial⟩, ?_⟩
 try simp only [hx, hy]
 rw [Qbu hx, Qbu hy]
 exact Q4u k1 k2 e1 e2 a b _ _ _ _ _ _ lp (fun i hi => (Qao (op i hi)).2) lq (fun i hi => (Qao (oq i hi)).2)
theorem Q4s (k1 k2 e1 e2 : Int) (a b : RV) (n nc p pc q qc : Nat) (g u v : Nat → Int × Int) (hn : n < 1099511627776) (kn : ∀ i, i < n → I64 (g i).1 ∧ I64 (g i).2) (hp : p < 1099511627776) (kp : ∀ i, i < p → I64 (u i).1 ∧ I64 (u i).2) (hq : q < 1099511627776) (kq : ∀ i, i < q → I64 (v i).1 ∧ I64 (v i).2) : Qa6 Try.prog Qp3 Qas Try.f36 [reS k1 e1 a (.sl 0 2 0 n nc) Qa8, reS k2 e2 b (.sl 1 2 0 p pc) (.sl 2 2 0 q qc)] (Qa0 [⟨2, n, Qan g⟩, ⟨2, p, Qan u⟩, ⟨2, q, Qan v⟩]) 64 (fun y _ => y = bV (Qbo k1 k2 e1 e2 a b (Qbj a.o b.o (Qey (Qb0 a.o) n g (Qb0 b.o) p u)) (Nat.beq q 0))) := by
 refine Eq.mpr (Qyj k1 k2 e1 e2 a b n nc n p pc p q qc q g u v _) ?_
 rw [Qd8 g, Qd8 u]
 unfold Qbo
 refine Qab (fun e => ?_) fun e => by rw [e]; rfl
 rw [e, Bool.true_and]
 refine Qab (fun e => ?_) fun e => by rw [e]; rfl
 rw [e, Bool.true_and]
 refine Qab (fun e => ?_) fun e => by rw [e]; rfl
 rw [e, Bool.true_and]
 refine Qab (fun e => ?_) fun e => by rw [e]; rfl
 rw [e, Bool.true_and]
 refine Qab (fun e => ?_) fun e => by rw [e]; rfl
 rw [e, Bool.true_and]
 refine Qab (fun e => ?_) fun e => by rw [e]; rfl
 rw [e, Bool.true_and]
 refine ⟨⟨Qav hn kn, Qav hp kp⟩, ?_⟩
 refine Qab (fun e => ?_) fun e => by rw [e]; rfl
 rw [e, Bool.true_and]
 refine ⟨Qav hq kq, ?_⟩
 refine Qab (fun e => ?_) fun e => by rw [e]; rfl
 rw [e, Bool.true_and]
 refine Qab (fun e => ?_) fun e => by rw [e]; rfl
 rw [e, Bool.true_and]
 rfl
theorem Qs2 : Qcj Try.prog 36 Qqp := Qdg hm Qmz Try.func36 (Λ := fun args bs => Qas) fun args bs p0 x0 hs hp => by
 unfold Qqp at hs
 split at hs <;> try (cases hs; done)
 rename_i x y n' r1 p' r2 q' r3
 split at hs <;> try (cases hs; done)
 rename_i k1 e1 a n nc k2 e2 b p pc q qc hx hy
 have hs := Option.some.inj hs
 obtain ⟨rfl, rfl⟩ := Prod.mk.inj hs
 obtain ⟨⟨on, en, ln⟩, ⟨op, ep, lp⟩, ⟨oq, eq, lq⟩⟩ := hp _ rfl
 subst en ep eq
 have on := okAll_rows.1 on
 have op := okAll_rows.1 op
 have oq := okAll_rows.1 oq
 refine ⟨rfl, [⟨2, _, Qan fun i => gi (r1 i)⟩, ⟨2, _, Qan fun i => gi (r2 i)⟩, ⟨2, _, Qan fun i => gi (r3 i)⟩], ⟨⟨rfl, rfl, fun i hi => (Qao (on i hi)).1⟩, ⟨rfl, rfl, fun i hi => (Qao (op i hi)).1⟩, ⟨rfl, rfl, fun i hi => (Qao (oq i hi)).1⟩, trivial⟩, ?_⟩
 try simp only [hx, hy]
 rw [Qbu hx, Qbu hy]
 exact Q4s k1 k2 e1 e2 a b _ _ _ _ _ _ _ _ _ ln (fun i hi => (Qao (on i hi)).2) lp (fun i hi => (Qao (op i hi)).2) lq (fun i hi => (Qao (oq i hi)).2)
theorem Q4t (k1 k2 e1 e2 : Int) (a b : RV) (m mc p pc q qc : Nat) (h u v : Nat → Int × Int) (hm : m < 1099511627776) (km : ∀ i, i < m → I64 (h i).1 ∧ I64 (h i).2) (hp : p < 1099511627776) (kp : ∀ i, i < p → I64 (u i).1 ∧ I64 (u i).2) (hq : q < 1099511627776) (kq : ∀ i, i < q → I64 (v i).1 ∧ I64 (v i).2) : Qa6 Try.prog Qp3 Qas Try.f36 [reS k1 e1 a Qa8 (.sl 0 2 0 m mc), reS k2 e2 b (.sl 1 2 0 p pc) (.sl 2 2 0 q qc)] (Qa0 [⟨2, m, Qan h⟩, ⟨2, p, Qan u⟩, ⟨2, q, Qan v⟩]) 64 (fun y _ => y = bV (Qbo k1 k2 e1 e2 a b (Qbj a.o b.o (Qcp (Qb0 a.o) (Qb0 b.o) && Nat.beq p 0)) (Qfs m h q v))) := by
 refine Eq.mpr (Qyk k1 k2 e1 e2 a b m mc m p pc p q qc q h u v _) ?_
 rw [Qd8 h, Qd8 v]
 unfold Qbo
 refine Qab (fun e => ?_) fun e => by rw [e]; rfl
 rw [e, Bool.true_and]
 refine Qab (fun e => ?_) fun e => by rw [e]; rfl
 rw [e, Bool.true_and]
 refine Qab (fun e => ?_) fun e => by rw [e]; rfl
 rw [e, Bool.true_and]
 refine Qab (fun e => ?_) fun e => by rw [e]; rfl
 rw [e, Bool.true_and]
 refine Qab (fun e => ?_) fun e => by rw [e]; rfl
 rw [e, Bool.true_and]
 refine Qab (fun e => ?_) fun e => by rw [e]; rfl
 rw [e, Bool.true_and]
 refine ⟨Qav hp kp, ?_⟩
 refine Qab (fun e => ?_) fun e => by rw [e]; rfl
 rw [e, Bool.true_and]
 refine ⟨⟨Qav hm km, Qav hq kq⟩, ?_⟩
 refine Qab (fun e => ?_) fun e => by rw [e]; rfl
 rw [e, Bool.true_and]
 refine Qab (fun e => ?_) fun e => by rw [e]; rfl
 rw [e, Bool.true_and]
 rfl
theorem Qs3 : Qcj Try.prog 36 Qqq := Qdg hm Qmz Try.func36 (Λ := fun args bs => Qas) fun args bs p0 x0 hs hp => by
 unfold Qqq at hs
 split at hs <;> try (cases hs; done)
 rename_i x y m' r1 p' r2 q' r3
 split at hs <;> try (cases hs; done)
 rename_i k1 e1 a m mc k2 e2 b p pc q qc hx hy
 have hs := Option.some.inj hs
 obtain ⟨rfl, rfl⟩ := Prod.mk.inj hs
 obtain ⟨⟨om, em, lm⟩, ⟨op, ep, lp⟩, ⟨oq, eq, lq⟩⟩ := hp _ rfl
 subst em ep eq
 have om := okAll_rows.1 om
 have op := okAll_rows.1 op
 have oq := okAll_rows.1 oq
 refine ⟨rfl, [⟨2, _, Qan fun i => gi (r1 i)⟩, ⟨2, _, Qan fun i => gi (r2 i)⟩, ⟨2, _, Qan fun i => gi (r3 i)⟩], ⟨⟨rfl, rfl, fun i hi => (Qao (om i hi)).1⟩, ⟨rfl, rfl, fun i hi => (Qao (op i hi)).1⟩, ⟨rfl, rfl, fun i hi => (Qao (oq i hi)).1⟩, trivial⟩, ?_⟩
 try simp only [hx, hy]
 rw [Qbu hx, Qbu hy]
 exact Q4t k1 k2 e1 e2 a b _ _ _ _ _ _ _ _ _ lm (fun i hi => (Qao (om i hi)).2) lp (fun i hi => (Qao (op i hi)).2) lq (fun i hi => (Qao (oq i hi)).2)
theorem Quv : Qcj Try.prog 36 Q6j := Qwu (Qwu Qs1 Qs4) (Qwu Qs2 Qs3)
def Qly (k e : Int) (c : RV) (n m : Nat) (S H : Blk) : Prop := (e = 0 → 1 ≤ k ∧ k ≤ 10) ∧ (I64 k ∧ I64 e) ∧ Qfz c ∧ (Qbg n S ∧ n < 100) ∧ Qbg m H ∧ m < 200
def Qtu (args : List SV) (bs : List Blk) : Option Eff := match args with
 | [.vp 0 0, .agg l] => match Qc2 l with
   | some (k, e, c, .sl 1 2 0 n _, .sl 2 2 0 m _) => match bs with
     | [B, S, H] => match Qmt [B] with
       | some (.fresh (some b)) => bif okB S && okB H then some (apE (.fresh (some b)) 0 (Qly k e c n m S H) (6 + rNK k e n m) (rpL k e c (rTK k e c n (gX S) (gY S) m (gX H) (gY H))) (rpB e c (rBK k e c n m (gX H) (gY H)))) else none
       | _ => none
     | _ => none
   | _ => none
 | _ => none
def Qlj : Qb6 := Qap (Qap (Qap (Qap Qaq 77 (Qca false Qze)) 36 (Qmv Q6j)) 78 (Qca true Qtu)) 71 (Qca true Qr6)
theorem Ze7 (c : RV) (n cap m cp : Nat) (g h : Nat→Int × Int) (R : SV→Prop) : (Qa6 Try.prog Qlj Qas Try.f32 [reS 0 0 c (.sl 0 2 0 n cap) (.sl 1 2 0 m cp)] (Qa0 [⟨2,n,Qan g⟩,⟨2,m,Qan h⟩]) 64 (fun y _ => R y)) = (((Qbg n (Qaz (Ro.blk {s:=2,n:=n,row:=fun i => [yI (Prod.fst (g i)),yI (Prod.snd (g i))]}) 2 0 n))∧(Qbg m (Qaz (Ro.blk {s:=2,n:=m,row:=fun i => [yI (Prod.fst (h i)),yI (Prod.snd (h i))]}) 2 0 m)))∧(((Qam n n fun y => [yI (Prod.fst (g (0 + y))),yI (Prod.snd (g (0 + y)))])∧(Qam m m fun y => [yI (Prod.fst (h (0 + y))),yI (Prod.snd (h (0 + y)))]))∧(sel (!Qbo 0 0 0 0 (uR0 c) c (Qbj (RV.o (uR0 c)) (RV.o c) (Qcp (Qb0 (RV.o (uR0 c))) (Qb0 (RV.o c))&&Nat.beq n 0)) (Nat.beq m 0)) (R (SV.tup [(SV.v (.string ({data:=#[]}))),(yI 4)])) (sel (RV.id c != 0) (R (SV.tup [(SV.v (.string ({data:=#[]}))),(yI 4)])) (R (SV.tup [(SV.v (.string ({data:=#[]}))),(yI 4)])))))):=by kernel_rfl
@[reducible] noncomputable def Qet (n : Nat) (m : Nat) (h : Nat→Int × Int) := (Qaz (Ro.blk {s:=2,n:=m,row:=fun i => [SV.v (.int .i64 (Prod.fst (h i))),SV.v (.int .i64 (Prod.snd (h i)))]}) 2 0 m)
@[reducible] noncomputable def Qh6 (n : Nat) (g : Nat→Int × Int) := (Qaz (Ro.blk {s:=2,n:=n,row:=fun i => [SV.v (.int .i64 (Prod.fst (g i))),SV.v (.int .i64 (Prod.snd (g i)))]}) 2 0 n)
theorem Ze6 (c : RV) (n cap m cp : Nat) (g h : Nat→Int × Int) (R : SV→Prop) : (Qa6 Try.prog Qlj Qas Try.f32 [reS 1 0 c (.sl 0 2 0 n cap) (.sl 1 2 0 m cp)] (Qa0 [⟨2,n,Qan g⟩,⟨2,m,Qan h⟩]) 64 (fun y _ => R y)) =
(((Qbg n (Qh6 n g))∧(Qbg m (Qet n m h)))∧(((Qam n n fun y => [yI (Prod.fst (g (0 + y))),yI (Prod.snd (g (0 + y)))])∧(Qam m m fun y => [yI (Prod.fst (h (0 + y))),yI (Prod.snd (h (0 + y)))]))∧(sel (!Qbo 1 1 0 0 (uR1 c) c (Qbj (RV.o (uR1 c)) (RV.o c) (Qcp (Qb0 (RV.o (uR1 c))) (Qb0 (RV.o c))&&Nat.beq n 0)) (Nat.beq m 0)) (R (SV.tup [(SV.v (.string ({data:=#[]}))),(yI 4)])) ((Qly 1 0 c n m (Qh6 n g) (Qet n m h))∧(∀ c_1 : Nat,((Qaf (6 + rNK 1 0 n m) (6 + rNK 1 0 n m + c_1) {elem:=5,size:=1,rw:=true,lock:=false,lit:=false,flat:=true,n:=6 + rNK 1 0 n m,row:=fun i => [yU ((fun i => List.getD (rpL 1 0 c (rTK 1 0 c n (gX (Qh6 n g)) (gY (Qh6 n g)) m (gX (Qet n m h)) (gY (Qet n m h)))) i 0) i)],ext:=6 + rNK 1 0 n m + c_1})∧(R (SV.tup [(SV.v (.string (bif false||rpB 0 c (rBK 1 0 c n m (gX (Qet n m h)) (gY (Qet n m h))) then emp else Qcd (6 + rNK 1 0 n m) fun i => [yU (SE.Qad [yU ((fun i => List.getD (rpL 1 0 c (rTK 1 0 c n (gX (Qh6 n g)) (gY (Qh6 n g)) m (gX (Qet n m h)) (gY (Qet n m h)))) i 0) i)])]))),(yI (bif false||rpB 0 c (rBK 1 0 c n m (gX (Qet n m h)) (gY (Qet n m h))) then 3 else 0))])))))))) := by kernel_rfl
@[reducible] noncomputable def Qes (n : Nat) (m : Nat) (h : Nat→Int × Int) := (Qaz (Ro.blk {s:=2,n:=m,row:=fun i => [SV.v (.int .i64 (Prod.fst (h i))),SV.v (.int .i64 (Prod.snd (h i)))]}) 2 0 m)
@[reducible] noncomputable def Qh5 (n : Nat) (g : Nat→Int × Int) := (Qaz (Ro.blk {s:=2,n:=n,row:=fun i => [SV.v (.int .i64 (Prod.fst (g i))),SV.v (.int .i64 (Prod.snd (g i)))]}) 2 0 n)
theorem Ze5 (c : RV) (n cap m cp : Nat) (g h : Nat→Int × Int) (R : SV→Prop) : (Qa6 Try.prog Qlj Qas Try.f32 [reS 2 0 c (.sl 0 2 0 n cap) (.sl 1 2 0 m cp)] (Qa0 [⟨2,n,Qan g⟩,⟨2,m,Qan h⟩]) 64 (fun y _ => R y)) =
(((Qbg n (Qh5 n g))∧(Qbg m (Qes n m h)))∧(((Qam n n fun y => [yI (Prod.fst (g (0 + y))),yI (Prod.snd (g (0 + y)))])∧(Qam m m fun y => [yI (Prod.fst (h (0 + y))),yI (Prod.snd (h (0 + y)))]))∧(sel (!Qbo 2 2 0 0 (uR2 c) c (Qbj (RV.o (uR2 c)) (RV.o c) (Qcp (Qb0 (RV.o (uR2 c))) (Qb0 (RV.o c))&&Nat.beq n 0)) (Nat.beq m 0)) (R (SV.tup [(SV.v (.string ({data:=#[]}))),(yI 4)])) ((Qly 2 0 c n m (Qh5 n g) (Qes n m h))∧(∀ c_1 : Nat,((Qaf (6 + rNK 2 0 n m) (6 + rNK 2 0 n m + c_1) {elem:=5,size:=1,rw:=true,lock:=false,lit:=false,flat:=true,n:=6 + rNK 2 0 n m,row:=fun i => [yU ((fun i => List.getD (rpL 2 0 c (rTK 2 0 c n (gX (Qh5 n g)) (gY (Qh5 n g)) m (gX (Qes n m h)) (gY (Qes n m h)))) i 0) i)],ext:=6 + rNK 2 0 n m + c_1})∧(R (SV.tup [(SV.v (.string (bif false||rpB 0 c (rBK 2 0 c n m (gX (Qes n m h)) (gY (Qes n m h))) then emp else Qcd (6 + rNK 2 0 n m) fun i => [yU (SE.Qad [yU ((fun i => List.getD (rpL 2 0 c (rTK 2 0 c n (gX (Qh5 n g)) (gY (Qh5 n g)) m (gX (Qes n m h)) (gY (Qes n m h)))) i 0) i)])]))),(yI (bif false||rpB 0 c (rBK 2 0 c n m (gX (Qes n m h)) (gY (Qes n m h))) then 3 else 0))])))))))) := by kernel_rfl
@[reducible] noncomputable def Qer (n : Nat) (m : Nat) (h : Nat→Int × Int) := (Qaz (Ro.blk {s:=2,n:=m,row:=fun i => [SV.v (.int .i64 (Prod.fst (h i))),SV.v (.int .i64 (Prod.snd (h i)))]}) 2 0 m)
@[reducible] noncomputable def Qh4 (n : Nat) (g : Nat→Int × Int) := (Qaz (Ro.blk {s:=2,n:=n,row:=fun i => [SV.v (.int .i64 (Prod.fst (g i))),SV.v (.int .i64 (Prod.snd (g i)))]}) 2 0 n)
theorem Ze4 (c : RV) (n cap m cp : Nat) (g h : Nat→Int × Int) (R : SV→Prop) : (Qa6 Try.prog Qlj Qas Try.f32 [reS 3 0 c (.sl 0 2 0 n cap) (.sl 1 2 0 m cp)] (Qa0 [⟨2,n,Qan g⟩,⟨2,m,Qan h⟩]) 64 (fun y _ => R y)) =
(((Qbg n (Qh4 n g))∧(Qbg m (Qer n m h)))∧(((Qam n n fun y => [yI (Prod.fst (g (0 + y))),yI (Prod.snd (g (0 + y)))])∧(Qam m m fun y => [yI (Prod.fst (h (0 + y))),yI (Prod.snd (h (0 + y)))]))∧(sel (!Qbo 3 3 0 0 (uR3 c) c (Qbj (RV.o (uR3 c)) (RV.o c) (Qcp (Qb0 (RV.o (uR3 c))) (Qb0 (RV.o c))&&Nat.beq n 0)) (Nat.beq m 0)) (R (SV.tup [(SV.v (.string ({data:=#[]}))),(yI 4)])) ((Qly 3 0 c n m (Qh4 n g) (Qer n m h))∧(∀ c_1 : Nat,((Qaf (6 + rNK 3 0 n m) (6 + rNK 3 0 n m + c_1) {elem:=5,size:=1,rw:=true,lock:=false,lit:=false,flat:=true,n:=6 + rNK 3 0 n m,row:=fun i => [yU ((fun i => List.getD (rpL 3 0 c (rTK 3 0 c n (gX (Qh4 n g)) (gY (Qh4 n g)) m (gX (Qer n m h)) (gY (Qer n m h)))) i 0) i)],ext:=6 + rNK 3 0 n m + c_1})∧(R (SV.tup [(SV.v (.string (bif false||rpB 0 c (rBK 3 0 c n m (gX (Qer n m h)) (gY (Qer n m h))) then emp else Qcd (6 + rNK 3 0 n m) fun i => [yU (SE.Qad [yU ((fun i => List.getD (rpL 3 0 c (rTK 3 0 c n (gX (Qh4 n g)) (gY (Qh4 n g)) m (gX (Qer n m h)) (gY (Qer n m h)))) i 0) i)])]))),(yI (bif false||rpB 0 c (rBK 3 0 c n m (gX (Qer n m h)) (gY (Qer n m h))) then 3 else 0))])))))))) := by kernel_rfl
@[reducible] noncomputable def Qeq (n : Nat) (m : Nat) (h : Nat→Int × Int) := (Qaz (Ro.blk {s:=2,n:=m,row:=fun i => [SV.v (.int .i64 (Prod.fst (h i))),SV.v (.int .i64 (Prod.snd (h i)))]}) 2 0 m)
@[reducible] noncomputable def Qh3 (n : Nat) (g : Nat→Int × Int) := (Qaz (Ro.blk {s:=2,n:=n,row:=fun i => [SV.v (.int .i64 (Prod.fst (g i))),SV.v (.int .i64 (Prod.snd (g i)))]}) 2 0 n)
theorem Ze3 (c : RV) (n cap m cp : Nat) (g h : Nat→Int × Int) (R : SV→Prop) : (Qa6 Try.prog Qlj Qas Try.f32 [reS 4 0 c (.sl 0 2 0 n cap) (.sl 1 2 0 m cp)] (Qa0 [⟨2,n,Qan g⟩,⟨2,m,Qan h⟩]) 64 (fun y _ => R y)) =
(((Qbg n (Qh3 n g))∧(Qbg m (Qeq n m h)))∧(((Qam n n fun y => [yI (Prod.fst (g (0 + y))),yI (Prod.snd (g (0 + y)))])∧(Qam m m fun y => [yI (Prod.fst (h (0 + y))),yI (Prod.snd (h (0 + y)))]))∧(sel (!Qbo 4 4 0 0 (uR4 c) c (Qbj (RV.o (uR4 c)) (RV.o c) (Qcp (Qb0 (RV.o (uR4 c))) (Qb0 (RV.o c))&&Nat.beq n 0)) (Nat.beq m 0)) (R (SV.tup [(SV.v (.string ({data:=#[]}))),(yI 4)])) ((Qly 4 0 c n m (Qh3 n g) (Qeq n m h))∧(∀ c_1 : Nat,((Qaf (6 + rNK 4 0 n m) (6 + rNK 4 0 n m + c_1) {elem:=5,size:=1,rw:=true,lock:=false,lit:=false,flat:=true,n:=6 + rNK 4 0 n m,row:=fun i => [yU ((fun i => List.getD (rpL 4 0 c (rTK 4 0 c n (gX (Qh3 n g)) (gY (Qh3 n g)) m (gX (Qeq n m h)) (gY (Qeq n m h)))) i 0) i)],ext:=6 + rNK 4 0 n m + c_1})∧(R (SV.tup [(SV.v (.string (bif false||rpB 0 c (rBK 4 0 c n m (gX (Qeq n m h)) (gY (Qeq n m h))) then emp else Qcd (6 + rNK 4 0 n m) fun i => [yU (SE.Qad [yU ((fun i => List.getD (rpL 4 0 c (rTK 4 0 c n (gX (Qh3 n g)) (gY (Qh3 n g)) m (gX (Qeq n m h)) (gY (Qeq n m h)))) i 0) i)])]))),(yI (bif false||rpB 0 c (rBK 4 0 c n m (gX (Qeq n m h)) (gY (Qeq n m h))) then 3 else 0))])))))))) := by kernel_rfl
@[reducible] noncomputable def Qep (n : Nat) (m : Nat) (h : Nat→Int × Int) := (Qaz (Ro.blk {s:=2,n:=m,row:=fun i => [SV.v (.int .i64 (Prod.fst (h i))),SV.v (.int .i64 (Prod.snd (h i)))]}) 2 0 m)
@[reducible] noncomputable def Qh2 (n : Nat) (g : Nat→Int × Int) := (Qaz (Ro.blk {s:=2,n:=n,row:=fun i => [SV.v (.int .i64 (Prod.fst (g i))),SV.v (.int .i64 (Prod.snd (g i)))]}) 2 0 n)
theorem Ze2 (c : RV) (n cap m cp : Nat) (g h : Nat→Int × Int) (R : SV→Prop) : (Qa6 Try.prog Qlj Qas Try.f32 [reS 5 0 c (.sl 0 2 0 n cap) (.sl 1 2 0 m cp)] (Qa0 [⟨2,n,Qan g⟩,⟨2,m,Qan h⟩]) 64 (fun y _ => R y)) =
(((Qbg n (Qh2 n g))∧(Qbg m (Qep n m h)))∧(((Qam n n fun y => [yI (Prod.fst (g (0 + y))),yI (Prod.snd (g (0 + y)))])∧(Qam m m fun y => [yI (Prod.fst (h (0 + y))),yI (Prod.snd (h (0 + y)))]))∧(sel (!Qbo 5 5 0 0 (uR5 c) c (Qbj (RV.o (uR5 c)) (RV.o c) (Qcp (Qb0 (RV.o (uR5 c))) (Qb0 (RV.o c))&&Nat.beq n 0)) (Nat.beq m 0)) (R (SV.tup [(SV.v (.string ({data:=#[]}))),(yI 4)])) ((Qly 5 0 c n m (Qh2 n g) (Qep n m h))∧(∀ c_1 : Nat,((Qaf (6 + rNK 5 0 n m) (6 + rNK 5 0 n m + c_1) {elem:=5,size:=1,rw:=true,lock:=false,lit:=false,flat:=true,n:=6 + rNK 5 0 n m,row:=fun i => [yU ((fun i => List.getD (rpL 5 0 c (rTK 5 0 c n (gX (Qh2 n g)) (gY (Qh2 n g)) m (gX (Qep n m h)) (gY (Qep n m h)))) i 0) i)],ext:=6 + rNK 5 0 n m + c_1})∧(R (SV.tup [(SV.v (.string (bif false||rpB 0 c (rBK 5 0 c n m (gX (Qep n m h)) (gY (Qep n m h))) then emp else Qcd (6 + rNK 5 0 n m) fun i => [yU (SE.Qad [yU ((fun i => List.getD (rpL 5 0 c (rTK 5 0 c n (gX (Qh2 n g)) (gY (Qh2 n g)) m (gX (Qep n m h)) (gY (Qep n m h)))) i 0) i)])]))),(yI (bif false||rpB 0 c (rBK 5 0 c n m (gX (Qep n m h)) (gY (Qep n m h))) then 3 else 0))])))))))) := by kernel_rfl
@[reducible] noncomputable def Qeo (n : Nat) (m : Nat) (h : Nat→Int × Int) := (Qaz (Ro.blk {s:=2,n:=m,row:=fun i => [SV.v (.int .i64 (Prod.fst (h i))),SV.v (.int .i64 (Prod.snd (h i)))]}) 2 0 m)
@[reducible] noncomputable def Qh1 (n : Nat) (g : Nat→Int × Int) := (Qaz (Ro.blk {s:=2,n:=n,row:=fun i => [SV.v (.int .i64 (Prod.fst (g i))),SV.v (.int .i64 (Prod.snd (g i)))]}) 2 0 n)
theorem Ze1 (c : RV) (n cap m cp : Nat) (g h : Nat→Int × Int) (R : SV→Prop) : (Qa6 Try.prog Qlj Qas Try.f32 [reS 6 0 c (.sl 0 2 0 n cap) (.sl 1 2 0 m cp)] (Qa0 [⟨2,n,Qan g⟩,⟨2,m,Qan h⟩]) 64 (fun y _ => R y)) =
(((Qbg n (Qh1 n g))∧(Qbg m (Qeo n m h)))∧(((Qam n n fun y => [yI (Prod.fst (g (0 + y))),yI (Prod.snd (g (0 + y)))])∧(Qam m m fun y => [yI (Prod.fst (h (0 + y))),yI (Prod.snd (h (0 + y)))]))∧(sel (!Qbo 6 6 0 0 (uR6 c) c (Qbj (RV.o (uR6 c)) (RV.o c) (Qcp (Qb0 (RV.o (uR6 c))) (Qb0 (RV.o c))&&Nat.beq n 0)) (Nat.beq m 0)) (R (SV.tup [(SV.v (.string ({data:=#[]}))),(yI 4)])) ((Qly 6 0 c n m (Qh1 n g) (Qeo n m h))∧(∀ c_1 : Nat,((Qaf (6 + rNK 6 0 n m) (6 + rNK 6 0 n m + c_1) {elem:=5,size:=1,rw:=true,lock:=false,lit:=false,flat:=true,n:=6 + rNK 6 0 n m,row:=fun i => [yU ((fun i => List.getD (rpL 6 0 c (rTK 6 0 c n (gX (Qh1 n g)) (gY (Qh1 n g)) m (gX (Qeo n m h)) (gY (Qeo n m h)))) i 0) i)],ext:=6 + rNK 6 0 n m + c_1})∧(R (SV.tup [(SV.v (.string (bif false||rpB 0 c (rBK 6 0 c n m (gX (Qeo n m h)) (gY (Qeo n m h))) then emp else Qcd (6 + rNK 6 0 n m) fun i => [yU (SE.Qad [yU ((fun i => List.getD (rpL 6 0 c (rTK 6 0 c n (gX (Qh1 n g)) (gY (Qh1 n g)) m (gX (Qeo n m h)) (gY (Qeo n m h)))) i 0) i)])]))),(yI (bif false||rpB 0 c (rBK 6 0 c n m (gX (Qeo n m h)) (gY (Qeo n m h))) then 3 else 0))])))))))) := by kernel_rfl
@[reducible] noncomputable def Qen (n : Nat) (m : Nat) (h : Nat→Int × Int) := (Qaz (Ro.blk {s:=2,n:=m,row:=fun i => [SV.v (.int .i64 (Prod.fst (h i))),SV.v (.int .i64 (Prod.snd (h i)))]}) 2 0 m)
@[reducible] noncomputable def Qh0 (n : Nat) (g : Nat→Int × Int) := (Qaz (Ro.blk {s:=2,n:=n,row:=fun i => [SV.v (.int .i64 (Prod.fst (g i))),SV.v (.int .i64 (Prod.snd (g i)))]}) 2 0 n)
theorem Ze0 (c : RV) (n cap m cp : Nat) (g h : Nat→Int × Int) (R : SV→Prop) : (Qa6 Try.prog Qlj Qas Try.f32 [reS 7 0 c (.sl 0 2 0 n cap) (.sl 1 2 0 m cp)] (Qa0 [⟨2,n,Qan g⟩,⟨2,m,Qan h⟩]) 64 (fun y _ => R y)) =
(((Qbg n (Qh0 n g))∧(Qbg m (Qen n m h)))∧(((Qam n n fun y => [yI (Prod.fst (g (0 + y))),yI (Prod.snd (g (0 + y)))])∧((Qam n n fun y => [yI (Prod.fst (g (0 + y))),yI (Prod.snd (g (0 + y)))])∧(Qam m m fun y => [yI (Prod.fst (h (0 + y))),yI (Prod.snd (h (0 + y)))])))∧(sel (!Qbo 7 7 0 0 (uR7 c) c (Qbj (RV.o (uR7 c)) (RV.o c) (Qey (Qb0 (RV.o (uR7 c))) n (fun i => gi [yI (Prod.fst (g (0 + i))),yI (Prod.snd (g (0 + i)))]) (Qb0 (RV.o c)) n fun i => gi [yI (Prod.fst (g (0 + i))),yI (Prod.snd (g (0 + i)))])) (Nat.beq m 0)) (R (SV.tup [(SV.v (.string ({data:=#[]}))),(yI 4)])) ((Qly 7 0 c n m (Qh0 n g) (Qen n m h))∧(∀ c_1 : Nat,((Qaf (6 + rNK 7 0 n m) (6 + rNK 7 0 n m + c_1) {elem:=5,size:=1,rw:=true,lock:=false,lit:=false,flat:=true,n:=6 + rNK 7 0 n m,row:=fun i => [yU ((fun i => List.getD (rpL 7 0 c (rTK 7 0 c n (gX (Qh0 n g)) (gY (Qh0 n g)) m (gX (Qen n m h)) (gY (Qen n m h)))) i 0) i)],ext:=6 + rNK 7 0 n m + c_1})∧(R (SV.tup [(SV.v (.string (bif false||rpB 0 c (rBK 7 0 c n m (gX (Qen n m h)) (gY (Qen n m h))) then emp else Qcd (6 + rNK 7 0 n m) fun i => [yU (SE.Qad [yU ((fun i => List.getD (rpL 7 0 c (rTK 7 0 c n (gX (Qh0 n g)) (gY (Qh0 n g)) m (gX (Qen n m h)) (gY (Qen n m h)))) i 0) i)])]))),(yI (bif false||rpB 0 c (rBK 7 0 c n m (gX (Qen n m h)) (gY (Qen n m h))) then 3 else 0))])))))))) := by kernel_rfl
@[reducible] noncomputable def Qem (n : Nat) (m : Nat) (h : Nat→Int × Int) := (Qaz (Ro.blk {s:=2,n:=m,row:=fun i => [SV.v (.int .i64 (Prod.fst (h i))),SV.v (.int .i64 (Prod.snd (h i)))]}) 2 0 m)
@[reducible] noncomputable def Qhz (n : Nat) (g : Nat→Int × Int) := (Qaz (Ro.blk {s:=2,n:=n,row:=fun i => [SV.v (.int .i64 (Prod.fst (g i))),SV.v (.int .i64 (Prod.snd (g i)))]}) 2 0 n)
theorem Zez (c : RV) (n cap m cp : Nat) (g h : Nat→Int × Int) (R : SV→Prop) : (Qa6 Try.prog Qlj Qas Try.f32 [reS 8 0 c (.sl 0 2 0 n cap) (.sl 1 2 0 m cp)] (Qa0 [⟨2,n,Qan g⟩,⟨2,m,Qan h⟩]) 64 (fun y _ => R y)) =
(((Qbg n (Qhz n g))∧(Qbg m (Qem n m h)))∧(((Qam m m fun y => [yI (Prod.fst (h (0 + y))),yI (Prod.snd (h (0 + y)))])∧((Qam n n fun y => [yI (Prod.fst (g (0 + y))),yI (Prod.snd (g (0 + y)))])∧(Qam m m fun y => [yI (Prod.fst (h (0 + y))),yI (Prod.snd (h (0 + y)))])))∧(sel (!Qbo 8 8 0 0 (uR8 c) c (Qbj (RV.o (uR8 c)) (RV.o c) (Qcp (Qb0 (RV.o (uR8 c))) (Qb0 (RV.o c))&&Nat.beq n 0)) (Qfs m (fun i => gi [yI (Prod.fst (h (0 + i))),yI (Prod.snd (h (0 + i)))]) m fun i => gi [yI (Prod.fst (h (0 + i))),yI (Prod.snd (h (0 + i)))])) (R (SV.tup [(SV.v (.string ({data:=#[]}))),(yI 4)])) ((Qly 8 0 c n m (Qhz n g) (Qem n m h))∧(∀ c_1 : Nat,((Qaf (6 + rNK 8 0 n m) (6 + rNK 8 0 n m + c_1) {elem:=5,size:=1,rw:=true,lock:=false,lit:=false,flat:=true,n:=6 + rNK 8 0 n m,row:=fun i => [yU ((fun i => List.getD (rpL 8 0 c (rTK 8 0 c n (gX (Qhz n g)) (gY (Qhz n g)) m (gX (Qem n m h)) (gY (Qem n m h)))) i 0) i)],ext:=6 + rNK 8 0 n m + c_1})∧(R (SV.tup [(SV.v (.string (bif false||rpB 0 c (rBK 8 0 c n m (gX (Qem n m h)) (gY (Qem n m h))) then emp else Qcd (6 + rNK 8 0 n m) fun i => [yU (SE.Qad [yU ((fun i => List.getD (rpL 8 0 c (rTK 8 0 c n (gX (Qhz n g)) (gY (Qhz n g)) m (gX (Qem n m h)) (gY (Qem n m h)))) i 0) i)])]))),(yI (bif false||rpB 0 c (rBK 8 0 c n m (gX (Qem n m h)) (gY (Qem n m h))) then 3 else 0))])))))))) := by kernel_rfl
@[reducible] noncomputable def Qel (n : Nat) (m : Nat) (h : Nat→Int × Int) := (Qaz (Ro.blk {s:=2,n:=m,row:=fun i => [SV.v (.int .i64 (Prod.fst (h i))),SV.v (.int .i64 (Prod.snd (h i)))]}) 2 0 m)
@[reducible] noncomputable def Qhy (n : Nat) (g : Nat→Int × Int) := (Qaz (Ro.blk {s:=2,n:=n,row:=fun i => [SV.v (.int .i64 (Prod.fst (g i))),SV.v (.int .i64 (Prod.snd (g i)))]}) 2 0 n)
theorem Zey (c : RV) (n cap m cp : Nat) (g h : Nat→Int × Int) (R : SV→Prop) : (Qa6 Try.prog Qlj Qas Try.f32 [reS 9 0 c (.sl 0 2 0 n cap) (.sl 1 2 0 m cp)] (Qa0 [⟨2,n,Qan g⟩,⟨2,m,Qan h⟩]) 64 (fun y _ => R y)) =
(((Qbg n (Qhy n g))∧(Qbg m (Qel n m h)))∧(((Qam n n fun y => [yI (Prod.fst (g (0 + y))),yI (Prod.snd (g (0 + y)))])∧(Qam m m fun y => [yI (Prod.fst (h (0 + y))),yI (Prod.snd (h (0 + y)))]))∧(sel (!Qbo 9 9 0 0 (uR9 c) c (Qbj (RV.o (uR9 c)) (RV.o c) (Qcp (Qb0 (RV.o (uR9 c))) (Qb0 (RV.o c))&&Nat.beq n 0)) (Nat.beq m 0)) (R (SV.tup [(SV.v (.string ({data:=#[]}))),(yI 4)])) ((Qly 9 0 c n m (Qhy n g) (Qel n m h))∧(∀ c_1 : Nat,((Qaf (6 + rNK 9 0 n m) (6 + rNK 9 0 n m + c_1) {elem:=5,size:=1,rw:=true,lock:=false,lit:=false,flat:=true,n:=6 + rNK 9 0 n m,row:=fun i => [yU ((fun i => List.getD (rpL 9 0 c (rTK 9 0 c n (gX (Qhy n g)) (gY (Qhy n g)) m (gX (Qel n m h)) (gY (Qel n m h)))) i 0) i)],ext:=6 + rNK 9 0 n m + c_1})∧(R (SV.tup [(SV.v (.string (bif false||rpB 0 c (rBK 9 0 c n m (gX (Qel n m h)) (gY (Qel n m h))) then emp else Qcd (6 + rNK 9 0 n m) fun i => [yU (SE.Qad [yU ((fun i => List.getD (rpL 9 0 c (rTK 9 0 c n (gX (Qhy n g)) (gY (Qhy n g)) m (gX (Qel n m h)) (gY (Qel n m h)))) i 0) i)])]))),(yI (bif false||rpB 0 c (rBK 9 0 c n m (gX (Qel n m h)) (gY (Qel n m h))) then 3 else 0))])))))))) := by kernel_rfl
@[reducible] noncomputable def Qdj (n : Nat) (m : Nat) (h : Nat→Int × Int) := (Qaz (Ro.blk {s:=2,n:=m,row:=fun i => [SV.v (.int .i64 (Prod.fst (h i))),SV.v (.int .i64 (Prod.snd (h i)))]}) 2 0 m)
@[reducible] noncomputable def Qgo (n : Nat) (g : Nat→Int × Int) := (Qaz (Ro.blk {s:=2,n:=n,row:=fun i => [SV.v (.int .i64 (Prod.fst (g i))),SV.v (.int .i64 (Prod.snd (g i)))]}) 2 0 n)
theorem Q8z (c : RV) (n cap m cp : Nat) (g h : Nat→Int × Int) (R : SV→Prop) : (Qa6 Try.prog Qlj Qas Try.f32 [reS 10 0 c (.sl 0 2 0 n cap) (.sl 1 2 0 m cp)] (Qa0 [⟨2,n,Qan g⟩,⟨2,m,Qan h⟩]) 64 (fun y _ => R y)) =
(((Qbg n (Qgo n g))∧(Qbg m (Qdj n m h)))∧(((Qam n n fun y => [yI (Prod.fst (g (0 + y))),yI (Prod.snd (g (0 + y)))])∧(Qam m m fun y => [yI (Prod.fst (h (0 + y))),yI (Prod.snd (h (0 + y)))]))∧(sel (!Qbo 10 10 0 0 (Qx3 c) c (Qbj (RV.o (Qx3 c)) (RV.o c) (Qcp (Qb0 (RV.o (Qx3 c))) (Qb0 (RV.o c))&&Nat.beq n 0)) (Nat.beq m 0)) (R (SV.tup [(SV.v (.string ({data:=#[]}))),(yI 4)])) ((Qly 10 0 c n m (Qgo n g) (Qdj n m h))∧(∀ c_1 : Nat,((Qaf (6 + rNK 10 0 n m) (6 + rNK 10 0 n m + c_1) {elem:=5,size:=1,rw:=true,lock:=false,lit:=false,flat:=true,n:=6 + rNK 10 0 n m,row:=fun i => [yU ((fun i => List.getD (rpL 10 0 c (rTK 10 0 c n (gX (Qgo n g)) (gY (Qgo n g)) m (gX (Qdj n m h)) (gY (Qdj n m h)))) i 0) i)],ext:=6 + rNK 10 0 n m + c_1})∧(R (SV.tup [(SV.v (.string (bif false||rpB 0 c (rBK 10 0 c n m (gX (Qdj n m h)) (gY (Qdj n m h))) then emp else Qcd (6 + rNK 10 0 n m) fun i => [yU (SE.Qad [yU ((fun i => List.getD (rpL 10 0 c (rTK 10 0 c n (gX (Qgo n g)) (gY (Qgo n g)) m (gX (Qdj n m h)) (gY (Qdj n m h)))) i 0) i)])]))),(yI (bif false||rpB 0 c (rBK 10 0 c n m (gX (Qdj n m h)) (gY (Qdj n m h))) then 3 else 0))])))))))) := by kernel_rfl
@[reducible] noncomputable def Qp5 (k : Int) (a : Nat) (c : RV) (n : Nat) (m : Nat) (g : Nat→Int × Int) (h : Nat→Int × Int) (R : SV→Prop) := ((Qly k (Int.ofNat (a + 1)) c n m (Qaz (Ro.blk {s:=2,n:=n,row:=fun i => [SV.v (.int .i64 (Prod.fst (g i))),SV.v (.int .i64 (Prod.snd (g i)))]}) 2 0 n) (Qaz (Ro.blk {s:=2,n:=m,row:=fun i => [SV.v (.int .i64 (Prod.fst (h i))),SV.v (.int .i64 (Prod.snd (h i)))]}) 2 0 m))∧(∀ c_1 : Nat,((Qaf (6 + rNK k (Int.ofNat (a + 1)) n m) (6 + rNK k (Int.ofNat (a + 1)) n m + c_1) {elem:=5,size:=1,rw:=true,lock:=false,lit:=false,flat:=true,n:=6 + rNK k (Int.ofNat (a + 1)) n m,row:=fun i => [SV.v (.int .u8 ((fun i => List.getD (rpL k (Int.ofNat (a + 1)) c (rTK k (Int.ofNat (a + 1)) c n (gX (Qaz (Ro.blk {s:=2,n:=n,row:=fun i => [SV.v (.int .i64 (Prod.fst (g i))),SV.v (.int .i64 (Prod.snd (g i)))]}) 2 0 n)) (gY (Qaz (Ro.blk {s:=2,n:=n,row:=fun i => [SV.v (.int .i64 (Prod.fst (g i))),SV.v (.int .i64 (Prod.snd (g i)))]}) 2 0 n)) m (gX (Qaz (Ro.blk {s:=2,n:=m,row:=fun i => [SV.v (.int .i64 (Prod.fst (h i))),SV.v (.int .i64 (Prod.snd (h i)))]}) 2 0 m)) (gY (Qaz (Ro.blk {s:=2,n:=m,row:=fun i => [SV.v (.int .i64 (Prod.fst (h i))),SV.v (.int .i64 (Prod.snd (h i)))]}) 2 0 m)))) i 0) i))],ext:=6 + rNK k (Int.ofNat (a + 1)) n m + c_1})∧(R (SV.tup [(SV.v (.string (bif false||rpB (Int.ofNat (a + 1)) c (rBK k (Int.ofNat (a + 1)) c n m (gX (Qaz (Ro.blk {s:=2,n:=m,row:=fun i => [SV.v (.int .i64 (Prod.fst (h i))),SV.v (.int .i64 (Prod.snd (h i)))]}) 2 0 m)) (gY (Qaz (Ro.blk {s:=2,n:=m,row:=fun i => [SV.v (.int .i64 (Prod.fst (h i))),SV.v (.int .i64 (Prod.snd (h i)))]}) 2 0 m))) then emp else Qcd (6 + rNK k (Int.ofNat (a + 1)) n m) fun i => [SV.v (.int .u8 (SE.Qad [SV.v (.int .u8 ((fun i => List.getD (rpL k (Int.ofNat (a + 1)) c (rTK k (Int.ofNat (a + 1)) c n (gX (Qaz (Ro.blk {s:=2,n:=n,row:=fun i => [SV.v (.int .i64 (Prod.fst (g i))),SV.v (.int .i64 (Prod.snd (g i)))]}) 2 0 n)) (gY (Qaz (Ro.blk {s:=2,n:=n,row:=fun i => [SV.v (.int .i64 (Prod.fst (g i))),SV.v (.int .i64 (Prod.snd (g i)))]}) 2 0 n)) m (gX (Qaz (Ro.blk {s:=2,n:=m,row:=fun i => [SV.v (.int .i64 (Prod.fst (h i))),SV.v (.int .i64 (Prod.snd (h i)))]}) 2 0 m)) (gY (Qaz (Ro.blk {s:=2,n:=m,row:=fun i => [SV.v (.int .i64 (Prod.fst (h i))),SV.v (.int .i64 (Prod.snd (h i)))]}) 2 0 m)))) i 0) i))]))]))),(SV.v (.int .i64 (bif false||rpB (Int.ofNat (a + 1)) c (rBK k (Int.ofNat (a + 1)) c n m (gX (Qaz (Ro.blk {s:=2,n:=m,row:=fun i => [SV.v (.int .i64 (Prod.fst (h i))),SV.v (.int .i64 (Prod.snd (h i)))]}) 2 0 m)) (gY (Qaz (Ro.blk {s:=2,n:=m,row:=fun i => [SV.v (.int .i64 (Prod.fst (h i))),SV.v (.int .i64 (Prod.snd (h i)))]}) 2 0 m))) then 3 else 0)))])))))
theorem Zev (k : Int) (a : Nat) (c : RV) (n cap m cp : Nat) (g h : Nat→Int × Int) (R : SV→Prop) : (Qa6 Try.prog Qlj Qas Try.f32 [reS k (Int.ofNat (a + 1)) c (.sl 0 2 0 n cap) (.sl 1 2 0 m cp)] (Qa0 [⟨2,n,Qan g⟩,⟨2,m,Qan h⟩]) 64 (fun y _ => R y)) =
(sel (decide (k < 0)) (R (SV.tup [(SV.v (.string ({data:=#[]}))),(yI 8)])) (sel (decide (k > 10)) (R (SV.tup [(SV.v (.string ({data:=#[]}))),(yI 8)])) (((Qbg n (Qaz (Ro.blk {s:=2,n:=n,row:=fun i => [yI (Prod.fst (g i)),yI (Prod.snd (g i))]}) 2 0 n))∧(Qbg m (Qaz (Ro.blk {s:=2,n:=m,row:=fun i => [yI (Prod.fst (h i)),yI (Prod.snd (h i))]}) 2 0 m)))∧(((Qam n n fun y => [yI (Prod.fst (g (0 + y))),yI (Prod.snd (g (0 + y)))])∧(Qam m m fun y => [yI (Prod.fst (h (0 + y))),yI (Prod.snd (h (0 + y)))]))∧(sel (!Qbo k k (Int.ofNat (a + 1)) (Int.ofNat (a + 1)) (uRN (Int.ofNat (a + 1)) c) c (Qbj (RV.o (uRN (Int.ofNat (a + 1)) c)) (RV.o c) (Qcp (Qb0 (RV.o (uRN (Int.ofNat (a + 1)) c))) (Qb0 (RV.o c))&&Nat.beq n 0)) (Nat.beq m 0)) (R (SV.tup [(SV.v (.string ({data:=#[]}))),(yI 4)])) (sel (k == 0) (sel (RV.id c != 0) (R (SV.tup [(SV.v (.string ({data:=#[]}))),(yI 4)])) (sel (Int.ofNat (a + 1) == 14) (R (SV.tup [(SV.v (.string ({data:=#[]}))),(yI 4)])) (Qp5 k a c n m g h R))) (Qp5 k a c n m g h R))))))) := by kernel_rfl
@[reducible] noncomputable def Qp6 (k : Int) (a : Nat) (c : RV) (n : Nat) (m : Nat) (g : Nat→Int × Int) (h : Nat→Int × Int) (R : SV→Prop) := ((Qly k (Int.negSucc a) c n m (Qaz (Ro.blk {s:=2,n:=n,row:=fun i => [SV.v (.int .i64 (Prod.fst (g i))),SV.v (.int .i64 (Prod.snd (g i)))]}) 2 0 n) (Qaz (Ro.blk {s:=2,n:=m,row:=fun i => [SV.v (.int .i64 (Prod.fst (h i))),SV.v (.int .i64 (Prod.snd (h i)))]}) 2 0 m))∧(∀ c_1 : Nat,((Qaf (6 + rNK k (Int.negSucc a) n m) (6 + rNK k (Int.negSucc a) n m + c_1) {elem:=5,size:=1,rw:=true,lock:=false,lit:=false,flat:=true,n:=6 + rNK k (Int.negSucc a) n m,row:=fun i => [SV.v (.int .u8 ((fun i => List.getD (rpL k (Int.negSucc a) c (rTK k (Int.negSucc a) c n (gX (Qaz (Ro.blk {s:=2,n:=n,row:=fun i => [SV.v (.int .i64 (Prod.fst (g i))),SV.v (.int .i64 (Prod.snd (g i)))]}) 2 0 n)) (gY (Qaz (Ro.blk {s:=2,n:=n,row:=fun i => [SV.v (.int .i64 (Prod.fst (g i))),SV.v (.int .i64 (Prod.snd (g i)))]}) 2 0 n)) m (gX (Qaz (Ro.blk {s:=2,n:=m,row:=fun i => [SV.v (.int .i64 (Prod.fst (h i))),SV.v (.int .i64 (Prod.snd (h i)))]}) 2 0 m)) (gY (Qaz (Ro.blk {s:=2,n:=m,row:=fun i => [SV.v (.int .i64 (Prod.fst (h i))),SV.v (.int .i64 (Prod.snd (h i)))]}) 2 0 m)))) i 0) i))],ext:=6 + rNK k (Int.negSucc a) n m + c_1})∧(R (SV.tup [(SV.v (.string (bif false||rpB (Int.negSucc a) c (rBK k (Int.negSucc a) c n m (gX (Qaz (Ro.blk {s:=2,n:=m,row:=fun i => [SV.v (.int .i64 (Prod.fst (h i))),SV.v (.int .i64 (Prod.snd (h i)))]}) 2 0 m)) (gY (Qaz (Ro.blk {s:=2,n:=m,row:=fun i => [SV.v (.int .i64 (Prod.fst (h i))),SV.v (.int .i64 (Prod.snd (h i)))]}) 2 0 m))) then emp else Qcd (6 + rNK k (Int.negSucc a) n m) fun i => [SV.v (.int .u8 (SE.Qad [SV.v (.int .u8 ((fun i => List.getD (rpL k (Int.negSucc a) c (rTK k (Int.negSucc a) c n (gX (Qaz (Ro.blk {s:=2,n:=n,row:=fun i => [SV.v (.int .i64 (Prod.fst (g i))),SV.v (.int .i64 (Prod.snd (g i)))]}) 2 0 n)) (gY (Qaz (Ro.blk {s:=2,n:=n,row:=fun i => [SV.v (.int .i64 (Prod.fst (g i))),SV.v (.int .i64 (Prod.snd (g i)))]}) 2 0 n)) m (gX (Qaz (Ro.blk {s:=2,n:=m,row:=fun i => [SV.v (.int .i64 (Prod.fst (h i))),SV.v (.int .i64 (Prod.snd (h i)))]}) 2 0 m)) (gY (Qaz (Ro.blk {s:=2,n:=m,row:=fun i => [SV.v (.int .i64 (Prod.fst (h i))),SV.v (.int .i64 (Prod.snd (h i)))]}) 2 0 m)))) i 0) i))]))]))),(SV.v (.int .i64 (bif false||rpB (Int.negSucc a) c (rBK k (Int.negSucc a) c n m (gX (Qaz (Ro.blk {s:=2,n:=m,row:=fun i => [SV.v (.int .i64 (Prod.fst (h i))),SV.v (.int .i64 (Prod.snd (h i)))]}) 2 0 m)) (gY (Qaz (Ro.blk {s:=2,n:=m,row:=fun i => [SV.v (.int .i64 (Prod.fst (h i))),SV.v (.int .i64 (Prod.snd (h i)))]}) 2 0 m))) then 3 else 0)))])))))
theorem Zex (k : Int) (a : Nat) (c : RV) (n cap m cp : Nat) (g h : Nat→Int × Int) (R : SV→Prop) : (Qa6 Try.prog Qlj Qas Try.f32 [reS k (Int.negSucc a) c (.sl 0 2 0 n cap) (.sl 1 2 0 m cp)] (Qa0 [⟨2,n,Qan g⟩,⟨2,m,Qan h⟩]) 64 (fun y _ => R y)) =
(sel (decide (k < 0)) (R (SV.tup [(SV.v (.string ({data:=#[]}))),(yI 8)])) (sel (decide (k > 10)) (R (SV.tup [(SV.v (.string ({data:=#[]}))),(yI 8)])) (((Qbg n (Qaz (Ro.blk {s:=2,n:=n,row:=fun i => [yI (Prod.fst (g i)),yI (Prod.snd (g i))]}) 2 0 n))∧(Qbg m (Qaz (Ro.blk {s:=2,n:=m,row:=fun i => [yI (Prod.fst (h i)),yI (Prod.snd (h i))]}) 2 0 m)))∧(((Qam n n fun y => [yI (Prod.fst (g (0 + y))),yI (Prod.snd (g (0 + y)))])∧(Qam m m fun y => [yI (Prod.fst (h (0 + y))),yI (Prod.snd (h (0 + y)))]))∧(sel (!Qbo k k (Int.negSucc a) (Int.negSucc a) (uRN (Int.negSucc a) c) c (Qbj (RV.o (uRN (Int.negSucc a) c)) (RV.o c) (Qcp (Qb0 (RV.o (uRN (Int.negSucc a) c))) (Qb0 (RV.o c))&&Nat.beq n 0)) (Nat.beq m 0)) (R (SV.tup [(SV.v (.string ({data:=#[]}))),(yI 4)])) (sel (k == 0) (sel (RV.id c != 0) (R (SV.tup [(SV.v (.string ({data:=#[]}))),(yI 4)])) (Qp6 k a c n m g h R)) (Qp6 k a c n m g h R))))))) := by kernel_rfl
theorem Zew (k e : Int) (c : RV) (n cap m cp : Nat) (g h : Nat→Int × Int) (R : SV→Prop) : (Qa6 Try.prog Qaq Qas Try.f32 [reS k e c (.sl 0 2 0 n cap) (.sl 1 2 0 m cp)] (Qa0 [⟨2,n,Qan g⟩,⟨2,m,Qan h⟩]) 64 (fun y _ => R y)) = (sel (decide (k < 0)) (R (SV.tup [(SV.v (.string ({data:=#[]}))),(yI 8)])) (sel (decide (k > 10)) (R (SV.tup [(SV.v (.string ({data:=#[]}))),(yI 8)])) False)):=by kernel_rfl
theorem e_P (a : Nat) : (Int.ofNat (a + 1) == 0) = false := by
 cases hb : (Int.ofNat (a + 1) == 0) with
 | false => rfl
 | true =>
   have hb := beq_iff_eq.1 hb
   have : ((a + 1 : Nat) : Int) = 0 := hb
   omega
theorem e_M (a : Nat) : (Int.negSucc a == 0) = false := by
 cases hb : (Int.negSucc a == 0) with
 | false => rfl
 | true => cases beq_iff_eq.1 hb
theorem Zgw (a : Nat) : (Int.negSucc a == 14) = false := by
 cases hb : (Int.negSucc a == 14) with
 | false => rfl
 | true => cases beq_iff_eq.1 hb
theorem Quw : Qbt Try.prog 78 Qtu := Qc0 hm Q7w Try.func78 (Λ := fun args bs => match args, bs with
   | [_, .agg l], [B, _, H] => match Qc2 l, Qmt [B] with
     | some (8, 0, c, _, .sl _ _ _ m _), some (.fresh (some b)) => Q7l (b || (Qal c.id 2147483647 || Qal (m : Int) 64)) ([8] ++ (c4 c.id ++ ([0] ++ [(m : Int) % 256]))) m (gX H) (gY H)
     | _, _ => Qas
   | _, _ => Qas) fun args bs e0 hs hp => by
 unfold Qtu at hs
 split at hs <;> try (cases hs; done)
 rename_i l
 split at hs <;> try (cases hs; done)
 rename_i k e c n cap m cp hl
 split at hs <;> try (cases hs; done)
 rename_i B S H
 split at hs <;> try (cases hs; done)
 rename_i b hw
 obtain ⟨hS, he⟩ := Qcl hs
 subst he
 rw [Bool.and_eq_true] at hS
 obtain ⟨hk, ⟨ik, ie⟩, hc, ⟨hsp, hn⟩, hsh, hm'⟩ := hp
 refine ⟨[wB (some b) true Qa8, ptB S.elem n (gX S) (gY S) S.ext S.whole, ptB H.elem m (gX H) (gY H) H.ext H.whole], ⟨(Qdo hw).1, Qcq hS.1 hsp, Qcq hS.2 hsh, trivial⟩, ?_⟩
 have hv : ∀ i, i < n → I64 (gX S i) ∧ I64 (gY S i) := (Qsd hsp).2
 have hu : ∀ i, i < m → I64 (gX H i) ∧ I64 (gY H i) := (Qsd hsh).2
 cases e with
 | ofNat e =>
   cases e with
   | zero =>
     have hk := hk rfl
     have hk' : k = 1 ∨ k = 2 ∨ k = 3 ∨ k = 4 ∨ k = 5 ∨ k = 6 ∨ k = 7 ∨ k = 8 ∨ k = 9 ∨ k = 10 := by omega
     rcases hk' with x | x | x | x | x | x | x | x | x | x <;> subst x
     · simp only [hl, hw]
       rw [Qbu hl]
       exact Zas hc hn hv hm' hu
     · simp only [hl, hw]
       rw [Qbu hl]
       exact Zar hc hn hv hm' hu
     · simp only [hl, hw]
       rw [Qbu hl]
       exact Zaq hc hn hv hm' hu
     · simp only [hl, hw]
       rw [Qbu hl]
       exact Zap hc hn hv hm' hu
     · simp only [hl, hw]
       rw [Qbu hl]
       exact Zao hc hn hv hm' hu
     · simp only [hl, hw]
       rw [Qbu hl]
       exact Zan hc hn hv hm' hu
     · simp only [hl, hw]
       rw [Qbu hl]
       exact Zam hc hn hv hm' hu
     · simp only [hl, hw]
       rw [Qbu hl]
       exact Zal hc hn hv hm' hu
     · simp only [hl, hw]
       rw [Qbu hl]
       exact Zak hc hn hv hm' hu
     · simp only [hl, hw]
       rw [Qbu hl]
       exact Q4k hc hn hv hm' hu
   | succ a =>
     have hΛ : (match (k, Int.ofNat (a + 1)) with | (8, 0) => false | _ => true) = true := by
       split
       · rename_i h
         cases h
       · rfl
     simp only [hl, hw]
     rw [Qbu hl]
     unfold rNK rTK rBK
     rw [e_P a]
     exact Zai hc hn hv hm' hu ik ie
 | negSucc a =>
   simp only [hl, hw]
   rw [Qbu hl]
   unfold rNK rTK rBK
   rw [e_M a, Zgw a]
   exact Zaj hc hn hv hm' hu ik ie
def Qj3 (k : Int) : Bool := decide (0 ≤ k) && decide (k ≤ 10)
def Qgc (k e : Int) (c : RV) (n : Nat) (g : Nat → Int × Int) (m : Nat) (h : Nat → Int × Int) : Bool := (!(k == 0) || (c.id == 0 && (!(e == 0) && !(e == 14)))) && Qbo k k e e (uRK k e c) c (Qbj (uRK k e c).o c.o (bif e == 0 && k == 7 then Qey (Qb0 (uRK k e c).o) n g (Qb0 c.o) n g else Qcp (Qb0 (uRK k e c).o) (Qb0 c.o) && Nat.beq n 0)) (bif e == 0 && k == 8 then Qfs m h m h else Nat.beq m 0)
def Qgd (k e : Int) (c : RV) (n m : Nat) (h : Nat → Int × Int) : Bool := rpB e c (rBK k e c n m (fun i => (h i).1) (fun i => (h i).2))
def Zaw (k e : Int) (c : RV) (n : Nat) (g : Nat → Int × Int) (m : Nat) (h : Nat → Int × Int) : List Int := rpL k e c (rTK k e c n (fun i => (g i).1) (fun i => (g i).2) m (fun i => (h i).1) (fun i => (h i).2))
def Qh9 (k e : Int) (c : RV) (n : Nat) (g : Nat → Int × Int) (m : Nat) (h : Nat → Int × Int) : ByteArray := Qcd (6 + rNK k e n m) fun i => [.v (.int .u8 ((Zaw k e c n g m h).getD i 0))]
def Qhw (k e : Int) (c : RV) (n : Nat) (g : Nat → Int × Int) (m : Nat) (h : Nat → Int × Int) : ByteArray := bif Qj3 k && (Qgc k e c n g m h && !Qgd k e c n m h) then Qh9 k e c n g m h else emp
def Qhd (k e : Int) (c : RV) (n : Nat) (g : Nat → Int × Int) (m : Nat) (h : Nat → Int × Int) : Int := bif Qj3 k then (bif Qgc k e c n g m h then (bif Qgd k e c n m h then 3 else 0) else 4) else 8
def Qvy (k e : Int) (c : RV) (n n' m m' : Nat) (r1 r2 : Nat → List SV) : Prop := (Qam n n' r1 ∧ Qam m m' r2) ∧ (Qfz c ∧ I64 k ∧ I64 e) ∧ n < 100 ∧ m < 200
def Q97 : List SV → List Ro → Option (Option Prop × SV)
 | [.agg l], [⟨2, n', r1⟩, ⟨2, m', r2⟩] => match Qc2 l with
   | some (k, e, c, .sl 0 2 0 n _, .sl 1 2 0 m _) => some (some (Qvy k e c n n' m m' r1 r2), .tup [Qe4 (Qhw k e c n (fun i => gi (r1 i)) m fun i => gi (r2 i)), iV (Qhd k e c n (fun i => gi (r1 i)) m fun i => gi (r2 i))])
   | _ => none
 | _, _ => none
theorem Q7r : ∀ f g, Qlj f = some g → g.ok Try.prog f := Qah (Qah (Qah (Qah Qax (Qcf Try.func77 (by kernel_rfl) (by kernel_rfl) Qxg)) (Qnv Try.func36 (by kernel_rfl) (by kernel_rfl) Quv)) (Qcf Try.func78 (by kernel_rfl) (by kernel_rfl) Quw)) (Qcf Try.func71 (by kernel_rfl) (by kernel_rfl) Qmg)
theorem Zhe {b : Bool} {x y z : Nat} (h1 : x ≤ z) (h2 : y ≤ z) : (bif b then x else y) ≤ z := by
 cases b
 · exact h2
 · exact h1
theorem Qim (k e : Int) {n m : Nat} (hn : n < 100) (hm' : m < 200) : rNK k e n m ≤ 6000 := by
 have hsn := Qdc n
 unfold rNK
 cases e == 0 with
 | false =>
   rw [cond_false]
   cases e == 14 <;> simp
 | true =>
   rw [cond_true]
   unfold rN1 rN2 rN3 rN4 rN5 rN6 rN7 rN8 rN9 Q16 boN
   repeat (first | omega | (refine Zhe ?_ ?_))
theorem Zjm {c : RV} {n cap m cp : Nat} {g h : Nat → Int × Int} (hc : Qfz c) (hn : n < 100) (hg : ∀ i, i < n → I64 (g i).1 ∧ I64 (g i).2) (hm' : m < 200) (hh : ∀ i, i < m → I64 (h i).1 ∧ I64 (h i).2) : Qa6 Try.prog Qlj Qas Try.f32 [reS 0 0 c (.sl 0 2 0 n cap) (.sl 1 2 0 m cp)] (Qa0 [⟨2, n, Qan g⟩, ⟨2, m, Qan h⟩]) 64 (fun y _ => y = .tup [Qe4 (Qhw 0 0 c n g m h), iV (Qhd 0 0 c n g m h)]) := by
 have hn4 : n < 1099511627776 := by omega
 have hm4 : m < 1099511627776 := by omega
 refine Eq.mpr (Ze7 c n cap m cp g h _) ⟨⟨Qa4 hn4 hg, Qa4 hm4 hh⟩, ⟨Qav hn4 hg, Qav hm4 hh⟩, ?_⟩
 have hf : Qgc 0 0 c n g m h = false := by
   unfold Qgc
   rw [show (!((0 : Int) == 0)) = false from rfl, Bool.false_and, Bool.and_false]
   rfl
 unfold Qhw Qhd
 rw [hf]
 exact Qab (fun _ => rfl) fun _ => Qab (fun _ => rfl) fun _ => rfl
theorem Zjl {c : RV} {n cap m cp : Nat} {g h : Nat → Int × Int} (hc : Qfz c) (hn : n < 100) (hg : ∀ i, i < n → I64 (g i).1 ∧ I64 (g i).2) (hm' : m < 200) (hh : ∀ i, i < m → I64 (h i).1 ∧ I64 (h i).2) : Qa6 Try.prog Qlj Qas Try.f32 [reS 1 0 c (.sl 0 2 0 n cap) (.sl 1 2 0 m cp)] (Qa0 [⟨2, n, Qan g⟩, ⟨2, m, Qan h⟩]) 64 (fun y _ => y = .tup [Qe4 (Qhw 1 0 c n g m h), iV (Qhd 1 0 c n g m h)]) := by
 have hn4 : n < 1099511627776 := by omega
 have hm4 : m < 1099511627776 := by omega
 have hN := Qim 1 0 hn hm'
 refine Eq.mpr (Ze6 c n cap m cp g h _) ?_
 repeat (first | unfold Qh6 | unfold Qet)
 refine ⟨⟨Qa4 hn4 hg, Qa4 hm4 hh⟩, ⟨Qav hn4 hg, Qav hm4 hh⟩, ?_⟩
 rw [Qb8 g, Qb7 g, Qb8 h, Qb7 h]
 have hf : Qgc 1 0 c n g m h = Qbo 1 1 0 0 (uR1 c) c (Qbj (uR1 c).o c.o (Qcp (Qb0 (uR1 c).o) (Qb0 c.o) && Nat.beq n 0)) (Nat.beq m 0) := rfl
 unfold Qhw Qhd
 rw [hf, show Qj3 1 = true from rfl]
 generalize Qbo 1 1 0 0 (uR1 c) c (Qbj (uR1 c).o c.o (Qcp (Qb0 (uR1 c).o) (Qb0 c.o) && Nat.beq n 0)) (Nat.beq m 0) = s
 cases s with
 | false => exact Qab (fun _ => rfl) fun e => by cases e
 | true =>
   refine Qab (fun e => by cases e) fun _ => ⟨⟨fun _ => ⟨by omega, by omega⟩, ⟨⟨by omega, by omega⟩, ⟨by omega, by omega⟩⟩, hc, ⟨Qa4 hn4 hg, hn⟩, Qa4 hm4 hh, hm'⟩, fun c1 => ⟨Qaa _ _ _ (by omega), ?_⟩⟩
   show SV.tup [.v (.string (bif false || Qgd 1 0 c n m h then emp else Qh9 1 0 c n g m h)), .v (.int .i64 (bif false || Qgd 1 0 c n m h then 3 else 0))] = _
   cases Qgd 1 0 c n m h <;> rfl
theorem Zjk {c : RV} {n cap m cp : Nat} {g h : Nat → Int × Int} (hc : Qfz c) (hn : n < 100) (hg : ∀ i, i < n → I64 (g i).1 ∧ I64 (g i).2) (hm' : m < 200) (hh : ∀ i, i < m → I64 (h i).1 ∧ I64 (h i).2) : Qa6 Try.prog Qlj Qas Try.f32 [reS 2 0 c (.sl 0 2 0 n cap) (.sl 1 2 0 m cp)] (Qa0 [⟨2, n, Qan g⟩, ⟨2, m, Qan h⟩]) 64 (fun y _ => y = .tup [Qe4 (Qhw 2 0 c n g m h), iV (Qhd 2 0 c n g m h)]) := by
 have hn4 : n < 1099511627776 := by omega
 have hm4 : m < 1099511627776 := by omega
 have hN := Qim 2 0 hn hm'
 refine Eq.mpr (Ze5 c n cap m cp g h _) ?_
 repeat (first | unfold Qh5 | unfold Qes)
 refine ⟨⟨Qa4 hn4 hg, Qa4 hm4 hh⟩, ⟨Qav hn4 hg, Qav hm4 hh⟩, ?_⟩
 rw [Qb8 g, Qb7 g, Qb8 h, Qb7 h]
 have hf : Qgc 2 0 c n g m h = Qbo 2 2 0 0 (uR2 c) c (Qbj (uR2 c).o c.o (Qcp (Qb0 (uR2 c).o) (Qb0 c.o) && Nat.beq n 0)) (Nat.beq m 0) := rfl
 unfold Qhw Qhd
 rw [hf, show Qj3 2 = true from rfl]
 generalize Qbo 2 2 0 0 (uR2 c) c (Qbj (uR2 c).o c.o (Qcp (Qb0 (uR2 c).o) (Qb0 c.o) && Nat.beq n 0)) (Nat.beq m 0) = s
 cases s with
 | false => exact Qab (fun _ => rfl) fun e => by cases e
 | true =>
   refine Qab (fun e => by cases e) fun _ => ⟨⟨fun _ => ⟨by omega, by omega⟩, ⟨⟨by omega, by omega⟩, ⟨by omega, by omega⟩⟩, hc, ⟨Qa4 hn4 hg, hn⟩, Qa4 hm4 hh, hm'⟩, fun c1 => ⟨Qaa _ _ _ (by omega), ?_⟩⟩
   show SV.tup [.v (.string (bif false || Qgd 2 0 c n m h then emp else Qh9 2 0 c n g m h)), .v (.int .i64 (bif false || Qgd 2 0 c n m h then 3 else 0))] = _
   cases Qgd 2 0 c n m h <;> rfl
theorem Zjj {c : RV} {n cap m cp : Nat} {g h : Nat → Int × Int} (hc : Qfz c) (hn : n < 100) (hg : ∀ i, i < n → I64 (g i).1 ∧ I64 (g i).2) (hm' : m < 200) (hh : ∀ i, i < m → I64 (h i).1 ∧ I64 (h i).2) : Qa6 Try.prog Qlj Qas Try.f32 [reS 3 0 c (.sl 0 2 0 n cap) (.sl 1 2 0 m cp)] (Qa0 [⟨2, n, Qan g⟩, ⟨2, m, Qan h⟩]) 64 (fun y _ => y = .tup [Qe4 (Qhw 3 0 c n g m h), iV (Qhd 3 0 c n g m h)]) := by
 have hn4 : n < 1099511627776 := by omega
 have hm4 : m < 1099511627776 := by omega
 have hN := Qim 3 0 hn hm'
 refine Eq.mpr (Ze4 c n cap m cp g h _) ?_
 repeat (first | unfold Qh4 | unfold Qer)
 refine ⟨⟨Qa4 hn4 hg, Qa4 hm4 hh⟩, ⟨Qav hn4 hg, Qav hm4 hh⟩, ?_⟩
 rw [Qb8 g, Qb7 g, Qb8 h, Qb7 h]
 have hf : Qgc 3 0 c n g m h = Qbo 3 3 0 0 (uR3 c) c (Qbj (uR3 c).o c.o (Qcp (Qb0 (uR3 c).o) (Qb0 c.o) && Nat.beq n 0)) (Nat.beq m 0) := rfl
 unfold Qhw Qhd
 rw [hf, show Qj3 3 = true from rfl]
 generalize Qbo 3 3 0 0 (uR3 c) c (Qbj (uR3 c).o c.o (Qcp (Qb0 (uR3 c).o) (Qb0 c.o) && Nat.beq n 0)) (Nat.beq m 0) = s
 cases s with
 | false => exact Qab (fun _ => rfl) fun e => by cases e
 | true =>
   refine Qab (fun e => by cases e) fun _ => ⟨⟨fun _ => ⟨by omega, by omega⟩, ⟨⟨by omega, by omega⟩, ⟨by omega, by omega⟩⟩, hc, ⟨Qa4 hn4 hg, hn⟩, Qa4 hm4 hh, hm'⟩, fun c1 => ⟨Qaa _ _ _ (by omega), ?_⟩⟩
   show SV.tup [.v (.string (bif false || Qgd 3 0 c n m h then emp else Qh9 3 0 c n g m h)), .v (.int .i64 (bif false || Qgd 3 0 c n m h then 3 else 0))] = _
   cases Qgd 3 0 c n m h <;> rfl
theorem Zji {c : RV} {n cap m cp : Nat} {g h : Nat → Int × Int} (hc : Qfz c) (hn : n < 100) (hg : ∀ i, i < n → I64 (g i).1 ∧ I64 (g i).2) (hm' : m < 200) (hh : ∀ i, i < m → I64 (h i).1 ∧ I64 (h i).2) : Qa6 Try.prog Qlj Qas Try.f32 [reS 4 0 c (.sl 0 2 0 n cap) (.sl 1 2 0 m cp)] (Qa0 [⟨2, n, Qan g⟩, ⟨2, m, Qan h⟩]) 64 (fun y _ => y = .tup [Qe4 (Qhw 4 0 c n g m h), iV (Qhd 4 0 c n g m h)]) := by
 have hn4 : n < 1099511627776 := by omega
 have hm4 : m < 1099511627776 := by omega
 have hN := Qim 4 0 hn hm'
 refine Eq.mpr (Ze3 c n cap m cp g h _) ?_
 repeat (first | unfold Qh3 | unfold Qeq)
 refine ⟨⟨Qa4 hn4 hg, Qa4 hm4 hh⟩, ⟨Qav hn4 hg, Qav hm4 hh⟩, ?_⟩
 rw [Qb8 g, Qb7 g, Qb8 h, Qb7 h]
 have hf : Qgc 4 0 c n g m h = Qbo 4 4 0 0 (uR4 c) c (Qbj (uR4 c).o c.o (Qcp (Qb0 (uR4 c).o) (Qb0 c.o) && Nat.beq n 0)) (Nat.beq m 0) := rfl
 unfold Qhw Qhd
 rw [hf, show Qj3 4 = true from rfl]
 generalize Qbo 4 4 0 0 (uR4 c) c (Qbj (uR4 c).o c.o (Qcp (Qb0 (uR4 c).o) (Qb0 c.o) && Nat.beq n 0)) (Nat.beq m 0) = s
 cases s with
 | false => exact Qab (fun _ => rfl) fun e => by cases e
 | true =>
   refine Qab (fun e => by cases e) fun _ => ⟨⟨fun _ => ⟨by omega, by omega⟩, ⟨⟨by omega, by omega⟩, ⟨by omega, by omega⟩⟩, hc, ⟨Qa4 hn4 hg, hn⟩, Qa4 hm4 hh, hm'⟩, fun c1 => ⟨Qaa _ _ _ (by omega), ?_⟩⟩
   show SV.tup [.v (.string (bif false || Qgd 4 0 c n m h then emp else Qh9 4 0 c n g m h)), .v (.int .i64 (bif false || Qgd 4 0 c n m h then 3 else 0))] = _
   cases Qgd 4 0 c n m h <;> rfl
theorem Zjh {c : RV} {n cap m cp : Nat} {g h : Nat → Int × Int} (hc : Qfz c) (hn : n < 100) (hg : ∀ i, i < n → I64 (g i).1 ∧ I64 (g i).2) (hm' : m < 200) (hh : ∀ i, i < m → I64 (h i).1 ∧ I64 (h i).2) : Qa6 Try.prog Qlj Qas Try.f32 [reS 5 0 c (.sl 0 2 0 n cap) (.sl 1 2 0 m cp)] (Qa0 [⟨2, n, Qan g⟩, ⟨2, m, Qan h⟩]) 64 (fun y _ => y = .tup [Qe4 (Qhw 5 0 c n g m h), iV (Qhd 5 0 c n g m h)]) := by
 have hn4 : n < 1099511627776 := by omega
 have hm4 : m < 1099511627776 := by omega
 have hN := Qim 5 0 hn hm'
 refine Eq.mpr (Ze2 c n cap m cp g h _) ?_
 repeat (first | unfold Qh2 | unfold Qep)
 refine ⟨⟨Qa4 hn4 hg, Qa4 hm4 hh⟩, ⟨Qav hn4 hg, Qav hm4 hh⟩, ?_⟩
 rw [Qb8 g, Qb7 g, Qb8 h, Qb7 h]
 have hf : Qgc 5 0 c n g m h = Qbo 5 5 0 0 (uR5 c) c (Qbj (uR5 c).o c.o (Qcp (Qb0 (uR5 c).o) (Qb0 c.o) && Nat.beq n 0)) (Nat.beq m 0) := rfl
 unfold Qhw Qhd
 rw [hf, show Qj3 5 = true from rfl]
 generalize Qbo 5 5 0 0 (uR5 c) c (Qbj (uR5 c).o c.o (Qcp (Qb0 (uR5 c).o) (Qb0 c.o) && Nat.beq n 0)) (Nat.beq m 0) = s
 cases s with
 | false => exact Qab (fun _ => rfl) fun e => by cases e
 | true =>
   refine Qab (fun e => by cases e) fun _ => ⟨⟨fun _ => ⟨by omega, by omega⟩, ⟨⟨by omega, by omega⟩, ⟨by omega, by omega⟩⟩, hc, ⟨Qa4 hn4 hg, hn⟩, Qa4 hm4 hh, hm'⟩, fun c1 => ⟨Qaa _ _ _ (by omega), ?_⟩⟩
   show SV.tup [.v (.string (bif false || Qgd 5 0 c n m h then emp else Qh9 5 0 c n g m h)), .v (.int .i64 (bif false || Qgd 5 0 c n m h then 3 else 0))] = _
   cases Qgd 5 0 c n m h <;> rfl
theorem Zjg {c : RV} {n cap m cp : Nat} {g h : Nat → Int × Int} (hc : Qfz c) (hn : n < 100) (hg : ∀ i, i < n → I64 (g i).1 ∧ I64 (g i).2) (hm' : m < 200) (hh : ∀ i, i < m → I64 (h i).1 ∧ I64 (h i).2) : Qa6 Try.prog Qlj Qas Try.f32 [reS 6 0 c (.sl 0 2 0 n cap) (.sl 1 2 0 m cp)] (Qa0 [⟨2, n, Qan g⟩, ⟨2, m, Qan h⟩]) 64 (fun y _ => y = .tup [Qe4 (Qhw 6 0 c n g m h), iV (Qhd 6 0 c n g m h)]) := by
 have hn4 : n < 1099511627776 := by omega
 have hm4 : m < 1099511627776 := by omega
 have hN := Qim 6 0 hn hm'
 refine Eq.mpr (Ze1 c n cap m cp g h _) ?_
 repeat (first | unfold Qh1 | unfold Qeo)
 refine ⟨⟨Qa4 hn4 hg, Qa4 hm4 hh⟩, ⟨Qav hn4 hg, Qav hm4 hh⟩, ?_⟩
 rw [Qb8 g, Qb7 g, Qb8 h, Qb7 h]
 have hf : Qgc 6 0 c n g m h = Qbo 6 6 0 0 (uR6 c) c (Qbj (uR6 c).o c.o (Qcp (Qb0 (uR6 c).o) (Qb0 c.o) && Nat.beq n 0)) (Nat.beq m 0) := rfl
 unfold Qhw Qhd
 rw [hf, show Qj3 6 = true from rfl]
 generalize Qbo 6 6 0 0 (uR6 c) c (Qbj (uR6 c).o c.o (Qcp (Qb0 (uR6 c).o) (Qb0 c.o) && Nat.beq n 0)) (Nat.beq m 0) = s
 cases s with
 | false => exact Qab (fun _ => rfl) fun e => by cases e
 | true =>
   refine Qab (fun e => by cases e) fun _ => ⟨⟨fun _ => ⟨by omega, by omega⟩, ⟨⟨by omega, by omega⟩, ⟨by omega, by omega⟩⟩, hc, ⟨Qa4 hn4 hg, hn⟩, Qa4 hm4 hh, hm'⟩, fun c1 => ⟨Qaa _ _ _ (by omega), ?_⟩⟩
   show SV.tup [.v (.string (bif false || Qgd 6 0 c n m h then emp else Qh9 6 0 c n g m h)), .v (.int .i64 (bif false || Qgd 6 0 c n m h then 3 else 0))] = _
   cases Qgd 6 0 c n m h <;> rfl
theorem Zjf {c : RV} {n cap m cp : Nat} {g h : Nat → Int × Int} (hc : Qfz c) (hn : n < 100) (hg : ∀ i, i < n → I64 (g i).1 ∧ I64 (g i).2) (hm' : m < 200) (hh : ∀ i, i < m → I64 (h i).1 ∧ I64 (h i).2) : Qa6 Try.prog Qlj Qas Try.f32 [reS 7 0 c (.sl 0 2 0 n cap) (.sl 1 2 0 m cp)] (Qa0 [⟨2, n, Qan g⟩, ⟨2, m, Qan h⟩]) 64 (fun y _ => y = .tup [Qe4 (Qhw 7 0 c n g m h), iV (Qhd 7 0 c n g m h)]) := by
 have hn4 : n < 1099511627776 := by omega
 have hm4 : m < 1099511627776 := by omega
 have hN := Qim 7 0 hn hm'
 refine Eq.mpr (Ze0 c n cap m cp g h _) ?_
 repeat (first | unfold Qh0 | unfold Qen)
 refine ⟨⟨Qa4 hn4 hg, Qa4 hm4 hh⟩, ⟨Qav hn4 hg, Qav hn4 hg, Qav hm4 hh⟩, ?_⟩
 rw [Qb8 g, Qb7 g, Qb8 h, Qb7 h]
 rw [Qd8 g]
 have hf : Qgc 7 0 c n g m h = Qbo 7 7 0 0 (uR7 c) c (Qbj (uR7 c).o c.o (Qey (Qb0 (uR7 c).o) n g (Qb0 c.o) n g)) (Nat.beq m 0) := rfl
 unfold Qhw Qhd
 rw [hf, show Qj3 7 = true from rfl]
 generalize Qbo 7 7 0 0 (uR7 c) c (Qbj (uR7 c).o c.o (Qey (Qb0 (uR7 c).o) n g (Qb0 c.o) n g)) (Nat.beq m 0) = s
 cases s with
 | false => exact Qab (fun _ => rfl) fun e => by cases e
 | true =>
   refine Qab (fun e => by cases e) fun _ => ⟨⟨fun _ => ⟨by omega, by omega⟩, ⟨⟨by omega, by omega⟩, ⟨by omega, by omega⟩⟩, hc, ⟨Qa4 hn4 hg, hn⟩, Qa4 hm4 hh, hm'⟩, fun c1 => ⟨Qaa _ _ _ (by omega), ?_⟩⟩
   show SV.tup [.v (.string (bif false || Qgd 7 0 c n m h then emp else Qh9 7 0 c n g m h)), .v (.int .i64 (bif false || Qgd 7 0 c n m h then 3 else 0))] = _
   cases Qgd 7 0 c n m h <;> rfl
theorem Zje {c : RV} {n cap m cp : Nat} {g h : Nat → Int × Int} (hc : Qfz c) (hn : n < 100) (hg : ∀ i, i < n → I64 (g i).1 ∧ I64 (g i).2) (hm' : m < 200) (hh : ∀ i, i < m → I64 (h i).1 ∧ I64 (h i).2) : Qa6 Try.prog Qlj Qas Try.f32 [reS 8 0 c (.sl 0 2 0 n cap) (.sl 1 2 0 m cp)] (Qa0 [⟨2, n, Qan g⟩, ⟨2, m, Qan h⟩]) 64 (fun y _ => y = .tup [Qe4 (Qhw 8 0 c n g m h), iV (Qhd 8 0 c n g m h)]) := by
 have hn4 : n < 1099511627776 := by omega
 have hm4 : m < 1099511627776 := by omega
 have hN := Qim 8 0 hn hm'
 refine Eq.mpr (Zez c n cap m cp g h _) ?_
 repeat (first | unfold Qhz | unfold Qem)
 refine ⟨⟨Qa4 hn4 hg, Qa4 hm4 hh⟩, ⟨Qav hm4 hh, Qav hn4 hg, Qav hm4 hh⟩, ?_⟩
 rw [Qb8 g, Qb7 g, Qb8 h, Qb7 h]
 rw [Qd8 h]
 have hf : Qgc 8 0 c n g m h = Qbo 8 8 0 0 (uR8 c) c (Qbj (uR8 c).o c.o (Qcp (Qb0 (uR8 c).o) (Qb0 c.o) && Nat.beq n 0)) (Qfs m h m h) := rfl
 unfold Qhw Qhd
 rw [hf, show Qj3 8 = true from rfl]
 generalize Qbo 8 8 0 0 (uR8 c) c (Qbj (uR8 c).o c.o (Qcp (Qb0 (uR8 c).o) (Qb0 c.o) && Nat.beq n 0)) (Qfs m h m h) = s
 cases s with
 | false => exact Qab (fun _ => rfl) fun e => by cases e
 | true =>
   refine Qab (fun e => by cases e) fun _ => ⟨⟨fun _ => ⟨by omega, by omega⟩, ⟨⟨by omega, by omega⟩, ⟨by omega, by omega⟩⟩, hc, ⟨Qa4 hn4 hg, hn⟩, Qa4 hm4 hh, hm'⟩, fun c1 => ⟨Qaa _ _ _ (by omega), ?_⟩⟩
   show SV.tup [.v (.string (bif false || Qgd 8 0 c n m h then emp else Qh9 8 0 c n g m h)), .v (.int .i64 (bif false || Qgd 8 0 c n m h then 3 else 0))] = _
   cases Qgd 8 0 c n m h <;> rfl
theorem Zjd {c : RV} {n cap m cp : Nat} {g h : Nat → Int × Int} (hc : Qfz c) (hn : n < 100) (hg : ∀ i, i < n → I64 (g i).1 ∧ I64 (g i).2) (hm' : m < 200) (hh : ∀ i, i < m → I64 (h i).1 ∧ I64 (h i).2) : Qa6 Try.prog Qlj Qas Try.f32 [reS 9 0 c (.sl 0 2 0 n cap) (.sl 1 2 0 m cp)] (Qa0 [⟨2, n, Qan g⟩, ⟨2, m, Qan h⟩]) 64 (fun y _ => y = .tup [Qe4 (Qhw 9 0 c n g m h), iV (Qhd 9 0 c n g m h)]) := by
 have hn4 : n < 1099511627776 := by omega
 have hm4 : m < 1099511627776 := by omega
 have hN := Qim 9 0 hn hm'
 refine Eq.mpr (Zey c n cap m cp g h _) ?_
 repeat (first | unfold Qhy | unfold Qel)
 refine ⟨⟨Qa4 hn4 hg, Qa4 hm4 hh⟩, ⟨Qav hn4 hg, Qav hm4 hh⟩, ?_⟩
 rw [Qb8 g, Qb7 g, Qb8 h, Qb7 h]
 have hf : Qgc 9 0 c n g m h = Qbo 9 9 0 0 (uR9 c) c (Qbj (uR9 c).o c.o (Qcp (Qb0 (uR9 c).o) (Qb0 c.o) && Nat.beq n 0)) (Nat.beq m 0) := rfl
 unfold Qhw Qhd
 rw [hf, show Qj3 9 = true from rfl]
 generalize Qbo 9 9 0 0 (uR9 c) c (Qbj (uR9 c).o c.o (Qcp (Qb0 (uR9 c).o) (Qb0 c.o) && Nat.beq n 0)) (Nat.beq m 0) = s
 cases s with
 | false => exact Qab (fun _ => rfl) fun e => by cases e
 | true =>
   refine Qab (fun e => by cases e) fun _ => ⟨⟨fun _ => ⟨by omega, by omega⟩, ⟨⟨by omega, by omega⟩, ⟨by omega, by omega⟩⟩, hc, ⟨Qa4 hn4 hg, hn⟩, Qa4 hm4 hh, hm'⟩, fun c1 => ⟨Qaa _ _ _ (by omega), ?_⟩⟩
   show SV.tup [.v (.string (bif false || Qgd 9 0 c n m h then emp else Qh9 9 0 c n g m h)), .v (.int .i64 (bif false || Qgd 9 0 c n m h then 3 else 0))] = _
   cases Qgd 9 0 c n m h <;> rfl
theorem Zf9 {c : RV} {n cap m cp : Nat} {g h : Nat → Int × Int} (hc : Qfz c) (hn : n < 100) (hg : ∀ i, i < n → I64 (g i).1 ∧ I64 (g i).2) (hm' : m < 200) (hh : ∀ i, i < m → I64 (h i).1 ∧ I64 (h i).2) : Qa6 Try.prog Qlj Qas Try.f32 [reS 10 0 c (.sl 0 2 0 n cap) (.sl 1 2 0 m cp)] (Qa0 [⟨2, n, Qan g⟩, ⟨2, m, Qan h⟩]) 64 (fun y _ => y = .tup [Qe4 (Qhw 10 0 c n g m h), iV (Qhd 10 0 c n g m h)]) := by
 have hn4 : n < 1099511627776 := by omega
 have hm4 : m < 1099511627776 := by omega
 have hN := Qim 10 0 hn hm'
 refine Eq.mpr (Q8z c n cap m cp g h _) ?_
 repeat (first | unfold Qgo | unfold Qdj)
 refine ⟨⟨Qa4 hn4 hg, Qa4 hm4 hh⟩, ⟨Qav hn4 hg, Qav hm4 hh⟩, ?_⟩
 rw [Qb8 g, Qb7 g, Qb8 h, Qb7 h]
 have hf : Qgc 10 0 c n g m h = Qbo 10 10 0 0 (Qx3 c) c (Qbj (Qx3 c).o c.o (Qcp (Qb0 (Qx3 c).o) (Qb0 c.o) && Nat.beq n 0)) (Nat.beq m 0) := rfl
 unfold Qhw Qhd
 rw [hf, show Qj3 10 = true from rfl]
 generalize Qbo 10 10 0 0 (Qx3 c) c (Qbj (Qx3 c).o c.o (Qcp (Qb0 (Qx3 c).o) (Qb0 c.o) && Nat.beq n 0)) (Nat.beq m 0) = s
 cases s with
 | false => exact Qab (fun _ => rfl) fun e => by cases e
 | true =>
   refine Qab (fun e => by cases e) fun _ => ⟨⟨fun _ => ⟨by omega, by omega⟩, ⟨⟨by omega, by omega⟩, ⟨by omega, by omega⟩⟩, hc, ⟨Qa4 hn4 hg, hn⟩, Qa4 hm4 hh, hm'⟩, fun c1 => ⟨Qaa _ _ _ (by omega), ?_⟩⟩
   show SV.tup [.v (.string (bif false || Qgd 10 0 c n m h then emp else Qh9 10 0 c n g m h)), .v (.int .i64 (bif false || Qgd 10 0 c n m h then 3 else 0))] = _
   cases Qgd 10 0 c n m h <;> rfl
theorem Zja {k : Int} {a : Nat} {c : RV} {n cap m cp : Nat} {g h : Nat → Int × Int} (hc : Qfz c) (hn : n < 100) (hg : ∀ i, i < n → I64 (g i).1 ∧ I64 (g i).2) (hm' : m < 200) (hh : ∀ i, i < m → I64 (h i).1 ∧ I64 (h i).2) (hk : I64 k) (he : I64 (Int.ofNat (a + 1))) : Qa6 Try.prog Qlj Qas Try.f32 [reS k (Int.ofNat (a + 1)) c (.sl 0 2 0 n cap) (.sl 1 2 0 m cp)] (Qa0 [⟨2, n, Qan g⟩, ⟨2, m, Qan h⟩]) 64 (fun y _ => y = .tup [Qe4 (Qhw k (Int.ofNat (a + 1)) c n g m h), iV (Qhd k (Int.ofNat (a + 1)) c n g m h)]) := by
 have hn4 : n < 1099511627776 := by omega
 have hm4 : m < 1099511627776 := by omega
 have hN := Qim k (Int.ofNat (a + 1)) hn hm'
 have he0 : (Int.ofNat (a + 1)) ≠ 0 := fun hz => by have := e_P a; rw [hz] at this; cases this
 refine Eq.mpr (Zev k a c n cap m cp g h _) ?_
 repeat (first | unfold Qp5)
 refine (Qab (fun e1 => ?_) fun e1 => Qab (fun e2 => ?_) fun e2 => ⟨⟨Qa4 hn4 hg, Qa4 hm4 hh⟩, ⟨Qav hn4 hg, Qav hm4 hh⟩, ?_⟩)
 · have e1 := of_decide_eq_true e1
   unfold Qhw Qhd Qj3
   rw [decide_eq_false (show ¬ 0 ≤ k by omega)]
   rfl
 · have e2 := of_decide_eq_true e2
   unfold Qhw Qhd Qj3
   rw [decide_eq_false (show ¬ k ≤ 10 by omega), Bool.and_false]
   rfl
 have e1 := of_decide_eq_false e1
 have e2 := of_decide_eq_false e2
 have hko : Qj3 k = true := by
   unfold Qj3
   rw [decide_eq_true (show 0 ≤ k by omega), decide_eq_true (show k ≤ 10 by omega)]
   rfl
 rw [Qb8 g, Qb7 g, Qb8 h, Qb7 h]
 have hf : Qgc k (Int.ofNat (a + 1)) c n g m h = ((!(k == 0) || (c.id == 0 && !((Int.ofNat (a + 1)) == 14))) && Qbo k k (Int.ofNat (a + 1)) (Int.ofNat (a + 1)) (uRN (Int.ofNat (a + 1)) c) c (Qbj (uRN (Int.ofNat (a + 1)) c).o c.o (Qcp (Qb0 (uRN (Int.ofNat (a + 1)) c).o) (Qb0 c.o) && Nat.beq n 0)) (Nat.beq m 0)) := by
   unfold Qgc uRK
   rw [e_P a]
   rfl
 unfold Qhw Qhd
 rw [hko, hf]
 generalize Qbo k k (Int.ofNat (a + 1)) (Int.ofNat (a + 1)) (uRN (Int.ofNat (a + 1)) c) c (Qbj (uRN (Int.ofNat (a + 1)) c).o c.o (Qcp (Qb0 (uRN (Int.ofNat (a + 1)) c).o) (Qb0 c.o) && Nat.beq n 0)) (Nat.beq m 0) = s
 have fin : ∀ f : Bool, f = true → SV.tup [.v (.string (bif false || Qgd k (Int.ofNat (a + 1)) c n m h then emp else Qh9 k (Int.ofNat (a + 1)) c n g m h)), .v (.int .i64 (bif false || Qgd k (Int.ofNat (a + 1)) c n m h then 3 else 0))] = .tup [Qe4 (bif true && (f && !Qgd k (Int.ofNat (a + 1)) c n m h) then Qh9 k (Int.ofNat (a + 1)) c n g m h else emp), iV (bif true then (bif f then (bif Qgd k (Int.ofNat (a + 1)) c n m h then 3 else 0) else 4) else 8)] := fun f hf => by
   subst hf
   cases Qgd k (Int.ofNat (a + 1)) c n m h <;> rfl
 cases s with
 | false => exact Qab (fun _ => by rw [Bool.and_false]; rfl) fun e => by cases e
 | true =>
   rw [Bool.and_true]
   refine Qab (fun e => by cases e) fun _ => Qab (fun h0 => ?_) fun h0 => ?_
   · rw [h0]
     refine Qab (fun h1 => ?_) fun h1 => ?_
     · have h1 : (c.id == 0) = false := by simpa using h1
       rw [h1]
       rfl
     · have h1 : (c.id == 0) = true := by simpa using h1
       rw [h1]
       refine Qab (fun h2 => ?_) fun h2 => ?_
       · rw [h2]
         rfl
       · rw [h2]
         refine ⟨⟨fun h0 => absurd h0 he0, ⟨hk, he⟩, hc, ⟨Qa4 hn4 hg, hn⟩, Qa4 hm4 hh, hm'⟩, fun c1 => ⟨Qaa _ _ _ (by omega), ?_⟩⟩
         exact fin _ rfl
   · rw [h0]
     refine ⟨⟨fun h0 => absurd h0 he0, ⟨hk, he⟩, hc, ⟨Qa4 hn4 hg, hn⟩, Qa4 hm4 hh, hm'⟩, fun c1 => ⟨Qaa _ _ _ (by omega), ?_⟩⟩
     exact fin _ rfl
theorem Zjc {k : Int} {a : Nat} {c : RV} {n cap m cp : Nat} {g h : Nat → Int × Int} (hc : Qfz c) (hn : n < 100) (hg : ∀ i, i < n → I64 (g i).1 ∧ I64 (g i).2) (hm' : m < 200) (hh : ∀ i, i < m → I64 (h i).1 ∧ I64 (h i).2) (hk : I64 k) (he : I64 (Int.negSucc a)) : Qa6 Try.prog Qlj Qas Try.f32 [reS k (Int.negSucc a) c (.sl 0 2 0 n cap) (.sl 1 2 0 m cp)] (Qa0 [⟨2, n, Qan g⟩, ⟨2, m, Qan h⟩]) 64 (fun y _ => y = .tup [Qe4 (Qhw k (Int.negSucc a) c n g m h), iV (Qhd k (Int.negSucc a) c n g m h)]) := by
 have hn4 : n < 1099511627776 := by omega
 have hm4 : m < 1099511627776 := by omega
 have hN := Qim k (Int.negSucc a) hn hm'
 have he0 : (Int.negSucc a) ≠ 0 := fun hz => by have := e_M a; rw [hz] at this; cases this
 refine Eq.mpr (Zex k a c n cap m cp g h _) ?_
 repeat (first | unfold Qp6)
 refine (Qab (fun e1 => ?_) fun e1 => Qab (fun e2 => ?_) fun e2 => ⟨⟨Qa4 hn4 hg, Qa4 hm4 hh⟩, ⟨Qav hn4 hg, Qav hm4 hh⟩, ?_⟩)
 · have e1 := of_decide_eq_true e1
   unfold Qhw Qhd Qj3
   rw [decide_eq_false (show ¬ 0 ≤ k by omega)]
   rfl
 · have e2 := of_decide_eq_true e2
   unfold Qhw Qhd Qj3
   rw [decide_eq_false (show ¬ k ≤ 10 by omega), Bool.and_false]
   rfl
 have e1 := of_decide_eq_false e1
 have e2 := of_decide_eq_false e2
 have hko : Qj3 k = true := by
   unfold Qj3
   rw [decide_eq_true (show 0 ≤ k by omega), decide_eq_true (show k ≤ 10 by omega)]
   rfl
 rw [Qb8 g, Qb7 g, Qb8 h, Qb7 h]
 have hf : Qgc k (Int.negSucc a) c n g m h = ((!(k == 0) || (c.id == 0 && !((Int.negSucc a) == 14))) && Qbo k k (Int.negSucc a) (Int.negSucc a) (uRN (Int.negSucc a) c) c (Qbj (uRN (Int.negSucc a) c).o c.o (Qcp (Qb0 (uRN (Int.negSucc a) c).o) (Qb0 c.o) && Nat.beq n 0)) (Nat.beq m 0)) := by
   unfold Qgc uRK
   rw [e_M a]
   rfl
 unfold Qhw Qhd
 rw [hko, hf]
 generalize Qbo k k (Int.negSucc a) (Int.negSucc a) (uRN (Int.negSucc a) c) c (Qbj (uRN (Int.negSucc a) c).o c.o (Qcp (Qb0 (uRN (Int.negSucc a) c).o) (Qb0 c.o) && Nat.beq n 0)) (Nat.beq m 0) = s
 have fin : ∀ f : Bool, f = true → SV.tup [.v (.string (bif false || Qgd k (Int.negSucc a) c n m h then emp else Qh9 k (Int.negSucc a) c n g m h)), .v (.int .i64 (bif false || Qgd k (Int.negSucc a) c n m h then 3 else 0))] = .tup [Qe4 (bif true && (f && !Qgd k (Int.negSucc a) c n m h) then Qh9 k (Int.negSucc a) c n g m h else emp), iV (bif true then (bif f then (bif Qgd k (Int.negSucc a) c n m h then 3 else 0) else 4) else 8)] := fun f hf => by
   subst hf
   cases Qgd k (Int.negSucc a) c n m h <;> rfl
 cases s with
 | false => exact Qab (fun _ => by rw [Bool.and_false]; rfl) fun e => by cases e
 | true =>
   rw [Bool.and_true]
   refine Qab (fun e => by cases e) fun _ => Qab (fun h0 => ?_) fun h0 => ?_
   · rw [h0]
     refine Qab (fun h1 => ?_) fun h1 => ?_
     · have h1 : (c.id == 0) = false := by simpa using h1
       rw [h1]
       rfl
     · have h1 : (c.id == 0) = true := by simpa using h1
       rw [h1]
       rw [Zgw a]
       refine ⟨⟨fun h0 => absurd h0 he0, ⟨hk, he⟩, hc, ⟨Qa4 hn4 hg, hn⟩, Qa4 hm4 hh, hm'⟩, fun c1 => ⟨Qaa _ _ _ (by omega), ?_⟩⟩
       exact fin _ rfl
   · rw [h0]
     refine ⟨⟨fun h0 => absurd h0 he0, ⟨hk, he⟩, hc, ⟨Qa4 hn4 hg, hn⟩, Qa4 hm4 hh, hm'⟩, fun c1 => ⟨Qaa _ _ _ (by omega), ?_⟩⟩
     exact fin _ rfl
theorem Zjb {k e : Int} {c : RV} {n cap m cp : Nat} {g h : Nat → Int × Int} (hk : ¬ (0 ≤ k ∧ k ≤ 10)) : Qa6 Try.prog Qaq Qas Try.f32 [reS k e c (.sl 0 2 0 n cap) (.sl 1 2 0 m cp)] (Qa0 [⟨2, n, Qan g⟩, ⟨2, m, Qan h⟩]) 64 (fun y _ => y = .tup [Qe4 (Qhw k e c n g m h), iV (Qhd k e c n g m h)]) := by
 refine Eq.mpr (Zew k e c n cap m cp g h _) (Qab (fun e1 => ?_) fun e1 => Qab (fun e2 => ?_) fun e2 => ?_)
 · have e1 := of_decide_eq_true e1
   unfold Qhw Qhd Qj3
   rw [decide_eq_false (show ¬ 0 ≤ k by omega)]
   rfl
 · have e2 := of_decide_eq_true e2
   unfold Qhw Qhd Qj3
   rw [decide_eq_false (show ¬ k ≤ 10 by omega), Bool.and_false]
   rfl
 · have e1 := of_decide_eq_false e1
   have e2 := of_decide_eq_false e2
   omega
def Q95 : List SV → List Ro → Option (Option Prop × SV)
 | [.agg l], [⟨2, n', r1⟩, ⟨2, m', r2⟩] => match Qc2 l with
   | some (k, e, c, .sl 0 2 0 n _, .sl 1 2 0 m _) => bif Qj3 k then none else some (some (Qvy k e c n n' m m' r1 r2), .tup [Qe4 (Qhw k e c n (fun i => gi (r1 i)) m fun i => gi (r2 i)), iV (Qhd k e c n (fun i => gi (r1 i)) m fun i => gi (r2 i))])
   | _ => none
 | _, _ => none
def Q96 : List SV → List Ro → Option (Option Prop × SV)
 | [.agg l], [⟨2, n', r1⟩, ⟨2, m', r2⟩] => match Qc2 l with
   | some (k, e, c, .sl 0 2 0 n _, .sl 1 2 0 m _) => bif Qj3 k then some (some (Qvy k e c n n' m m' r1 r2), .tup [Qe4 (Qhw k e c n (fun i => gi (r1 i)) m fun i => gi (r2 i)), iV (Qhd k e c n (fun i => gi (r1 i)) m fun i => gi (r2 i))]) else none
   | _ => none
 | _, _ => none
theorem Zhd {b : Bool} {α : Type _} {x : Option α} {y : α} (h : (bif b then none else x) = some y) : b = false ∧ x = some y := by
 cases b with
 | true => cases h
 | false => exact ⟨rfl, h⟩
theorem Zf6 {k : Int} (h : Qj3 k = true) : 0 ≤ k ∧ k ≤ 10 := by
 unfold Qj3 at h
 rw [Bool.and_eq_true] at h
 exact ⟨of_decide_eq_true h.1, of_decide_eq_true h.2⟩
theorem Zf5 {k : Int} (h : Qj3 k = false) : ¬ (0 ≤ k ∧ k ≤ 10) := fun hk => by
 unfold Qj3 at h
 rw [decide_eq_true hk.1, decide_eq_true hk.2] at h
 cases h
theorem Q1p : Qcj Try.prog 32 Q96 := Qdg hm Q7r Try.func32 (Λ := fun _ _ => Qas) fun args bs p x hs hp => by
 unfold Q96 at hs
 split at hs <;> try (cases hs; done)
 rename_i l n' r1 m' r2
 split at hs <;> try (cases hs; done)
 rename_i k e c n cap m cp hl
 obtain ⟨hko, hs⟩ := Qgj hs
 have hs := Option.some.inj hs
 obtain ⟨rfl, rfl⟩ := Prod.mk.inj hs
 obtain ⟨⟨⟨o1, e1, l1⟩, o2, e2, l2⟩, ⟨hc, ik, ie⟩, hn, hm'⟩ := hp _ rfl
 subst e1 e2
 have o1 := okAll_rows.1 o1
 have o2 := okAll_rows.1 o2
 refine ⟨rfl, [⟨2, _, Qan fun i => gi (r1 i)⟩, ⟨2, _, Qan fun i => gi (r2 i)⟩], ⟨⟨rfl, rfl, fun i hi => (Qao (o1 i hi)).1⟩, ⟨rfl, rfl, fun i hi => (Qao (o2 i hi)).1⟩, trivial⟩, ?_⟩
 rw [Qbu hl]
 have hg := fun i hi => (Qao (o1 i hi)).2
 have hh := fun i hi => (Qao (o2 i hi)).2
 have hk := Zf6 hko
 cases e with
 | ofNat e =>
   cases e with
   | zero =>
     have hk' : k = 0 ∨ k = 1 ∨ k = 2 ∨ k = 3 ∨ k = 4 ∨ k = 5 ∨ k = 6 ∨ k = 7 ∨ k = 8 ∨ k = 9 ∨ k = 10 := by omega
     rcases hk' with x | x | x | x | x | x | x | x | x | x | x <;> subst x
     · exact Zjm hc hn hg hm' hh
     · exact Zjl hc hn hg hm' hh
     · exact Zjk hc hn hg hm' hh
     · exact Zjj hc hn hg hm' hh
     · exact Zji hc hn hg hm' hh
     · exact Zjh hc hn hg hm' hh
     · exact Zjg hc hn hg hm' hh
     · exact Zjf hc hn hg hm' hh
     · exact Zje hc hn hg hm' hh
     · exact Zjd hc hn hg hm' hh
     · exact Zf9 hc hn hg hm' hh
   | succ a => exact Zja hc hn hg hm' hh ik ie
 | negSucc a => exact Zjc hc hn hg hm' hh ik ie
theorem Q1o : Qcj Try.prog 32 Q95 := Qdg hm Qax Try.func32 (Λ := fun _ _ => Qas) fun args bs p x hs hp => by
 unfold Q95 at hs
 split at hs <;> try (cases hs; done)
 rename_i l n' r1 m' r2
 split at hs <;> try (cases hs; done)
 rename_i k e c n cap m cp hl
 obtain ⟨hko, hs⟩ := Zhd hs
 have hs := Option.some.inj hs
 obtain ⟨rfl, rfl⟩ := Prod.mk.inj hs
 obtain ⟨⟨⟨o1, e1, l1⟩, o2, e2, l2⟩, ⟨hc, ik, ie⟩, hn, hm'⟩ := hp _ rfl
 subst e1 e2
 have o1 := okAll_rows.1 o1
 have o2 := okAll_rows.1 o2
 refine ⟨rfl, [⟨2, _, Qan fun i => gi (r1 i)⟩, ⟨2, _, Qan fun i => gi (r2 i)⟩], ⟨⟨rfl, rfl, fun i hi => (Qao (o1 i hi)).1⟩, ⟨rfl, rfl, fun i hi => (Qao (o2 i hi)).1⟩, trivial⟩, ?_⟩
 rw [Qbu hl]
 exact Zjb (Zf5 hko)
theorem Q1q : Qcj Try.prog 32 Q97 := Qzr Q1p Q1o fun args rs p h => by
 unfold Q97 at h
 split at h <;> try (cases h; done)
 rename_i l n' r1 m' r2
 split at h <;> try (cases h; done)
 rename_i k e c n cap m cp hl
 cases hk : Qj3 k with
 | true =>
   left
   unfold Q96
   simp only [hl, hk, cond_true]
   exact h
 | false =>
   right
   unfold Q95
   simp only [hl, hk, cond_false]
   exact h
theorem Zjq {b : Bool} (h : (!b) = false) : b = true := by
 cases b with
 | true => rfl
 | false => cases h
theorem Qps (b : BV) (n : Nat) (x y : Nat → Int) : (boL b n x y).length = boN n := by
 unfold boL boT boN
 simp only [List.length_append, hLl, i8l, c4l, Qf1, Qgm, Qny, Qnj, Qni, Qgw, Qco, List.length_cons, List.length_nil, Qbl]
theorem Za8 (c : RV) (n : Nat) (x y : Nat → Int) (m : Nat) (u v : Nat → Int) : (rT1 c n x y m u v).length = rN1 n m := by
 unfold rT1 rN1
 first | rfl | (simp only [Qps, List.length_append, hLl, i8l, c4l, Qf1, Qgm, Qny, Qnj, Qni, Qgw, Qco, List.length_cons, List.length_nil, Qbl]; done) | (simp only [Qps, List.length_append, hLl, i8l, c4l, Qf1, Qgm, Qny, Qnj, Qni, Qgw, Qco, List.length_cons, List.length_nil, Qbl]; omega)
theorem Za7 (c : RV) (n : Nat) (x y : Nat → Int) (m : Nat) (u v : Nat → Int) : (rT2 c n x y m u v).length = rN2 n m := by
 unfold rT2 rN2
 first | rfl | (simp only [Qps, List.length_append, hLl, i8l, c4l, Qf1, Qgm, Qny, Qnj, Qni, Qgw, Qco, List.length_cons, List.length_nil, Qbl]; done) | (simp only [Qps, List.length_append, hLl, i8l, c4l, Qf1, Qgm, Qny, Qnj, Qni, Qgw, Qco, List.length_cons, List.length_nil, Qbl]; omega)
theorem Za6 (c : RV) (n : Nat) (x y : Nat → Int) (m : Nat) (u v : Nat → Int) : (rT3 c n x y m u v).length = rN3 n m := by
 unfold rT3 rN3
 first | rfl | (simp only [Qps, List.length_append, hLl, i8l, c4l, Qf1, Qgm, Qny, Qnj, Qni, Qgw, Qco, List.length_cons, List.length_nil, Qbl]; done) | (simp only [Qps, List.length_append, hLl, i8l, c4l, Qf1, Qgm, Qny, Qnj, Qni, Qgw, Qco, List.length_cons, List.length_nil, Qbl]; omega)
theorem Za5 (c : RV) (n : Nat) (x y : Nat → Int) (m : Nat) (u v : Nat → Int) : (rT4 c n x y m u v).length = rN4 n m := by
 unfold rT4 rN4
 first | rfl | (simp only [Qps, List.length_append, hLl, i8l, c4l, Qf1, Qgm, Qny, Qnj, Qni, Qgw, Qco, List.length_cons, List.length_nil, Qbl]; done) | (simp only [Qps, List.length_append, hLl, i8l, c4l, Qf1, Qgm, Qny, Qnj, Qni, Qgw, Qco, List.length_cons, List.length_nil, Qbl]; omega)
theorem Za4 (c : RV) (n : Nat) (x y : Nat → Int) (m : Nat) (u v : Nat → Int) : (rT5 c n x y m u v).length = rN5 n m := by
 unfold rT5 rN5
 first | rfl | (simp only [Qps, List.length_append, hLl, i8l, c4l, Qf1, Qgm, Qny, Qnj, Qni, Qgw, Qco, List.length_cons, List.length_nil, Qbl]; done) | (simp only [Qps, List.length_append, hLl, i8l, c4l, Qf1, Qgm, Qny, Qnj, Qni, Qgw, Qco, List.length_cons, List.length_nil, Qbl]; omega)
theorem Za3 (c : RV) (n : Nat) (x y : Nat → Int) (m : Nat) (u v : Nat → Int) : (rT6 c n x y m u v).length = rN6 n m := by
 unfold rT6 rN6
 first | rfl | (simp only [Qps, List.length_append, hLl, i8l, c4l, Qf1, Qgm, Qny, Qnj, Qni, Qgw, Qco, List.length_cons, List.length_nil, Qbl]; done) | (simp only [Qps, List.length_append, hLl, i8l, c4l, Qf1, Qgm, Qny, Qnj, Qni, Qgw, Qco, List.length_cons, List.length_nil, Qbl]; omega)
theorem Za2 (c : RV) (n : Nat) (x y : Nat → Int) (m : Nat) (u v : Nat → Int) : (rT7 c n x y m u v).length = rN7 n m := by
 unfold rT7 rN7
 first | rfl | (simp only [Qps, List.length_append, hLl, i8l, c4l, Qf1, Qgm, Qny, Qnj, Qni, Qgw, Qco, List.length_cons, List.length_nil, Qbl]; done) | (simp only [Qps, List.length_append, hLl, i8l, c4l, Qf1, Qgm, Qny, Qnj, Qni, Qgw, Qco, List.length_cons, List.length_nil, Qbl]; omega)
theorem Za1 (c : RV) (n : Nat) (x y : Nat → Int) (m : Nat) (u v : Nat → Int) : (rT8 c n x y m u v).length = rN8 n m := by
 unfold rT8 rN8
 first | rfl | (simp only [Qps, List.length_append, hLl, i8l, c4l, Qf1, Qgm, Qny, Qnj, Qni, Qgw, Qco, List.length_cons, List.length_nil, Qbl]; done) | (simp only [Qps, List.length_append, hLl, i8l, c4l, Qf1, Qgm, Qny, Qnj, Qni, Qgw, Qco, List.length_cons, List.length_nil, Qbl]; omega)
theorem Za0 (c : RV) (n : Nat) (x y : Nat → Int) (m : Nat) (u v : Nat → Int) : (rT9 c n x y m u v).length = rN9 n m := by
 unfold rT9 rN9
 first | rfl | (simp only [Qps, List.length_append, hLl, i8l, c4l, Qf1, Qgm, Qny, Qnj, Qni, Qgw, Qco, List.length_cons, List.length_nil, Qbl]; done) | (simp only [Qps, List.length_append, hLl, i8l, c4l, Qf1, Qgm, Qny, Qnj, Qni, Qgw, Qco, List.length_cons, List.length_nil, Qbl]; omega)
theorem Q4o (c : RV) (n : Nat) (x y : Nat → Int) (m : Nat) (u v : Nat → Int) : (Q6n c n x y m u v).length = Q16 n m := by
 unfold Q6n Q16
 first | rfl | (simp only [Qps, List.length_append, hLl, i8l, c4l, Qf1, Qgm, Qny, Qnj, Qni, Qgw, Qco, List.length_cons, List.length_nil, Qbl]; done) | (simp only [Qps, List.length_append, hLl, i8l, c4l, Qf1, Qgm, Qny, Qnj, Qni, Qgw, Qco, List.length_cons, List.length_nil, Qbl]; omega)
theorem Zaz {k e : Int} (hk : e = 0 → 1 ≤ k ∧ k ≤ 10) (c : RV) (n : Nat) (x y : Nat → Int) (m : Nat) (u v : Nat → Int) : (rTK k e c n x y m u v).length = rNK k e n m := by
 by_cases h0 : e = 0
 · subst h0
   have hk := hk rfl
   have hk' : k = 1 ∨ k = 2 ∨ k = 3 ∨ k = 4 ∨ k = 5 ∨ k = 6 ∨ k = 7 ∨ k = 8 ∨ k = 9 ∨ k = 10 := by omega
   rcases hk' with z | z | z | z | z | z | z | z | z | z <;> subst z
   · exact Za8 c n x y m u v
   · exact Za7 c n x y m u v
   · exact Za6 c n x y m u v
   · exact Za5 c n x y m u v
   · exact Za4 c n x y m u v
   · exact Za3 c n x y m u v
   · exact Za2 c n x y m u v
   · exact Za1 c n x y m u v
   · exact Za0 c n x y m u v
   · exact Q4o c n x y m u v
 · unfold rTK rNK
   rw [show (e == 0) = false by simpa using h0, cond_false, cond_false]
   cases e == 14
   · rfl
   · exact i8l _
theorem Q4l {k e : Int} (hk : e = 0 → 1 ≤ k ∧ k ≤ 10) (c : RV) (n : Nat) (g : Nat → Int × Int) (m : Nat) (h : Nat → Int × Int) : Qh9 k e c n g m h = strOfNums (Zaw k e c n g m h) := by
 unfold Qh9
 have hl : (Zaw k e c n g m h).length = 6 + rNK k e n m := by
   unfold Zaw rpL
   simp only [List.length_append, c4l, Zaz hk, List.length_cons, List.length_nil]
   omega
 rw [Qkv]
 congr 1
 have := Qk0 (Zaw k e c n g m h)
 rw [hl] at this
 exact this
theorem Zjn {k e : Int} {c : RV} {n : Nat} {g : Nat → Int × Int} {m : Nat} {h : Nat → Int × Int} (hE : Qhd k e c n g m h = 0) : (0 ≤ k ∧ k ≤ 10) ∧ (e = 0 → 1 ≤ k ∧ k ≤ 10) ∧ Qgc k e c n g m h = true ∧ Qgd k e c n m h = false := by
 unfold Qhd at hE
 cases h1 : Qj3 k with
 | false => rw [h1] at hE; cases hE
 | true =>
   rw [h1] at hE
   cases h2 : Qgc k e c n g m h with
   | false => rw [h2] at hE; cases hE
   | true =>
     rw [h2] at hE
     cases h3 : Qgd k e c n m h with
     | true => rw [h3] at hE; cases hE
     | false =>
       have hk := Zf6 h1
       refine ⟨hk, fun h0 => ?_, rfl, rfl⟩
       unfold Qgc at h2
       rw [Bool.and_eq_true] at h2
       have h2 := h2.1
       by_cases hk0 : k = 0
       · subst hk0 h0
         rw [show (!((0 : Int) == 0)) = false from rfl, Bool.false_and, Bool.and_false] at h2
         cases h2
       · omega
theorem Zav {k e : Int} {c : RV} {n : Nat} {g : Nat → Int × Int} {m : Nat} {h : Nat → Int × Int} (hE : Qhd k e c n g m h = 0) : Qhw k e c n g m h = Qh9 k e c n g m h := by
 obtain ⟨h1, _, h2, h3⟩ := Zjn hE
 unfold Qhw Qj3
 rw [decide_eq_true h1.1, decide_eq_true h1.2, h2, h3]
 rfl
def Qtt (args : List SV) (bs : List Blk) : Option Eff := match args, bs with
 | [.vp 0 0, .agg [.v (.int .i64 k), .v (.int .i64 r), .v (.int .i64 w), .v (.int .i64 h), .sl 1 2 0 n _]], [B, S] => match Qmt [B] with
   | some (.fresh (some b)) => bif Qr8 S then some (apE (.fresh (some b)) 0 (((I64 k ∧ I64 r ∧ I64 w ∧ I64 h) ∧ S.n = n ∧ n < 100) ∧ ∀ i, i < n → Qht (S.row i)) (shN n) (shL k r w h n (fun i => pX (S.row i)) (fun i => pY (S.row i))) (Qc5 k n)) else none
   | _ => none
 | _, _ => none
@[reducible] noncomputable def Qhk (k : Int) (r : Int) (w : Int) := (fun i => SE.Qad [SV.v (.int .u8 (apG 9 (fun i => SE.Qad [SV.v (.int .u8 (apG 1 (fun i => SE.Qad [SV.v (.int .u8 ((fun i => List.getD [k % 256] i 0) i))]) (be (r % 18446744073709551616) 8) i))]) (be (w % 18446744073709551616) 8) i))])
theorem Q21 (b : Bool) (k r w h : Int) (n e n' c' : Nat) (x y : Nat→Int) : (Qa6 Try.prog Zhr Qas Try.f97 [.vp 0 0,.agg [.v (.int .i64 k),.v (.int .i64 r),.v (.int .i64 w),.v (.int .i64 h),.sl 1 2 0 n c']] (Qac [wB (some b) true Qa8,spB e n' x y]) 64 (fun y' h' => Qbh [wB (some b) true Qa8,spB e n' x y] (apE (.fresh (some b)) 0 True (shN n) (shL k r w h n x y) (Qc5 k n)) y' h')) =
((I64 k)∧(∀ c : Nat,((((Qaf 1 (1 + c) {elem:=5,size:=1,rw:=true,lock:=false,lit:=false,flat:=true,n:=1,row:=fun i => [yU ((fun i => List.getD [k % 256] i 0) i)],ext:=1 + c})∧((1 : Nat) ≤ M0))∧(I64 r))∧(∀ c_1 : Nat,((((Qaf 9 (9 + c_1) {elem:=5,size:=1,rw:=true,lock:=false,lit:=false,flat:=true,n:=9,row:=fun i => [yU (apG 1 (fun i => SE.Qad [yU ((fun i => List.getD [k % 256] i 0) i)]) (be (r % 18446744073709551616) 8) i)],ext:=9 + c_1})∧((9 : Nat) ≤ M0))∧(I64 w))∧(∀ c_2 : Nat,((((Qaf 17 (17 + c_2) {elem:=5,size:=1,rw:=true,lock:=false,lit:=false,flat:=true,n:=17,row:=fun i => [yU (apG 9 (fun i => SE.Qad [yU (apG 1 (fun i => SE.Qad [yU ((fun i => List.getD [k % 256] i 0) i)]) (be (r % 18446744073709551616) 8) i)]) (be (w % 18446744073709551616) 8) i)],ext:=17 + c_2})∧((17 : Nat) ≤ M0))∧(I64 h))∧(∀ c_3 : Nat,((((Qaf 25 (25 + c_3) {elem:=5,size:=1,rw:=true,lock:=false,lit:=false,flat:=true,n:=25,row:=fun i => [yU (apG 17 (Qhk k r w) (be (h % 18446744073709551616) 8) i)],ext:=25 + c_3})∧((25 : Nat) ≤ M0))∧(I64 (↑n : Int)))∧(∀ c_4 : Nat,(sel (decide ((↑n : Int) ≤ 8)) ((((Qaf 26 (26 + c_4) {elem:=5,size:=1,rw:=true,lock:=false,lit:=false,flat:=true,n:=26,row:=fun i => [yU (apG 25 (fun i => SE.Qad [yU (apG 17 (Qhk k r w) (be (h % 18446744073709551616) 8) i)]) [(↑n : Int) % 256] i)],ext:=26 + c_4})∧((26 : Nat) ≤ NB0))∧((((n : Nat) = n)∧(((n : Nat) < 100)∧((26 : Nat) ≤ (26 + c_4))))∧(∀ i : Nat,(((i : Nat) < n)→(Qht [yI (x (0 + i)),yI (y (0 + i))])))))∧(∀ c_5 : Nat,(∃ c_6 : Nat,(True∧((((1 : Nat) = 1)∧(((1 : Nat) ≤ 1)∧(((SV.sl 344 1 0 (26 + 16 * n) (26 + 16 * n + c_5)) = (SV.sl 344 1 0 (shN n) (shN n + c_6)))∧((yF (b||Qal k 255||false||false||false||Qal (↑n : Int) 8||false)) = (yF (b||Qc5 k n))))))∧((((26 + 16 * n) : Nat) = (shN n))∧((((shN n + c_6) : Nat) ≤ (26 + 16 * n + c_5))∧(∀ i : Nat,(((i : Nat) < (shN n))→([(yU (apG 26 (fun i => SE.Qad [yU (apG 25 (fun i => SE.Qad [yU (apG 17 (Qhk k r w) (be (h % 18446744073709551616) 8) i)]) [(↑n : Int) % 256] i)]) (Qc8 (fun i => pX [yI (x (0 + i)),yI (y (0 + i))]) (fun i => pY [yI (x (0 + i)),yI (y (0 + i))]) n) i))] = [(yU (List.getD (shL k r w h n x y) i 0))])))))))))) (∃ c_5 : Nat,(True∧((((1 : Nat) = 1)∧(((1 : Nat) ≤ 1)∧(((SV.sl 280 1 0 26 (26 + c_4)) = (SV.sl 280 1 0 (shN n) (shN n + c_5)))∧((yF (b||Qal k 255||false||false||false||Qal (↑n : Int) 8)) = (yF (b||Qc5 k n))))))∧(((26 : Nat) = (shN n))∧((((shN n + c_5) : Nat) ≤ (26 + c_4))∧(∀ i : Nat,(((i : Nat) < (shN n))→([(yU (apG 25 (fun i => SE.Qad [yU (apG 17 (Qhk k r w) (be (h % 18446744073709551616) 8) i)]) [(↑n : Int) % 256] i))] = [(yU (List.getD (shL k r w h n x y) i 0))]))))))))))))))))))) := by kernel_rfl
def Q7y : Qb6 := Qap (Qap Q77 118 (Qca true Qnt)) 97 (Qca true Qtt)
@[reducible] noncomputable def Qhn (o : BV) (n : Nat) (x : Nat→Int) (y : Nat→Int) := (fun i => SE.Qad [SV.v (.int .u8 (apG (shN n + 36 + 18) (fun i => SE.Qad [SV.v (.int .u8 (apG (shN n + 36) (fun i => SE.Qad [SV.v (.int .u8 (apG (shN n) (fun i => SE.Qad [SV.v (.int .u8 ((fun i => List.getD (shL (BV.sk o) (BV.sr o) (BV.sw o) (BV.sh o) n (fun i => pX [SV.v (.int .i64 (x (0 + i))),SV.v (.int .i64 (y (0 + i)))]) fun i => pY [SV.v (.int .i64 (x (0 + i))),SV.v (.int .i64 (y (0 + i)))]) i 0) i))]) (Qe3 (BV.p0v o) (BV.p0f o) (BV.p1v o) (BV.p1f o)++(Qdu (BV.p2v o) (BV.p2f o)++Qdu (BV.p3v o) (BV.p3f o))) i))]) (Qe3 (BV.v0v o) (BV.v0f o) (BV.v1v o) (BV.v1f o)) i))]) (Qft (fun i => nV [SV.v (.int .i64 (bop (Nat.beq (0 + i) 0) (BV.w0v o) (bop (Nat.beq (0 + i) 1) (BV.m0v o) (BV.m1v o)))),SV.v (.bool (bop (Nat.beq (0 + i) 0) (BV.w0f o) (bop (Nat.beq (0 + i) 1) (BV.m0f o) (BV.m1f o))))]) (fun i => nF [SV.v (.int .i64 (bop (Nat.beq (0 + i) 0) (BV.w0v o) (bop (Nat.beq (0 + i) 1) (BV.m0v o) (BV.m1v o)))),SV.v (.bool (bop (Nat.beq (0 + i) 0) (BV.w0f o) (bop (Nat.beq (0 + i) 1) (BV.m0f o) (BV.m1f o))))]) 3) i))])
@[reducible] noncomputable def Qiv (b : Bool) (o : BV) (n : Nat) := ((SV.v (.bool (b||Qc5 (BV.sk o) n||(Qbq (BV.p0v o)||Qbq (BV.p1v o)||(Qbq (BV.p2v o)||Qbq (BV.p3v o)))||(Qbq (BV.v0v o)||Qbq (BV.v1v o))||Qbv (fun i => nV [SV.v (.int .i64 (bop (Nat.beq (0 + i) 0) (BV.w0v o) (bop (Nat.beq (0 + i) 1) (BV.m0v o) (BV.m1v o)))),SV.v (.bool (bop (Nat.beq (0 + i) 0) (BV.w0f o) (bop (Nat.beq (0 + i) 1) (BV.m0f o) (BV.m1f o))))]) 3||Qal (BV.st o) 2147483647||false||Qal (BV.bv o) 1099511627776))) = (SV.v (.bool (b||Qd4 o n))))
@[reducible] noncomputable def Qex (o : BV) (n : Nat) (x : Nat→Int) (y : Nat→Int) := (fun i => SE.Qad [SV.v (.int .u8 (apG (shN n + 36 + 18 + 27) (Qhn o n x y) (be (BV.st o % 4294967296) 4) i))])
@[reducible] noncomputable def Qiu (o : BV) (n : Nat) (x : Nat→Int) (y : Nat→Int) := (fun i => List.getD (shL (BV.sk o) (BV.sr o) (BV.sw o) (BV.sh o) n (fun i => pX [SV.v (.int .i64 (x (0 + i))),SV.v (.int .i64 (y (0 + i)))]) fun i => pY [SV.v (.int .i64 (x (0 + i))),SV.v (.int .i64 (y (0 + i)))]) i 0)
theorem Q9i (b : Bool) (o : BV) (e n m cap xt : Nat) (x y : Nat→Int) (wh : Bool) : (Qa6 Try.prog Q7y Qas Try.f93 [.vp 0 0,boS o (.sl 1 2 0 n cap)] (Qac [wB (some b) true Qa8,ptB e m x y xt wh]) 64 (fun y' h' => Qbh [wB (some b) true Qa8,ptB e m x y xt wh] (apE (.fresh (some b)) 0 True (boN n) (boL o n x y) (Qd4 o n)) y' h')) =
(((((I64 (BV.sk o))∧((I64 (BV.sr o))∧((I64 (BV.sw o))∧(I64 (BV.sh o)))))∧(((n : Nat) = n)∧((n : Nat) < 100)))∧(∀ i : Nat,(((i : Nat) < n)→(Qht [yI (x (0 + i)),yI (y (0 + i))]))))∧(∀ c : Nat,((((Qaf (shN n) (shN n + c) {elem:=5,size:=1,rw:=true,lock:=false,lit:=false,flat:=true,n:=shN n,row:=fun i => [yU ((Qiu o n x y) i)],ext:=shN n + c})∧(((shN n) : Nat) ≤ NB0))∧((I64 (BV.p0v o))∧((I64 (BV.p1v o))∧((I64 (BV.p2v o))∧(I64 (BV.p3v o))))))∧(∀ c_1 : Nat,((((Qaf (shN n + 36) (shN n + 36 + c_1) {elem:=5,size:=1,rw:=true,lock:=false,lit:=false,flat:=true,n:=shN n + 36,row:=fun i => [yU (apG (shN n) (fun i => SE.Qad [yU ((Qiu o n x y) i)]) (Qe3 (BV.p0v o) (BV.p0f o) (BV.p1v o) (BV.p1f o)++(Qdu (BV.p2v o) (BV.p2f o)++Qdu (BV.p3v o) (BV.p3f o))) i)],ext:=shN n + 36 + c_1})∧(((shN n + 36) : Nat) ≤ NB0))∧((I64 (BV.v0v o))∧(I64 (BV.v1v o))))∧(∀ c_2 : Nat,((((Qaf (shN n + 36 + 18) (shN n + 36 + 18 + c_2) {elem:=5,size:=1,rw:=true,lock:=false,lit:=false,flat:=true,n:=shN n + 36 + 18,row:=fun i => [yU (apG (shN n + 36) (fun i => SE.Qad [yU (apG (shN n) (fun i => SE.Qad [yU ((Qiu o n x y) i)]) (Qe3 (BV.p0v o) (BV.p0f o) (BV.p1v o) (BV.p1f o)++(Qdu (BV.p2v o) (BV.p2f o)++Qdu (BV.p3v o) (BV.p3f o))) i)]) (Qe3 (BV.v0v o) (BV.v0f o) (BV.v1v o) (BV.v1f o)) i)],ext:=shN n + 36 + 18 + c_2})∧(((shN n + 36 + 18) : Nat) ≤ NB0))∧(((3 : Nat) = 3)∧(((1 : Nat) ≤ 3)∧(((3 : Nat) ≤ 100)∧(∀ i : Nat,(((i : Nat) < 3)→(Qn7 [yI (bop (Nat.beq (0 + i) 0) (BV.w0v o) (bop (Nat.beq (0 + i) 1) (BV.m0v o) (BV.m1v o))),yF (bop (Nat.beq (0 + i) 0) (BV.w0f o) (bop (Nat.beq (0 + i) 1) (BV.m0f o) (BV.m1f o)))])))))))∧(∀ c_3 : Nat,((((Qaf (shN n + 36 + 18 + 27) (shN n + 36 + 18 + 27 + c_3) {elem:=5,size:=1,rw:=true,lock:=false,lit:=false,flat:=true,n:=shN n + 36 + 18 + 27,row:=fun i => [yU (apG (shN n + 36 + 18) (fun i => SE.Qad [yU (apG (shN n + 36) (fun i => SE.Qad [yU (apG (shN n) (fun i => SE.Qad [yU ((Qiu o n x y) i)]) (Qe3 (BV.p0v o) (BV.p0f o) (BV.p1v o) (BV.p1f o)++(Qdu (BV.p2v o) (BV.p2f o)++Qdu (BV.p3v o) (BV.p3f o))) i)]) (Qe3 (BV.v0v o) (BV.v0f o) (BV.v1v o) (BV.v1f o)) i)]) (Qft (fun i => nV [yI (bop (Nat.beq (0 + i) 0) (BV.w0v o) (bop (Nat.beq (0 + i) 1) (BV.m0v o) (BV.m1v o))),yF (bop (Nat.beq (0 + i) 0) (BV.w0f o) (bop (Nat.beq (0 + i) 1) (BV.m0f o) (BV.m1f o)))]) (fun i => nF [yI (bop (Nat.beq (0 + i) 0) (BV.w0v o) (bop (Nat.beq (0 + i) 1) (BV.m0v o) (BV.m1v o))),yF (bop (Nat.beq (0 + i) 0) (BV.w0f o) (bop (Nat.beq (0 + i) 1) (BV.m0f o) (BV.m1f o)))]) 3) i)],ext:=shN n + 36 + 18 + 27 + c_3})∧(((shN n + 36 + 18 + 27) : Nat) ≤ M0))∧(I64 (BV.st o)))∧(∀ c_4 : Nat,(sel (BV.asl o) (sel (BV.flt o) ((((Qaf (shN n + 36 + 18 + 27 + 4) (shN n + 36 + 18 + 27 + 4 + c_4) {elem:=5,size:=1,rw:=true,lock:=false,lit:=false,flat:=true,n:=shN n + 36 + 18 + 27 + 4,row:=fun i => [yU (apG (shN n + 36 + 18 + 27) (Qhn o n x y) (be (BV.st o % 4294967296) 4) i)],ext:=shN n + 36 + 18 + 27 + 4 + c_4})∧(((shN n + 36 + 18 + 27 + 4) : Nat) ≤ M0))∧(I64 3))∧(∀ c_5 : Nat,((((Qaf (shN n + 36 + 18 + 27 + 4 + 1) (shN n + 36 + 18 + 27 + 4 + 1 + c_5) {elem:=5,size:=1,rw:=true,lock:=false,lit:=false,flat:=true,n:=shN n + 36 + 18 + 27 + 4 + 1,row:=fun i => [yU (apG (shN n + 36 + 18 + 27 + 4) (Qex o n x y) [3] i)],ext:=shN n + 36 + 18 + 27 + 4 + 1 + c_5})∧(((shN n + 36 + 18 + 27 + 4 + 1) : Nat) ≤ M0))∧(I64 (BV.bv o)))∧(∀ c_6 : Nat,(∃ c_7 : Nat,(True∧((((1 : Nat) = 1)∧(((1 : Nat) ≤ 1)∧(((SV.sl 440 1 0 (shN n + 36 + 18 + 27 + 4 + 1 + 8) (shN n + 36 + 18 + 27 + 4 + 1 + 8 + c_6)) = (SV.sl 440 1 0 (boN n) (boN n + c_7)))∧(Qiv b o n))))∧((((shN n + 36 + 18 + 27 + 4 + 1 + 8) : Nat) = (boN n))∧((((boN n + c_7) : Nat) ≤ (shN n + 36 + 18 + 27 + 4 + 1 + 8 + c_6))∧(∀ i : Nat,(((i : Nat) < (boN n))→([(yU (apG (shN n + 36 + 18 + 27 + 4 + 1) (fun i => SE.Qad [yU (apG (shN n + 36 + 18 + 27 + 4) (Qex o n x y) [3] i)]) (be (BV.bv o % 18446744073709551616) 8) i))] = [(yU (List.getD (boL o n x y) i 0))])))))))))))) ((((Qaf (shN n + 36 + 18 + 27 + 4) (shN n + 36 + 18 + 27 + 4 + c_4) {elem:=5,size:=1,rw:=true,lock:=false,lit:=false,flat:=true,n:=shN n + 36 + 18 + 27 + 4,row:=fun i => [yU (apG (shN n + 36 + 18 + 27) (Qhn o n x y) (be (BV.st o % 4294967296) 4) i)],ext:=shN n + 36 + 18 + 27 + 4 + c_4})∧(((shN n + 36 + 18 + 27 + 4) : Nat) ≤ M0))∧(I64 1))∧(∀ c_5 : Nat,((((Qaf (shN n + 36 + 18 + 27 + 4 + 1) (shN n + 36 + 18 + 27 + 4 + 1 + c_5) {elem:=5,size:=1,rw:=true,lock:=false,lit:=false,flat:=true,n:=shN n + 36 + 18 + 27 + 4 + 1,row:=fun i => [yU (apG (shN n + 36 + 18 + 27 + 4) (Qex o n x y) [1] i)],ext:=shN n + 36 + 18 + 27 + 4 + 1 + c_5})∧(((shN n + 36 + 18 + 27 + 4 + 1) : Nat) ≤ M0))∧(I64 (BV.bv o)))∧(∀ c_6 : Nat,(∃ c_7 : Nat,(True∧((((1 : Nat) = 1)∧(((1 : Nat) ≤ 1)∧(((SV.sl 440 1 0 (shN n + 36 + 18 + 27 + 4 + 1 + 8) (shN n + 36 + 18 + 27 + 4 + 1 + 8 + c_6)) = (SV.sl 440 1 0 (boN n) (boN n + c_7)))∧(Qiv b o n))))∧((((shN n + 36 + 18 + 27 + 4 + 1 + 8) : Nat) = (boN n))∧((((boN n + c_7) : Nat) ≤ (shN n + 36 + 18 + 27 + 4 + 1 + 8 + c_6))∧(∀ i : Nat,(((i : Nat) < (boN n))→([(yU (apG (shN n + 36 + 18 + 27 + 4 + 1) (fun i => SE.Qad [yU (apG (shN n + 36 + 18 + 27 + 4) (Qex o n x y) [1] i)]) (be (BV.bv o % 18446744073709551616) 8) i))] = [(yU (List.getD (boL o n x y) i 0))]))))))))))))) (sel (BV.flt o) ((((Qaf (shN n + 36 + 18 + 27 + 4) (shN n + 36 + 18 + 27 + 4 + c_4) {elem:=5,size:=1,rw:=true,lock:=false,lit:=false,flat:=true,n:=shN n + 36 + 18 + 27 + 4,row:=fun i => [yU (apG (shN n + 36 + 18 + 27) (Qhn o n x y) (be (BV.st o % 4294967296) 4) i)],ext:=shN n + 36 + 18 + 27 + 4 + c_4})∧(((shN n + 36 + 18 + 27 + 4) : Nat) ≤ M0))∧(I64 2))∧(∀ c_5 : Nat,((((Qaf (shN n + 36 + 18 + 27 + 4 + 1) (shN n + 36 + 18 + 27 + 4 + 1 + c_5) {elem:=5,size:=1,rw:=true,lock:=false,lit:=false,flat:=true,n:=shN n + 36 + 18 + 27 + 4 + 1,row:=fun i => [yU (apG (shN n + 36 + 18 + 27 + 4) (Qex o n x y) [2] i)],ext:=shN n + 36 + 18 + 27 + 4 + 1 + c_5})∧(((shN n + 36 + 18 + 27 + 4 + 1) : Nat) ≤ M0))∧(I64 (BV.bv o)))∧(∀ c_6 : Nat,(∃ c_7 : Nat,(True∧((((1 : Nat) = 1)∧(((1 : Nat) ≤ 1)∧(((SV.sl 440 1 0 (shN n + 36 + 18 + 27 + 4 + 1 + 8) (shN n + 36 + 18 + 27 + 4 + 1 + 8 + c_6)) = (SV.sl 440 1 0 (boN n) (boN n + c_7)))∧(Qiv b o n))))∧((((shN n + 36 + 18 + 27 + 4 + 1 + 8) : Nat) = (boN n))∧((((boN n + c_7) : Nat) ≤ (shN n + 36 + 18 + 27 + 4 + 1 + 8 + c_6))∧(∀ i : Nat,(((i : Nat) < (boN n))→([(yU (apG (shN n + 36 + 18 + 27 + 4 + 1) (fun i => SE.Qad [yU (apG (shN n + 36 + 18 + 27 + 4) (Qex o n x y) [2] i)]) (be (BV.bv o % 18446744073709551616) 8) i))] = [(yU (List.getD (boL o n x y) i 0))])))))))))))) ((((Qaf (shN n + 36 + 18 + 27 + 4) (shN n + 36 + 18 + 27 + 4 + c_4) {elem:=5,size:=1,rw:=true,lock:=false,lit:=false,flat:=true,n:=shN n + 36 + 18 + 27 + 4,row:=fun i => [yU (apG (shN n + 36 + 18 + 27) (Qhn o n x y) (be (BV.st o % 4294967296) 4) i)],ext:=shN n + 36 + 18 + 27 + 4 + c_4})∧(((shN n + 36 + 18 + 27 + 4) : Nat) ≤ M0))∧(I64 0))∧(∀ c_5 : Nat,((((Qaf (shN n + 36 + 18 + 27 + 4 + 1) (shN n + 36 + 18 + 27 + 4 + 1 + c_5) {elem:=5,size:=1,rw:=true,lock:=false,lit:=false,flat:=true,n:=shN n + 36 + 18 + 27 + 4 + 1,row:=fun i => [yU (apG (shN n + 36 + 18 + 27 + 4) (Qex o n x y) [0] i)],ext:=shN n + 36 + 18 + 27 + 4 + 1 + c_5})∧(((shN n + 36 + 18 + 27 + 4 + 1) : Nat) ≤ M0))∧(I64 (BV.bv o)))∧(∀ c_6 : Nat,(∃ c_7 : Nat,(True∧((((1 : Nat) = 1)∧(((1 : Nat) ≤ 1)∧(((SV.sl 440 1 0 (shN n + 36 + 18 + 27 + 4 + 1 + 8) (shN n + 36 + 18 + 27 + 4 + 1 + 8 + c_6)) = (SV.sl 440 1 0 (boN n) (boN n + c_7)))∧(Qiv b o n))))∧((((shN n + 36 + 18 + 27 + 4 + 1 + 8) : Nat) = (boN n))∧((((boN n + c_7) : Nat) ≤ (shN n + 36 + 18 + 27 + 4 + 1 + 8 + c_6))∧(∀ i : Nat,(((i : Nat) < (boN n))→([(yU (apG (shN n + 36 + 18 + 27 + 4 + 1) (fun i => SE.Qad [yU (apG (shN n + 36 + 18 + 27 + 4) (Qex o n x y) [0] i)]) (be (BV.bv o % 18446744073709551616) 8) i))] = [(yU (List.getD (boL o n x y) i 0))])))))))))))))))))))))))) := by kernel_rfl
def Qzp (args : List SV) (bs : List Blk) : Option Eff := match args with
 | [.vp 0 0, .agg l] => match Qii l, bs with
   | some (o, .sl 1 2 0 n _), [B, S] => match Qmt [B] with
     | some (.fresh (some b)) => bif okB S then some (apE (.fresh (some b)) 0 (Qx6 o ∧ Qbg n S ∧ n < 100) (boN n) (boL o n (gX S) (gY S)) (Qd4 o n)) else none
     | _ => none
   | _, _ => none
 | _ => none
def ΓBy : Qb6 := Qap (Qap Qaq 93 (Qca true Qzp)) 71 (Qca true Qr6)
theorem Zfm (o : BV) (n cap : Nat) (g : Nat→Int × Int) (R : SV→Prop) : (Qa6 Try.prog ΓBy Qas Try.f56 [boS o (.sl 0 2 0 n cap)] (Qa0 [⟨2,n,Qan g⟩]) 64 (fun y _ => R y)) = (((Qx6 o)∧((Qbg n (Qaz (Ro.blk {s:=2,n:=n,row:=fun i => [yI (Prod.fst (g i)),yI (Prod.snd (g i))]}) 2 0 n))∧((n : Nat) < 100)))∧(∀ c : Nat,((Qaf (boN n) (boN n + c) {elem:=5,size:=1,rw:=true,lock:=false,lit:=false,flat:=true,n:=boN n,row:=fun i => [yU ((fun i => List.getD (boL o n (gX (Qaz (Ro.blk {s:=2,n:=n,row:=fun i => [yI (Prod.fst (g i)),yI (Prod.snd (g i))]}) 2 0 n)) (gY (Qaz (Ro.blk {s:=2,n:=n,row:=fun i => [yI (Prod.fst (g i)),yI (Prod.snd (g i))]}) 2 0 n))) i 0) i)],ext:=boN n + c})∧(R (SV.tup [(SV.v (.string (bif false||Qd4 o n then emp else Qcd (boN n) fun i => [yU (SE.Qad [yU ((fun i => List.getD (boL o n (gX (Qaz (Ro.blk {s:=2,n:=n,row:=fun i => [yI (Prod.fst (g i)),yI (Prod.snd (g i))]}) 2 0 n)) (gY (Qaz (Ro.blk {s:=2,n:=n,row:=fun i => [yI (Prod.fst (g i)),yI (Prod.snd (g i))]}) 2 0 n))) i 0) i)])]))),(yI (bif false||Qd4 o n then 3 else 0))]))))):=by kernel_rfl
def Qum (o : BV) (n : Nat) (g : Nat → Int × Int) : ByteArray := Qcd (boN n) fun i => [.v (.int .u8 ((boL o n (fun i => (g i).1) (fun i => (g i).2)).getD i 0))]
def Q09 (o : BV) (n n' : Nat) (row : Nat → List SV) : Prop := Qam n n' row ∧ Qx6 o ∧ n < 100
def Q7c (o : BV) (n : Nat) (g : Nat → Int × Int) : ByteArray := bif Qd4 o n then emp else Qum o n g
def boE (o : BV) (n : Nat) : Int := bif Qd4 o n then 3 else 0
def Qzo : List SV → List Ro → Option (Option Prop × SV)
 | [.agg l], [⟨2, n', row⟩] => match Qii l with
   | some (o, .sl 0 2 0 n _) => some (some (Q09 o n n' row), .tup [Qe4 (Q7c o n fun i => gi (row i)), iV (boE o n)])
   | _ => none
 | _, _ => none
theorem Qtr {b : Bool} {k r w h : Int} {n e c' : Nat} {x y : Nat → Int} (hk : I64 k) (hr : I64 r) (hw : I64 w) (hh : I64 h) (h100 : n < 100) (hv : ∀ i, i < n → I64 (x i) ∧ I64 (y i)) : Qa6 Try.prog Zhr Qas Try.f97 [.vp 0 0, .agg [.v (.int .i64 k), .v (.int .i64 r), .v (.int .i64 w), .v (.int .i64 h), .sl 1 2 0 n c']] (Qac [wB (some b) true Qa8, spB e n x y]) 64 (fun y' h' => Qbh [wB (some b) true Qa8, spB e n x y] (apE (.fresh (some b)) 0 True (shN n) (shL k r w h n x y) (Qc5 k n)) y' h') := by
 have h_vc := Q21 b k r w h n e n c' x y
 repeat (first | unfold Qhk at h_vc)
 refine Eq.mpr h_vc ⟨hk, fun c1 => ⟨⟨⟨Qaa _ _ _ (by omega), (by first | (show _ ≤ 1099511627776; omega) | (show _ ≤ 1000000000; omega) | (show _ ≤ 900000000; omega) | (show _ ≤ 800000000; omega))⟩, hr⟩, fun c2 => ⟨⟨⟨Qaa _ _ _ (by omega), (by first | (show _ ≤ 1099511627776; omega) | (show _ ≤ 1000000000; omega) | (show _ ≤ 900000000; omega) | (show _ ≤ 800000000; omega))⟩, hw⟩, fun c3 => ⟨⟨⟨Qaa _ _ _ (by omega), (by first | (show _ ≤ 1099511627776; omega) | (show _ ≤ 1000000000; omega) | (show _ ≤ 900000000; omega) | (show _ ≤ 800000000; omega))⟩, hh⟩, fun c4 => ⟨⟨⟨Qaa _ _ _ (by omega), (by first | (show _ ≤ 1099511627776; omega) | (show _ ≤ 1000000000; omega) | (show _ ≤ 900000000; omega) | (show _ ≤ 800000000; omega))⟩, ⟨by omega, by omega⟩⟩, fun c5 => Qab (fun hle => ?_) fun hgt => ?_⟩⟩⟩⟩⟩
 · have hle := of_decide_eq_true hle
   have hb : Nat.ble n 8 = true := Nat.ble_eq_true_of_le (by omega)
   refine ⟨⟨⟨Qaa _ _ _ (by omega), (by first | (show _ ≤ 1099511627776; omega) | (show _ ≤ 1000000000; omega) | (show _ ≤ 900000000; omega) | (show _ ≤ 800000000; omega))⟩, ⟨rfl, h100, by omega⟩, fun i hi => by
     rw [Nat.zero_add]
     exact hv i hi⟩, fun c6 => Qb9 (by unfold shN; rw [hb, cond_true]) ?_ fun i hi => ?_⟩
   · simp only [Bool.or_false, Qc5, Bool.or_assoc]
   · show apG 26 (apG 25 (apG 17 (apG 9 (apG 1 (fun i => ([k % 256] : List Int).getD i 0) (i8 r)) (i8 w)) (i8 h)) [(n : Int) % 256]) (Qc8 (fun i => x (0 + i)) (fun i => y (0 + i)) n) i = _
     rw [show (fun i => x (0 + i)) = x from funext fun i => by rw [Nat.zero_add], show (fun i => y (0 + i)) = y from funext fun i => by rw [Nat.zero_add]]
     rw [Qay (n := 25) (m := 26) (L := [(n : Int) % 256]) rfl, Qay (n := 17) (m := 25) (Qbd (i8l _) rfl), Qay (n := 9) (m := 17) (Qbd (i8l _) rfl), Qay (n := 1) (m := 9) (Qbd (i8l _) rfl), Qbr]
     unfold shL
     rw [hb, cond_true]
 · have hgt := of_decide_eq_false hgt
   have hb : Nat.ble n 8 = false := by
     cases hc : Nat.ble n 8 with
     | false => rfl
     | true => have := Nat.le_of_ble_eq_true hc; omega
   refine Qb9 (by unfold shN; rw [hb, cond_false]) ?_ fun i hi => ?_
   · simp only [Bool.or_false, Qc5, Bool.or_assoc]
   · show apG 25 (apG 17 (apG 9 (apG 1 (fun i => ([k % 256] : List Int).getD i 0) (i8 r)) (i8 w)) (i8 h)) [(n : Int) % 256] i = _
     rw [Qay (n := 17) (m := 25) (Qbd (i8l _) rfl), Qay (n := 9) (m := 17) (Qbd (i8l _) rfl), Qay (n := 1) (m := 9) (Qbd (i8l _) rfl), Qbr]
     unfold shL
     rw [hb, cond_false, List.append_nil]
theorem Quu : Qbt Try.prog 97 Qtt := Qc0 hm Qyd Try.func97 (Λ := fun _ _ => Qas) fun args bs e hs hp => by
 unfold Qtt at hs
 split at hs <;> try (cases hs; done)
 rename_i k r w h n c' B S
 split at hs <;> try (cases hs; done)
 rename_i b hw
 obtain ⟨hro, he⟩ := Qcl hs
 subst he
 obtain ⟨⟨⟨hk, hr, hww, hh⟩, hn, h100⟩, hv⟩ := hp
 have hvp := fun i hi => Qjn (hv i hi)
 exact ⟨[wB (some b) true Qa8, spB S.elem n (fun i => pX (S.row i)) (fun i => pY (S.row i))], ⟨(Qdo hw).1, Qqm hro hn hv, trivial⟩, Qtr hk hr hww hh h100 fun i hi => (hvp i hi).2⟩
theorem Q2h : ∀ f g, Q7y f = some g → g.ok Try.prog f := Qah (Qah Qlk (Qcf Try.func118 (by kernel_rfl) (by kernel_rfl) Qgl)) (Qcf Try.func97 (by kernel_rfl) (by kernel_rfl) Quu)
theorem Qrr (o : BV) (n : Nat) (x y : Nat → Int) (mk : Int) (h : mk = bmk o) (i : Nat) : (apG (shN n + 36 + 18 + 27 + 4 + 1) (apG (shN n + 36 + 18 + 27 + 4) (apG (shN n + 36 + 18 + 27) (apG (shN n + 36 + 18) (apG (shN n + 36) (apG (shN n) (fun i => (shL o.sk o.sr o.sw o.sh n (fun i => x (0 + i)) (fun i => y (0 + i))).getD i 0) (poB o)) (voB o)) (wmB o)) (c4 o.st)) [mk]) (i8 o.bv)) i = (boL o n x y).getD i 0 := by
 subst h
 rw [show (fun i => x (0 + i)) = x from funext fun i => by rw [Nat.zero_add], show (fun i => y (0 + i)) = y from funext fun i => by rw [Nat.zero_add]]
 rw [Qay (n := shN n + 36 + 18 + 27 + 4) (m := shN n + 36 + 18 + 27 + 4 + 1) (L := [bmk o]) rfl]
 rw [Qay (n := shN n + 36 + 18 + 27) (m := shN n + 36 + 18 + 27 + 4) (Qbd (c4l _) rfl)]
 rw [Qay (n := shN n + 36 + 18) (m := shN n + 36 + 18 + 27) (Qbd (Qni o) rfl)]
 rw [Qay (n := shN n + 36) (m := shN n + 36 + 18) (Qbd (Qnj o) rfl)]
 rw [Qay (n := shN n) (m := shN n + 36) (Qbd (Qny o) rfl)]
 rw [Qsw (Qgw _ _ _ _ _ _ _)]
 rfl
theorem Qw9 {b : Bool} {o : BV} {e n m cap xt : Nat} {x y : Nat → Int} {wh : Bool} (hc : Qx6 o) (hn : n < 100) (hv : ∀ i, i < n → I64 (x i) ∧ I64 (y i)) : Qa6 Try.prog Q7y Qas Try.f93 [.vp 0 0, boS o (.sl 1 2 0 n cap)] (Qac [wB (some b) true Qa8, ptB e m x y xt wh]) 64 (fun y' h' => Qbh [wB (some b) true Qa8, ptB e m x y xt wh] (apE (.fresh (some b)) 0 True (boN n) (boL o n x y) (Qd4 o n)) y' h') := by
 have hsn := Qdc n
 obtain ⟨h_sk, h_sr, h_sw, h_sh, h_p0v, h_p1v, h_p2v, h_p3v, h_v0v, h_v1v, h_w0v, h_m0v, h_m1v, h_st, h_bv⟩ := hc
 have h_vc := Q9i b o e n m cap xt x y wh
 repeat (first | unfold Qiu at h_vc | unfold Qex at h_vc | unfold Qiv at h_vc | unfold Qhn at h_vc)
 refine Eq.mpr h_vc ⟨⟨⟨⟨h_sk, h_sr, h_sw, h_sh⟩, rfl, hn⟩, fun i hi => by rw [Nat.zero_add]; exact hv i hi⟩, fun d1 => ⟨⟨⟨Qaa _ _ _ (by omega), (by first | (show _ ≤ 1099511627776; omega) | (show _ ≤ 1000000000; omega) | (show _ ≤ 900000000; omega) | (show _ ≤ 800000000; omega))⟩, ⟨h_p0v, h_p1v, h_p2v, h_p3v⟩⟩, fun d2 => ⟨⟨⟨Qaa _ _ _ (by omega), (by first | (show _ ≤ 1099511627776; omega) | (show _ ≤ 1000000000; omega) | (show _ ≤ 900000000; omega) | (show _ ≤ 800000000; omega))⟩, ⟨h_v0v, h_v1v⟩⟩, fun d3 => ⟨⟨⟨Qaa _ _ _ (by omega), (by first | (show _ ≤ 1099511627776; omega) | (show _ ≤ 1000000000; omega) | (show _ ≤ 900000000; omega) | (show _ ≤ 800000000; omega))⟩, ⟨rfl, by omega, by omega, fun i hi => by
   have : i = 0 ∨ i = 1 ∨ i = 2 := by omega
   rcases this with rfl | rfl | rfl
   · exact h_w0v
   · exact h_m0v
   · exact h_m1v⟩⟩, fun d4 => ⟨⟨⟨Qaa _ _ _ (by omega), (by first | (show _ ≤ 1099511627776; omega) | (show _ ≤ 1000000000; omega) | (show _ ≤ 900000000; omega) | (show _ ≤ 800000000; omega))⟩, h_st⟩, fun d5 => Qab (fun ea => Qab (fun ef => ⟨⟨⟨Qaa _ _ _ (by omega), (by first | (show _ ≤ 1099511627776; omega) | (show _ ≤ 1000000000; omega) | (show _ ≤ 900000000; omega) | (show _ ≤ 800000000; omega))⟩, ⟨by omega, by omega⟩⟩, fun d6 => ⟨⟨⟨Qaa _ _ _ (by omega), (by first | (show _ ≤ 1099511627776; omega) | (show _ ≤ 1000000000; omega) | (show _ ≤ 900000000; omega) | (show _ ≤ 800000000; omega))⟩, h_bv⟩, fun d7 => Qb9 ?_ ?_ fun i hi => Qrr o n x y 3 (by unfold bmk; rw [ea, ef]; rfl) i⟩⟩) fun ef => ⟨⟨⟨Qaa _ _ _ (by omega), (by first | (show _ ≤ 1099511627776; omega) | (show _ ≤ 1000000000; omega) | (show _ ≤ 900000000; omega) | (show _ ≤ 800000000; omega))⟩, ⟨by omega, by omega⟩⟩, fun d6 => ⟨⟨⟨Qaa _ _ _ (by omega), (by first | (show _ ≤ 1099511627776; omega) | (show _ ≤ 1000000000; omega) | (show _ ≤ 900000000; omega) | (show _ ≤ 800000000; omega))⟩, h_bv⟩, fun d7 => Qb9 ?_ ?_ fun i hi => Qrr o n x y 1 (by unfold bmk; rw [ea, ef]; rfl) i⟩⟩) fun ea => Qab (fun ef => ⟨⟨⟨Qaa _ _ _ (by omega), (by first | (show _ ≤ 1099511627776; omega) | (show _ ≤ 1000000000; omega) | (show _ ≤ 900000000; omega) | (show _ ≤ 800000000; omega))⟩, ⟨by omega, by omega⟩⟩, fun d6 => ⟨⟨⟨Qaa _ _ _ (by omega), (by first | (show _ ≤ 1099511627776; omega) | (show _ ≤ 1000000000; omega) | (show _ ≤ 900000000; omega) | (show _ ≤ 800000000; omega))⟩, h_bv⟩, fun d7 => Qb9 ?_ ?_ fun i hi => Qrr o n x y 2 (by unfold bmk; rw [ea, ef]; rfl) i⟩⟩) fun ef => ⟨⟨⟨Qaa _ _ _ (by omega), (by first | (show _ ≤ 1099511627776; omega) | (show _ ≤ 1000000000; omega) | (show _ ≤ 900000000; omega) | (show _ ≤ 800000000; omega))⟩, ⟨by omega, by omega⟩⟩, fun d6 => ⟨⟨⟨Qaa _ _ _ (by omega), (by first | (show _ ≤ 1099511627776; omega) | (show _ ≤ 1000000000; omega) | (show _ ≤ 900000000; omega) | (show _ ≤ 800000000; omega))⟩, h_bv⟩, fun d7 => Qb9 ?_ ?_ fun i hi => Qrr o n x y 0 (by unfold bmk; rw [ea, ef]; rfl) i⟩⟩⟩⟩⟩⟩⟩
 · show _ = shN n + 94
   omega
 · simp only [Bool.or_false, Qd4, Qc5, Qbv, nV, bop, Bool.false_or, Bool.or_assoc]
   first | rfl | skip
 · show _ = shN n + 94
   omega
 · simp only [Bool.or_false, Qd4, Qc5, Qbv, nV, bop, Bool.false_or, Bool.or_assoc]
   first | rfl | skip
 · show _ = shN n + 94
   omega
 · simp only [Bool.or_false, Qd4, Qc5, Qbv, nV, bop, Bool.false_or, Bool.or_assoc]
   first | rfl | skip
 · show _ = shN n + 94
   omega
 · simp only [Bool.or_false, Qd4, Qc5, Qbv, nV, bop, Bool.false_or, Bool.or_assoc]
   first | rfl | skip
theorem Qx1 : Qbt Try.prog 93 Qzp := Qc0 hm Q2h Try.func93 (Λ := fun _ _ => Qas) fun args bs e hs hp => by
 unfold Qzp at hs
 split at hs <;> try (cases hs; done)
 rename_i l
 split at hs <;> try (cases hs; done)
 rename_i o n cap B S hl
 split at hs <;> try (cases hs; done)
 rename_i b hw
 obtain ⟨hS, he⟩ := Qcl hs
 subst he
 obtain ⟨hc, hsp, hn⟩ := hp
 refine ⟨[wB (some b) true Qa8, ptB S.elem n (gX S) (gY S) S.ext S.whole], ⟨(Qdo hw).1, Qcq hS hsp, trivial⟩, ?_⟩
 rw [Qkl hl]
 exact Qw9 hc hn (Qsd hsp).2
theorem Q8b : ∀ f g, ΓBy f = some g → g.ok Try.prog f := Qah (Qah Qax (Qcf Try.func93 (by kernel_rfl) (by kernel_rfl) Qx1)) (Qcf Try.func71 (by kernel_rfl) (by kernel_rfl) Qmg)
theorem Qx0 : Qcj Try.prog 56 Qzo := Qdg hm Q8b Try.func56 (Λ := fun _ _ => Qas) fun args bs p x hs hp => by
 unfold Qzo at hs
 split at hs <;> try (cases hs; done)
 rename_i l n' row
 split at hs <;> try (cases hs; done)
 rename_i o n cap hl
 have hs := Option.some.inj hs
 obtain ⟨rfl, rfl⟩ := Prod.mk.inj hs
 obtain ⟨⟨o1, e1, l1⟩, hc, hn⟩ := hp _ rfl
 subst e1
 have o1 := okAll_rows.1 o1
 have hsn := Qdc n'
 have hbN : boN n' ≤ 2000 := by unfold boN; omega
 refine ⟨rfl, [⟨2, _, Qan fun i => gi (row i)⟩], ⟨⟨rfl, rfl, fun i hi => (Qao (o1 i hi)).1⟩, trivial⟩, ?_⟩
 rw [Qkl hl, Zfm, Qb8 fun i => gi (row i), Qb7 fun i => gi (row i)]
 refine ⟨⟨hc, Qa4 l1 fun i hi => (Qao (o1 i hi)).2, hn⟩, fun c => ⟨Qaa _ _ _ (by omega), ?_⟩⟩
 show SV.tup [.v (.string (bif false || Qd4 o n' then emp else Qum o n' fun i => gi (row i))), .v (.int .i64 (bif false || Qd4 o n' then 3 else 0))] = _
 unfold Q7c boE
 cases Qd4 o n' <;> rfl
def rdL (L : List Int) (k : Nat) : Nat → Int
 | 0 => 0
 | i + 1 => rdL L k i * 256 + L.getD (k + i) 0
structure At where
 n : Nat
 bd : Int → Bool
 er : Int
def Qgx (s : ByteArray) (fin : Int → Pz) : Int → List At → Pz
 | k, [] => fin k
 | k, a :: l => (tkP s k a.n).seq (Pz.seq ⟨a.bd (rdT s k a.n), a.er⟩ (Qgx s fin (k + a.n) l))
def rds (s : ByteArray) : Int → List At → List Int
 | _, [] => []
 | k, a :: l => rdT s k a.n :: rds s (k + a.n) l
def atL : List At → Nat
 | [] => 0
 | a :: l => a.n + atL l
def enc : List At → List Int → List Int
 | a :: l, v :: vs => be v a.n ++ enc l vs
 | _, _ => []
def vok : List At → List Int → Prop
 | a :: l, v :: vs => ((0 ≤ v ∧ v < 256 ^ a.n) ∧ a.bd v = false) ∧ vok l vs
 | [], [] => True
 | _, _ => False
def pOk : Int → Pz := fun _ => ⟨false, 0⟩
theorem Qzy (s : ByteArray) {k : Int} (hk : 0 ≤ k) : ∀ n : Nat, rdT s k n = rdL (byt s) k.toNat n
 | 0 => rfl
 | n + 1 => by
   simp only [rdT, rdL]
   rw [Qzy s hk n, Q06]
theorem Q4m {A B : List Int} {k : Nat} : ∀ {n : Nat}, k + n ≤ A.length → rdL (A ++ B) k n = rdL A k n
 | 0, _ => rfl
 | n + 1, h => by
   simp only [rdL]
   rw [Q4m (by omega)]
   have : (A ++ B).getD (k + n) 0 = A.getD (k + n) 0 := by
     simp only [List.getD]
     rw [List.getElem?_append_left (by omega)]
   rw [this]
theorem Q1c (v : Int) (n : Nat) : be v (n + 1) = be (v / 256) n ++ [v % 256] := by
 unfold be
 rw [Qrt]
 congr 1
 · unfold beT
   refine List.map_congr_left fun j hj => ?_
   have hj := List.mem_range.1 hj
   unfold Qlc
   rw [show 8 * (n + 1 - 1 - j) = 8 * (n - 1 - j) + 8 by omega, Int.pow_add, Int.mul_comm, ← Int.ediv_ediv_of_nonneg (by decide)]
   rfl
 · unfold Qlc
   rw [show 8 * (n + 1 - 1 - n) = 0 by omega]
   simp
theorem Q7f {L : List Int} {k : Nat} (hb : ∀ x ∈ L, 0 ≤ x ∧ x < 256) : ∀ n : Nat, k + n ≤ L.length → be (rdL L k n) n = (L.drop k).take n
 | 0, _ => rfl
 | n + 1, h => by
   have ih := Q7f (k := k) hb n (by omega)
   have hlt : k + n < L.length := by omega
   have hg : L.getD (k + n) 0 = L[k + n] := by simp [List.getD, List.getElem?_eq_getElem hlt]
   have hx := hb L[k + n] (List.getElem_mem hlt)
   rw [Q1c]
   simp only [rdL]
   rw [hg]
   rw [show (rdL L k n * 256 + L[k + n]) / 256 = rdL L k n by omega, show (rdL L k n * 256 + L[k + n]) % 256 = L[k + n] by omega, ih]
   rw [List.take_add_one, List.getElem?_drop, List.getElem?_eq_getElem hlt]
   rfl
theorem Qzz {L : List Int} (hb : ∀ x ∈ L, 0 ≤ x ∧ x < 256) (k : Nat) : ∀ n : Nat, 0 ≤ rdL L k n ∧ rdL L k n < 256 ^ n
 | 0 => ⟨Int.le_refl _, by show (0 : Int) < 1; omega⟩
 | n + 1 => by
   obtain ⟨h1, h2⟩ := Qzz hb k n
   have hx : 0 ≤ L.getD (k + n) 0 ∧ L.getD (k + n) 0 < 256 := by
     simp only [List.getD]
     cases h : L[k + n]? with
     | none => exact ⟨Int.le_refl _, by decide⟩
     | some x => exact hb x (List.mem_of_getElem? h)
   simp only [rdL]
   rw [Int.pow_succ]
   omega
theorem Zhf (v : Int) (n : Nat) : ∀ x ∈ be v n, 0 ≤ x ∧ x < 256 := fun x hx => by
 unfold be beT Qlc at hx
 obtain ⟨i, _, rfl⟩ := List.mem_map.1 hx
 omega
theorem Qri : ∀ (l : List At) (vs : List Int), ∀ x ∈ enc l vs, 0 ≤ x ∧ x < 256
 | [], _, x, hx => by simp [enc] at hx
 | a :: l, [], x, hx => by simp [enc] at hx
 | a :: l, v :: vs, x, hx => by
   simp only [enc, List.mem_append] at hx
   rcases hx with hx | hx
   · exact Zhf _ _ x hx
   · exact Qri l vs x hx
theorem Qqu {s : ByteArray} {fin : Int → Pz} : ∀ {l : List At} {k : Nat}, (Qgx s fin (k : Int) l).bad = false → k ≤ s.size → (k + atL l ≤ s.size ∧ (fin ((k + atL l : Nat) : Int)).bad = false) ∧ enc l (rds s (k : Int) l) = ((byt s).drop k).take (atL l) ∧ vok l (rds s (k : Int) l)
 | [], k, h, hk => ⟨⟨hk, h⟩, by simp [enc, atL], trivial⟩
 | a :: l, k, h, hk => by
   simp only [Qgx] at h
   obtain ⟨h1, h2⟩ := Qck h
   obtain ⟨h2, h3⟩ := Qck h2
   have hf := Zi6 h1
   have e1 : (k : Int) + (a.n : Int) = ((k + a.n : Nat) : Int) := by omega
   rw [e1] at h3
   obtain ⟨⟨i1, i2⟩, i3, i4⟩ := Qqu h3 (by omega)
   have hr : rdT s (k : Int) a.n = rdL (byt s) k a.n := by rw [Qzy s (by omega), Int.toNat_natCast]
   have hR := Qsu s
   refine ⟨⟨by simp only [atL]; omega, by simp only [atL]; rw [← Nat.add_assoc]; exact i2⟩, ?_, ?_⟩
   · simp only [rds, enc, atL]
     rw [e1, i3, hr, Q7f hR _ (by rw [Qmd]; omega), List.take_add, List.drop_drop]
   · simp only [rds, vok]
     rw [e1]
     refine ⟨⟨?_, h2⟩, i4⟩
     rw [hr]
     exact Qzz hR k a.n
theorem Qg0 {s : ByteArray} {fin : Int → Pz} : ∀ {l1 l2 : List At} {k : Int}, Qgx s fin k (l1 ++ l2) = Qgx s (fun k' => Qgx s fin k' l2) k l1
 | [], l2, k => rfl
 | a :: l1, l2, k => by
   simp only [List.cons_append, Qgx]
   rw [Qg0]
theorem Qbi (a b c : Pz) : (a.seq b).seq c = a.seq (b.seq c) := by
 obtain ⟨ab, ae⟩ := a
 obtain ⟨bb, bi⟩ := b
 cases ab <;> rfl
theorem Qom : ∀ (l1 l2 : List At), atL (l1 ++ l2) = atL l1 + atL l2
 | [], l2 => by simp [atL]
 | a :: l1, l2 => by simp only [List.cons_append, atL, Qom l1 l2, Nat.add_assoc]
theorem Qhe {s : ByteArray} : ∀ {l1 l2 : List At} {k : Int}, rds s k (l1 ++ l2) = rds s k l1 ++ rds s (k + (atL l1 : Int)) l2
 | [], l2, k => by simp [rds, atL]
 | a :: l1, l2, k => by
   simp only [List.cons_append, rds, atL]
   rw [Qhe, show k + (a.n : Int) + (atL l1 : Int) = k + ((a.n + atL l1 : Nat) : Int) by omega]
theorem Qih : ∀ {l1 l2 : List At} {v1 v2 : List Int}, v1.length = l1.length → enc (l1 ++ l2) (v1 ++ v2) = enc l1 v1 ++ enc l2 v2
 | [], l2, [], v2, _ => rfl
 | [], l2, _ :: _, v2, h => by simp at h
 | _ :: _, l2, [], v2, h => by simp at h
 | a :: l1, l2, v :: v1, v2, h => by
   simp only [List.cons_append, enc]
   rw [Qih (by simpa using h), List.append_assoc]
theorem Qej : ∀ {l1 l2 : List At} {v1 v2 : List Int}, v1.length = l1.length → (vok (l1 ++ l2) (v1 ++ v2) ↔ vok l1 v1 ∧ vok l2 v2)
 | [], l2, [], v2, _ => by simp [vok]
 | [], l2, _ :: _, v2, h => by simp at h
 | _ :: _, l2, [], v2, h => by simp at h
 | a :: l1, l2, v :: v1, v2, h => by
   simp only [List.cons_append, vok]
   rw [Qej (by simpa using h)]
   simp only [and_assoc]
def aI : At := ⟨8, fun _ => false, 4⟩
def aC : At := ⟨4, fun v => decide (2147483647 < v), 4⟩
def aV : At := ⟨8, fun v => decide (1099511627776 < v), 4⟩
def aF : At := ⟨1, fun v => decide (1 < v), 4⟩
def aS : At := ⟨1, fun v => decide (255 < v), 4⟩
def aN : At := ⟨1, fun v => decide (8 < v), 4⟩
def aM : At := ⟨8, fun v => IntKind.i64.wrap v == -9223372036854775808, 4⟩
def aKd (low : Int) : At := ⟨1, fun v => !(decide (low ≤ v) && decide (v ≤ 10)), 8⟩
def flN (b : Bool) : Int := bif b then 1 else 0
def spA : Nat → List At
 | 0 => []
 | n + 1 => spA n ++ [aI, aI]
def Qwt (g : Nat → Int × Int) : Nat → List Int
 | 0 => []
 | n + 1 => Qwt g n ++ [(g n).1 % 18446744073709551616, (g n).2 % 18446744073709551616]
def at1 (n : Nat) : List At := [aS, aI, aI, aI, aN] ++ (spA n ++ [aM, aF, aM, aF, aM, aF, aM, aF, aM, aF, aM, aF, aM, aF, aI, aF])
def vs1 (c : CV) (n : Nat) (g : Nat → Int × Int) : List Int := [c.sk, c.sr % 18446744073709551616, c.sw % 18446744073709551616, c.sh % 18446744073709551616, (n : Int)] ++ (Qwt g n ++ [c.p0v % 18446744073709551616, flN c.p0f, c.p1v % 18446744073709551616, flN c.p1f, c.p2v % 18446744073709551616, flN c.p2f, c.p3v % 18446744073709551616, flN c.p3f, c.v0v % 18446744073709551616, flN c.v0f, c.v1v % 18446744073709551616, flN c.v1f, c.w0v % 18446744073709551616, flN c.w0f, c.dn % 18446744073709551616, flN c.mv])
def at2 (n : Nat) : List At := [aC, aC, aV]
def vs2 (c : CV) (n : Nat) (g : Nat → Int × Int) : List Int := [c.bs % 4294967296, c.bg % 4294967296, c.ver % 18446744073709551616]
def at3 (n : Nat) : List At := [aC, aC, aV, aM, aF, aM, aF, aM, aF, aM, aF]
def vs3 (c : CV) (n : Nat) (g : Nat → Int × Int) : List Int := [c.bs % 4294967296, c.bg % 4294967296, c.ver % 18446744073709551616, c.a0v % 18446744073709551616, flN c.a0f, c.a1v % 18446744073709551616, flN c.a1f, c.t0v % 18446744073709551616, flN c.t0f, c.t1v % 18446744073709551616, flN c.t1f]
def at4 (n : Nat) : List At := [aC, aC, aV, aM, aF, aM, aF]
def vs4 (c : CV) (n : Nat) (g : Nat → Int × Int) : List Int := [c.bs % 4294967296, c.bg % 4294967296, c.ver % 18446744073709551616, c.a0v % 18446744073709551616, flN c.a0f, c.a1v % 18446744073709551616, flN c.a1f]
def at5 (n : Nat) : List At := [aC, aM, aF, aM, aF]
def vs5 (c : CV) (n : Nat) (g : Nat → Int × Int) : List Int := [c.gr % 4294967296, c.t0v % 18446744073709551616, flN c.t0f, c.t1v % 18446744073709551616, flN c.t1f]
def at6 (n : Nat) : List At := [aC]
def vs6 (c : CV) (n : Nat) (g : Nat → Int × Int) : List Int := [c.gr % 4294967296]
def at7 (n : Nat) : List At := [aC, aC]
def vs7 (c : CV) (n : Nat) (g : Nat → Int × Int) : List Int := [c.bs % 4294967296, c.bg % 4294967296]
def at8 (n : Nat) : List At := [aI, aI, aI, aI]
def vs8 (c : CV) (n : Nat) (g : Nat → Int × Int) : List Int := [c.b0 % 18446744073709551616, c.b1 % 18446744073709551616, c.b2 % 18446744073709551616, c.b3 % 18446744073709551616]
def at9 (n : Nat) : List At := [aI, aI, aI, aI]
def vs9 (c : CV) (n : Nat) (g : Nat → Int × Int) : List Int := [c.f0 % 18446744073709551616, c.f1 % 18446744073709551616, c.u0 % 18446744073709551616, c.u1 % 18446744073709551616]
def Zhj (n : Nat) : List At := []
def Zic (c : CV) (n : Nat) (g : Nat → Int × Int) : List Int := []
def atK (k : Int) (n : Nat) : List At := bif k == 1 then at1 n else (bif k == 2 then at2 n else (bif k == 3 then at3 n else (bif k == 4 then at4 n else (bif k == 5 then at5 n else (bif k == 6 then at6 n else (bif k == 7 then at7 n else (bif k == 8 then at8 n else (bif k == 9 then at9 n else (Zhj n)))))))))
def vsK (k : Int) (c : CV) (n : Nat) (g : Nat → Int × Int) : List Int := bif k == 1 then vs1 c n g else (bif k == 2 then vs2 c n g else (bif k == 3 then vs3 c n g else (bif k == 4 then vs4 c n g else (bif k == 5 then vs5 c n g else (bif k == 6 then vs6 c n g else (bif k == 7 then vs7 c n g else (bif k == 8 then vs8 c n g else (bif k == 9 then vs9 c n g else (Zic c n g)))))))))
def atC (k : Int) (n : Nat) : List At := aKd 1 :: aC :: atK k n
def vsC (k : Int) (c : CV) (n : Nat) (g : Nat → Int × Int) : List Int := k :: c.id % 4294967296 :: vsK k c n g
theorem be1 (v : Int) : be v 1 = [v % 256] := by rw [Q1c]; rfl
theorem Qe0 (f : Bool) : flB f = be (flN f) 1 := by rw [be1]; cases f <;> rfl
theorem Qy3 {s : ByteArray} {k : Int} : ∀ {n : Nat} {F : Int → Pz}, (Qoy s k n).seq (F (k + 16 * (n : Int))) = Qgx s F k (spA n)
 | 0, F => by
   rw [show k + 16 * ((0 : Nat) : Int) = k by omega]
   rfl
 | n + 1, F => by
   simp only [Qoy, spA]
   rw [Qbi, Qg0, ← Qy3 (n := n) (F := fun k' => Qgx s F k' [aI, aI])]
   show _ = (Qoy s k n).seq ((tkP s (k + 16 * (n : Int)) 8).seq ((tkP s (k + 16 * (n : Int) + 8) 8).seq (F (k + 16 * (n : Int) + 8 + 8))))
   unfold spP
   rw [Qbi, show k + 16 * ((n + 1 : Nat) : Int) = k + 16 * (n : Int) + 8 + 8 by omega]
theorem Q6h {s : ByteArray} {k : Int} {F : Int → Pz} : (shP s k).seq (F (Qag s k)) = Qgx s F k ([aS, aI, aI, aI, aN] ++ spA (shC s k)) := by
 rw [Qg0]
 unfold shP upP
 simp only [Qbi]
 unfold Qag
 rw [Qy3 (n := shC s k) (F := F)]
 rfl
theorem Qns : ∀ n : Nat, atL (spA n) = 16 * n
 | 0 => rfl
 | n + 1 => by
   simp only [spA]
   rw [Qom, Qns n]
   show 16 * n + 16 = _
   omega
theorem Qgh : ∀ n : Nat, (spA n).length = 2 * n
 | 0 => rfl
 | n + 1 => by simp only [spA, List.length_append, Qgh n, List.length_cons, List.length_nil]; omega
theorem Qfh (g : Nat → Int × Int) : ∀ n : Nat, (Qwt g n).length = 2 * n
 | 0 => rfl
 | n + 1 => by simp only [Qwt, List.length_append, Qfh g n, List.length_cons, List.length_nil]; omega
theorem Qnr (g : Nat → Int × Int) : ∀ n : Nat, Qc8 (fun i => (g i).1) (fun i => (g i).2) n = enc (spA n) (Qwt g n)
 | 0 => rfl
 | n + 1 => by
   simp only [Qc8, spA, Qwt]
   rw [Qih (by rw [Qfh, Qgh]), Qnr g n]
   simp only [enc, List.append_nil]
   rfl
theorem Qr3 (g : Nat → Int × Int) : ∀ n : Nat, vok (spA n) (Qwt g n)
 | 0 => trivial
 | n + 1 => by
   simp only [spA, Qwt]
   rw [Qej (by rw [Qfh, Qgh])]
   refine ⟨Qr3 g n, ⟨⟨Int.emod_nonneg _ (by decide), Int.emod_lt_of_pos _ (by decide)⟩, rfl⟩, ⟨⟨Int.emod_nonneg _ (by decide), Int.emod_lt_of_pos _ (by decide)⟩, rfl⟩, trivial⟩
theorem Q2j {x : Int} (h : I64 x) : IntKind.i64.wrap (x % 18446744073709551616) = x := by
 obtain ⟨h1, h2⟩ := h
 rw [Qkp]
 omega
theorem Q42 {x : Int} (h0 : 0 ≤ x) (h1 : x < 18446744073709551616) : IntKind.i64.wrap x % 18446744073709551616 = x := by
 rw [Qkp]
 omega
theorem gC {r : Int} (h0 : 0 ≤ r) (h1 : decide (2147483647 < r) = false) : r % 4294967296 = r := by
 have := of_decide_eq_false h1
 omega
theorem gV {r : Int} (h0 : 0 ≤ r) (h1 : decide (1099511627776 < r) = false) : r % 18446744073709551616 = r := by
 have := of_decide_eq_false h1
 omega
theorem gI' {s : ByteArray} {p : Int} : rdI s p % 18446744073709551616 = rdT s p 8 := by
 have h := Qez s p 8
 rw [Qdk]
 exact Q42 h.1 h.2
theorem gF {s : ByteArray} {p : Int} (h1 : decide (1 < rdT s p 1) = false) : flN (rdF s p) = rdT s p 1 := by
 have h := Qez s p 1
 have h1 := of_decide_eq_false h1
 unfold rdF flN
 by_cases h2 : rdT s p 1 = 1
 · rw [h2]; rfl
 · rw [show (rdT s p 1 == 1) = false by simpa using h2]
   show 0 = _
   omega
theorem Zc4 (s : ByteArray) : cP1 s 0 = Qgx s (enP s) (0 + 1 + 4) (at1 (shC s (0 + 1 + 4))) := by
 have e : ∀ e : Int, (psP s (e)).seq ((vcP s (e + 8 + 1 + 8 + 1 + 8 + 1 + 8 + 1)).seq ((nuP s (e + 8 + 1 + 8 + 1 + 8 + 1 + 8 + 1 + 8 + 1 + 8 + 1)).seq ((tkP s (e + 8 + 1 + 8 + 1 + 8 + 1 + 8 + 1 + 8 + 1 + 8 + 1 + 8 + 1) 8).seq ((upP s (e + 8 + 1 + 8 + 1 + 8 + 1 + 8 + 1 + 8 + 1 + 8 + 1 + 8 + 1 + 8) 1 1).seq (enP s (e + 8 + 1 + 8 + 1 + 8 + 1 + 8 + 1 + 8 + 1 + 8 + 1 + 8 + 1 + 8 + 1)))))) = Qgx s (enP s) e [aM, aF, aM, aF, aM, aF, aM, aF, aM, aF, aM, aF, aM, aF, aI, aF] := fun e => by
   unfold psP vcP nuP upP
   simp only [Qbi, Qdk]
   rfl
 unfold cP1 at1
 rw [← List.append_assoc, Qg0, ← Q6h (F := fun e => Qgx s (enP s) e [aM, aF, aM, aF, aM, aF, aM, aF, aM, aF, aM, aF, aM, aF, aI, aF]), ← e]
theorem Zc3 (s : ByteArray) (n : Nat) : cP2 s 0 = Qgx s (enP s) (0 + 1 + 4) (at2 n) := by
 unfold cP2 at2
 try unfold haP
 try unfold vcP
 try unfold spP
 try unfold nuP
 try unfold upP
 try simp only [Qbi]
 try simp only [Qdk]
 rfl
theorem Zc2 (s : ByteArray) (n : Nat) : cP3 s 0 = Qgx s (enP s) (0 + 1 + 4) (at3 n) := by
 unfold cP3 at3
 try unfold haP
 try unfold vcP
 try unfold spP
 try unfold nuP
 try unfold upP
 try simp only [Qbi]
 try simp only [Qdk]
 rfl
theorem Zc1 (s : ByteArray) (n : Nat) : cP4 s 0 = Qgx s (enP s) (0 + 1 + 4) (at4 n) := by
 unfold cP4 at4
 try unfold haP
 try unfold vcP
 try unfold spP
 try unfold nuP
 try unfold upP
 try simp only [Qbi]
 try simp only [Qdk]
 rfl
theorem Zc0 (s : ByteArray) (n : Nat) : cP5 s 0 = Qgx s (enP s) (0 + 1 + 4) (at5 n) := by
 unfold cP5 at5
 try unfold haP
 try unfold vcP
 try unfold spP
 try unfold nuP
 try unfold upP
 try simp only [Qbi]
 try simp only [Qdk]
 rfl
theorem Zcz (s : ByteArray) (n : Nat) : cP6 s 0 = Qgx s (enP s) (0 + 1 + 4) (at6 n) := by
 unfold cP6 at6
 try unfold haP
 try unfold vcP
 try unfold spP
 try unfold nuP
 try unfold upP
 try simp only [Qbi]
 try simp only [Qdk]
 rfl
theorem Zcy (s : ByteArray) (n : Nat) : cP7 s 0 = Qgx s (enP s) (0 + 1 + 4) (at7 n) := by
 unfold cP7 at7
 try unfold haP
 try unfold vcP
 try unfold spP
 try unfold nuP
 try unfold upP
 try simp only [Qbi]
 try simp only [Qdk]
 rfl
theorem Zcx (s : ByteArray) (n : Nat) : cP8 s 0 = Qgx s (enP s) (0 + 1 + 4) (at8 n) := by
 unfold cP8 at8
 try unfold haP
 try unfold vcP
 try unfold spP
 try unfold nuP
 try unfold upP
 try simp only [Qbi]
 try simp only [Qdk]
 rfl
theorem Zcw (s : ByteArray) (n : Nat) : cP9 s 0 = Qgx s (enP s) (0 + 1 + 4) (at9 n) := by
 unfold cP9 at9
 try unfold haP
 try unfold vcP
 try unfold spP
 try unfold nuP
 try unfold upP
 try simp only [Qbi]
 try simp only [Qdk]
 rfl
theorem Q5s (s : ByteArray) (n : Nat) : Zef s 0 = Qgx s (enP s) (0 + 1 + 4) (Zhj n) := by
 unfold Zef Zhj
 try unfold haP
 try unfold vcP
 try unfold spP
 try unfold nuP
 try unfold upP
 try simp only [Qbi]
 try simp only [Qdk]
 rfl
theorem Zcn {s : ByteArray} (h1 : 1 ≤ rdT s 0 1) (h2 : rdT s 0 1 ≤ 10) : caP s 0 = Qgx s (enP s) 0 (atC (rdT s 0 1) (caN s 0)) := by
 have e : caR s 0 = Qgx s (enP s) (0 + 1 + 4) (atK (rdT s 0 1) (caN s 0)) := by
   have hk : rdT s 0 1 = 1 ∨ rdT s 0 1 = 2 ∨ rdT s 0 1 = 3 ∨ rdT s 0 1 = 4 ∨ rdT s 0 1 = 5 ∨ rdT s 0 1 = 6 ∨ rdT s 0 1 = 7 ∨ rdT s 0 1 = 8 ∨ rdT s 0 1 = 9 ∨ rdT s 0 1 = 10 := by omega
   unfold caR caN atK
   rcases hk with h | h | h | h | h | h | h | h | h | h <;> rw [h]
   · exact Zc4 s
   · exact Zc3 s 0
   · exact Zc2 s 0
   · exact Zc1 s 0
   · exact Zc0 s 0
   · exact Zcz s 0
   · exact Zcy s 0
   · exact Zcx s 0
   · exact Zcw s 0
   · exact Q5s s 0
 unfold caP kiP upP atC
 simp only [Qbi, Qgx]
 rw [e]
 rfl
theorem Q5p (c : CV) (n : Nat) (x y : Nat → Int) : (Q7a c n x y).length = Q04 n := by
 unfold Q7a Q04
 first | rfl | (simp only [List.length_append, hLl, i8l, c4l, vLl, aLl, tLl, Qo0, Qgw, Qf1, Qgm, List.length_cons, List.length_nil, Qbl]; done) | (simp only [List.length_append, hLl, i8l, c4l, vLl, aLl, tLl, Qo0, Qgw, Qf1, Qgm, List.length_cons, List.length_nil, Qbl]; omega)
theorem Q5o (c : CV) (n : Nat) (x y : Nat → Int) : (Q69 c n x y).length = Q2g n := by
 unfold Q69 Q2g
 first | rfl | (simp only [List.length_append, hLl, i8l, c4l, vLl, aLl, tLl, Qo0, Qgw, Qf1, Qgm, List.length_cons, List.length_nil, Qbl]; done) | (simp only [List.length_append, hLl, i8l, c4l, vLl, aLl, tLl, Qo0, Qgw, Qf1, Qgm, List.length_cons, List.length_nil, Qbl]; omega)
theorem Q5n (c : CV) (n : Nat) (x y : Nat → Int) : (Q68 c n x y).length = Q2f n := by
 unfold Q68 Q2f
 first | rfl | (simp only [List.length_append, hLl, i8l, c4l, vLl, aLl, tLl, Qo0, Qgw, Qf1, Qgm, List.length_cons, List.length_nil, Qbl]; done) | (simp only [List.length_append, hLl, i8l, c4l, vLl, aLl, tLl, Qo0, Qgw, Qf1, Qgm, List.length_cons, List.length_nil, Qbl]; omega)
theorem Q5m (c : CV) (n : Nat) (x y : Nat → Int) : (Q67 c n x y).length = Q2e n := by
 unfold Q67 Q2e
 first | rfl | (simp only [List.length_append, hLl, i8l, c4l, vLl, aLl, tLl, Qo0, Qgw, Qf1, Qgm, List.length_cons, List.length_nil, Qbl]; done) | (simp only [List.length_append, hLl, i8l, c4l, vLl, aLl, tLl, Qo0, Qgw, Qf1, Qgm, List.length_cons, List.length_nil, Qbl]; omega)
theorem Q5l (c : CV) (n : Nat) (x y : Nat → Int) : (Q66 c n x y).length = Q2d n := by
 unfold Q66 Q2d
 first | rfl | (simp only [List.length_append, hLl, i8l, c4l, vLl, aLl, tLl, Qo0, Qgw, Qf1, Qgm, List.length_cons, List.length_nil, Qbl]; done) | (simp only [List.length_append, hLl, i8l, c4l, vLl, aLl, tLl, Qo0, Qgw, Qf1, Qgm, List.length_cons, List.length_nil, Qbl]; omega)
theorem Q5k (c : CV) (n : Nat) (x y : Nat → Int) : (Q65 c n x y).length = Q2c n := by
 unfold Q65 Q2c
 first | rfl | (simp only [List.length_append, hLl, i8l, c4l, vLl, aLl, tLl, Qo0, Qgw, Qf1, Qgm, List.length_cons, List.length_nil, Qbl]; done) | (simp only [List.length_append, hLl, i8l, c4l, vLl, aLl, tLl, Qo0, Qgw, Qf1, Qgm, List.length_cons, List.length_nil, Qbl]; omega)
theorem Q5j (c : CV) (n : Nat) (x y : Nat → Int) : (Q64 c n x y).length = Q2b n := by
 unfold Q64 Q2b
 first | rfl | (simp only [List.length_append, hLl, i8l, c4l, vLl, aLl, tLl, Qo0, Qgw, Qf1, Qgm, List.length_cons, List.length_nil, Qbl]; done) | (simp only [List.length_append, hLl, i8l, c4l, vLl, aLl, tLl, Qo0, Qgw, Qf1, Qgm, List.length_cons, List.length_nil, Qbl]; omega)
theorem Q5i (c : CV) (n : Nat) (x y : Nat → Int) : (Q63 c n x y).length = Q2a n := by
 unfold Q63 Q2a
 first | rfl | (simp only [List.length_append, hLl, i8l, c4l, vLl, aLl, tLl, Qo0, Qgw, Qf1, Qgm, List.length_cons, List.length_nil, Qbl]; done) | (simp only [List.length_append, hLl, i8l, c4l, vLl, aLl, tLl, Qo0, Qgw, Qf1, Qgm, List.length_cons, List.length_nil, Qbl]; omega)
theorem Q5h (c : CV) (n : Nat) (x y : Nat → Int) : (Q62 c n x y).length = Q19 n := by
 unfold Q62 Q19
 first | rfl | (simp only [List.length_append, hLl, i8l, c4l, vLl, aLl, tLl, Qo0, Qgw, Qf1, Qgm, List.length_cons, List.length_nil, Qbl]; done) | (simp only [List.length_append, hLl, i8l, c4l, vLl, aLl, tLl, Qo0, Qgw, Qf1, Qgm, List.length_cons, List.length_nil, Qbl]; omega)
theorem Q03 (c : CV) (n : Nat) (x y : Nat → Int) : (Qst c n x y).length = Qo5 n := by
 unfold Qst Qo5
 first | rfl | (simp only [List.length_append, hLl, i8l, c4l, vLl, aLl, tLl, Qo0, Qgw, Qf1, Qgm, List.length_cons, List.length_nil, Qbl]; done) | (simp only [List.length_append, hLl, i8l, c4l, vLl, aLl, tLl, Qo0, Qgw, Qf1, Qgm, List.length_cons, List.length_nil, Qbl]; omega)
theorem Zgm {k : Int} (hk : 1 ≤ k ∧ k ≤ 10) (c : CV) (n : Nat) (x y : Nat → Int) : (kT k c n x y).length = kN k n := by
 rcases ten hk with rfl | rfl | rfl | rfl | rfl | rfl | rfl | rfl | rfl | rfl
 · exact Q5p c n x y
 · exact Q5o c n x y
 · exact Q5n c n x y
 · exact Q5m c n x y
 · exact Q5l c n x y
 · exact Q5k c n x y
 · exact Q5j c n x y
 · exact Q5i c n x y
 · exact Q5h c n x y
 · exact Q03 c n x y
theorem Q01 {k : Int} (hk : 1 ≤ k ∧ k ≤ 10) (c : CV) (n : Nat) (g : Nat → Int × Int) : Qgu k c n g = strOfNums (caL k c (kT k c n (fun i => (g i).1) (fun i => (g i).2))) := by
 unfold Qgu
 have hl : (caL k c (kT k c n (fun i => (g i).1) (fun i => (g i).2))).length = 5 + kN k n := by
   unfold caL
   simp only [List.length_append, c4l, Zgm hk, List.length_cons, List.length_nil]
   omega
 rw [Qkv]
 congr 1
 have := Qk0 (caL k c (kT k c n (fun i => (g i).1) (fun i => (g i).2)))
 rw [hl] at this
 exact this
theorem Qhh {x m : Int} (h : Qal x m = false) : 0 ≤ x ∧ x ≤ m := by
 unfold Qal at h
 have h : (decide (0 ≤ x) && decide (x ≤ m)) = true := by
   cases hb : (decide (0 ≤ x) && decide (x ≤ m)) with
   | true => rfl
   | false => rw [hb] at h; cases h
 rw [Bool.and_eq_true] at h
 exact ⟨of_decide_eq_true h.1, of_decide_eq_true h.2⟩
theorem Qjm {x m : Int} (h : 0 ≤ x ∧ x ≤ m) : Qal x m = false := by
 unfold Qal
 rw [decide_eq_true h.1, decide_eq_true h.2]
 rfl
theorem vC {x : Int} (h : Qal x 2147483647 = false) : (0 ≤ x % 4294967296 ∧ x % 4294967296 < 256 ^ aC.n) ∧ aC.bd (x % 4294967296) = false := by
 have h := Qhh h
 have e : x % 4294967296 = x := by omega
 rw [e]
 exact ⟨⟨h.1, by show x < 4294967296; omega⟩, decide_eq_false (by omega)⟩
theorem vV {x : Int} (h : Qal x 1099511627776 = false) : (0 ≤ x % 18446744073709551616 ∧ x % 18446744073709551616 < 256 ^ aV.n) ∧ aV.bd (x % 18446744073709551616) = false := by
 have h := Qhh h
 have e : x % 18446744073709551616 = x := by omega
 rw [e]
 exact ⟨⟨h.1, by show x < 18446744073709551616; omega⟩, decide_eq_false (by omega)⟩
theorem vI {x : Int} : (0 ≤ x % 18446744073709551616 ∧ x % 18446744073709551616 < 256 ^ aI.n) ∧ aI.bd (x % 18446744073709551616) = false :=
 ⟨⟨Int.emod_nonneg _ (by decide), Int.emod_lt_of_pos _ (by decide)⟩, rfl⟩
theorem vM {x : Int} (hx : I64 x) (h : Qbq x = false) : (0 ≤ x % 18446744073709551616 ∧ x % 18446744073709551616 < 256 ^ aM.n) ∧ aM.bd (x % 18446744073709551616) = false :=
 ⟨⟨Int.emod_nonneg _ (by decide), Int.emod_lt_of_pos _ (by decide)⟩, by
   show (IntKind.i64.wrap (x % 18446744073709551616) == -9223372036854775808) = false
   rw [Q2j hx]
   exact h⟩
theorem vF {f : Bool} : (0 ≤ flN f ∧ flN f < 256 ^ aF.n) ∧ aF.bd (flN f) = false := by cases f <;> exact ⟨⟨by decide, by decide⟩, rfl⟩
theorem vS {x : Int} (h : Qal x 255 = false) : (0 ≤ x ∧ x < 256 ^ aS.n) ∧ aS.bd x = false := by
 have h := Qhh h
 exact ⟨⟨h.1, by show x < 256; omega⟩, decide_eq_false (by omega)⟩
theorem vN {n : Nat} (h : Qal (n : Int) 8 = false) : (0 ≤ (n : Int) ∧ (n : Int) < 256 ^ aN.n) ∧ aN.bd (n : Int) = false := by
 have h := Qhh h
 exact ⟨⟨h.1, by show (n : Int) < 256; omega⟩, decide_eq_false (by omega)⟩
theorem vKd {k low : Int} (h0 : 0 ≤ low) (h1 : low ≤ k) (h2 : k ≤ 10) : (0 ≤ k ∧ k < 256 ^ (aKd low).n) ∧ (aKd low).bd k = false :=
 ⟨⟨by omega, by show k < 256; omega⟩, by
   show (!(decide (low ≤ k) && decide (k ≤ 10))) = false
   rw [decide_eq_true h1, decide_eq_true h2]
   rfl⟩
theorem Qjk {s : ByteArray} : ∀ {l : List At} {k : Int}, (rds s k l).length = l.length
 | [], _ => rfl
 | a :: l, k => by simp only [rds, List.length_cons, Qjk]
theorem Qqh {s : ByteArray} {k : Int} : ∀ n : Nat, Qwt (Qf6 s k) n = rds s k (spA n)
 | 0 => rfl
 | n + 1 => by
   simp only [spA, Qwt]
   rw [Qhe, Qqh n, Qns]
   congr 1
   simp only [rds]
   have e1 : k + ((16 * n : Nat) : Int) = k + 16 * (n : Int) := by omega
   rw [e1]
   show [rdI s (k + 16 * (n : Int)) % 18446744073709551616, rdI s (k + 16 * (n : Int) + 8) % 18446744073709551616] = _
   rw [gI', gI']
   rfl
theorem Zdg (c : CV) {n : Nat} (hn : n ≤ 8) (g : Nat → Int × Int) : Q7a c n (fun i => (g i).1) (fun i => (g i).2) = enc (at1 n) (vs1 c n g) := by
 unfold Q7a at1 vs1 shL poL vL Qe3 Qdu i8
 rw [Qih rfl, Qih (by rw [Qfh, Qgh]), ← Qnr, show Nat.ble n 8 = true from Nat.ble_eq_true_of_le hn]
 simp only [Qe0, enc, cond_true, List.append_assoc, List.append_nil, ← be1]
 rfl
theorem Zdf (c : CV) (n : Nat) (g : Nat → Int × Int) : Q69 c n (fun i => (g i).1) (fun i => (g i).2) = enc (at2 n) (vs2 c n g) := by
 unfold Q69 at2 vs2
 try unfold hL
 try unfold Qwi
 try unfold toL
 try unfold Qe3
 try unfold Qdu
 try unfold c4
 try unfold i8
 simp only [Qe0, enc, List.append_assoc, List.append_nil]
 try rfl
theorem Zde (c : CV) (n : Nat) (g : Nat → Int × Int) : Q68 c n (fun i => (g i).1) (fun i => (g i).2) = enc (at3 n) (vs3 c n g) := by
 unfold Q68 at3 vs3
 try unfold hL
 try unfold Qwi
 try unfold toL
 try unfold Qe3
 try unfold Qdu
 try unfold c4
 try unfold i8
 simp only [Qe0, enc, List.append_assoc, List.append_nil]
 try rfl
theorem Zdd (c : CV) (n : Nat) (g : Nat → Int × Int) : Q67 c n (fun i => (g i).1) (fun i => (g i).2) = enc (at4 n) (vs4 c n g) := by
 unfold Q67 at4 vs4
 try unfold hL
 try unfold Qwi
 try unfold toL
 try unfold Qe3
 try unfold Qdu
 try unfold c4
 try unfold i8
 simp only [Qe0, enc, List.append_assoc, List.append_nil]
 try rfl
theorem Zdc (c : CV) (n : Nat) (g : Nat → Int × Int) : Q66 c n (fun i => (g i).1) (fun i => (g i).2) = enc (at5 n) (vs5 c n g) := by
 unfold Q66 at5 vs5
 try unfold hL
 try unfold Qwi
 try unfold toL
 try unfold Qe3
 try unfold Qdu
 try unfold c4
 try unfold i8
 simp only [Qe0, enc, List.append_assoc, List.append_nil]
 try rfl
theorem Zdb (c : CV) (n : Nat) (g : Nat → Int × Int) : Q65 c n (fun i => (g i).1) (fun i => (g i).2) = enc (at6 n) (vs6 c n g) := by
 unfold Q65 at6 vs6
 try unfold hL
 try unfold Qwi
 try unfold toL
 try unfold Qe3
 try unfold Qdu
 try unfold c4
 try unfold i8
 simp only [Qe0, enc, List.append_assoc, List.append_nil]
 try rfl
theorem Zda (c : CV) (n : Nat) (g : Nat → Int × Int) : Q64 c n (fun i => (g i).1) (fun i => (g i).2) = enc (at7 n) (vs7 c n g) := by
 unfold Q64 at7 vs7
 try unfold hL
 try unfold Qwi
 try unfold toL
 try unfold Qe3
 try unfold Qdu
 try unfold c4
 try unfold i8
 simp only [Qe0, enc, List.append_assoc, List.append_nil]
 try rfl
theorem Zc9 (c : CV) (n : Nat) (g : Nat → Int × Int) : Q63 c n (fun i => (g i).1) (fun i => (g i).2) = enc (at8 n) (vs8 c n g) := by
 unfold Q63 at8 vs8
 try unfold hL
 try unfold Qwi
 try unfold toL
 try unfold Qe3
 try unfold Qdu
 try unfold c4
 try unfold i8
 simp only [Qe0, enc, List.append_assoc, List.append_nil]
 try rfl
theorem Zc8 (c : CV) (n : Nat) (g : Nat → Int × Int) : Q62 c n (fun i => (g i).1) (fun i => (g i).2) = enc (at9 n) (vs9 c n g) := by
 unfold Q62 at9 vs9
 try unfold hL
 try unfold Qwi
 try unfold toL
 try unfold Qe3
 try unfold Qdu
 try unfold c4
 try unfold i8
 simp only [Qe0, enc, List.append_assoc, List.append_nil]
 try rfl
theorem Q51 (c : CV) (n : Nat) (g : Nat → Int × Int) : Qst c n (fun i => (g i).1) (fun i => (g i).2) = enc (Zhj n) (Zic c n g) := by
 unfold Qst Zhj Zic
 try unfold hL
 try unfold Qwi
 try unfold toL
 try unfold Qe3
 try unfold Qdu
 try unfold c4
 try unfold i8
 simp only [Qe0, enc, List.append_assoc, List.append_nil]
 try rfl
theorem Q0z (k : Int) (a : CV) : Qbp k k a a true = true := by
 simp only [Qbp, beq_self_eq_true, Bool.and_self]
theorem Q5g {k : Int} {c : CV} {n : Nat} {g : Nat → Int × Int} (hk : 1 ≤ k ∧ k ≤ 10) (h2 : Qju k c n g = true) (h3 : Qgy k c n = false) : Qe6 k c n g = 0 ∧ Qe5 k c n g = Qgu k c n g := by
 unfold Qe6 Qe5 Qd3
 rw [decide_eq_true hk.1, decide_eq_true hk.2, h2, h3]
 exact ⟨rfl, rfl⟩
theorem Qpd (n : Nat) (g : Nat → Int × Int) : Qfs n g n g = true := by
 unfold Qfs
 rw [Nat.beq_refl, Bool.true_and]
 exact List.all_eq_true.2 fun i _ => by unfold eqP; rw [beq_self_eq_true, beq_self_eq_true]; rfl
theorem Qk7 (a : ShB) : Qcp a a = true := by
 unfold Qcp
 simp only [beq_self_eq_true, Bool.and_self]
theorem Zbx {k : Int} {c : CV} {n : Nat} {g : Nat → Int × Int} (h1 : ucK k c = c) (h2 : k ≠ 1 → n = 0) : Qju k c n g = true := by
 unfold Qju
 by_cases h : k = 1
 · subst h
   have h1 : uc1 c = c := h1
   rw [h1]
   show Qbp 1 1 c c (Qey (Qcn c) n g (Qcn c) n g) = true
   unfold Qey
   rw [Qk7, Qpd]
   exact Q0z 1 c
 · rw [decide_eq_false h, cond_false, h1, Qk7, h2 h]
   exact Q0z k c
theorem Q05 {k : Int} {c : CV} {n : Nat} {g : Nat → Int × Int} (hk : 1 ≤ k ∧ k ≤ 10) (hn : k = 1 → n ≤ 8) : byt (Qgu k c n g) = enc (atC k n) (vsC k c n g) := by
 have e : caL k c (kT k c n (fun i => (g i).1) (fun i => (g i).2)) = enc (atC k n) (vsC k c n g) := by
   have et : kT k c n (fun i => (g i).1) (fun i => (g i).2) = enc (atK k n) (vsK k c n g) := by
     rcases ten hk with h | h | h | h | h | h | h | h | h | h <;> subst h
     · exact Zdg c (hn rfl) g
     · exact Zdf c n g
     · exact Zde c n g
     · exact Zdd c n g
     · exact Zdc c n g
     · exact Zdb c n g
     · exact Zda c n g
     · exact Zc9 c n g
     · exact Zc8 c n g
     · exact Q51 c n g
   unfold caL atC vsC
   rw [et]
   unfold c4
   rw [← be1]
   rfl
 rw [Q01 hk, e]
 exact Qrn (Qri _ _)
theorem Zj6 {c : CV} {n : Nat} (h : Qgy 1 c n = false) : n ≤ 8 := by
 have h : caB c (Q5r c n) = false := h
 simp only [caB, Q5r, Qc5, Bool.or_eq_false_iff] at h
 have := Qhh h.2.1.2
 omega
end Go.Proofs.Ytjdldadmaaeimaa
end
