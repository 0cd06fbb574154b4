/-
  Calls written, in general.
-/
import Derived.Test.YtjdldadmaaeimaaWiCd
set_option maxRecDepth 100000
set_option linter.unusedSimpArgs false
set_option linter.unusedVariables false
namespace Go.Proofs.Ytjdldadmaaeimaa
open Go.SE Go.RowKit

def cvOk (c : CV) : Prop := I64 c.id ∧ I64 c.bs ∧ I64 c.bg ∧ I64 c.ver ∧ I64 c.sk ∧ I64 c.sr ∧ I64 c.sw ∧ I64 c.sh ∧ I64 c.p0v ∧ I64 c.p1v ∧ I64 c.p2v ∧ I64 c.p3v ∧ I64 c.v0v ∧ I64 c.v1v ∧ I64 c.w0v ∧ I64 c.dn ∧ I64 c.a0v ∧ I64 c.a1v ∧ I64 c.t0v ∧ I64 c.t1v ∧ I64 c.gr ∧ I64 c.b0 ∧ I64 c.b1 ∧ I64 c.b2 ∧ I64 c.b3 ∧ I64 c.f0 ∧ I64 c.f1 ∧ I64 c.u0 ∧ I64 c.u1
theorem c4l (n : Int) : (c4 n).length = 4 := be_len _ _
theorem i8l (n : Int) : (i8 n).length = 8 := be_len _ _
theorem hLl (a b : Int) : (hL a b).length = 8 := by unfold hL; rw [List.length_append, c4l, c4l]
theorem numl (v : Int) (f : Bool) : (numL v f).length = 9 := by unfold numL; rw [List.length_append, i8l]; rfl
theorem vecl (a : Int) (f : Bool) (b : Int) (g : Bool) : (vecL a f b g).length = 18 := by unfold vecL; rw [List.length_append, numl, numl]
theorem vLl (c : CV) : (vL c).length = 18 := vecl _ _ _ _
theorem aLl (c : CV) : (atL' c).length = 18 := vecl _ _ _ _
theorem tLl (c : CV) : (toL c).length = 18 := vecl _ _ _ _
theorem poLl (c : CV) : (poL c).length = 36 := by unfold poL; rw [List.length_append, vecl, List.length_append, numl, numl]
theorem shLl (k r w h : Int) (n : Nat) (x y : Nat → Int) : (shL k r w h n x y).length = shN n := by
  unfold shL shN
  cases Nat.ble n 8 with
  | true => simp only [cond_true, List.length_append, i8l, spotsL_len, List.length_cons, List.length_nil]; omega
  | false => simp only [cond_false, List.length_append, i8l, List.length_cons, List.length_nil]
theorem shN_le (n : Nat) : shN n ≤ 26 + 16 * n := by
  unfold shN
  cases Nat.ble n 8 with
  | true => exact Nat.le_refl _
  | false => show 26 ≤ _; omega
theorem apG_listQ (x : Int) (M : List Int) (i : Nat) : apG 1 (fun i => ([x] : List Int).getD i 0) M i = ([x] ++ M).getD i 0 := by
  by_cases h1 : i < 1
  · have : i = 0 := by omega
    subst this; rfl
  · obtain ⟨j, rfl⟩ : ∃ j, i = j + 1 := ⟨i - 1, by omega⟩
    rw [apG_new h1, Nat.add_sub_cancel]
    rfl
theorem add_ap {m n : Nat} {L : List Int} {k : Nat} (h : L.length = k) (e : m = n + k) : m = n + L.length := by rw [h]; exact e
theorem call_1 {b : Bool} {c : CV} {e n m cap xt : Nat} {x y : Nat → Int} {wh : Bool} (hc : cvOk c) (hn : n < 100) (hv : ∀ i, i < n → I64 (x i) ∧ I64 (y i)) : vcFn Try.prog ΓCw noΛ Try.f70 [.vp 0 0, caS 1 c (.sl 1 2 0 n cap)] (heapOf [wB (some b) true nilS, ptB e m x y xt wh]) 64 (fun y' h' => FinE [wB (some b) true nilS, ptB e m x y xt wh] (apE (.fresh (some b)) 0 True (5 + caN1 n) (caL 1 c (caT1 c n x y)) (caB c (caB1 c n))) y' h') := by
  have hsn := shN_le n
  obtain ⟨h_id, h_bs, h_bg, h_ver, h_sk, h_sr, h_sw, h_sh, h_p0v, h_p1v, h_p2v, h_p3v, h_v0v, h_v1v, h_w0v, h_dn, h_a0v, h_a1v, h_t0v, h_t1v, h_gr, h_b0, h_b1, h_b2, h_b3, h_f0, h_f1, h_u0, h_u1⟩ := hc
  refine Eq.mpr (vcCw1 b c e n m cap xt x y wh) ⟨⟨by omega, by omega⟩, fun d0 => ⟨⟨⟨bytesOk_bG _ _ _ (by omega), (by first | (show _ ≤ 1099511627776; omega) | (show _ ≤ 1000000000; omega) | (show _ ≤ 900000000; omega))⟩, h_id⟩, fun d1 => ⟨⟨⟨bytesOk_bG _ _ _ (by omega), (by first | (show _ ≤ 1099511627776; omega) | (show _ ≤ 1000000000; omega) | (show _ ≤ 900000000; omega))⟩, ⟨⟨⟨h_sk, h_sr, h_sw, h_sh⟩, rfl, hn⟩, fun i hi => by rw [Nat.zero_add]; exact hv i hi⟩⟩, fun d2 => ⟨⟨⟨bytesOk_bG _ _ _ (by omega), (by first | (show _ ≤ 1099511627776; omega) | (show _ ≤ 1000000000; omega) | (show _ ≤ 900000000; omega))⟩, ⟨h_p0v, h_p1v, h_p2v, h_p3v⟩⟩, fun d3 => ⟨⟨⟨bytesOk_bG _ _ _ (by omega), (by first | (show _ ≤ 1099511627776; omega) | (show _ ≤ 1000000000; omega) | (show _ ≤ 900000000; omega))⟩, ⟨h_v0v, h_v1v⟩⟩, fun d4 => ⟨⟨⟨bytesOk_bG _ _ _ (by omega), (by first | (show _ ≤ 1099511627776; omega) | (show _ ≤ 1000000000; omega) | (show _ ≤ 900000000; omega))⟩, ⟨rfl, by omega, by omega, fun i hi => by
    have : i = 0 := by omega
    subst this
    exact h_w0v⟩⟩, fun d5 => ⟨⟨⟨bytesOk_bG _ _ _ (by omega), (by first | (show _ ≤ 1099511627776; omega) | (show _ ≤ 1000000000; omega) | (show _ ≤ 900000000; omega))⟩, h_dn⟩, fun d6 => ⟨⟨⟨bytesOk_bG _ _ _ (by omega), (by first | (show _ ≤ 1099511627776; omega) | (show _ ≤ 1000000000; omega) | (show _ ≤ 900000000; omega))⟩, trivial⟩, fun d7 => tailU ?_ ?_ fun i hi => ?_⟩⟩⟩⟩⟩⟩⟩⟩
  · show _ = 5 + (shN n + 72)
    omega
  · simp only [Bool.or_false, caB, caB1, shBad, anyMin, nV, Bool.false_or, Bool.or_assoc]
  · show apG (5 + shN n + 36 + 18 + 9 + 8) (apG (5 + shN n + 36 + 18 + 9) (apG (5 + shN n + 36 + 18) (apG (5 + shN n + 36) (apG (5 + shN n) (apG (5) (apG (1) (fun i => ([1] : List Int).getD i 0) (c4 c.id)) (shL c.sk c.sr c.sw c.sh n (fun i => x (0 + i)) (fun i => y (0 + i)))) (poL c)) (vL c)) (numL c.w0v c.w0f)) (i8 c.dn)) (flB c.mv) i = _
    rw [show (fun i => x (0 + i)) = x from funext fun i => by rw [Nat.zero_add], show (fun i => y (0 + i)) = y from funext fun i => by rw [Nat.zero_add]]
    rw [apG_ap (n := 5 + shN n + 36 + 18 + 9) (m := 5 + shN n + 36 + 18 + 9 + 8) (add_ap (i8l _) rfl)]
    rw [apG_ap (n := 5 + shN n + 36 + 18) (m := 5 + shN n + 36 + 18 + 9) (add_ap (numl _ _) rfl)]
    rw [apG_ap (n := 5 + shN n + 36) (m := 5 + shN n + 36 + 18) (add_ap (vLl c) rfl)]
    rw [apG_ap (n := 5 + shN n) (m := 5 + shN n + 36) (add_ap (poLl c) rfl)]
    rw [apG_ap (n := 5) (m := 5 + shN n) (add_ap (shLl _ _ _ _ _ _ _) rfl)]
    rw [apG_ap (n := 1) (m := 5) (add_ap (c4l _) rfl)]
    rw [apG_listQ]
    rfl
theorem call_2 {b : Bool} {c : CV} {e n m cap xt : Nat} {x y : Nat → Int} {wh : Bool} (hc : cvOk c) (hn : n < 100) (hv : ∀ i, i < n → I64 (x i) ∧ I64 (y i)) : vcFn Try.prog ΓCw noΛ Try.f70 [.vp 0 0, caS 2 c (.sl 1 2 0 n cap)] (heapOf [wB (some b) true nilS, ptB e m x y xt wh]) 64 (fun y' h' => FinE [wB (some b) true nilS, ptB e m x y xt wh] (apE (.fresh (some b)) 0 True (5 + caN2 n) (caL 2 c (caT2 c n x y)) (caB c (caB2 c n))) y' h') := by
  have hsn := shN_le n
  obtain ⟨h_id, h_bs, h_bg, h_ver, h_sk, h_sr, h_sw, h_sh, h_p0v, h_p1v, h_p2v, h_p3v, h_v0v, h_v1v, h_w0v, h_dn, h_a0v, h_a1v, h_t0v, h_t1v, h_gr, h_b0, h_b1, h_b2, h_b3, h_f0, h_f1, h_u0, h_u1⟩ := hc
  refine Eq.mpr (vcCw2 b c e n m cap xt x y wh) ⟨⟨by omega, by omega⟩, fun d0 => ⟨⟨⟨bytesOk_bG _ _ _ (by omega), (by first | (show _ ≤ 1099511627776; omega) | (show _ ≤ 1000000000; omega) | (show _ ≤ 900000000; omega))⟩, h_id⟩, fun d1 => ⟨⟨⟨bytesOk_bG _ _ _ (by omega), (by first | (show _ ≤ 1099511627776; omega) | (show _ ≤ 1000000000; omega) | (show _ ≤ 900000000; omega))⟩, ⟨h_bs, h_bg⟩⟩, fun d2 => ⟨⟨⟨bytesOk_bG _ _ _ (by omega), (by first | (show _ ≤ 1099511627776; omega) | (show _ ≤ 1000000000; omega) | (show _ ≤ 900000000; omega))⟩, h_ver⟩, fun d3 => tailU ?_ ?_ fun i hi => ?_⟩⟩⟩⟩
  · show _ = 5 + (16)
    omega
  · simp only [Bool.or_false, caB, caB2, hBad, shBad, Bool.or_assoc, anyMin, nV, bop, Bool.false_or]
  · show apG (13) (apG (5) (apG (1) (fun i => ([2] : List Int).getD i 0) (c4 c.id)) (hL c.bs c.bg)) (i8 c.ver) i = _
    rw [apG_ap (n := 5) (m := 13) (add_ap (hLl _ _) rfl)]
    rw [apG_ap (n := 1) (m := 5) (add_ap (c4l _) rfl)]
    rw [apG_listQ]
    rfl
theorem call_3 {b : Bool} {c : CV} {e n m cap xt : Nat} {x y : Nat → Int} {wh : Bool} (hc : cvOk c) (hn : n < 100) (hv : ∀ i, i < n → I64 (x i) ∧ I64 (y i)) : vcFn Try.prog ΓCw noΛ Try.f70 [.vp 0 0, caS 3 c (.sl 1 2 0 n cap)] (heapOf [wB (some b) true nilS, ptB e m x y xt wh]) 64 (fun y' h' => FinE [wB (some b) true nilS, ptB e m x y xt wh] (apE (.fresh (some b)) 0 True (5 + caN3 n) (caL 3 c (caT3 c n x y)) (caB c (caB3 c n))) y' h') := by
  have hsn := shN_le n
  obtain ⟨h_id, h_bs, h_bg, h_ver, h_sk, h_sr, h_sw, h_sh, h_p0v, h_p1v, h_p2v, h_p3v, h_v0v, h_v1v, h_w0v, h_dn, h_a0v, h_a1v, h_t0v, h_t1v, h_gr, h_b0, h_b1, h_b2, h_b3, h_f0, h_f1, h_u0, h_u1⟩ := hc
  refine Eq.mpr (vcCw3 b c e n m cap xt x y wh) ⟨⟨by omega, by omega⟩, fun d0 => ⟨⟨⟨bytesOk_bG _ _ _ (by omega), (by first | (show _ ≤ 1099511627776; omega) | (show _ ≤ 1000000000; omega) | (show _ ≤ 900000000; omega))⟩, h_id⟩, fun d1 => ⟨⟨⟨bytesOk_bG _ _ _ (by omega), (by first | (show _ ≤ 1099511627776; omega) | (show _ ≤ 1000000000; omega) | (show _ ≤ 900000000; omega))⟩, ⟨h_bs, h_bg⟩⟩, fun d2 => ⟨⟨⟨bytesOk_bG _ _ _ (by omega), (by first | (show _ ≤ 1099511627776; omega) | (show _ ≤ 1000000000; omega) | (show _ ≤ 900000000; omega))⟩, h_ver⟩, fun d3 => ⟨⟨⟨bytesOk_bG _ _ _ (by omega), (by first | (show _ ≤ 1099511627776; omega) | (show _ ≤ 1000000000; omega) | (show _ ≤ 900000000; omega))⟩, ⟨h_a0v, h_a1v⟩⟩, fun d4 => ⟨⟨⟨bytesOk_bG _ _ _ (by omega), (by first | (show _ ≤ 1099511627776; omega) | (show _ ≤ 1000000000; omega) | (show _ ≤ 900000000; omega))⟩, ⟨h_t0v, h_t1v⟩⟩, fun d5 => tailU ?_ ?_ fun i hi => ?_⟩⟩⟩⟩⟩⟩
  · show _ = 5 + (52)
    omega
  · simp only [Bool.or_false, caB, caB3, hBad, shBad, Bool.or_assoc, anyMin, nV, bop, Bool.false_or]
  · show apG (39) (apG (21) (apG (13) (apG (5) (apG (1) (fun i => ([3] : List Int).getD i 0) (c4 c.id)) (hL c.bs c.bg)) (i8 c.ver)) (atL' c)) (toL c) i = _
    rw [apG_ap (n := 21) (m := 39) (add_ap (aLl c) rfl)]
    rw [apG_ap (n := 13) (m := 21) (add_ap (i8l _) rfl)]
    rw [apG_ap (n := 5) (m := 13) (add_ap (hLl _ _) rfl)]
    rw [apG_ap (n := 1) (m := 5) (add_ap (c4l _) rfl)]
    rw [apG_listQ]
    rfl
theorem call_4 {b : Bool} {c : CV} {e n m cap xt : Nat} {x y : Nat → Int} {wh : Bool} (hc : cvOk c) (hn : n < 100) (hv : ∀ i, i < n → I64 (x i) ∧ I64 (y i)) : vcFn Try.prog ΓCw noΛ Try.f70 [.vp 0 0, caS 4 c (.sl 1 2 0 n cap)] (heapOf [wB (some b) true nilS, ptB e m x y xt wh]) 64 (fun y' h' => FinE [wB (some b) true nilS, ptB e m x y xt wh] (apE (.fresh (some b)) 0 True (5 + caN4 n) (caL 4 c (caT4 c n x y)) (caB c (caB4 c n))) y' h') := by
  have hsn := shN_le n
  obtain ⟨h_id, h_bs, h_bg, h_ver, h_sk, h_sr, h_sw, h_sh, h_p0v, h_p1v, h_p2v, h_p3v, h_v0v, h_v1v, h_w0v, h_dn, h_a0v, h_a1v, h_t0v, h_t1v, h_gr, h_b0, h_b1, h_b2, h_b3, h_f0, h_f1, h_u0, h_u1⟩ := hc
  refine Eq.mpr (vcCw4 b c e n m cap xt x y wh) ⟨⟨by omega, by omega⟩, fun d0 => ⟨⟨⟨bytesOk_bG _ _ _ (by omega), (by first | (show _ ≤ 1099511627776; omega) | (show _ ≤ 1000000000; omega) | (show _ ≤ 900000000; omega))⟩, h_id⟩, fun d1 => ⟨⟨⟨bytesOk_bG _ _ _ (by omega), (by first | (show _ ≤ 1099511627776; omega) | (show _ ≤ 1000000000; omega) | (show _ ≤ 900000000; omega))⟩, ⟨h_bs, h_bg⟩⟩, fun d2 => ⟨⟨⟨bytesOk_bG _ _ _ (by omega), (by first | (show _ ≤ 1099511627776; omega) | (show _ ≤ 1000000000; omega) | (show _ ≤ 900000000; omega))⟩, h_ver⟩, fun d3 => ⟨⟨⟨bytesOk_bG _ _ _ (by omega), (by first | (show _ ≤ 1099511627776; omega) | (show _ ≤ 1000000000; omega) | (show _ ≤ 900000000; omega))⟩, ⟨h_a0v, h_a1v⟩⟩, fun d4 => tailU ?_ ?_ fun i hi => ?_⟩⟩⟩⟩⟩
  · show _ = 5 + (34)
    omega
  · simp only [Bool.or_false, caB, caB4, hBad, shBad, Bool.or_assoc, anyMin, nV, bop, Bool.false_or]
  · show apG (21) (apG (13) (apG (5) (apG (1) (fun i => ([4] : List Int).getD i 0) (c4 c.id)) (hL c.bs c.bg)) (i8 c.ver)) (atL' c) i = _
    rw [apG_ap (n := 13) (m := 21) (add_ap (i8l _) rfl)]
    rw [apG_ap (n := 5) (m := 13) (add_ap (hLl _ _) rfl)]
    rw [apG_ap (n := 1) (m := 5) (add_ap (c4l _) rfl)]
    rw [apG_listQ]
    rfl
theorem call_5 {b : Bool} {c : CV} {e n m cap xt : Nat} {x y : Nat → Int} {wh : Bool} (hc : cvOk c) (hn : n < 100) (hv : ∀ i, i < n → I64 (x i) ∧ I64 (y i)) : vcFn Try.prog ΓCw noΛ Try.f70 [.vp 0 0, caS 5 c (.sl 1 2 0 n cap)] (heapOf [wB (some b) true nilS, ptB e m x y xt wh]) 64 (fun y' h' => FinE [wB (some b) true nilS, ptB e m x y xt wh] (apE (.fresh (some b)) 0 True (5 + caN5 n) (caL 5 c (caT5 c n x y)) (caB c (caB5 c n))) y' h') := by
  have hsn := shN_le n
  obtain ⟨h_id, h_bs, h_bg, h_ver, h_sk, h_sr, h_sw, h_sh, h_p0v, h_p1v, h_p2v, h_p3v, h_v0v, h_v1v, h_w0v, h_dn, h_a0v, h_a1v, h_t0v, h_t1v, h_gr, h_b0, h_b1, h_b2, h_b3, h_f0, h_f1, h_u0, h_u1⟩ := hc
  refine Eq.mpr (vcCw5 b c e n m cap xt x y wh) ⟨⟨by omega, by omega⟩, fun d0 => ⟨⟨⟨bytesOk_bG _ _ _ (by omega), (by first | (show _ ≤ 1099511627776; omega) | (show _ ≤ 1000000000; omega) | (show _ ≤ 900000000; omega))⟩, h_id⟩, fun d1 => ⟨⟨⟨bytesOk_bG _ _ _ (by omega), (by first | (show _ ≤ 1099511627776; omega) | (show _ ≤ 1000000000; omega) | (show _ ≤ 900000000; omega))⟩, h_gr⟩, fun d2 => ⟨⟨⟨bytesOk_bG _ _ _ (by omega), (by first | (show _ ≤ 1099511627776; omega) | (show _ ≤ 1000000000; omega) | (show _ ≤ 900000000; omega))⟩, ⟨h_t0v, h_t1v⟩⟩, fun d3 => tailU ?_ ?_ fun i hi => ?_⟩⟩⟩⟩
  · show _ = 5 + (22)
    omega
  · simp only [Bool.or_false, caB, caB5, hBad, shBad, Bool.or_assoc, anyMin, nV, bop, Bool.false_or]
  · show apG (9) (apG (5) (apG (1) (fun i => ([5] : List Int).getD i 0) (c4 c.id)) (c4 c.gr)) (toL c) i = _
    rw [apG_ap (n := 5) (m := 9) (add_ap (c4l _) rfl)]
    rw [apG_ap (n := 1) (m := 5) (add_ap (c4l _) rfl)]
    rw [apG_listQ]
    rfl
theorem call_6 {b : Bool} {c : CV} {e n m cap xt : Nat} {x y : Nat → Int} {wh : Bool} (hc : cvOk c) (hn : n < 100) (hv : ∀ i, i < n → I64 (x i) ∧ I64 (y i)) : vcFn Try.prog ΓCw noΛ Try.f70 [.vp 0 0, caS 6 c (.sl 1 2 0 n cap)] (heapOf [wB (some b) true nilS, ptB e m x y xt wh]) 64 (fun y' h' => FinE [wB (some b) true nilS, ptB e m x y xt wh] (apE (.fresh (some b)) 0 True (5 + caN6 n) (caL 6 c (caT6 c n x y)) (caB c (caB6 c n))) y' h') := by
  have hsn := shN_le n
  obtain ⟨h_id, h_bs, h_bg, h_ver, h_sk, h_sr, h_sw, h_sh, h_p0v, h_p1v, h_p2v, h_p3v, h_v0v, h_v1v, h_w0v, h_dn, h_a0v, h_a1v, h_t0v, h_t1v, h_gr, h_b0, h_b1, h_b2, h_b3, h_f0, h_f1, h_u0, h_u1⟩ := hc
  refine Eq.mpr (vcCw6 b c e n m cap xt x y wh) ⟨⟨by omega, by omega⟩, fun d0 => ⟨⟨⟨bytesOk_bG _ _ _ (by omega), (by first | (show _ ≤ 1099511627776; omega) | (show _ ≤ 1000000000; omega) | (show _ ≤ 900000000; omega))⟩, h_id⟩, fun d1 => ⟨⟨⟨bytesOk_bG _ _ _ (by omega), (by first | (show _ ≤ 1099511627776; omega) | (show _ ≤ 1000000000; omega) | (show _ ≤ 900000000; omega))⟩, h_gr⟩, fun d2 => tailU ?_ ?_ fun i hi => ?_⟩⟩⟩
  · show _ = 5 + (4)
    omega
  · simp only [Bool.or_false, caB, caB6, hBad, shBad, Bool.or_assoc, anyMin, nV, bop, Bool.false_or]
  · show apG (5) (apG (1) (fun i => ([6] : List Int).getD i 0) (c4 c.id)) (c4 c.gr) i = _
    rw [apG_ap (n := 1) (m := 5) (add_ap (c4l _) rfl)]
    rw [apG_listQ]
    rfl
theorem call_7 {b : Bool} {c : CV} {e n m cap xt : Nat} {x y : Nat → Int} {wh : Bool} (hc : cvOk c) (hn : n < 100) (hv : ∀ i, i < n → I64 (x i) ∧ I64 (y i)) : vcFn Try.prog ΓCw noΛ Try.f70 [.vp 0 0, caS 7 c (.sl 1 2 0 n cap)] (heapOf [wB (some b) true nilS, ptB e m x y xt wh]) 64 (fun y' h' => FinE [wB (some b) true nilS, ptB e m x y xt wh] (apE (.fresh (some b)) 0 True (5 + caN7 n) (caL 7 c (caT7 c n x y)) (caB c (caB7 c n))) y' h') := by
  have hsn := shN_le n
  obtain ⟨h_id, h_bs, h_bg, h_ver, h_sk, h_sr, h_sw, h_sh, h_p0v, h_p1v, h_p2v, h_p3v, h_v0v, h_v1v, h_w0v, h_dn, h_a0v, h_a1v, h_t0v, h_t1v, h_gr, h_b0, h_b1, h_b2, h_b3, h_f0, h_f1, h_u0, h_u1⟩ := hc
  refine Eq.mpr (vcCw7 b c e n m cap xt x y wh) ⟨⟨by omega, by omega⟩, fun d0 => ⟨⟨⟨bytesOk_bG _ _ _ (by omega), (by first | (show _ ≤ 1099511627776; omega) | (show _ ≤ 1000000000; omega) | (show _ ≤ 900000000; omega))⟩, h_id⟩, fun d1 => ⟨⟨⟨bytesOk_bG _ _ _ (by omega), (by first | (show _ ≤ 1099511627776; omega) | (show _ ≤ 1000000000; omega) | (show _ ≤ 900000000; omega))⟩, ⟨h_bs, h_bg⟩⟩, fun d2 => tailU ?_ ?_ fun i hi => ?_⟩⟩⟩
  · show _ = 5 + (8)
    omega
  · simp only [Bool.or_false, caB, caB7, hBad, shBad, Bool.or_assoc, anyMin, nV, bop, Bool.false_or]
  · show apG (5) (apG (1) (fun i => ([7] : List Int).getD i 0) (c4 c.id)) (hL c.bs c.bg) i = _
    rw [apG_ap (n := 1) (m := 5) (add_ap (c4l _) rfl)]
    rw [apG_listQ]
    rfl
theorem call_8 {b : Bool} {c : CV} {e n m cap xt : Nat} {x y : Nat → Int} {wh : Bool} (hc : cvOk c) (hn : n < 100) (hv : ∀ i, i < n → I64 (x i) ∧ I64 (y i)) : vcFn Try.prog ΓCw noΛ Try.f70 [.vp 0 0, caS 8 c (.sl 1 2 0 n cap)] (heapOf [wB (some b) true nilS, ptB e m x y xt wh]) 64 (fun y' h' => FinE [wB (some b) true nilS, ptB e m x y xt wh] (apE (.fresh (some b)) 0 True (5 + caN8 n) (caL 8 c (caT8 c n x y)) (caB c (caB8 c n))) y' h') := by
  have hsn := shN_le n
  obtain ⟨h_id, h_bs, h_bg, h_ver, h_sk, h_sr, h_sw, h_sh, h_p0v, h_p1v, h_p2v, h_p3v, h_v0v, h_v1v, h_w0v, h_dn, h_a0v, h_a1v, h_t0v, h_t1v, h_gr, h_b0, h_b1, h_b2, h_b3, h_f0, h_f1, h_u0, h_u1⟩ := hc
  refine Eq.mpr (vcCw8 b c e n m cap xt x y wh) ⟨⟨by omega, by omega⟩, fun d0 => ⟨⟨⟨bytesOk_bG _ _ _ (by omega), (by first | (show _ ≤ 1099511627776; omega) | (show _ ≤ 1000000000; omega) | (show _ ≤ 900000000; omega))⟩, h_id⟩, fun d1 => ⟨⟨⟨bytesOk_bG _ _ _ (by omega), (by first | (show _ ≤ 1099511627776; omega) | (show _ ≤ 1000000000; omega) | (show _ ≤ 900000000; omega))⟩, ⟨⟨rfl, by omega, by omega⟩, fun i hi => by
    have : i = 0 ∨ i = 1 := by omega
    rcases this with rfl | rfl
    · exact ⟨h_b0, h_b1⟩
    · exact ⟨h_b2, h_b3⟩⟩⟩, fun d2 => tailU ?_ ?_ fun i hi => ?_⟩⟩⟩
  · show _ = 5 + (32)
    omega
  · simp only [Bool.or_false, caB, caB8, hBad, shBad, Bool.or_assoc, anyMin, nV, bop, Bool.false_or]
  · show apG (5) (apG (1) (fun i => ([8] : List Int).getD i 0) (c4 c.id)) ((i8 c.b0 ++ i8 c.b1) ++ (i8 c.b2 ++ i8 c.b3)) i = _
    rw [apG_ap (n := 1) (m := 5) (add_ap (c4l _) rfl)]
    rw [apG_listQ]
    rfl
theorem call_9 {b : Bool} {c : CV} {e n m cap xt : Nat} {x y : Nat → Int} {wh : Bool} (hc : cvOk c) (hn : n < 100) (hv : ∀ i, i < n → I64 (x i) ∧ I64 (y i)) : vcFn Try.prog ΓCw noΛ Try.f70 [.vp 0 0, caS 9 c (.sl 1 2 0 n cap)] (heapOf [wB (some b) true nilS, ptB e m x y xt wh]) 64 (fun y' h' => FinE [wB (some b) true nilS, ptB e m x y xt wh] (apE (.fresh (some b)) 0 True (5 + caN9 n) (caL 9 c (caT9 c n x y)) (caB c (caB9 c n))) y' h') := by
  have hsn := shN_le n
  obtain ⟨h_id, h_bs, h_bg, h_ver, h_sk, h_sr, h_sw, h_sh, h_p0v, h_p1v, h_p2v, h_p3v, h_v0v, h_v1v, h_w0v, h_dn, h_a0v, h_a1v, h_t0v, h_t1v, h_gr, h_b0, h_b1, h_b2, h_b3, h_f0, h_f1, h_u0, h_u1⟩ := hc
  refine Eq.mpr (vcCw9 b c e n m cap xt x y wh) ⟨⟨by omega, by omega⟩, fun d0 => ⟨⟨⟨bytesOk_bG _ _ _ (by omega), (by first | (show _ ≤ 1099511627776; omega) | (show _ ≤ 1000000000; omega) | (show _ ≤ 900000000; omega))⟩, h_id⟩, fun d1 => ⟨⟨⟨bytesOk_bG _ _ _ (by omega), (by first | (show _ ≤ 1099511627776; omega) | (show _ ≤ 1000000000; omega) | (show _ ≤ 900000000; omega))⟩, ⟨⟨rfl, by omega, by omega⟩, fun i hi => by
    have : i = 0 ∨ i = 1 := by omega
    rcases this with rfl | rfl
    · exact ⟨h_f0, h_f1⟩
    · exact ⟨h_u0, h_u1⟩⟩⟩, fun d2 => tailU ?_ ?_ fun i hi => ?_⟩⟩⟩
  · show _ = 5 + (32)
    omega
  · simp only [Bool.or_false, caB, caB9, hBad, shBad, Bool.or_assoc, anyMin, nV, bop, Bool.false_or]
  · show apG (5) (apG (1) (fun i => ([9] : List Int).getD i 0) (c4 c.id)) ((i8 c.f0 ++ i8 c.f1) ++ (i8 c.u0 ++ i8 c.u1)) i = _
    rw [apG_ap (n := 1) (m := 5) (add_ap (c4l _) rfl)]
    rw [apG_listQ]
    rfl
theorem call_10 {b : Bool} {c : CV} {e n m cap xt : Nat} {x y : Nat → Int} {wh : Bool} (hc : cvOk c) (hn : n < 100) (hv : ∀ i, i < n → I64 (x i) ∧ I64 (y i)) : vcFn Try.prog ΓCw noΛ Try.f70 [.vp 0 0, caS 10 c (.sl 1 2 0 n cap)] (heapOf [wB (some b) true nilS, ptB e m x y xt wh]) 64 (fun y' h' => FinE [wB (some b) true nilS, ptB e m x y xt wh] (apE (.fresh (some b)) 0 True (5 + caN10 n) (caL 10 c (caT10 c n x y)) (caB c (caB10 c n))) y' h') := by
  have hsn := shN_le n
  obtain ⟨h_id, h_bs, h_bg, h_ver, h_sk, h_sr, h_sw, h_sh, h_p0v, h_p1v, h_p2v, h_p3v, h_v0v, h_v1v, h_w0v, h_dn, h_a0v, h_a1v, h_t0v, h_t1v, h_gr, h_b0, h_b1, h_b2, h_b3, h_f0, h_f1, h_u0, h_u1⟩ := hc
  refine Eq.mpr (vcCw10 b c e n m cap xt x y wh) ⟨⟨by omega, by omega⟩, fun d0 => ⟨⟨⟨bytesOk_bG _ _ _ (by omega), (by first | (show _ ≤ 1099511627776; omega) | (show _ ≤ 1000000000; omega) | (show _ ≤ 900000000; omega))⟩, h_id⟩, fun d1 => tailU ?_ ?_ fun i hi => ?_⟩⟩
  · show _ = 5 + (0)
    omega
  · simp only [Bool.or_false, caB, caB10, hBad, shBad, Bool.or_assoc, anyMin, nV, bop, Bool.false_or]
  · show apG (1) (fun i => ([10] : List Int).getD i 0) (c4 c.id) i = _
    rw [apG_listQ]
    rfl
end Go.Proofs.Ytjdldadmaaeimaa
