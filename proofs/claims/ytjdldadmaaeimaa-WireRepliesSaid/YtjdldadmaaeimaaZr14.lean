/-
  What the proof uses, part 14.
-/
import Derived.Test.YtjdldadmaaeimaaZr13

section
set_option maxRecDepth 100000
set_option linter.unusedSimpArgs false
set_option linter.unusedVariables false
namespace Go.Proofs.Ytjdldadmaaeimaa
open Go.SE Go.RowKit
def r7S (c : RV) (n : Nat) (x y : Nat → Int) : ByteArray := rBoS (emp ++ strOfNums (be 7 1) ++ strOfNums (c4 c.id) ++ strOfNums (be 0 1) ++ strOfNums (hL c.bs c.bg)) (notIn c.id 2147483647 || hBad c.bs c.bg) c.o n x y
def r8S (c : RV) (m : Nat) (u v : Nat → Int) : ByteArray := strOfNums ([8] ++ (c4 c.id ++ ([0] ++ [(m : Int) % 256]))) ++ strOfNums (hsL u v (bif notIn c.id 2147483647 || notIn (m : Int) 64 then 0 else stp u v m))
def rwS (k e : Int) (c : RV) (n : Nat) (g : Nat → Int × Int) (m : Nat) (h : Nat → Int × Int) : ByteArray := bif e == 0 && k == 7 then r7S c n (fun i => (g i).1) (fun i => (g i).2) else (bif e == 0 && k == 8 then r8S c m (fun i => (h i).1) (fun i => (h i).2) else strOfNums (repL k e c n g m h))
def sRRw : List SV → List Ro → Option (Option Prop × SV)
  | [.agg l], [⟨2, n', r1⟩, ⟨2, m', r2⟩] => match cellsOfR l with
    | some (k, e, c, .sl 0 2 0 n _, .sl 1 2 0 m _) => some (some (repPre k e c n n' m m' r1 r2 ∧ (0 ≤ k ∧ k ≤ 10) ∧ (e = 0 → 1 ≤ k)), .agg [strS (rwS k e c n (fun i => gi (r1 i)) m fun i => gi (r2 i)), bV (rBad k e c n m fun i => gi (r2 i))])
    | _ => none
  | _, _ => none
theorem ΓRb_ok : ∀ f g, ΓRb f = some g → g.ok Try.prog f := addCtr_ok (addCtr_ok (addCtr_ok ΓE3_ok (hp_ok Try.func109 (by kernel_rfl) (by kernel_rfl) RShape_spec)) (hp_ok Try.func110 (by kernel_rfl) (by kernel_rfl) RPose_spec)) (hp_ok Try.func107 (by kernel_rfl) (by kernel_rfl) RSmall_spec)
theorem bo_str (s : ByteArray) (b : Bool) (o : BV) (n : Nat) (x y : Nat → Int) (mk : Int) (h : be mk 1 = [bmk o]) : rShS s (b || shBad o.sk n) o.sk o.sr o.sw o.sh n x y ++ strOfNums (poB o) ++ strOfNums (voB o) ++ strOfNums (numL o.w0v o.w0f) ++ strOfNums (numL o.m0v o.m0f) ++ strOfNums (numL o.m1v o.m1f) ++ strOfNums (c4 o.st) ++ strOfNums (be mk 1) ++ strOfNums (i8 o.bv) = rBoS s b o n x y := by
  rw [h, str_app2, str_app2, str_app2, str_app2, str_app2, str_app2, str_app2]
  unfold rBoS boT wmB
  simp only [List.append_assoc]
theorem body_ref {q : Option Prop} {s : ByteArray} {b0 : Bool} {o : BV} {e n cap xt : Nat} {x y : Nat → Int} {wh : Bool} (hc : bvOk o) (hs : s.size ≤ 700000000) (hn : n < 100) (hv : ∀ i, i < n → I64 (x i) ∧ I64 (y i)) : vcFn Try.prog ΓRb noΛ Try.f119 [.vp 0 0, boS o (.sl 1 2 0 n cap)] (heapOf [rB s b0, ptB e n x y xt wh]) 64 (fun y' h' => FinE [rB s b0, ptB e n x y xt wh] (.det q (.tup []) [(0, rB (rBoS s b0 o n x y) (b0 || boBad o n))]) y' h') := by
  obtain ⟨h_sk, h_sr, h_sw, h_sh, h_p0v, h_p1v, h_p2v, h_p3v, h_v0v, h_v1v, h_w0v, h_m0v, h_m1v, h_st, h_bv⟩ := hc
  refine Eq.mpr (vcRBody q s b0 o e n n cap xt x y wh) ?_
  rw [wpt_gX, wpt_gY]
  have hz := rShS_size s (b0 || shBad o.sk n) o.sk o.sr o.sw o.sh n x y hn
  have hmk : ∀ j : Int, j = 0 ∨ j = 1 ∨ j = 2 ∨ j = 3 → be j 1 = [j] := fun j hj => by rcases hj with rfl | rfl | rfl | rfl <;> rfl
  generalize hS : rShS s (b0 || shBad o.sk n) o.sk o.sr o.sw o.sh n x y = S at hz ⊢
  refine ⟨⟨⟨⟨h_sk, h_sr, h_sw, h_sh⟩, wpt_sp hn hv, hn⟩, (by first | (show _ ≤ 1099511627776; simp only [size_app (rShS _ _ _ _ _ _ _ _ _), size_app, size_str, b1l, i8l, c4l, numl, vecl, List.length_append]; omega) | (show _ ≤ 1000000000; simp only [size_app, size_str, b1l, i8l, c4l, numl, vecl, List.length_append]; omega) | (show _ ≤ 900000000; simp only [size_app, size_str, b1l, i8l, c4l, numl, vecl, List.length_append]; omega) | (show _ ≤ 800000000; omega))⟩, ⟨⟨h_p0v, h_p1v, h_p2v, h_p3v⟩, (by first | (show _ ≤ 1099511627776; simp only [size_app (rShS _ _ _ _ _ _ _ _ _), size_app, size_str, b1l, i8l, c4l, numl, vecl, List.length_append]; omega) | (show _ ≤ 1000000000; simp only [size_app, size_str, b1l, i8l, c4l, numl, vecl, List.length_append]; omega) | (show _ ≤ 900000000; simp only [size_app, size_str, b1l, i8l, c4l, numl, vecl, List.length_append]; omega) | (show _ ≤ 800000000; omega))⟩, ⟨⟨h_v0v, h_v1v⟩, (by first | (show _ ≤ 1099511627776; simp only [size_app (rShS _ _ _ _ _ _ _ _ _), size_app, size_str, b1l, i8l, c4l, numl, vecl, List.length_append]; omega) | (show _ ≤ 1000000000; simp only [size_app, size_str, b1l, i8l, c4l, numl, vecl, List.length_append]; omega) | (show _ ≤ 900000000; simp only [size_app, size_str, b1l, i8l, c4l, numl, vecl, List.length_append]; omega) | (show _ ≤ 800000000; omega))⟩, ⟨h_w0v, (by first | (show _ ≤ 1099511627776; simp only [size_app (rShS _ _ _ _ _ _ _ _ _), size_app, size_str, b1l, i8l, c4l, numl, vecl, List.length_append]; omega) | (show _ ≤ 1000000000; simp only [size_app, size_str, b1l, i8l, c4l, numl, vecl, List.length_append]; omega) | (show _ ≤ 900000000; simp only [size_app, size_str, b1l, i8l, c4l, numl, vecl, List.length_append]; omega) | (show _ ≤ 800000000; omega))⟩, ⟨h_m0v, (by first | (show _ ≤ 1099511627776; simp only [size_app (rShS _ _ _ _ _ _ _ _ _), size_app, size_str, b1l, i8l, c4l, numl, vecl, List.length_append]; omega) | (show _ ≤ 1000000000; simp only [size_app, size_str, b1l, i8l, c4l, numl, vecl, List.length_append]; omega) | (show _ ≤ 900000000; simp only [size_app, size_str, b1l, i8l, c4l, numl, vecl, List.length_append]; omega) | (show _ ≤ 800000000; omega))⟩, ⟨h_m1v, (by first | (show _ ≤ 1099511627776; simp only [size_app (rShS _ _ _ _ _ _ _ _ _), size_app, size_str, b1l, i8l, c4l, numl, vecl, List.length_append]; omega) | (show _ ≤ 1000000000; simp only [size_app, size_str, b1l, i8l, c4l, numl, vecl, List.length_append]; omega) | (show _ ≤ 900000000; simp only [size_app, size_str, b1l, i8l, c4l, numl, vecl, List.length_append]; omega) | (show _ ≤ 800000000; omega))⟩, ⟨h_st, (by first | (show _ ≤ 1099511627776; simp only [size_app (rShS _ _ _ _ _ _ _ _ _), size_app, size_str, b1l, i8l, c4l, numl, vecl, List.length_append]; omega) | (show _ ≤ 1000000000; simp only [size_app, size_str, b1l, i8l, c4l, numl, vecl, List.length_append]; omega) | (show _ ≤ 900000000; simp only [size_app, size_str, b1l, i8l, c4l, numl, vecl, List.length_append]; omega) | (show _ ≤ 800000000; omega))⟩, sel_of (fun ea => sel_of (fun ef => ⟨⟨⟨⟨by omega, by omega⟩, by omega, by omega⟩, (by first | (show _ ≤ 1099511627776; simp only [size_app (rShS _ _ _ _ _ _ _ _ _), size_app, size_str, b1l, i8l, c4l, numl, vecl, List.length_append]; omega) | (show _ ≤ 1000000000; simp only [size_app, size_str, b1l, i8l, c4l, numl, vecl, List.length_append]; omega) | (show _ ≤ 900000000; simp only [size_app, size_str, b1l, i8l, c4l, numl, vecl, List.length_append]; omega) | (show _ ≤ 800000000; omega))⟩, ⟨h_bv, (by first | (show _ ≤ 1099511627776; simp only [size_app (rShS _ _ _ _ _ _ _ _ _), size_app, size_str, b1l, i8l, c4l, numl, vecl, List.length_append]; omega) | (show _ ≤ 1000000000; simp only [size_app, size_str, b1l, i8l, c4l, numl, vecl, List.length_append]; omega) | (show _ ≤ 900000000; simp only [size_app, size_str, b1l, i8l, c4l, numl, vecl, List.length_append]; omega) | (show _ ≤ 800000000; omega))⟩, trivial, rfl, Nat.le_refl _, fun i _ => ?_⟩) fun ef => ⟨⟨⟨⟨by omega, by omega⟩, by omega, by omega⟩, (by first | (show _ ≤ 1099511627776; simp only [size_app (rShS _ _ _ _ _ _ _ _ _), size_app, size_str, b1l, i8l, c4l, numl, vecl, List.length_append]; omega) | (show _ ≤ 1000000000; simp only [size_app, size_str, b1l, i8l, c4l, numl, vecl, List.length_append]; omega) | (show _ ≤ 900000000; simp only [size_app, size_str, b1l, i8l, c4l, numl, vecl, List.length_append]; omega) | (show _ ≤ 800000000; omega))⟩, ⟨h_bv, (by first | (show _ ≤ 1099511627776; simp only [size_app (rShS _ _ _ _ _ _ _ _ _), size_app, size_str, b1l, i8l, c4l, numl, vecl, List.length_append]; omega) | (show _ ≤ 1000000000; simp only [size_app, size_str, b1l, i8l, c4l, numl, vecl, List.length_append]; omega) | (show _ ≤ 900000000; simp only [size_app, size_str, b1l, i8l, c4l, numl, vecl, List.length_append]; omega) | (show _ ≤ 800000000; omega))⟩, trivial, rfl, Nat.le_refl _, fun i _ => ?_⟩) fun ea => sel_of (fun ef => ⟨⟨⟨⟨by omega, by omega⟩, by omega, by omega⟩, (by first | (show _ ≤ 1099511627776; simp only [size_app (rShS _ _ _ _ _ _ _ _ _), size_app, size_str, b1l, i8l, c4l, numl, vecl, List.length_append]; omega) | (show _ ≤ 1000000000; simp only [size_app, size_str, b1l, i8l, c4l, numl, vecl, List.length_append]; omega) | (show _ ≤ 900000000; simp only [size_app, size_str, b1l, i8l, c4l, numl, vecl, List.length_append]; omega) | (show _ ≤ 800000000; omega))⟩, ⟨h_bv, (by first | (show _ ≤ 1099511627776; simp only [size_app (rShS _ _ _ _ _ _ _ _ _), size_app, size_str, b1l, i8l, c4l, numl, vecl, List.length_append]; omega) | (show _ ≤ 1000000000; simp only [size_app, size_str, b1l, i8l, c4l, numl, vecl, List.length_append]; omega) | (show _ ≤ 900000000; simp only [size_app, size_str, b1l, i8l, c4l, numl, vecl, List.length_append]; omega) | (show _ ≤ 800000000; omega))⟩, trivial, rfl, Nat.le_refl _, fun i _ => ?_⟩) fun ef => ⟨⟨⟨⟨by omega, by omega⟩, by omega, by omega⟩, (by first | (show _ ≤ 1099511627776; simp only [size_app (rShS _ _ _ _ _ _ _ _ _), size_app, size_str, b1l, i8l, c4l, numl, vecl, List.length_append]; omega) | (show _ ≤ 1000000000; simp only [size_app, size_str, b1l, i8l, c4l, numl, vecl, List.length_append]; omega) | (show _ ≤ 900000000; simp only [size_app, size_str, b1l, i8l, c4l, numl, vecl, List.length_append]; omega) | (show _ ≤ 800000000; omega))⟩, ⟨h_bv, (by first | (show _ ≤ 1099511627776; simp only [size_app (rShS _ _ _ _ _ _ _ _ _), size_app, size_str, b1l, i8l, c4l, numl, vecl, List.length_append]; omega) | (show _ ≤ 1000000000; simp only [size_app, size_str, b1l, i8l, c4l, numl, vecl, List.length_append]; omega) | (show _ ≤ 900000000; simp only [size_app, size_str, b1l, i8l, c4l, numl, vecl, List.length_append]; omega) | (show _ ≤ 800000000; omega))⟩, trivial, rfl, Nat.le_refl _, fun i _ => ?_⟩⟩
  · have hb : be 3 1 = [bmk o] := by unfold bmk; rw [ea, ef]; rfl
    rw [← bo_str s b0 o n x y 3 hb, hS]
    refine congrArg (fun z => [SV.v (.string _), SV.v (.bool z)]) ?_
    simp only [boBad, Bool.or_false, Bool.false_or, Bool.or_assoc]
  · have hb : be 1 1 = [bmk o] := by unfold bmk; rw [ea, ef]; rfl
    rw [← bo_str s b0 o n x y 1 hb, hS]
    refine congrArg (fun z => [SV.v (.string _), SV.v (.bool z)]) ?_
    simp only [boBad, Bool.or_false, Bool.false_or, Bool.or_assoc]
  · have hb : be 2 1 = [bmk o] := by unfold bmk; rw [ea, ef]; rfl
    rw [← bo_str s b0 o n x y 2 hb, hS]
    refine congrArg (fun z => [SV.v (.string _), SV.v (.bool z)]) ?_
    simp only [boBad, Bool.or_false, Bool.false_or, Bool.or_assoc]
  · have hb : be 0 1 = [bmk o] := by unfold bmk; rw [ea, ef]; rfl
    rw [← bo_str s b0 o n x y 0 hb, hS]
    refine congrArg (fun z => [SV.v (.string _), SV.v (.bool z)]) ?_
    simp only [boBad, Bool.or_false, Bool.false_or, Bool.or_assoc]
theorem RBody_spec : HpSpec Try.prog 119 sRBody := hp_spec hm ΓRb_ok Try.func119 (Λ := fun _ _ => noΛ) fun args bs e hs hp => by
  unfold sRBody at hs
  split at hs <;> try (cases hs; done)
  rename_i l B S
  split at hs <;> try (cases hs; done)
  rename_i o n cap s b0 hl hB
  obtain ⟨hb, he⟩ := bif_some2' hs
  have he := Option.some.inj he
  subst he
  rw [Bool.and_eq_true] at hb
  obtain ⟨⟨hc, hsp, hn⟩, hsz⟩ := hp _ rfl
  refine ⟨[rB s b0, ptB S.elem n (gX S) (gY S) S.ext S.whole], ⟨rOk_same hb.1 hB, same_ptB hb.2 hsp, trivial⟩, ?_⟩
  rw [bods_eq hl]
  exact body_ref hc hsz hn (pre_of hsp).2
theorem ΓRr_ok : ∀ f g, ΓRr f = some g → g.ok Try.prog f := addCtr_ok (addCtr_ok (addCtr_ok ΓE3_ok (hp_ok Try.func115 (by kernel_rfl) (by kernel_rfl) RHandle_spec)) (hp_ok Try.func107 (by kernel_rfl) (by kernel_rfl) RSmall_spec)) (hp_ok Try.func119 (by kernel_rfl) (by kernel_rfl) RBody_spec)
theorem anyH_mono {u v : Nat → Int} {i : Nat} (h : anyH u v i = true) : ∀ {m : Nat}, i ≤ m → anyH u v m = true
  | 0, hm' => by
    have : i = 0 := by omega
    subst this
    exact h
  | m + 1, hm' => by
    by_cases e : i = m + 1
    · subst e; exact h
    · unfold anyH
      rw [anyH_mono h (m := m) (by omega), Bool.true_or]
theorem stp_exit {u v : Nat → Int} : ∀ {m i : Nat}, i ≤ m → (i = 0 ∨ anyH u v (i - 1) = false) → (i = m ∨ anyH u v i = true) → stp u v m = i
  | 0, i, h1, _, _ => by
    have : i = 0 := by omega
    subst this
    rfl
  | m + 1, i, h1, h2, h3 => by
    unfold stp
    cases hA : anyH u v m with
    | true =>
      rw [cond_true]
      by_cases e : i = m + 1
      · subst e
        rcases h2 with h2 | h2
        · cases h2
        · rw [Nat.add_sub_cancel, hA] at h2
          cases h2
      · refine stp_exit (by omega) h2 (.inr ?_)
        rcases h3 with h3 | h3
        · exact absurd h3 e
        · exact h3
    | false =>
      rw [cond_false]
      by_cases e : i = m + 1
      · exact e.symm
      · rcases h3 with h3 | h3
        · exact absurd h3 e
        · rw [anyH_mono h3 (m := m) (by omega)] at hA
          cases hA
theorem not_f {b : Bool} (h : (!b) = false) : b = true := by
  cases b with
  | true => rfl
  | false => cases h
theorem base8 (c : RV) (m : Nat) : emp ++ strOfNums (be 8 1) ++ strOfNums (c4 c.id) ++ strOfNums (be 0 1) ++ strOfNums (be ((m : Int) % 18446744073709551616) 1) = strOfNums ([8] ++ (c4 c.id ++ ([0] ++ [(m : Int) % 256]))) := by
  rw [emp_app, be_one, str_append, str_append, str_append]
  congr 1
theorem rrw_1 {c : RV} {n cap m cp : Nat} {g h : Nat → Int × Int} (hc : rvOk c) (hn : n < 100) (hg : ∀ i, i < n → I64 (g i).1 ∧ I64 (g i).2) (hm' : m < 200) (hh : ∀ i, i < m → I64 (h i).1 ∧ I64 (h i).2) : vcFn Try.prog ΓRr noΛ Try.f79 [reS 1 0 c (.sl 0 2 0 n cap) (.sl 1 2 0 m cp)] (roHeap [⟨2, n, rowsP g⟩, ⟨2, m, rowsP h⟩]) 64 (fun y _ => y = .agg [strS (rwS 1 0 c n g m h), bV (rBad 1 0 c n m h)]) := by
  obtain ⟨h_id, h_bs, h_bg, h_ver, h_gr, h_htv, h_x0v, h_x1v, h_cnt, hbo⟩ := hc
  refine Eq.mpr (vcRRw1 c n cap m cp g h _) ⟨⟨⟨⟨by omega, by omega⟩, by omega, by omega⟩, Nat.zero_le _⟩, ⟨h_id, by show 1 ≤ 1099511627776; omega⟩, ⟨⟨⟨by omega, by omega⟩, by omega, by omega⟩, (by first | (show _ ≤ 1099511627776; simp only [size_app, size_str, esz, b1l, hLl, i8l, c4l, numl, vecl, flB_len, List.length_append]; omega) | (show _ ≤ 1000000000; simp only [size_app, size_str, esz, b1l, hLl, i8l, c4l, numl, vecl, flB_len, List.length_append]; omega) | (show _ ≤ 900000000; simp only [size_app, size_str, esz, b1l, hLl, i8l, c4l, numl, vecl, flB_len, List.length_append]; omega) | (show _ ≤ 700000000; simp only [size_app, size_str, esz, b1l, hLl, i8l, c4l, numl, vecl, flB_len, List.length_append]; omega))⟩, ⟨⟨h_bs, h_bg⟩, (by first | (show _ ≤ 1099511627776; simp only [size_app, size_str, esz, b1l, hLl, i8l, c4l, numl, vecl, flB_len, List.length_append]; omega) | (show _ ≤ 1000000000; simp only [size_app, size_str, esz, b1l, hLl, i8l, c4l, numl, vecl, flB_len, List.length_append]; omega) | (show _ ≤ 900000000; simp only [size_app, size_str, esz, b1l, hLl, i8l, c4l, numl, vecl, flB_len, List.length_append]; omega) | (show _ ≤ 700000000; simp only [size_app, size_str, esz, b1l, hLl, i8l, c4l, numl, vecl, flB_len, List.length_append]; omega))⟩, ⟨h_ver, (by first | (show _ ≤ 1099511627776; simp only [size_app, size_str, esz, b1l, hLl, i8l, c4l, numl, vecl, flB_len, List.length_append]; omega) | (show _ ≤ 1000000000; simp only [size_app, size_str, esz, b1l, hLl, i8l, c4l, numl, vecl, flB_len, List.length_append]; omega) | (show _ ≤ 900000000; simp only [size_app, size_str, esz, b1l, hLl, i8l, c4l, numl, vecl, flB_len, List.length_append]; omega) | (show _ ≤ 700000000; simp only [size_app, size_str, esz, b1l, hLl, i8l, c4l, numl, vecl, flB_len, List.length_append]; omega))⟩, ?_⟩
  have hs : rwS 1 0 c n g m h = strOfNums (repL 1 0 c n g m h) := rfl
  rw [hs]
  have e1 : ∀ (s : ByteArray) (b : Bool), s = strOfNums (repL 1 0 c n g m h) → b = rBad 1 0 c n m h → SV.agg [.v (.string s), .v (.bool b)] = SV.agg [strS (strOfNums (repL 1 0 c n g m h)), bV (rBad 1 0 c n m h)] := fun s b h1 h2 => by rw [h1, h2]; rfl
  refine e1 _ _ ?_ ?_
  · show emp ++ _ ++ _ ++ _ ++ _ ++ _ = _
    rw [emp_app, str_append, str_append, str_append, str_append]
    congr 1
  · show _ = rpB 0 c (rB1 c n m (fun i => (h i).1) (fun i => (h i).2))
    simp only [Bool.or_false, Bool.false_or, rpB, rB1, hBad, Bool.or_assoc, show notIn 0 14 = false from rfl]
theorem rrw_2 {c : RV} {n cap m cp : Nat} {g h : Nat → Int × Int} (hc : rvOk c) (hn : n < 100) (hg : ∀ i, i < n → I64 (g i).1 ∧ I64 (g i).2) (hm' : m < 200) (hh : ∀ i, i < m → I64 (h i).1 ∧ I64 (h i).2) : vcFn Try.prog ΓRr noΛ Try.f79 [reS 2 0 c (.sl 0 2 0 n cap) (.sl 1 2 0 m cp)] (roHeap [⟨2, n, rowsP g⟩, ⟨2, m, rowsP h⟩]) 64 (fun y _ => y = .agg [strS (rwS 2 0 c n g m h), bV (rBad 2 0 c n m h)]) := by
  obtain ⟨h_id, h_bs, h_bg, h_ver, h_gr, h_htv, h_x0v, h_x1v, h_cnt, hbo⟩ := hc
  refine Eq.mpr (vcRRw2 c n cap m cp g h _) ⟨⟨⟨⟨by omega, by omega⟩, by omega, by omega⟩, Nat.zero_le _⟩, ⟨h_id, by show 1 ≤ 1099511627776; omega⟩, ⟨⟨⟨by omega, by omega⟩, by omega, by omega⟩, (by first | (show _ ≤ 1099511627776; simp only [size_app, size_str, esz, b1l, hLl, i8l, c4l, numl, vecl, flB_len, List.length_append]; omega) | (show _ ≤ 1000000000; simp only [size_app, size_str, esz, b1l, hLl, i8l, c4l, numl, vecl, flB_len, List.length_append]; omega) | (show _ ≤ 900000000; simp only [size_app, size_str, esz, b1l, hLl, i8l, c4l, numl, vecl, flB_len, List.length_append]; omega) | (show _ ≤ 700000000; simp only [size_app, size_str, esz, b1l, hLl, i8l, c4l, numl, vecl, flB_len, List.length_append]; omega))⟩, ⟨⟨h_bs, h_bg⟩, (by first | (show _ ≤ 1099511627776; simp only [size_app, size_str, esz, b1l, hLl, i8l, c4l, numl, vecl, flB_len, List.length_append]; omega) | (show _ ≤ 1000000000; simp only [size_app, size_str, esz, b1l, hLl, i8l, c4l, numl, vecl, flB_len, List.length_append]; omega) | (show _ ≤ 900000000; simp only [size_app, size_str, esz, b1l, hLl, i8l, c4l, numl, vecl, flB_len, List.length_append]; omega) | (show _ ≤ 700000000; simp only [size_app, size_str, esz, b1l, hLl, i8l, c4l, numl, vecl, flB_len, List.length_append]; omega))⟩, ?_⟩
  have hs : rwS 2 0 c n g m h = strOfNums (repL 2 0 c n g m h) := rfl
  rw [hs]
  have e1 : ∀ (s : ByteArray) (b : Bool), s = strOfNums (repL 2 0 c n g m h) → b = rBad 2 0 c n m h → SV.agg [.v (.string s), .v (.bool b)] = SV.agg [strS (strOfNums (repL 2 0 c n g m h)), bV (rBad 2 0 c n m h)] := fun s b h1 h2 => by rw [h1, h2]; rfl
  refine e1 _ _ ?_ ?_
  · show emp ++ _ ++ _ ++ _ ++ _ = _
    rw [emp_app, str_append, str_append, str_append]
    congr 1
  · show _ = rpB 0 c (rB2 c n m (fun i => (h i).1) (fun i => (h i).2))
    simp only [Bool.or_false, Bool.false_or, rpB, rB2, hBad, Bool.or_assoc, show notIn 0 14 = false from rfl]
theorem rrw_3 {c : RV} {n cap m cp : Nat} {g h : Nat → Int × Int} (hc : rvOk c) (hn : n < 100) (hg : ∀ i, i < n → I64 (g i).1 ∧ I64 (g i).2) (hm' : m < 200) (hh : ∀ i, i < m → I64 (h i).1 ∧ I64 (h i).2) : vcFn Try.prog ΓRr noΛ Try.f79 [reS 3 0 c (.sl 0 2 0 n cap) (.sl 1 2 0 m cp)] (roHeap [⟨2, n, rowsP g⟩, ⟨2, m, rowsP h⟩]) 64 (fun y _ => y = .agg [strS (rwS 3 0 c n g m h), bV (rBad 3 0 c n m h)]) := by
  obtain ⟨h_id, h_bs, h_bg, h_ver, h_gr, h_htv, h_x0v, h_x1v, h_cnt, hbo⟩ := hc
  refine Eq.mpr (vcRRw3 c n cap m cp g h _) ⟨⟨⟨⟨by omega, by omega⟩, by omega, by omega⟩, Nat.zero_le _⟩, ⟨h_id, by show 1 ≤ 1099511627776; omega⟩, ⟨⟨⟨by omega, by omega⟩, by omega, by omega⟩, (by first | (show _ ≤ 1099511627776; simp only [size_app, size_str, esz, b1l, hLl, i8l, c4l, numl, vecl, flB_len, List.length_append]; omega) | (show _ ≤ 1000000000; simp only [size_app, size_str, esz, b1l, hLl, i8l, c4l, numl, vecl, flB_len, List.length_append]; omega) | (show _ ≤ 900000000; simp only [size_app, size_str, esz, b1l, hLl, i8l, c4l, numl, vecl, flB_len, List.length_append]; omega) | (show _ ≤ 700000000; simp only [size_app, size_str, esz, b1l, hLl, i8l, c4l, numl, vecl, flB_len, List.length_append]; omega))⟩, ⟨⟨h_bs, h_bg⟩, (by first | (show _ ≤ 1099511627776; simp only [size_app, size_str, esz, b1l, hLl, i8l, c4l, numl, vecl, flB_len, List.length_append]; omega) | (show _ ≤ 1000000000; simp only [size_app, size_str, esz, b1l, hLl, i8l, c4l, numl, vecl, flB_len, List.length_append]; omega) | (show _ ≤ 900000000; simp only [size_app, size_str, esz, b1l, hLl, i8l, c4l, numl, vecl, flB_len, List.length_append]; omega) | (show _ ≤ 700000000; simp only [size_app, size_str, esz, b1l, hLl, i8l, c4l, numl, vecl, flB_len, List.length_append]; omega))⟩, ⟨h_ver, (by first | (show _ ≤ 1099511627776; simp only [size_app, size_str, esz, b1l, hLl, i8l, c4l, numl, vecl, flB_len, List.length_append]; omega) | (show _ ≤ 1000000000; simp only [size_app, size_str, esz, b1l, hLl, i8l, c4l, numl, vecl, flB_len, List.length_append]; omega) | (show _ ≤ 900000000; simp only [size_app, size_str, esz, b1l, hLl, i8l, c4l, numl, vecl, flB_len, List.length_append]; omega) | (show _ ≤ 700000000; simp only [size_app, size_str, esz, b1l, hLl, i8l, c4l, numl, vecl, flB_len, List.length_append]; omega))⟩, ?_⟩
  have hs : rwS 3 0 c n g m h = strOfNums (repL 3 0 c n g m h) := rfl
  rw [hs]
  have e1 : ∀ (s : ByteArray) (b : Bool), s = strOfNums (repL 3 0 c n g m h) → b = rBad 3 0 c n m h → SV.agg [.v (.string s), .v (.bool b)] = SV.agg [strS (strOfNums (repL 3 0 c n g m h)), bV (rBad 3 0 c n m h)] := fun s b h1 h2 => by rw [h1, h2]; rfl
  refine e1 _ _ ?_ ?_
  · show emp ++ _ ++ _ ++ _ ++ _ ++ _ = _
    rw [emp_app, str_append, str_append, str_append, str_append]
    congr 1
  · show _ = rpB 0 c (rB3 c n m (fun i => (h i).1) (fun i => (h i).2))
    simp only [Bool.or_false, Bool.false_or, rpB, rB3, hBad, Bool.or_assoc, show notIn 0 14 = false from rfl]
theorem rrw_4 {c : RV} {n cap m cp : Nat} {g h : Nat → Int × Int} (hc : rvOk c) (hn : n < 100) (hg : ∀ i, i < n → I64 (g i).1 ∧ I64 (g i).2) (hm' : m < 200) (hh : ∀ i, i < m → I64 (h i).1 ∧ I64 (h i).2) : vcFn Try.prog ΓRr noΛ Try.f79 [reS 4 0 c (.sl 0 2 0 n cap) (.sl 1 2 0 m cp)] (roHeap [⟨2, n, rowsP g⟩, ⟨2, m, rowsP h⟩]) 64 (fun y _ => y = .agg [strS (rwS 4 0 c n g m h), bV (rBad 4 0 c n m h)]) := by
  obtain ⟨h_id, h_bs, h_bg, h_ver, h_gr, h_htv, h_x0v, h_x1v, h_cnt, hbo⟩ := hc
  refine Eq.mpr (vcRRw4 c n cap m cp g h _) ⟨⟨⟨⟨by omega, by omega⟩, by omega, by omega⟩, Nat.zero_le _⟩, ⟨h_id, by show 1 ≤ 1099511627776; omega⟩, ⟨⟨⟨by omega, by omega⟩, by omega, by omega⟩, (by first | (show _ ≤ 1099511627776; simp only [size_app, size_str, esz, b1l, hLl, i8l, c4l, numl, vecl, flB_len, List.length_append]; omega) | (show _ ≤ 1000000000; simp only [size_app, size_str, esz, b1l, hLl, i8l, c4l, numl, vecl, flB_len, List.length_append]; omega) | (show _ ≤ 900000000; simp only [size_app, size_str, esz, b1l, hLl, i8l, c4l, numl, vecl, flB_len, List.length_append]; omega) | (show _ ≤ 700000000; simp only [size_app, size_str, esz, b1l, hLl, i8l, c4l, numl, vecl, flB_len, List.length_append]; omega))⟩, ⟨⟨h_bs, h_bg⟩, (by first | (show _ ≤ 1099511627776; simp only [size_app, size_str, esz, b1l, hLl, i8l, c4l, numl, vecl, flB_len, List.length_append]; omega) | (show _ ≤ 1000000000; simp only [size_app, size_str, esz, b1l, hLl, i8l, c4l, numl, vecl, flB_len, List.length_append]; omega) | (show _ ≤ 900000000; simp only [size_app, size_str, esz, b1l, hLl, i8l, c4l, numl, vecl, flB_len, List.length_append]; omega) | (show _ ≤ 700000000; simp only [size_app, size_str, esz, b1l, hLl, i8l, c4l, numl, vecl, flB_len, List.length_append]; omega))⟩, ⟨h_ver, (by first | (show _ ≤ 1099511627776; simp only [size_app, size_str, esz, b1l, hLl, i8l, c4l, numl, vecl, flB_len, List.length_append]; omega) | (show _ ≤ 1000000000; simp only [size_app, size_str, esz, b1l, hLl, i8l, c4l, numl, vecl, flB_len, List.length_append]; omega) | (show _ ≤ 900000000; simp only [size_app, size_str, esz, b1l, hLl, i8l, c4l, numl, vecl, flB_len, List.length_append]; omega) | (show _ ≤ 700000000; simp only [size_app, size_str, esz, b1l, hLl, i8l, c4l, numl, vecl, flB_len, List.length_append]; omega))⟩, ⟨h_gr, (by first | (show _ ≤ 1099511627776; simp only [size_app, size_str, esz, b1l, hLl, i8l, c4l, numl, vecl, flB_len, List.length_append]; omega) | (show _ ≤ 1000000000; simp only [size_app, size_str, esz, b1l, hLl, i8l, c4l, numl, vecl, flB_len, List.length_append]; omega) | (show _ ≤ 900000000; simp only [size_app, size_str, esz, b1l, hLl, i8l, c4l, numl, vecl, flB_len, List.length_append]; omega) | (show _ ≤ 700000000; simp only [size_app, size_str, esz, b1l, hLl, i8l, c4l, numl, vecl, flB_len, List.length_append]; omega))⟩, ?_⟩
  have hs : rwS 4 0 c n g m h = strOfNums (repL 4 0 c n g m h) := rfl
  rw [hs]
  have e1 : ∀ (s : ByteArray) (b : Bool), s = strOfNums (repL 4 0 c n g m h) → b = rBad 4 0 c n m h → SV.agg [.v (.string s), .v (.bool b)] = SV.agg [strS (strOfNums (repL 4 0 c n g m h)), bV (rBad 4 0 c n m h)] := fun s b h1 h2 => by rw [h1, h2]; rfl
  refine e1 _ _ ?_ ?_
  · show emp ++ _ ++ _ ++ _ ++ _ ++ _ ++ _ = _
    rw [emp_app, str_append, str_append, str_append, str_append, str_append]
    congr 1
  · show _ = rpB 0 c (rB4 c n m (fun i => (h i).1) (fun i => (h i).2))
    simp only [Bool.or_false, Bool.false_or, rpB, rB4, hBad, Bool.or_assoc, show notIn 0 14 = false from rfl]
theorem rrw_5 {c : RV} {n cap m cp : Nat} {g h : Nat → Int × Int} (hc : rvOk c) (hn : n < 100) (hg : ∀ i, i < n → I64 (g i).1 ∧ I64 (g i).2) (hm' : m < 200) (hh : ∀ i, i < m → I64 (h i).1 ∧ I64 (h i).2) : vcFn Try.prog ΓRr noΛ Try.f79 [reS 5 0 c (.sl 0 2 0 n cap) (.sl 1 2 0 m cp)] (roHeap [⟨2, n, rowsP g⟩, ⟨2, m, rowsP h⟩]) 64 (fun y _ => y = .agg [strS (rwS 5 0 c n g m h), bV (rBad 5 0 c n m h)]) := by
  obtain ⟨h_id, h_bs, h_bg, h_ver, h_gr, h_htv, h_x0v, h_x1v, h_cnt, hbo⟩ := hc
  refine Eq.mpr (vcRRw5 c n cap m cp g h _) ⟨⟨⟨⟨by omega, by omega⟩, by omega, by omega⟩, Nat.zero_le _⟩, ⟨h_id, by show 1 ≤ 1099511627776; omega⟩, ⟨⟨⟨by omega, by omega⟩, by omega, by omega⟩, (by first | (show _ ≤ 1099511627776; simp only [size_app, size_str, esz, b1l, hLl, i8l, c4l, numl, vecl, flB_len, List.length_append]; omega) | (show _ ≤ 1000000000; simp only [size_app, size_str, esz, b1l, hLl, i8l, c4l, numl, vecl, flB_len, List.length_append]; omega) | (show _ ≤ 900000000; simp only [size_app, size_str, esz, b1l, hLl, i8l, c4l, numl, vecl, flB_len, List.length_append]; omega) | (show _ ≤ 700000000; simp only [size_app, size_str, esz, b1l, hLl, i8l, c4l, numl, vecl, flB_len, List.length_append]; omega))⟩, ⟨h_gr, (by first | (show _ ≤ 1099511627776; simp only [size_app, size_str, esz, b1l, hLl, i8l, c4l, numl, vecl, flB_len, List.length_append]; omega) | (show _ ≤ 1000000000; simp only [size_app, size_str, esz, b1l, hLl, i8l, c4l, numl, vecl, flB_len, List.length_append]; omega) | (show _ ≤ 900000000; simp only [size_app, size_str, esz, b1l, hLl, i8l, c4l, numl, vecl, flB_len, List.length_append]; omega) | (show _ ≤ 700000000; simp only [size_app, size_str, esz, b1l, hLl, i8l, c4l, numl, vecl, flB_len, List.length_append]; omega))⟩, ?_⟩
  have hs : rwS 5 0 c n g m h = strOfNums (repL 5 0 c n g m h) := rfl
  rw [hs]
  have e1 : ∀ (s : ByteArray) (b : Bool), s = strOfNums (repL 5 0 c n g m h) → b = rBad 5 0 c n m h → SV.agg [.v (.string s), .v (.bool b)] = SV.agg [strS (strOfNums (repL 5 0 c n g m h)), bV (rBad 5 0 c n m h)] := fun s b h1 h2 => by rw [h1, h2]; rfl
  refine e1 _ _ ?_ ?_
  · show emp ++ _ ++ _ ++ _ ++ _ = _
    rw [emp_app, str_append, str_append, str_append]
    congr 1
  · show _ = rpB 0 c (rB5 c n m (fun i => (h i).1) (fun i => (h i).2))
    simp only [Bool.or_false, Bool.false_or, rpB, rB5, hBad, Bool.or_assoc, show notIn 0 14 = false from rfl]
theorem rrw_6 {c : RV} {n cap m cp : Nat} {g h : Nat → Int × Int} (hc : rvOk c) (hn : n < 100) (hg : ∀ i, i < n → I64 (g i).1 ∧ I64 (g i).2) (hm' : m < 200) (hh : ∀ i, i < m → I64 (h i).1 ∧ I64 (h i).2) : vcFn Try.prog ΓRr noΛ Try.f79 [reS 6 0 c (.sl 0 2 0 n cap) (.sl 1 2 0 m cp)] (roHeap [⟨2, n, rowsP g⟩, ⟨2, m, rowsP h⟩]) 64 (fun y _ => y = .agg [strS (rwS 6 0 c n g m h), bV (rBad 6 0 c n m h)]) := by
  obtain ⟨h_id, h_bs, h_bg, h_ver, h_gr, h_htv, h_x0v, h_x1v, h_cnt, hbo⟩ := hc
  refine Eq.mpr (vcRRw6 c n cap m cp g h _) ⟨⟨⟨⟨by omega, by omega⟩, by omega, by omega⟩, Nat.zero_le _⟩, ⟨h_id, by show 1 ≤ 1099511627776; omega⟩, ⟨⟨⟨by omega, by omega⟩, by omega, by omega⟩, (by first | (show _ ≤ 1099511627776; simp only [size_app, size_str, esz, b1l, hLl, i8l, c4l, numl, vecl, flB_len, List.length_append]; omega) | (show _ ≤ 1000000000; simp only [size_app, size_str, esz, b1l, hLl, i8l, c4l, numl, vecl, flB_len, List.length_append]; omega) | (show _ ≤ 900000000; simp only [size_app, size_str, esz, b1l, hLl, i8l, c4l, numl, vecl, flB_len, List.length_append]; omega) | (show _ ≤ 700000000; simp only [size_app, size_str, esz, b1l, hLl, i8l, c4l, numl, vecl, flB_len, List.length_append]; omega))⟩, ⟨h_gr, (by first | (show _ ≤ 1099511627776; simp only [size_app, size_str, esz, b1l, hLl, i8l, c4l, numl, vecl, flB_len, List.length_append]; omega) | (show _ ≤ 1000000000; simp only [size_app, size_str, esz, b1l, hLl, i8l, c4l, numl, vecl, flB_len, List.length_append]; omega) | (show _ ≤ 900000000; simp only [size_app, size_str, esz, b1l, hLl, i8l, c4l, numl, vecl, flB_len, List.length_append]; omega) | (show _ ≤ 700000000; simp only [size_app, size_str, esz, b1l, hLl, i8l, c4l, numl, vecl, flB_len, List.length_append]; omega))⟩, ?_⟩
  have hs : rwS 6 0 c n g m h = strOfNums (repL 6 0 c n g m h) := rfl
  rw [hs]
  have e1 : ∀ (s : ByteArray) (b : Bool), s = strOfNums (repL 6 0 c n g m h) → b = rBad 6 0 c n m h → SV.agg [.v (.string s), .v (.bool b)] = SV.agg [strS (strOfNums (repL 6 0 c n g m h)), bV (rBad 6 0 c n m h)] := fun s b h1 h2 => by rw [h1, h2]; rfl
  refine e1 _ _ ?_ ?_
  · show emp ++ _ ++ _ ++ _ ++ _ = _
    rw [emp_app, str_append, str_append, str_append]
    congr 1
  · show _ = rpB 0 c (rB6 c n m (fun i => (h i).1) (fun i => (h i).2))
    simp only [Bool.or_false, Bool.false_or, rpB, rB6, hBad, Bool.or_assoc, show notIn 0 14 = false from rfl]
theorem rrw_7 {c : RV} {n cap m cp : Nat} {g h : Nat → Int × Int} (hc : rvOk c) (hn : n < 100) (hg : ∀ i, i < n → I64 (g i).1 ∧ I64 (g i).2) (hm' : m < 200) (hh : ∀ i, i < m → I64 (h i).1 ∧ I64 (h i).2) : vcFn Try.prog ΓRr noΛ Try.f79 [reS 7 0 c (.sl 0 2 0 n cap) (.sl 1 2 0 m cp)] (roHeap [⟨2, n, rowsP g⟩, ⟨2, m, rowsP h⟩]) 64 (fun y _ => y = .agg [strS (rwS 7 0 c n g m h), bV (rBad 7 0 c n m h)]) := by
  obtain ⟨h_id, h_bs, h_bg, h_ver, h_gr, h_htv, h_x0v, h_x1v, h_cnt, hbo⟩ := hc
  have hn4 : n < 1099511627776 := by omega
  refine Eq.mpr (vcRRw7 c n cap m cp g h _) ⟨⟨⟨⟨by omega, by omega⟩, by omega, by omega⟩, Nat.zero_le _⟩, ⟨h_id, by show 1 ≤ 1099511627776; omega⟩, ⟨⟨⟨by omega, by omega⟩, by omega, by omega⟩, (by first | (show _ ≤ 1099511627776; simp only [size_app, size_str, esz, b1l, hLl, i8l, c4l, numl, vecl, flB_len, List.length_append]; omega) | (show _ ≤ 1000000000; simp only [size_app, size_str, esz, b1l, hLl, i8l, c4l, numl, vecl, flB_len, List.length_append]; omega) | (show _ ≤ 900000000; simp only [size_app, size_str, esz, b1l, hLl, i8l, c4l, numl, vecl, flB_len, List.length_append]; omega) | (show _ ≤ 700000000; simp only [size_app, size_str, esz, b1l, hLl, i8l, c4l, numl, vecl, flB_len, List.length_append]; omega))⟩, ⟨⟨h_bs, h_bg⟩, (by first | (show _ ≤ 1099511627776; simp only [size_app, size_str, esz, b1l, hLl, i8l, c4l, numl, vecl, flB_len, List.length_append]; omega) | (show _ ≤ 1000000000; simp only [size_app, size_str, esz, b1l, hLl, i8l, c4l, numl, vecl, flB_len, List.length_append]; omega) | (show _ ≤ 900000000; simp only [size_app, size_str, esz, b1l, hLl, i8l, c4l, numl, vecl, flB_len, List.length_append]; omega) | (show _ ≤ 700000000; simp only [size_app, size_str, esz, b1l, hLl, i8l, c4l, numl, vecl, flB_len, List.length_append]; omega))⟩, ⟨⟨hbo, win_sp hn4 hg, hn⟩, (by first | (show _ ≤ 1099511627776; simp only [size_app, size_str, esz, b1l, hLl, i8l, c4l, numl, vecl, flB_len, List.length_append]; omega) | (show _ ≤ 1000000000; simp only [size_app, size_str, esz, b1l, hLl, i8l, c4l, numl, vecl, flB_len, List.length_append]; omega) | (show _ ≤ 900000000; simp only [size_app, size_str, esz, b1l, hLl, i8l, c4l, numl, vecl, flB_len, List.length_append]; omega) | (show _ ≤ 700000000; simp only [size_app, size_str, esz, b1l, hLl, i8l, c4l, numl, vecl, flB_len, List.length_append]; omega))⟩, ?_⟩
  rw [win_gX g, win_gY g]
  have e1 : ∀ (b b' : Bool) (s : ByteArray → Bool → ByteArray) (z : ByteArray) (d d' : Bool), b = b' → d = d' → SV.agg [.v (.string (s z b)), .v (.bool d)] = SV.agg [strS (s z b'), bV d'] := fun b b' s z d d' h1 h2 => by rw [h1, h2]; rfl
  refine e1 _ _ (fun z b => rBoS z b c.o n (fun i => (g i).1) fun i => (g i).2) _ _ _ ?_ ?_
  · show (false || notIn c.id 2147483647 || false || hBad c.bs c.bg) = _
    simp only [Bool.or_false, Bool.false_or]
  · show _ = rpB 0 c (rB7 c n m (fun i => (h i).1) (fun i => (h i).2))
    simp only [Bool.or_false, Bool.false_or, rpB, rB7, hBad, Bool.or_assoc, show notIn 0 14 = false from rfl]
theorem rrw_8 {c : RV} {n cap m cp : Nat} {g h : Nat → Int × Int} (hc : rvOk c) (hn : n < 100) (hg : ∀ i, i < n → I64 (g i).1 ∧ I64 (g i).2) (hm' : m < 200) (hh : ∀ i, i < m → I64 (h i).1 ∧ I64 (h i).2) : vcFn Try.prog ΓRr (ΛRr8 (emp ++ strOfNums (be 8 1) ++ strOfNums (c4 c.id) ++ strOfNums (be 0 1) ++ strOfNums (be ((m : Int) % 18446744073709551616) 1)) (notIn c.id 2147483647 || notIn (m : Int) 64) m (fun i => (h i).1) (fun i => (h i).2)) Try.f79 [reS 8 0 c (.sl 0 2 0 n cap) (.sl 1 2 0 m cp)] (roHeap [⟨2, n, rowsP g⟩, ⟨2, m, rowsP h⟩]) 64 (fun y _ => y = .agg [strS (rwS 8 0 c n g m h), bV (rBad 8 0 c n m h)]) := by
  obtain ⟨h_id, h_bs, h_bg, h_ver, h_gr, h_htv, h_x0v, h_x1v, h_cnt, hbo⟩ := hc
  refine Eq.mpr (vcRRw8 c n cap m cp g h _) ⟨⟨⟨⟨by omega, by omega⟩, by omega, by omega⟩, Nat.zero_le _⟩, ⟨h_id, by show 1 ≤ 1099511627776; omega⟩, ⟨⟨⟨by omega, by omega⟩, by omega, by omega⟩, (by first | (show _ ≤ 1099511627776; simp only [size_app, size_str, esz, b1l, hLl, i8l, c4l, numl, vecl, flB_len, List.length_append]; omega) | (show _ ≤ 1000000000; simp only [size_app, size_str, esz, b1l, hLl, i8l, c4l, numl, vecl, flB_len, List.length_append]; omega) | (show _ ≤ 900000000; simp only [size_app, size_str, esz, b1l, hLl, i8l, c4l, numl, vecl, flB_len, List.length_append]; omega) | (show _ ≤ 700000000; simp only [size_app, size_str, esz, b1l, hLl, i8l, c4l, numl, vecl, flB_len, List.length_append]; omega))⟩, ⟨⟨⟨by omega, by omega⟩, by omega, by omega⟩, (by first | (show _ ≤ 1099511627776; simp only [size_app, size_str, esz, b1l, hLl, i8l, c4l, numl, vecl, flB_len, List.length_append]; omega) | (show _ ≤ 1000000000; simp only [size_app, size_str, esz, b1l, hLl, i8l, c4l, numl, vecl, flB_len, List.length_append]; omega) | (show _ ≤ 900000000; simp only [size_app, size_str, esz, b1l, hLl, i8l, c4l, numl, vecl, flB_len, List.length_append]; omega) | (show _ ≤ 700000000; simp only [size_app, size_str, esz, b1l, hLl, i8l, c4l, numl, vecl, flB_len, List.length_append]; omega))⟩, ⟨0, ⟨Nat.zero_le _, .inl rfl⟩, rfl, rfl, Nat.le_refl _, fun i _ => ?_⟩, fun x ⟨hx, hd⟩ => ?_⟩
  · show _ = [SV.v (.string (_ ++ strOfNums [])), SV.v (.bool (_ || false))]
    rw [str_nil, app_emp, Bool.or_false, Bool.false_or, Bool.or_false]
    rfl
  rw [base8]
  have hd' : ∀ B : Bool, (notIn c.id 2147483647 || notIn (m : Int) 64) = B → (x = m ∨ (B || anyH (fun i => (h i).1) (fun i => (h i).2) x) = true) → (bif B then 0 else stp (fun i => (h i).1) (fun i => (h i).2) m) = x ∧ (B || anyH (fun i => (h i).1) (fun i => (h i).2) x) = (B || anyH (fun i => (h i).1) (fun i => (h i).2) m) := fun B hB he => by
    rw [hB] at hd
    cases B with
    | true =>
      rcases hd with hd | hd
      · exact ⟨hd.symm, rfl⟩
      · cases hd
    | false =>
      rw [Bool.false_or] at hd he
      refine ⟨stp_exit hx hd he, ?_⟩
      rcases he with he | he
      · rw [he]
      · rw [he, anyH_mono he hx]
  have fin : (x = m ∨ (notIn c.id 2147483647 || notIn (m : Int) 64 || anyH (fun i => (h i).1) (fun i => (h i).2) x) = true) → SV.agg [SV.v (.string (strOfNums ([8] ++ (c4 c.id ++ ([0] ++ [(m : Int) % 256]))) ++ strOfNums (hsL (fun i => (h i).1) (fun i => (h i).2) x))), SV.v (.bool (notIn c.id 2147483647 || notIn (m : Int) 64 || anyH (fun i => (h i).1) (fun i => (h i).2) x))] = SV.agg [strS (rwS 8 0 c n g m h), bV (rBad 8 0 c n m h)] := fun he => by
    obtain ⟨f1, f2⟩ := hd' _ rfl he
    rw [f2]
    have hw : rwS 8 0 c n g m h = r8S c m (fun i => (h i).1) (fun i => (h i).2) := rfl
    have hr : rBad 8 0 c n m h = (notIn c.id 2147483647 || notIn (m : Int) 64 || anyH (fun i => (h i).1) (fun i => (h i).2) m) := by
      show rpB 0 c (rB8 c n m (fun i => (h i).1) (fun i => (h i).2)) = _
      simp only [rpB, rB8, Bool.or_assoc, Bool.false_or, show notIn 0 14 = false from rfl]
    rw [hw, hr]
    unfold r8S
    rw [f1]
    rfl
  refine sel_of (fun hlt => sel_of (fun hb => ?_) fun hb => ?_) fun hge => ?_
  · have hlt := of_decide_eq_true hlt
    have hlt : x < m := by omega
    have hb : (notIn c.id 2147483647 || notIn (m : Int) 64 || anyH (fun i => (h i).1) (fun i => (h i).2) x) = false := by simpa using hb
    rw [show 0 + Int.toNat (x : Int) = x by omega]
    refine ⟨⟨by omega, by omega⟩, ⟨hh x hlt, ?_⟩, x + 1, ⟨⟨hlt, .inr hb⟩, int_mk (wrap_i64 ⟨by omega, by omega⟩), rfl, Nat.le_refl _, fun i _ => ?_⟩, by omega⟩
    · show _ ≤ 1000000000
      simp only [size_app, size_str, c4l, hsL_len, List.length_append, List.length_cons, List.length_nil]
      omega
    · rw [str_app2]
      show [SV.v (.string (_ ++ strOfNums (hsL (fun i => (h i).1) (fun i => (h i).2) x ++ hL (h x).1 (h x).2))), SV.v (.bool (_ || hBad (h x).1 (h x).2))] = [SV.v (.string (_ ++ strOfNums (hsL (fun i => (h i).1) (fun i => (h i).2) x ++ hL (h x).1 (h x).2))), SV.v (.bool (_ || (anyH (fun i => (h i).1) (fun i => (h i).2) x || hBad (h x).1 (h x).2)))]
      rw [Bool.or_assoc]
  · exact fin (.inr (not_f hb))
  · have hge := of_decide_eq_false hge
    exact fin (.inl (by omega))
theorem rrw_9 {c : RV} {n cap m cp : Nat} {g h : Nat → Int × Int} (hc : rvOk c) (hn : n < 100) (hg : ∀ i, i < n → I64 (g i).1 ∧ I64 (g i).2) (hm' : m < 200) (hh : ∀ i, i < m → I64 (h i).1 ∧ I64 (h i).2) : vcFn Try.prog ΓRr noΛ Try.f79 [reS 9 0 c (.sl 0 2 0 n cap) (.sl 1 2 0 m cp)] (roHeap [⟨2, n, rowsP g⟩, ⟨2, m, rowsP h⟩]) 64 (fun y _ => y = .agg [strS (rwS 9 0 c n g m h), bV (rBad 9 0 c n m h)]) := by
  obtain ⟨h_id, h_bs, h_bg, h_ver, h_gr, h_htv, h_x0v, h_x1v, h_cnt, hbo⟩ := hc
  refine Eq.mpr (vcRRw9 c n cap m cp g h _) ⟨⟨⟨⟨by omega, by omega⟩, by omega, by omega⟩, Nat.zero_le _⟩, ⟨h_id, by show 1 ≤ 1099511627776; omega⟩, ⟨⟨⟨by omega, by omega⟩, by omega, by omega⟩, (by first | (show _ ≤ 1099511627776; simp only [size_app, size_str, esz, b1l, hLl, i8l, c4l, numl, vecl, flB_len, List.length_append]; omega) | (show _ ≤ 1000000000; simp only [size_app, size_str, esz, b1l, hLl, i8l, c4l, numl, vecl, flB_len, List.length_append]; omega) | (show _ ≤ 900000000; simp only [size_app, size_str, esz, b1l, hLl, i8l, c4l, numl, vecl, flB_len, List.length_append]; omega) | (show _ ≤ 700000000; simp only [size_app, size_str, esz, b1l, hLl, i8l, c4l, numl, vecl, flB_len, List.length_append]; omega))⟩, ⟨⟨h_bs, h_bg⟩, (by first | (show _ ≤ 1099511627776; simp only [size_app, size_str, esz, b1l, hLl, i8l, c4l, numl, vecl, flB_len, List.length_append]; omega) | (show _ ≤ 1000000000; simp only [size_app, size_str, esz, b1l, hLl, i8l, c4l, numl, vecl, flB_len, List.length_append]; omega) | (show _ ≤ 900000000; simp only [size_app, size_str, esz, b1l, hLl, i8l, c4l, numl, vecl, flB_len, List.length_append]; omega) | (show _ ≤ 700000000; simp only [size_app, size_str, esz, b1l, hLl, i8l, c4l, numl, vecl, flB_len, List.length_append]; omega))⟩, ⟨trivial, (by first | (show _ ≤ 1099511627776; simp only [size_app, size_str, esz, b1l, hLl, i8l, c4l, numl, vecl, flB_len, List.length_append]; omega) | (show _ ≤ 1000000000; simp only [size_app, size_str, esz, b1l, hLl, i8l, c4l, numl, vecl, flB_len, List.length_append]; omega) | (show _ ≤ 900000000; simp only [size_app, size_str, esz, b1l, hLl, i8l, c4l, numl, vecl, flB_len, List.length_append]; omega) | (show _ ≤ 700000000; simp only [size_app, size_str, esz, b1l, hLl, i8l, c4l, numl, vecl, flB_len, List.length_append]; omega))⟩, ⟨h_htv, (by first | (show _ ≤ 1099511627776; simp only [size_app, size_str, esz, b1l, hLl, i8l, c4l, numl, vecl, flB_len, List.length_append]; omega) | (show _ ≤ 1000000000; simp only [size_app, size_str, esz, b1l, hLl, i8l, c4l, numl, vecl, flB_len, List.length_append]; omega) | (show _ ≤ 900000000; simp only [size_app, size_str, esz, b1l, hLl, i8l, c4l, numl, vecl, flB_len, List.length_append]; omega) | (show _ ≤ 700000000; simp only [size_app, size_str, esz, b1l, hLl, i8l, c4l, numl, vecl, flB_len, List.length_append]; omega))⟩, ⟨⟨h_x0v, h_x1v⟩, (by first | (show _ ≤ 1099511627776; simp only [size_app, size_str, esz, b1l, hLl, i8l, c4l, numl, vecl, flB_len, List.length_append]; omega) | (show _ ≤ 1000000000; simp only [size_app, size_str, esz, b1l, hLl, i8l, c4l, numl, vecl, flB_len, List.length_append]; omega) | (show _ ≤ 900000000; simp only [size_app, size_str, esz, b1l, hLl, i8l, c4l, numl, vecl, flB_len, List.length_append]; omega) | (show _ ≤ 700000000; simp only [size_app, size_str, esz, b1l, hLl, i8l, c4l, numl, vecl, flB_len, List.length_append]; omega))⟩, ?_⟩
  have hs : rwS 9 0 c n g m h = strOfNums (repL 9 0 c n g m h) := rfl
  rw [hs]
  have e1 : ∀ (s : ByteArray) (b : Bool), s = strOfNums (repL 9 0 c n g m h) → b = rBad 9 0 c n m h → SV.agg [.v (.string s), .v (.bool b)] = SV.agg [strS (strOfNums (repL 9 0 c n g m h)), bV (rBad 9 0 c n m h)] := fun s b h1 h2 => by rw [h1, h2]; rfl
  refine e1 _ _ ?_ ?_
  · show emp ++ _ ++ _ ++ _ ++ _ ++ _ ++ _ ++ _ = _
    rw [emp_app, str_append, str_append, str_append, str_append, str_append, str_append]
    congr 1
  · show _ = rpB 0 c (rB9 c n m (fun i => (h i).1) (fun i => (h i).2))
    simp only [Bool.or_false, Bool.false_or, rpB, rB9, hBad, Bool.or_assoc, show notIn 0 14 = false from rfl]
theorem rrw_10 {c : RV} {n cap m cp : Nat} {g h : Nat → Int × Int} (hc : rvOk c) (hn : n < 100) (hg : ∀ i, i < n → I64 (g i).1 ∧ I64 (g i).2) (hm' : m < 200) (hh : ∀ i, i < m → I64 (h i).1 ∧ I64 (h i).2) : vcFn Try.prog ΓRr noΛ Try.f79 [reS 10 0 c (.sl 0 2 0 n cap) (.sl 1 2 0 m cp)] (roHeap [⟨2, n, rowsP g⟩, ⟨2, m, rowsP h⟩]) 64 (fun y _ => y = .agg [strS (rwS 10 0 c n g m h), bV (rBad 10 0 c n m h)]) := by
  obtain ⟨h_id, h_bs, h_bg, h_ver, h_gr, h_htv, h_x0v, h_x1v, h_cnt, hbo⟩ := hc
  refine Eq.mpr (vcRRw10 c n cap m cp g h _) ⟨⟨⟨⟨by omega, by omega⟩, by omega, by omega⟩, Nat.zero_le _⟩, ⟨h_id, by show 1 ≤ 1099511627776; omega⟩, ⟨⟨⟨by omega, by omega⟩, by omega, by omega⟩, (by first | (show _ ≤ 1099511627776; simp only [size_app, size_str, esz, b1l, hLl, i8l, c4l, numl, vecl, flB_len, List.length_append]; omega) | (show _ ≤ 1000000000; simp only [size_app, size_str, esz, b1l, hLl, i8l, c4l, numl, vecl, flB_len, List.length_append]; omega) | (show _ ≤ 900000000; simp only [size_app, size_str, esz, b1l, hLl, i8l, c4l, numl, vecl, flB_len, List.length_append]; omega) | (show _ ≤ 700000000; simp only [size_app, size_str, esz, b1l, hLl, i8l, c4l, numl, vecl, flB_len, List.length_append]; omega))⟩, ⟨h_cnt, (by first | (show _ ≤ 1099511627776; simp only [size_app, size_str, esz, b1l, hLl, i8l, c4l, numl, vecl, flB_len, List.length_append]; omega) | (show _ ≤ 1000000000; simp only [size_app, size_str, esz, b1l, hLl, i8l, c4l, numl, vecl, flB_len, List.length_append]; omega) | (show _ ≤ 900000000; simp only [size_app, size_str, esz, b1l, hLl, i8l, c4l, numl, vecl, flB_len, List.length_append]; omega) | (show _ ≤ 700000000; simp only [size_app, size_str, esz, b1l, hLl, i8l, c4l, numl, vecl, flB_len, List.length_append]; omega))⟩, ?_⟩
  have hs : rwS 10 0 c n g m h = strOfNums (repL 10 0 c n g m h) := rfl
  rw [hs]
  have e1 : ∀ (s : ByteArray) (b : Bool), s = strOfNums (repL 10 0 c n g m h) → b = rBad 10 0 c n m h → SV.agg [.v (.string s), .v (.bool b)] = SV.agg [strS (strOfNums (repL 10 0 c n g m h)), bV (rBad 10 0 c n m h)] := fun s b h1 h2 => by rw [h1, h2]; rfl
  refine e1 _ _ ?_ ?_
  · show emp ++ _ ++ _ ++ _ ++ _ = _
    rw [emp_app, str_append, str_append, str_append]
    congr 1
  · show _ = rpB 0 c (rB10 c n m (fun i => (h i).1) (fun i => (h i).2))
    simp only [Bool.or_false, Bool.false_or, rpB, rB10, hBad, Bool.or_assoc, show notIn 0 14 = false from rfl]
theorem rrw_P {k : Int} {a : Nat} {c : RV} {n cap m cp : Nat} {g h : Nat → Int × Int} (hc : rvOk c) (hn : n < 100) (hg : ∀ i, i < n → I64 (g i).1 ∧ I64 (g i).2) (hm' : m < 200) (hh : ∀ i, i < m → I64 (h i).1 ∧ I64 (h i).2) (hk : 0 ≤ k ∧ k ≤ 10) (he : I64 (Int.ofNat (a + 1))) : vcFn Try.prog ΓRr noΛ Try.f79 [reS k (Int.ofNat (a + 1)) c (.sl 0 2 0 n cap) (.sl 1 2 0 m cp)] (roHeap [⟨2, n, rowsP g⟩, ⟨2, m, rowsP h⟩]) 64 (fun y _ => y = .agg [strS (rwS k (Int.ofNat (a + 1)) c n g m h), bV (rBad k (Int.ofNat (a + 1)) c n m h)]) := by
  obtain ⟨h_id, h_bs, h_bg, h_ver, h_gr, h_htv, h_x0v, h_x1v, h_cnt, hbo⟩ := hc
  have hs : rwS k (Int.ofNat (a + 1)) c n g m h = strOfNums (rpL k (Int.ofNat (a + 1)) c (bif (Int.ofNat (a + 1)) == 14 then i8 c.ver else [])) := by
    unfold rwS repL rTK
    rw [e_P a]
    rfl
  have hr : rBad k (Int.ofNat (a + 1)) c n m h = rpB (Int.ofNat (a + 1)) c (bif (Int.ofNat (a + 1)) == 14 then notIn c.ver 1099511627776 else false) := by
    unfold rBad rBK
    rw [e_P a]
    rfl
  have hk2 : notIn k 255 = false := by
    unfold notIn
    rw [decide_eq_true (show 0 ≤ k by omega), decide_eq_true (show k ≤ 255 by omega)]
    rfl
  rw [hs, hr]
  refine Eq.mpr (vcRRwP k a c n cap m cp g h _) ⟨⟨⟨⟨by omega, by omega⟩, by omega, by omega⟩, Nat.zero_le _⟩, ⟨h_id, (by first | (show _ ≤ 1099511627776; simp only [size_app, size_str, esz, b1l, hLl, i8l, c4l, numl, vecl, flB_len, List.length_append]; omega) | (show _ ≤ 1000000000; simp only [size_app, size_str, esz, b1l, hLl, i8l, c4l, numl, vecl, flB_len, List.length_append]; omega) | (show _ ≤ 900000000; simp only [size_app, size_str, esz, b1l, hLl, i8l, c4l, numl, vecl, flB_len, List.length_append]; omega) | (show _ ≤ 700000000; simp only [size_app, size_str, esz, b1l, hLl, i8l, c4l, numl, vecl, flB_len, List.length_append]; omega))⟩, ⟨⟨he, by omega, by omega⟩, (by first | (show _ ≤ 1099511627776; simp only [size_app, size_str, esz, b1l, hLl, i8l, c4l, numl, vecl, flB_len, List.length_append]; omega) | (show _ ≤ 1000000000; simp only [size_app, size_str, esz, b1l, hLl, i8l, c4l, numl, vecl, flB_len, List.length_append]; omega) | (show _ ≤ 900000000; simp only [size_app, size_str, esz, b1l, hLl, i8l, c4l, numl, vecl, flB_len, List.length_append]; omega) | (show _ ≤ 700000000; simp only [size_app, size_str, esz, b1l, hLl, i8l, c4l, numl, vecl, flB_len, List.length_append]; omega))⟩, sel_of (fun e => ⟨⟨h_ver, (by first | (show _ ≤ 1099511627776; simp only [size_app, size_str, esz, b1l, hLl, i8l, c4l, numl, vecl, flB_len, List.length_append]; omega) | (show _ ≤ 1000000000; simp only [size_app, size_str, esz, b1l, hLl, i8l, c4l, numl, vecl, flB_len, List.length_append]; omega) | (show _ ≤ 900000000; simp only [size_app, size_str, esz, b1l, hLl, i8l, c4l, numl, vecl, flB_len, List.length_append]; omega) | (show _ ≤ 700000000; simp only [size_app, size_str, esz, b1l, hLl, i8l, c4l, numl, vecl, flB_len, List.length_append]; omega))⟩, ?_⟩) fun e => ?_⟩
  · rw [e, be_one, be_one, hk2]
    show SV.agg [SV.v (.string (emp ++ _ ++ _ ++ _ ++ _)), _] = _
    rw [emp_app, str_append, str_append, str_append]
    simp only [Bool.or_false, Bool.false_or, rpB, Bool.or_assoc, cond_true]
    rfl
  · rw [e, be_one, be_one, hk2]
    show SV.agg [SV.v (.string (emp ++ _ ++ _ ++ _)), _] = _
    rw [emp_app, str_append, str_append]
    simp only [Bool.or_false, Bool.false_or, rpB, Bool.or_assoc, cond_false]
    rfl
theorem rrw_M {k : Int} {a : Nat} {c : RV} {n cap m cp : Nat} {g h : Nat → Int × Int} (hc : rvOk c) (hn : n < 100) (hg : ∀ i, i < n → I64 (g i).1 ∧ I64 (g i).2) (hm' : m < 200) (hh : ∀ i, i < m → I64 (h i).1 ∧ I64 (h i).2) (hk : 0 ≤ k ∧ k ≤ 10) (he : I64 (Int.negSucc a)) : vcFn Try.prog ΓRr noΛ Try.f79 [reS k (Int.negSucc a) c (.sl 0 2 0 n cap) (.sl 1 2 0 m cp)] (roHeap [⟨2, n, rowsP g⟩, ⟨2, m, rowsP h⟩]) 64 (fun y _ => y = .agg [strS (rwS k (Int.negSucc a) c n g m h), bV (rBad k (Int.negSucc a) c n m h)]) := by
  obtain ⟨h_id, h_bs, h_bg, h_ver, h_gr, h_htv, h_x0v, h_x1v, h_cnt, hbo⟩ := hc
  have hs : rwS k (Int.negSucc a) c n g m h = strOfNums (rpL k (Int.negSucc a) c (bif (Int.negSucc a) == 14 then i8 c.ver else [])) := by
    unfold rwS repL rTK
    rw [e_M a]
    rfl
  have hr : rBad k (Int.negSucc a) c n m h = rpB (Int.negSucc a) c (bif (Int.negSucc a) == 14 then notIn c.ver 1099511627776 else false) := by
    unfold rBad rBK
    rw [e_M a]
    rfl
  have hk2 : notIn k 255 = false := by
    unfold notIn
    rw [decide_eq_true (show 0 ≤ k by omega), decide_eq_true (show k ≤ 255 by omega)]
    rfl
  rw [hs, hr]
  rw [e_M14 a]
  refine Eq.mpr (vcRRwM k a c n cap m cp g h _) ⟨⟨⟨⟨by omega, by omega⟩, by omega, by omega⟩, Nat.zero_le _⟩, ⟨h_id, (by first | (show _ ≤ 1099511627776; simp only [size_app, size_str, esz, b1l, hLl, i8l, c4l, numl, vecl, flB_len, List.length_append]; omega) | (show _ ≤ 1000000000; simp only [size_app, size_str, esz, b1l, hLl, i8l, c4l, numl, vecl, flB_len, List.length_append]; omega) | (show _ ≤ 900000000; simp only [size_app, size_str, esz, b1l, hLl, i8l, c4l, numl, vecl, flB_len, List.length_append]; omega) | (show _ ≤ 700000000; simp only [size_app, size_str, esz, b1l, hLl, i8l, c4l, numl, vecl, flB_len, List.length_append]; omega))⟩, ⟨⟨he, by omega, by omega⟩, (by first | (show _ ≤ 1099511627776; simp only [size_app, size_str, esz, b1l, hLl, i8l, c4l, numl, vecl, flB_len, List.length_append]; omega) | (show _ ≤ 1000000000; simp only [size_app, size_str, esz, b1l, hLl, i8l, c4l, numl, vecl, flB_len, List.length_append]; omega) | (show _ ≤ 900000000; simp only [size_app, size_str, esz, b1l, hLl, i8l, c4l, numl, vecl, flB_len, List.length_append]; omega) | (show _ ≤ 700000000; simp only [size_app, size_str, esz, b1l, hLl, i8l, c4l, numl, vecl, flB_len, List.length_append]; omega))⟩, ?_⟩
  rw [be_one, be_one, hk2]
  show SV.agg [SV.v (.string (emp ++ _ ++ _ ++ _)), _] = _
  rw [emp_app, str_append, str_append]
  simp only [Bool.or_false, Bool.false_or, rpB, Bool.or_assoc, cond_false]
  rfl
theorem RRw_spec : RoSpec Try.prog 79 sRRw := ro_spec hm ΓRr_ok Try.func79 (Λ := fun args bs => match args, bs with
    | [.agg l], [_, ⟨2, _, r2⟩] => match cellsOfR l with
      | some (k, e, c, _, .sl _ _ _ m _) => bif e == 0 && k == 8 then ΛRr8 (emp ++ strOfNums (be 8 1) ++ strOfNums (c4 c.id) ++ strOfNums (be 0 1) ++ strOfNums (be ((m : Int) % 18446744073709551616) 1)) (notIn c.id 2147483647 || notIn (m : Int) 64) m (fun i => (gi (r2 i)).1) (fun i => (gi (r2 i)).2) else noΛ
      | _ => noΛ
    | _, _ => noΛ) fun args bs p x hs hp => by
  unfold sRRw at hs
  split at hs <;> try (cases hs; done)
  rename_i l n' r1 m' r2
  split at hs <;> try (cases hs; done)
  rename_i k e c n cap m cp hl
  have hs := Option.some.inj hs
  obtain ⟨rfl, rfl⟩ := Prod.mk.inj hs
  obtain ⟨⟨⟨⟨o1, e1, l1⟩, o2, e2, l2⟩, ⟨hc, ik, ie⟩, hn, hm'⟩, hk, hk1⟩ := hp _ rfl
  subst e1 e2
  have o1 := okAll_rows.1 o1
  have o2 := okAll_rows.1 o2
  refine ⟨rfl, [⟨2, _, rowsP fun i => gi (r1 i)⟩, ⟨2, _, rowsP fun i => gi (r2 i)⟩], ⟨⟨rfl, rfl, fun i hi => (isPI_row (o1 i hi)).1⟩, ⟨rfl, rfl, fun i hi => (isPI_row (o2 i hi)).1⟩, trivial⟩, ?_⟩
  have hg := fun i hi => (isPI_row (o1 i hi)).2
  have hh := fun i hi => (isPI_row (o2 i hi)).2
  simp only [hl]
  rw [reps_eq hl]
  cases e with
  | ofNat e =>
    cases e with
    | zero =>
      have hk1 := hk1 rfl
      have hk' : k = 1 ∨ k = 2 ∨ k = 3 ∨ k = 4 ∨ k = 5 ∨ k = 6 ∨ k = 7 ∨ k = 8 ∨ k = 9 ∨ k = 10 := by omega
      rcases hk' with x | x | x | x | x | x | x | x | x | x <;> subst x
      · exact rrw_1 hc hn hg hm' hh
      · exact rrw_2 hc hn hg hm' hh
      · exact rrw_3 hc hn hg hm' hh
      · exact rrw_4 hc hn hg hm' hh
      · exact rrw_5 hc hn hg hm' hh
      · exact rrw_6 hc hn hg hm' hh
      · exact rrw_7 hc hn hg hm' hh
      · exact rrw_8 hc hn hg hm' hh
      · exact rrw_9 hc hn hg hm' hh
      · exact rrw_10 hc hn hg hm' hh
    | succ a =>
      rw [e_P a]
      exact rrw_P hc hn hg hm' hh hk ie
  | negSucc a =>
    rw [e_M a]
    exact rrw_M hc hn hg hm' hh hk ie
end Go.Proofs.Ytjdldadmaaeimaa
end

section
set_option maxRecDepth 100000
set_option linter.unusedSimpArgs false
set_option linter.unusedVariables false
namespace Go.Proofs.Ytjdldadmaaeimaa
open Go.SE Go.RowKit
def ΓRn : Ctrs := addCtr (addCtr (addCtr noCtrs 80 (hpCtr false sTold)) 37 (roCtr sRSameR)) 79 (roCtr sRRw)
def ΓRq : Ctrs := addCtr (addCtr noCtrs 35 (roCtr sCheckR)) 79 (roCtr sRRw)
theorem vcRCh0 (c : RV) (n cap m cp : Nat) (g h : Nat→Int × Int) (R : SV→Prop) : (vcFn Try.prog ΓRn noΛ Try.f35 [reS 0 0 c (.sl 0 2 0 n cap) (.sl 1 2 0 m cp)] (roHeap [⟨2,n,rowsP g⟩,⟨2,m,rowsP h⟩]) 64 (fun y _ => R y)) = (((spPre n (winBlk (Ro.blk {s:=2,n:=n,row:=fun i => [SV.v (.int .i64 (Prod.fst (g i))),SV.v (.int .i64 (Prod.snd (g i)))]}) 2 0 n))∧(spPre m (winBlk (Ro.blk {s:=2,n:=m,row:=fun i => [SV.v (.int .i64 (Prod.fst (h i))),SV.v (.int .i64 (Prod.snd (h i)))]}) 2 0 m)))∧(((rowsPre n n fun y => [SV.v (.int .i64 (Prod.fst (g (0 + y)))),SV.v (.int .i64 (Prod.snd (g (0 + y))))])∧(rowsPre m m fun y => [SV.v (.int .i64 (Prod.fst (h (0 + y)))),SV.v (.int .i64 (Prod.snd (h (0 + y))))]))∧(sel (!sameRB 0 0 0 0 c (uT0 c) (sameBB (RV.o c) (RV.o (uT0 c)) (eqSh (sbOf (RV.o c)) (sbOf (RV.o (uT0 c)))&&Nat.beq n 0)) (Nat.beq m 0)) (R (SV.v (.int .i64 4))) (R (SV.v (.int .i64 4)))))):=by kernel_rfl
theorem vcRCh1 (c : RV) (n cap m cp : Nat) (g h : Nat→Int × Int) (R : SV→Prop) : (vcFn Try.prog ΓRn noΛ Try.f35 [reS 1 0 c (.sl 0 2 0 n cap) (.sl 1 2 0 m cp)] (roHeap [⟨2,n,rowsP g⟩,⟨2,m,rowsP h⟩]) 64 (fun y _ => R y)) = (((spPre n (winBlk (Ro.blk {s:=2,n:=n,row:=fun i => [SV.v (.int .i64 (Prod.fst (g i))),SV.v (.int .i64 (Prod.snd (g i)))]}) 2 0 n))∧(spPre m (winBlk (Ro.blk {s:=2,n:=m,row:=fun i => [SV.v (.int .i64 (Prod.fst (h i))),SV.v (.int .i64 (Prod.snd (h i)))]}) 2 0 m)))∧(((rowsPre n n fun y => [SV.v (.int .i64 (Prod.fst (g (0 + y)))),SV.v (.int .i64 (Prod.snd (g (0 + y))))])∧(rowsPre m m fun y => [SV.v (.int .i64 (Prod.fst (h (0 + y)))),SV.v (.int .i64 (Prod.snd (h (0 + y))))]))∧(sel (!sameRB 1 1 0 0 c (uR1 c) (sameBB (RV.o c) (RV.o (uR1 c)) (eqSh (sbOf (RV.o c)) (sbOf (RV.o (uR1 c)))&&Nat.beq n 0)) (Nat.beq m 0)) (R (SV.v (.int .i64 4))) (((repPre 1 0 c n n m m (fun y => [SV.v (.int .i64 (Prod.fst (g (0 + y)))),SV.v (.int .i64 (Prod.snd (g (0 + y))))]) fun y => [SV.v (.int .i64 (Prod.fst (h (0 + y)))),SV.v (.int .i64 (Prod.snd (h (0 + y))))])∧((((0 : Int) ≤ 1)∧((1 : Int) ≤ 10))∧(((0 : Int) = 0)→((1 : Int) ≤ 1))))∧(sel (rBad 1 0 c n m fun i => gi [SV.v (.int .i64 (Prod.fst (h (0 + i)))),SV.v (.int .i64 (Prod.snd (h (0 + i))))]) (R (SV.v (.int .i64 3))) (R (SV.v (.int .i64 0)))))))):=by kernel_rfl
theorem vcRCh2 (c : RV) (n cap m cp : Nat) (g h : Nat→Int × Int) (R : SV→Prop) : (vcFn Try.prog ΓRn noΛ Try.f35 [reS 2 0 c (.sl 0 2 0 n cap) (.sl 1 2 0 m cp)] (roHeap [⟨2,n,rowsP g⟩,⟨2,m,rowsP h⟩]) 64 (fun y _ => R y)) = (((spPre n (winBlk (Ro.blk {s:=2,n:=n,row:=fun i => [SV.v (.int .i64 (Prod.fst (g i))),SV.v (.int .i64 (Prod.snd (g i)))]}) 2 0 n))∧(spPre m (winBlk (Ro.blk {s:=2,n:=m,row:=fun i => [SV.v (.int .i64 (Prod.fst (h i))),SV.v (.int .i64 (Prod.snd (h i)))]}) 2 0 m)))∧(((rowsPre n n fun y => [SV.v (.int .i64 (Prod.fst (g (0 + y)))),SV.v (.int .i64 (Prod.snd (g (0 + y))))])∧(rowsPre m m fun y => [SV.v (.int .i64 (Prod.fst (h (0 + y)))),SV.v (.int .i64 (Prod.snd (h (0 + y))))]))∧(sel (!sameRB 2 2 0 0 c (uR2 c) (sameBB (RV.o c) (RV.o (uR2 c)) (eqSh (sbOf (RV.o c)) (sbOf (RV.o (uR2 c)))&&Nat.beq n 0)) (Nat.beq m 0)) (R (SV.v (.int .i64 4))) (((repPre 2 0 c n n m m (fun y => [SV.v (.int .i64 (Prod.fst (g (0 + y)))),SV.v (.int .i64 (Prod.snd (g (0 + y))))]) fun y => [SV.v (.int .i64 (Prod.fst (h (0 + y)))),SV.v (.int .i64 (Prod.snd (h (0 + y))))])∧((((0 : Int) ≤ 2)∧((2 : Int) ≤ 10))∧(((0 : Int) = 0)→((1 : Int) ≤ 2))))∧(sel (rBad 2 0 c n m fun i => gi [SV.v (.int .i64 (Prod.fst (h (0 + i)))),SV.v (.int .i64 (Prod.snd (h (0 + i))))]) (R (SV.v (.int .i64 3))) (R (SV.v (.int .i64 0)))))))):=by kernel_rfl
theorem vcRCh3 (c : RV) (n cap m cp : Nat) (g h : Nat→Int × Int) (R : SV→Prop) : (vcFn Try.prog ΓRn noΛ Try.f35 [reS 3 0 c (.sl 0 2 0 n cap) (.sl 1 2 0 m cp)] (roHeap [⟨2,n,rowsP g⟩,⟨2,m,rowsP h⟩]) 64 (fun y _ => R y)) = (((spPre n (winBlk (Ro.blk {s:=2,n:=n,row:=fun i => [SV.v (.int .i64 (Prod.fst (g i))),SV.v (.int .i64 (Prod.snd (g i)))]}) 2 0 n))∧(spPre m (winBlk (Ro.blk {s:=2,n:=m,row:=fun i => [SV.v (.int .i64 (Prod.fst (h i))),SV.v (.int .i64 (Prod.snd (h i)))]}) 2 0 m)))∧(((rowsPre n n fun y => [SV.v (.int .i64 (Prod.fst (g (0 + y)))),SV.v (.int .i64 (Prod.snd (g (0 + y))))])∧(rowsPre m m fun y => [SV.v (.int .i64 (Prod.fst (h (0 + y)))),SV.v (.int .i64 (Prod.snd (h (0 + y))))]))∧(sel (!sameRB 3 3 0 0 c (uR3 c) (sameBB (RV.o c) (RV.o (uR3 c)) (eqSh (sbOf (RV.o c)) (sbOf (RV.o (uR3 c)))&&Nat.beq n 0)) (Nat.beq m 0)) (R (SV.v (.int .i64 4))) (((repPre 3 0 c n n m m (fun y => [SV.v (.int .i64 (Prod.fst (g (0 + y)))),SV.v (.int .i64 (Prod.snd (g (0 + y))))]) fun y => [SV.v (.int .i64 (Prod.fst (h (0 + y)))),SV.v (.int .i64 (Prod.snd (h (0 + y))))])∧((((0 : Int) ≤ 3)∧((3 : Int) ≤ 10))∧(((0 : Int) = 0)→((1 : Int) ≤ 3))))∧(sel (rBad 3 0 c n m fun i => gi [SV.v (.int .i64 (Prod.fst (h (0 + i)))),SV.v (.int .i64 (Prod.snd (h (0 + i))))]) (R (SV.v (.int .i64 3))) (R (SV.v (.int .i64 0)))))))):=by kernel_rfl
theorem vcRCh4 (c : RV) (n cap m cp : Nat) (g h : Nat→Int × Int) (R : SV→Prop) : (vcFn Try.prog ΓRn noΛ Try.f35 [reS 4 0 c (.sl 0 2 0 n cap) (.sl 1 2 0 m cp)] (roHeap [⟨2,n,rowsP g⟩,⟨2,m,rowsP h⟩]) 64 (fun y _ => R y)) = (((spPre n (winBlk (Ro.blk {s:=2,n:=n,row:=fun i => [SV.v (.int .i64 (Prod.fst (g i))),SV.v (.int .i64 (Prod.snd (g i)))]}) 2 0 n))∧(spPre m (winBlk (Ro.blk {s:=2,n:=m,row:=fun i => [SV.v (.int .i64 (Prod.fst (h i))),SV.v (.int .i64 (Prod.snd (h i)))]}) 2 0 m)))∧(((rowsPre n n fun y => [SV.v (.int .i64 (Prod.fst (g (0 + y)))),SV.v (.int .i64 (Prod.snd (g (0 + y))))])∧(rowsPre m m fun y => [SV.v (.int .i64 (Prod.fst (h (0 + y)))),SV.v (.int .i64 (Prod.snd (h (0 + y))))]))∧(sel (!sameRB 4 4 0 0 c (uR4 c) (sameBB (RV.o c) (RV.o (uR4 c)) (eqSh (sbOf (RV.o c)) (sbOf (RV.o (uR4 c)))&&Nat.beq n 0)) (Nat.beq m 0)) (R (SV.v (.int .i64 4))) (((repPre 4 0 c n n m m (fun y => [SV.v (.int .i64 (Prod.fst (g (0 + y)))),SV.v (.int .i64 (Prod.snd (g (0 + y))))]) fun y => [SV.v (.int .i64 (Prod.fst (h (0 + y)))),SV.v (.int .i64 (Prod.snd (h (0 + y))))])∧((((0 : Int) ≤ 4)∧((4 : Int) ≤ 10))∧(((0 : Int) = 0)→((1 : Int) ≤ 4))))∧(sel (rBad 4 0 c n m fun i => gi [SV.v (.int .i64 (Prod.fst (h (0 + i)))),SV.v (.int .i64 (Prod.snd (h (0 + i))))]) (R (SV.v (.int .i64 3))) (R (SV.v (.int .i64 0)))))))):=by kernel_rfl
theorem vcRCh5 (c : RV) (n cap m cp : Nat) (g h : Nat→Int × Int) (R : SV→Prop) : (vcFn Try.prog ΓRn noΛ Try.f35 [reS 5 0 c (.sl 0 2 0 n cap) (.sl 1 2 0 m cp)] (roHeap [⟨2,n,rowsP g⟩,⟨2,m,rowsP h⟩]) 64 (fun y _ => R y)) = (((spPre n (winBlk (Ro.blk {s:=2,n:=n,row:=fun i => [SV.v (.int .i64 (Prod.fst (g i))),SV.v (.int .i64 (Prod.snd (g i)))]}) 2 0 n))∧(spPre m (winBlk (Ro.blk {s:=2,n:=m,row:=fun i => [SV.v (.int .i64 (Prod.fst (h i))),SV.v (.int .i64 (Prod.snd (h i)))]}) 2 0 m)))∧(((rowsPre n n fun y => [SV.v (.int .i64 (Prod.fst (g (0 + y)))),SV.v (.int .i64 (Prod.snd (g (0 + y))))])∧(rowsPre m m fun y => [SV.v (.int .i64 (Prod.fst (h (0 + y)))),SV.v (.int .i64 (Prod.snd (h (0 + y))))]))∧(sel (!sameRB 5 5 0 0 c (uR5 c) (sameBB (RV.o c) (RV.o (uR5 c)) (eqSh (sbOf (RV.o c)) (sbOf (RV.o (uR5 c)))&&Nat.beq n 0)) (Nat.beq m 0)) (R (SV.v (.int .i64 4))) (((repPre 5 0 c n n m m (fun y => [SV.v (.int .i64 (Prod.fst (g (0 + y)))),SV.v (.int .i64 (Prod.snd (g (0 + y))))]) fun y => [SV.v (.int .i64 (Prod.fst (h (0 + y)))),SV.v (.int .i64 (Prod.snd (h (0 + y))))])∧((((0 : Int) ≤ 5)∧((5 : Int) ≤ 10))∧(((0 : Int) = 0)→((1 : Int) ≤ 5))))∧(sel (rBad 5 0 c n m fun i => gi [SV.v (.int .i64 (Prod.fst (h (0 + i)))),SV.v (.int .i64 (Prod.snd (h (0 + i))))]) (R (SV.v (.int .i64 3))) (R (SV.v (.int .i64 0)))))))):=by kernel_rfl
theorem vcRCh6 (c : RV) (n cap m cp : Nat) (g h : Nat→Int × Int) (R : SV→Prop) : (vcFn Try.prog ΓRn noΛ Try.f35 [reS 6 0 c (.sl 0 2 0 n cap) (.sl 1 2 0 m cp)] (roHeap [⟨2,n,rowsP g⟩,⟨2,m,rowsP h⟩]) 64 (fun y _ => R y)) = (((spPre n (winBlk (Ro.blk {s:=2,n:=n,row:=fun i => [SV.v (.int .i64 (Prod.fst (g i))),SV.v (.int .i64 (Prod.snd (g i)))]}) 2 0 n))∧(spPre m (winBlk (Ro.blk {s:=2,n:=m,row:=fun i => [SV.v (.int .i64 (Prod.fst (h i))),SV.v (.int .i64 (Prod.snd (h i)))]}) 2 0 m)))∧(((rowsPre n n fun y => [SV.v (.int .i64 (Prod.fst (g (0 + y)))),SV.v (.int .i64 (Prod.snd (g (0 + y))))])∧(rowsPre m m fun y => [SV.v (.int .i64 (Prod.fst (h (0 + y)))),SV.v (.int .i64 (Prod.snd (h (0 + y))))]))∧(sel (!sameRB 6 6 0 0 c (uR6 c) (sameBB (RV.o c) (RV.o (uR6 c)) (eqSh (sbOf (RV.o c)) (sbOf (RV.o (uR6 c)))&&Nat.beq n 0)) (Nat.beq m 0)) (R (SV.v (.int .i64 4))) (((repPre 6 0 c n n m m (fun y => [SV.v (.int .i64 (Prod.fst (g (0 + y)))),SV.v (.int .i64 (Prod.snd (g (0 + y))))]) fun y => [SV.v (.int .i64 (Prod.fst (h (0 + y)))),SV.v (.int .i64 (Prod.snd (h (0 + y))))])∧((((0 : Int) ≤ 6)∧((6 : Int) ≤ 10))∧(((0 : Int) = 0)→((1 : Int) ≤ 6))))∧(sel (rBad 6 0 c n m fun i => gi [SV.v (.int .i64 (Prod.fst (h (0 + i)))),SV.v (.int .i64 (Prod.snd (h (0 + i))))]) (R (SV.v (.int .i64 3))) (R (SV.v (.int .i64 0)))))))):=by kernel_rfl
theorem vcRCh7 (c : RV) (n cap m cp : Nat) (g h : Nat→Int × Int) (R : SV→Prop) : (vcFn Try.prog ΓRn noΛ Try.f35 [reS 7 0 c (.sl 0 2 0 n cap) (.sl 1 2 0 m cp)] (roHeap [⟨2,n,rowsP g⟩,⟨2,m,rowsP h⟩]) 64 (fun y _ => R y)) = (((spPre n (winBlk (Ro.blk {s:=2,n:=n,row:=fun i => [SV.v (.int .i64 (Prod.fst (g i))),SV.v (.int .i64 (Prod.snd (g i)))]}) 2 0 n))∧(spPre m (winBlk (Ro.blk {s:=2,n:=m,row:=fun i => [SV.v (.int .i64 (Prod.fst (h i))),SV.v (.int .i64 (Prod.snd (h i)))]}) 2 0 m)))∧(((rowsPre n n fun y => [SV.v (.int .i64 (Prod.fst (g (0 + y)))),SV.v (.int .i64 (Prod.snd (g (0 + y))))])∧((rowsPre m m fun y => [SV.v (.int .i64 (Prod.fst (h (0 + y)))),SV.v (.int .i64 (Prod.snd (h (0 + y))))])∧(rowsPre n n fun y => [SV.v (.int .i64 (Prod.fst (g (0 + y)))),SV.v (.int .i64 (Prod.snd (g (0 + y))))])))∧(sel (!sameRB 7 7 0 0 c (uR7 c) (sameBB (RV.o c) (RV.o (uR7 c)) (sameS (sbOf (RV.o c)) n (fun i => gi [SV.v (.int .i64 (Prod.fst (g (0 + i)))),SV.v (.int .i64 (Prod.snd (g (0 + i))))]) (sbOf (RV.o (uR7 c))) n fun i => gi [SV.v (.int .i64 (Prod.fst (g (0 + i)))),SV.v (.int .i64 (Prod.snd (g (0 + i))))])) (Nat.beq m 0)) (R (SV.v (.int .i64 4))) (((repPre 7 0 c n n m m (fun y => [SV.v (.int .i64 (Prod.fst (g (0 + y)))),SV.v (.int .i64 (Prod.snd (g (0 + y))))]) fun y => [SV.v (.int .i64 (Prod.fst (h (0 + y)))),SV.v (.int .i64 (Prod.snd (h (0 + y))))])∧((((0 : Int) ≤ 7)∧((7 : Int) ≤ 10))∧(((0 : Int) = 0)→((1 : Int) ≤ 7))))∧(sel (rBad 7 0 c n m fun i => gi [SV.v (.int .i64 (Prod.fst (h (0 + i)))),SV.v (.int .i64 (Prod.snd (h (0 + i))))]) (R (SV.v (.int .i64 3))) (R (SV.v (.int .i64 0)))))))):=by kernel_rfl
theorem vcRCh8 (c : RV) (n cap m cp : Nat) (g h : Nat→Int × Int) (R : SV→Prop) : (vcFn Try.prog ΓRn noΛ Try.f35 [reS 8 0 c (.sl 0 2 0 n cap) (.sl 1 2 0 m cp)] (roHeap [⟨2,n,rowsP g⟩,⟨2,m,rowsP h⟩]) 64 (fun y _ => R y)) = (((spPre n (winBlk (Ro.blk {s:=2,n:=n,row:=fun i => [SV.v (.int .i64 (Prod.fst (g i))),SV.v (.int .i64 (Prod.snd (g i)))]}) 2 0 n))∧(spPre m (winBlk (Ro.blk {s:=2,n:=m,row:=fun i => [SV.v (.int .i64 (Prod.fst (h i))),SV.v (.int .i64 (Prod.snd (h i)))]}) 2 0 m)))∧(((rowsPre n n fun y => [SV.v (.int .i64 (Prod.fst (g (0 + y)))),SV.v (.int .i64 (Prod.snd (g (0 + y))))])∧((rowsPre m m fun y => [SV.v (.int .i64 (Prod.fst (h (0 + y)))),SV.v (.int .i64 (Prod.snd (h (0 + y))))])∧(rowsPre m m fun y => [SV.v (.int .i64 (Prod.fst (h (0 + y)))),SV.v (.int .i64 (Prod.snd (h (0 + y))))])))∧(sel (!sameRB 8 8 0 0 c (uR8 c) (sameBB (RV.o c) (RV.o (uR8 c)) (eqSh (sbOf (RV.o c)) (sbOf (RV.o (uR8 c)))&&Nat.beq n 0)) (sameP m (fun i => gi [SV.v (.int .i64 (Prod.fst (h (0 + i)))),SV.v (.int .i64 (Prod.snd (h (0 + i))))]) m fun i => gi [SV.v (.int .i64 (Prod.fst (h (0 + i)))),SV.v (.int .i64 (Prod.snd (h (0 + i))))])) (R (SV.v (.int .i64 4))) (((repPre 8 0 c n n m m (fun y => [SV.v (.int .i64 (Prod.fst (g (0 + y)))),SV.v (.int .i64 (Prod.snd (g (0 + y))))]) fun y => [SV.v (.int .i64 (Prod.fst (h (0 + y)))),SV.v (.int .i64 (Prod.snd (h (0 + y))))])∧((((0 : Int) ≤ 8)∧((8 : Int) ≤ 10))∧(((0 : Int) = 0)→((1 : Int) ≤ 8))))∧(sel (rBad 8 0 c n m fun i => gi [SV.v (.int .i64 (Prod.fst (h (0 + i)))),SV.v (.int .i64 (Prod.snd (h (0 + i))))]) (R (SV.v (.int .i64 3))) (R (SV.v (.int .i64 0)))))))):=by kernel_rfl
theorem vcRCh9 (c : RV) (n cap m cp : Nat) (g h : Nat→Int × Int) (R : SV→Prop) : (vcFn Try.prog ΓRn noΛ Try.f35 [reS 9 0 c (.sl 0 2 0 n cap) (.sl 1 2 0 m cp)] (roHeap [⟨2,n,rowsP g⟩,⟨2,m,rowsP h⟩]) 64 (fun y _ => R y)) = (((spPre n (winBlk (Ro.blk {s:=2,n:=n,row:=fun i => [SV.v (.int .i64 (Prod.fst (g i))),SV.v (.int .i64 (Prod.snd (g i)))]}) 2 0 n))∧(spPre m (winBlk (Ro.blk {s:=2,n:=m,row:=fun i => [SV.v (.int .i64 (Prod.fst (h i))),SV.v (.int .i64 (Prod.snd (h i)))]}) 2 0 m)))∧(((rowsPre n n fun y => [SV.v (.int .i64 (Prod.fst (g (0 + y)))),SV.v (.int .i64 (Prod.snd (g (0 + y))))])∧(rowsPre m m fun y => [SV.v (.int .i64 (Prod.fst (h (0 + y)))),SV.v (.int .i64 (Prod.snd (h (0 + y))))]))∧(sel (!sameRB 9 9 0 0 c (uR9 c) (sameBB (RV.o c) (RV.o (uR9 c)) (eqSh (sbOf (RV.o c)) (sbOf (RV.o (uR9 c)))&&Nat.beq n 0)) (Nat.beq m 0)) (R (SV.v (.int .i64 4))) (((repPre 9 0 c n n m m (fun y => [SV.v (.int .i64 (Prod.fst (g (0 + y)))),SV.v (.int .i64 (Prod.snd (g (0 + y))))]) fun y => [SV.v (.int .i64 (Prod.fst (h (0 + y)))),SV.v (.int .i64 (Prod.snd (h (0 + y))))])∧((((0 : Int) ≤ 9)∧((9 : Int) ≤ 10))∧(((0 : Int) = 0)→((1 : Int) ≤ 9))))∧(sel (rBad 9 0 c n m fun i => gi [SV.v (.int .i64 (Prod.fst (h (0 + i)))),SV.v (.int .i64 (Prod.snd (h (0 + i))))]) (R (SV.v (.int .i64 3))) (R (SV.v (.int .i64 0)))))))):=by kernel_rfl
theorem vcRCh10 (c : RV) (n cap m cp : Nat) (g h : Nat→Int × Int) (R : SV→Prop) : (vcFn Try.prog ΓRn noΛ Try.f35 [reS 10 0 c (.sl 0 2 0 n cap) (.sl 1 2 0 m cp)] (roHeap [⟨2,n,rowsP g⟩,⟨2,m,rowsP h⟩]) 64 (fun y _ => R y)) = (((spPre n (winBlk (Ro.blk {s:=2,n:=n,row:=fun i => [SV.v (.int .i64 (Prod.fst (g i))),SV.v (.int .i64 (Prod.snd (g i)))]}) 2 0 n))∧(spPre m (winBlk (Ro.blk {s:=2,n:=m,row:=fun i => [SV.v (.int .i64 (Prod.fst (h i))),SV.v (.int .i64 (Prod.snd (h i)))]}) 2 0 m)))∧(((rowsPre n n fun y => [SV.v (.int .i64 (Prod.fst (g (0 + y)))),SV.v (.int .i64 (Prod.snd (g (0 + y))))])∧(rowsPre m m fun y => [SV.v (.int .i64 (Prod.fst (h (0 + y)))),SV.v (.int .i64 (Prod.snd (h (0 + y))))]))∧(sel (!sameRB 10 10 0 0 c (uR10 c) (sameBB (RV.o c) (RV.o (uR10 c)) (eqSh (sbOf (RV.o c)) (sbOf (RV.o (uR10 c)))&&Nat.beq n 0)) (Nat.beq m 0)) (R (SV.v (.int .i64 4))) (((repPre 10 0 c n n m m (fun y => [SV.v (.int .i64 (Prod.fst (g (0 + y)))),SV.v (.int .i64 (Prod.snd (g (0 + y))))]) fun y => [SV.v (.int .i64 (Prod.fst (h (0 + y)))),SV.v (.int .i64 (Prod.snd (h (0 + y))))])∧((((0 : Int) ≤ 10)∧((10 : Int) ≤ 10))∧(((0 : Int) = 0)→((1 : Int) ≤ 10))))∧(sel (rBad 10 0 c n m fun i => gi [SV.v (.int .i64 (Prod.fst (h (0 + i)))),SV.v (.int .i64 (Prod.snd (h (0 + i))))]) (R (SV.v (.int .i64 3))) (R (SV.v (.int .i64 0)))))))):=by kernel_rfl
theorem vcRChP (k : Int) (a : Nat) (c : RV) (n cap m cp : Nat) (g h : Nat→Int × Int) (R : SV→Prop) : (vcFn Try.prog ΓRn noΛ Try.f35 [reS k (Int.ofNat (a + 1)) c (.sl 0 2 0 n cap) (.sl 1 2 0 m cp)] (roHeap [⟨2,n,rowsP g⟩,⟨2,m,rowsP h⟩]) 64 (fun y _ => R y)) = (sel (decide (k < 0)) (R (SV.v (.int .i64 8))) (sel (decide (k > 10)) (R (SV.v (.int .i64 8))) (((spPre n (winBlk (Ro.blk {s:=2,n:=n,row:=fun i => [SV.v (.int .i64 (Prod.fst (g i))),SV.v (.int .i64 (Prod.snd (g i)))]}) 2 0 n))∧(spPre m (winBlk (Ro.blk {s:=2,n:=m,row:=fun i => [SV.v (.int .i64 (Prod.fst (h i))),SV.v (.int .i64 (Prod.snd (h i)))]}) 2 0 m)))∧(((rowsPre n n fun y => [SV.v (.int .i64 (Prod.fst (g (0 + y)))),SV.v (.int .i64 (Prod.snd (g (0 + y))))])∧(rowsPre m m fun y => [SV.v (.int .i64 (Prod.fst (h (0 + y)))),SV.v (.int .i64 (Prod.snd (h (0 + y))))]))∧(sel (!sameRB k k (Int.ofNat (a + 1)) (Int.ofNat (a + 1)) c (uTN k (Int.ofNat (a + 1)) c) (sameBB (RV.o c) (RV.o (uTN k (Int.ofNat (a + 1)) c)) (eqSh (sbOf (RV.o c)) (sbOf (RV.o (uTN k (Int.ofNat (a + 1)) c)))&&Nat.beq n 0)) (Nat.beq m 0)) (R (SV.v (.int .i64 4))) (sel (k == 0) (sel (Int.ofNat (a + 1) == 14) (R (SV.v (.int .i64 4))) (((repPre k (Int.ofNat (a + 1)) c n n m m (fun y => [SV.v (.int .i64 (Prod.fst (g (0 + y)))),SV.v (.int .i64 (Prod.snd (g (0 + y))))]) fun y => [SV.v (.int .i64 (Prod.fst (h (0 + y)))),SV.v (.int .i64 (Prod.snd (h (0 + y))))])∧((((0 : Int) ≤ k)∧((k : Int) ≤ 10))∧((((Int.ofNat (a + 1)) : Int) = 0)→((1 : Int) ≤ k))))∧(sel (rBad k (Int.ofNat (a + 1)) c n m fun i => gi [SV.v (.int .i64 (Prod.fst (h (0 + i)))),SV.v (.int .i64 (Prod.snd (h (0 + i))))]) (R (SV.v (.int .i64 3))) (R (SV.v (.int .i64 0)))))) (((repPre k (Int.ofNat (a + 1)) c n n m m (fun y => [SV.v (.int .i64 (Prod.fst (g (0 + y)))),SV.v (.int .i64 (Prod.snd (g (0 + y))))]) fun y => [SV.v (.int .i64 (Prod.fst (h (0 + y)))),SV.v (.int .i64 (Prod.snd (h (0 + y))))])∧((((0 : Int) ≤ k)∧((k : Int) ≤ 10))∧((((Int.ofNat (a + 1)) : Int) = 0)→((1 : Int) ≤ k))))∧(sel (rBad k (Int.ofNat (a + 1)) c n m fun i => gi [SV.v (.int .i64 (Prod.fst (h (0 + i)))),SV.v (.int .i64 (Prod.snd (h (0 + i))))]) (R (SV.v (.int .i64 3))) (R (SV.v (.int .i64 0))))))))))):=by kernel_rfl
theorem vcRChM (k : Int) (a : Nat) (c : RV) (n cap m cp : Nat) (g h : Nat→Int × Int) (R : SV→Prop) : (vcFn Try.prog ΓRn noΛ Try.f35 [reS k (Int.negSucc a) c (.sl 0 2 0 n cap) (.sl 1 2 0 m cp)] (roHeap [⟨2,n,rowsP g⟩,⟨2,m,rowsP h⟩]) 64 (fun y _ => R y)) = (sel (decide (k < 0)) (R (SV.v (.int .i64 8))) (sel (decide (k > 10)) (R (SV.v (.int .i64 8))) (((spPre n (winBlk (Ro.blk {s:=2,n:=n,row:=fun i => [SV.v (.int .i64 (Prod.fst (g i))),SV.v (.int .i64 (Prod.snd (g i)))]}) 2 0 n))∧(spPre m (winBlk (Ro.blk {s:=2,n:=m,row:=fun i => [SV.v (.int .i64 (Prod.fst (h i))),SV.v (.int .i64 (Prod.snd (h i)))]}) 2 0 m)))∧(((rowsPre n n fun y => [SV.v (.int .i64 (Prod.fst (g (0 + y)))),SV.v (.int .i64 (Prod.snd (g (0 + y))))])∧(rowsPre m m fun y => [SV.v (.int .i64 (Prod.fst (h (0 + y)))),SV.v (.int .i64 (Prod.snd (h (0 + y))))]))∧(sel (!sameRB k k (Int.negSucc a) (Int.negSucc a) c (uTN k (Int.negSucc a) c) (sameBB (RV.o c) (RV.o (uTN k (Int.negSucc a) c)) (eqSh (sbOf (RV.o c)) (sbOf (RV.o (uTN k (Int.negSucc a) c)))&&Nat.beq n 0)) (Nat.beq m 0)) (R (SV.v (.int .i64 4))) (sel (k == 0) (((repPre k (Int.negSucc a) c n n m m (fun y => [SV.v (.int .i64 (Prod.fst (g (0 + y)))),SV.v (.int .i64 (Prod.snd (g (0 + y))))]) fun y => [SV.v (.int .i64 (Prod.fst (h (0 + y)))),SV.v (.int .i64 (Prod.snd (h (0 + y))))])∧((((0 : Int) ≤ k)∧((k : Int) ≤ 10))∧((((Int.negSucc a) : Int) = 0)→((1 : Int) ≤ k))))∧(sel (rBad k (Int.negSucc a) c n m fun i => gi [SV.v (.int .i64 (Prod.fst (h (0 + i)))),SV.v (.int .i64 (Prod.snd (h (0 + i))))]) (R (SV.v (.int .i64 3))) (R (SV.v (.int .i64 0))))) (((repPre k (Int.negSucc a) c n n m m (fun y => [SV.v (.int .i64 (Prod.fst (g (0 + y)))),SV.v (.int .i64 (Prod.snd (g (0 + y))))]) fun y => [SV.v (.int .i64 (Prod.fst (h (0 + y)))),SV.v (.int .i64 (Prod.snd (h (0 + y))))])∧((((0 : Int) ≤ k)∧((k : Int) ≤ 10))∧((((Int.negSucc a) : Int) = 0)→((1 : Int) ≤ k))))∧(sel (rBad k (Int.negSucc a) c n m fun i => gi [SV.v (.int .i64 (Prod.fst (h (0 + i)))),SV.v (.int .i64 (Prod.snd (h (0 + i))))]) (R (SV.v (.int .i64 3))) (R (SV.v (.int .i64 0))))))))))):=by kernel_rfl
theorem vcRChO (k e : Int) (c : RV) (n cap m cp : Nat) (g h : Nat→Int × Int) (R : SV→Prop) : (vcFn Try.prog noCtrs noΛ Try.f35 [reS k e c (.sl 0 2 0 n cap) (.sl 1 2 0 m cp)] (roHeap [⟨2,n,rowsP g⟩,⟨2,m,rowsP h⟩]) 64 (fun y _ => R y)) = (sel (decide (k < 0)) (R (SV.v (.int .i64 8))) (sel (decide (k > 10)) (R (SV.v (.int .i64 8))) False)):=by kernel_rfl
theorem vcRRep (k e : Int) (c : RV) (n cap m cp : Nat) (g h : Nat→Int × Int) (R : SV→Prop) : (vcFn Try.prog ΓRq noΛ Try.f33 [reS k e c (.sl 0 2 0 n cap) (.sl 1 2 0 m cp)] (roHeap [⟨2,n,rowsP g⟩,⟨2,m,rowsP h⟩]) 64 (fun y _ => R y)) = ((repPre k e c n n m m (fun y => [SV.v (.int .i64 (Prod.fst (g (0 + y)))),SV.v (.int .i64 (Prod.snd (g (0 + y))))]) fun y => [SV.v (.int .i64 (Prod.fst (h (0 + y)))),SV.v (.int .i64 (Prod.snd (h (0 + y))))])∧(sel ((repE k e c n (fun i => gi [SV.v (.int .i64 (Prod.fst (g (0 + i)))),SV.v (.int .i64 (Prod.snd (g (0 + i))))]) m fun i => gi [SV.v (.int .i64 (Prod.fst (h (0 + i)))),SV.v (.int .i64 (Prod.snd (h (0 + i))))]) != 0) (R (SV.tup [(SV.v (.string ({data:=#[]}))),(SV.v (.int .i64 (repE k e c n (fun i => gi [SV.v (.int .i64 (Prod.fst (g (0 + i)))),SV.v (.int .i64 (Prod.snd (g (0 + i))))]) m fun i => gi [SV.v (.int .i64 (Prod.fst (h (0 + i)))),SV.v (.int .i64 (Prod.snd (h (0 + i))))])))])) (((repPre k e c n n m m (fun y => [SV.v (.int .i64 (Prod.fst (g (0 + y)))),SV.v (.int .i64 (Prod.snd (g (0 + y))))]) fun y => [SV.v (.int .i64 (Prod.fst (h (0 + y)))),SV.v (.int .i64 (Prod.snd (h (0 + y))))])∧((((0 : Int) ≤ k)∧((k : Int) ≤ 10))∧(((e : Int) = 0)→((1 : Int) ≤ k))))∧(R (SV.tup [(SV.v (.string (rwS k e c n (fun i => gi [SV.v (.int .i64 (Prod.fst (g (0 + i)))),SV.v (.int .i64 (Prod.snd (g (0 + i))))]) m fun i => gi [SV.v (.int .i64 (Prod.fst (h (0 + i)))),SV.v (.int .i64 (Prod.snd (h (0 + i))))]))),(SV.v (.int .i64 0))]))))):=by kernel_rfl
theorem bcI (a b : Int) : (a == b) = (b == a) := BEq.comm
theorem bcB (a b : Bool) : (a == b) = (b == a) := BEq.comm
theorem bodB_comm (a b : BV) : bodB a b = bodB b a := by
  unfold bodB
  rw [bcI a.p0v b.p0v, bcB a.p0f b.p0f, bcI a.p1v b.p1v, bcB a.p1f b.p1f, bcI a.p2v b.p2v, bcB a.p2f b.p2f, bcI a.p3v b.p3v, bcB a.p3f b.p3f, bcI a.v0v b.v0v, bcB a.v0f b.v0f, bcI a.v1v b.v1v, bcB a.v1f b.v1f, bcI a.w0v b.w0v, bcB a.w0f b.w0f, bcI a.m0v b.m0v, bcB a.m0f b.m0f, bcI a.m1v b.m1v, bcB a.m1f b.m1f, bcI a.st b.st, bcB a.asl b.asl, bcB a.flt b.flt, bcI a.bv b.bv]
theorem sameBB_comm (a b : BV) (s : Bool) : sameBB a b s = sameBB b a s := by
  unfold sameBB
  rw [bodB_comm]
theorem eqSh_comm (a b : ShB) : eqSh a b = eqSh b a := by
  unfold eqSh
  rw [bcI a.k b.k, bcI a.r b.r, bcI a.w b.w, bcI a.h b.h]
theorem sameRB_comm (k1 k2 e1 e2 : Int) (a b : RV) (s t : Bool) : sameRB k1 k2 e1 e2 a b s t = sameRB k2 k1 e2 e1 b a s t := by
  unfold sameRB
  rw [bcI k1 k2, bcI e1 e2, bcI a.id b.id, bcI a.bs b.bs, bcI a.bg b.bg, bcI a.ver b.ver, bcI a.gr b.gr, bcB a.hit b.hit, bcI a.htv b.htv, bcB a.htf b.htf, bcI a.x0v b.x0v, bcB a.x0f b.x0f, bcI a.x1v b.x1v, bcB a.x1f b.x1f, bcI a.cnt b.cnt]
theorem sameS_comm0 (a b : ShB) (n : Nat) (g : Nat → Int × Int) : sameS a n g b n g = sameS b n g a n g := by
  unfold sameS
  rw [eqSh_comm]
theorem ΓRn_ok : ∀ f g, ΓRn f = some g → g.ok Try.prog f := addCtr_ok (addCtr_ok (addCtr_ok noCtrs_ok (hp_ok Try.func80 (by kernel_rfl) (by kernel_rfl) Told_spec)) (ro_ok Try.func37 (by kernel_rfl) (by kernel_rfl) RSameR_spec')) (ro_ok Try.func79 (by kernel_rfl) (by kernel_rfl) RRw_spec)
theorem rch_0 {c : RV} {n cap m cp : Nat} {g h : Nat → Int × Int} (hc : rvOk c) (hn : n < 100) (hg : ∀ i, i < n → I64 (g i).1 ∧ I64 (g i).2) (hm' : m < 200) (hh : ∀ i, i < m → I64 (h i).1 ∧ I64 (h i).2) : vcFn Try.prog ΓRn noΛ Try.f35 [reS 0 0 c (.sl 0 2 0 n cap) (.sl 1 2 0 m cp)] (roHeap [⟨2, n, rowsP g⟩, ⟨2, m, rowsP h⟩]) 64 (fun y _ => y = iV (repE 0 0 c n g m h)) := by
  have hn4 : n < 1099511627776 := by omega
  have hm4 : m < 1099511627776 := by omega
  refine Eq.mpr (vcRCh0 c n cap m cp g h _) ⟨⟨win_sp hn4 hg, win_sp hm4 hh⟩, ⟨pre_rows hn4 hg, pre_rows hm4 hh⟩, ?_⟩
  have hf : rForm 0 0 c n g m h = false := by
    unfold rForm
    rw [show (!((0 : Int) == 0)) = false from rfl, Bool.false_and, Bool.and_false]
    rfl
  unfold repE
  rw [hf]
  exact sel_of (fun _ => rfl) fun _ => rfl
theorem rch_1 {c : RV} {n cap m cp : Nat} {g h : Nat → Int × Int} (hc : rvOk c) (hn : n < 100) (hg : ∀ i, i < n → I64 (g i).1 ∧ I64 (g i).2) (hm' : m < 200) (hh : ∀ i, i < m → I64 (h i).1 ∧ I64 (h i).2) : vcFn Try.prog ΓRn noΛ Try.f35 [reS 1 0 c (.sl 0 2 0 n cap) (.sl 1 2 0 m cp)] (roHeap [⟨2, n, rowsP g⟩, ⟨2, m, rowsP h⟩]) 64 (fun y _ => y = iV (repE 1 0 c n g m h)) := by
  have hn4 : n < 1099511627776 := by omega
  have hm4 : m < 1099511627776 := by omega
  refine Eq.mpr (vcRCh1 c n cap m cp g h _) ⟨⟨win_sp hn4 hg, win_sp hm4 hh⟩, ⟨pre_rows hn4 hg, pre_rows hm4 hh⟩, ?_⟩
  have hf : sameRB 1 1 0 0 c (uR1 c) (sameBB c.o (uR1 c).o (eqSh (sbOf c.o) (sbOf (uR1 c).o) && Nat.beq n 0)) (Nat.beq m 0) = rForm 1 0 c n g m h := by
    rw [sameRB_comm, sameBB_comm, eqSh_comm]
    rfl
  rw [hf]
  unfold repE
  rw [show rkOk 1 = true from rfl]
  cases rForm 1 0 c n g m h with
  | false => exact sel_of (fun _ => rfl) fun e => by cases e
  | true =>
    refine sel_of (fun e => by cases e) fun _ => ⟨⟨⟨⟨pre_rows hn4 hg, pre_rows hm4 hh⟩, ⟨hc, ⟨by omega, by omega⟩, ⟨by omega, by omega⟩⟩, hn, hm'⟩, ⟨by omega, by omega⟩, fun _ => by omega⟩, ?_⟩
    exact sel_of (fun e => by have e : rBad 1 0 c n m (fun i => h (0 + i)) = true := e; simp only [Nat.zero_add] at e; rw [e]; rfl) fun e => by have e : rBad 1 0 c n m (fun i => h (0 + i)) = false := e; simp only [Nat.zero_add] at e; rw [e]; rfl
theorem rch_2 {c : RV} {n cap m cp : Nat} {g h : Nat → Int × Int} (hc : rvOk c) (hn : n < 100) (hg : ∀ i, i < n → I64 (g i).1 ∧ I64 (g i).2) (hm' : m < 200) (hh : ∀ i, i < m → I64 (h i).1 ∧ I64 (h i).2) : vcFn Try.prog ΓRn noΛ Try.f35 [reS 2 0 c (.sl 0 2 0 n cap) (.sl 1 2 0 m cp)] (roHeap [⟨2, n, rowsP g⟩, ⟨2, m, rowsP h⟩]) 64 (fun y _ => y = iV (repE 2 0 c n g m h)) := by
  have hn4 : n < 1099511627776 := by omega
  have hm4 : m < 1099511627776 := by omega
  refine Eq.mpr (vcRCh2 c n cap m cp g h _) ⟨⟨win_sp hn4 hg, win_sp hm4 hh⟩, ⟨pre_rows hn4 hg, pre_rows hm4 hh⟩, ?_⟩
  have hf : sameRB 2 2 0 0 c (uR2 c) (sameBB c.o (uR2 c).o (eqSh (sbOf c.o) (sbOf (uR2 c).o) && Nat.beq n 0)) (Nat.beq m 0) = rForm 2 0 c n g m h := by
    rw [sameRB_comm, sameBB_comm, eqSh_comm]
    rfl
  rw [hf]
  unfold repE
  rw [show rkOk 2 = true from rfl]
  cases rForm 2 0 c n g m h with
  | false => exact sel_of (fun _ => rfl) fun e => by cases e
  | true =>
    refine sel_of (fun e => by cases e) fun _ => ⟨⟨⟨⟨pre_rows hn4 hg, pre_rows hm4 hh⟩, ⟨hc, ⟨by omega, by omega⟩, ⟨by omega, by omega⟩⟩, hn, hm'⟩, ⟨by omega, by omega⟩, fun _ => by omega⟩, ?_⟩
    exact sel_of (fun e => by have e : rBad 2 0 c n m (fun i => h (0 + i)) = true := e; simp only [Nat.zero_add] at e; rw [e]; rfl) fun e => by have e : rBad 2 0 c n m (fun i => h (0 + i)) = false := e; simp only [Nat.zero_add] at e; rw [e]; rfl
theorem rch_3 {c : RV} {n cap m cp : Nat} {g h : Nat → Int × Int} (hc : rvOk c) (hn : n < 100) (hg : ∀ i, i < n → I64 (g i).1 ∧ I64 (g i).2) (hm' : m < 200) (hh : ∀ i, i < m → I64 (h i).1 ∧ I64 (h i).2) : vcFn Try.prog ΓRn noΛ Try.f35 [reS 3 0 c (.sl 0 2 0 n cap) (.sl 1 2 0 m cp)] (roHeap [⟨2, n, rowsP g⟩, ⟨2, m, rowsP h⟩]) 64 (fun y _ => y = iV (repE 3 0 c n g m h)) := by
  have hn4 : n < 1099511627776 := by omega
  have hm4 : m < 1099511627776 := by omega
  refine Eq.mpr (vcRCh3 c n cap m cp g h _) ⟨⟨win_sp hn4 hg, win_sp hm4 hh⟩, ⟨pre_rows hn4 hg, pre_rows hm4 hh⟩, ?_⟩
  have hf : sameRB 3 3 0 0 c (uR3 c) (sameBB c.o (uR3 c).o (eqSh (sbOf c.o) (sbOf (uR3 c).o) && Nat.beq n 0)) (Nat.beq m 0) = rForm 3 0 c n g m h := by
    rw [sameRB_comm, sameBB_comm, eqSh_comm]
    rfl
  rw [hf]
  unfold repE
  rw [show rkOk 3 = true from rfl]
  cases rForm 3 0 c n g m h with
  | false => exact sel_of (fun _ => rfl) fun e => by cases e
  | true =>
    refine sel_of (fun e => by cases e) fun _ => ⟨⟨⟨⟨pre_rows hn4 hg, pre_rows hm4 hh⟩, ⟨hc, ⟨by omega, by omega⟩, ⟨by omega, by omega⟩⟩, hn, hm'⟩, ⟨by omega, by omega⟩, fun _ => by omega⟩, ?_⟩
    exact sel_of (fun e => by have e : rBad 3 0 c n m (fun i => h (0 + i)) = true := e; simp only [Nat.zero_add] at e; rw [e]; rfl) fun e => by have e : rBad 3 0 c n m (fun i => h (0 + i)) = false := e; simp only [Nat.zero_add] at e; rw [e]; rfl
theorem rch_4 {c : RV} {n cap m cp : Nat} {g h : Nat → Int × Int} (hc : rvOk c) (hn : n < 100) (hg : ∀ i, i < n → I64 (g i).1 ∧ I64 (g i).2) (hm' : m < 200) (hh : ∀ i, i < m → I64 (h i).1 ∧ I64 (h i).2) : vcFn Try.prog ΓRn noΛ Try.f35 [reS 4 0 c (.sl 0 2 0 n cap) (.sl 1 2 0 m cp)] (roHeap [⟨2, n, rowsP g⟩, ⟨2, m, rowsP h⟩]) 64 (fun y _ => y = iV (repE 4 0 c n g m h)) := by
  have hn4 : n < 1099511627776 := by omega
  have hm4 : m < 1099511627776 := by omega
  refine Eq.mpr (vcRCh4 c n cap m cp g h _) ⟨⟨win_sp hn4 hg, win_sp hm4 hh⟩, ⟨pre_rows hn4 hg, pre_rows hm4 hh⟩, ?_⟩
  have hf : sameRB 4 4 0 0 c (uR4 c) (sameBB c.o (uR4 c).o (eqSh (sbOf c.o) (sbOf (uR4 c).o) && Nat.beq n 0)) (Nat.beq m 0) = rForm 4 0 c n g m h := by
    rw [sameRB_comm, sameBB_comm, eqSh_comm]
    rfl
  rw [hf]
  unfold repE
  rw [show rkOk 4 = true from rfl]
  cases rForm 4 0 c n g m h with
  | false => exact sel_of (fun _ => rfl) fun e => by cases e
  | true =>
    refine sel_of (fun e => by cases e) fun _ => ⟨⟨⟨⟨pre_rows hn4 hg, pre_rows hm4 hh⟩, ⟨hc, ⟨by omega, by omega⟩, ⟨by omega, by omega⟩⟩, hn, hm'⟩, ⟨by omega, by omega⟩, fun _ => by omega⟩, ?_⟩
    exact sel_of (fun e => by have e : rBad 4 0 c n m (fun i => h (0 + i)) = true := e; simp only [Nat.zero_add] at e; rw [e]; rfl) fun e => by have e : rBad 4 0 c n m (fun i => h (0 + i)) = false := e; simp only [Nat.zero_add] at e; rw [e]; rfl
theorem rch_5 {c : RV} {n cap m cp : Nat} {g h : Nat → Int × Int} (hc : rvOk c) (hn : n < 100) (hg : ∀ i, i < n → I64 (g i).1 ∧ I64 (g i).2) (hm' : m < 200) (hh : ∀ i, i < m → I64 (h i).1 ∧ I64 (h i).2) : vcFn Try.prog ΓRn noΛ Try.f35 [reS 5 0 c (.sl 0 2 0 n cap) (.sl 1 2 0 m cp)] (roHeap [⟨2, n, rowsP g⟩, ⟨2, m, rowsP h⟩]) 64 (fun y _ => y = iV (repE 5 0 c n g m h)) := by
  have hn4 : n < 1099511627776 := by omega
  have hm4 : m < 1099511627776 := by omega
  refine Eq.mpr (vcRCh5 c n cap m cp g h _) ⟨⟨win_sp hn4 hg, win_sp hm4 hh⟩, ⟨pre_rows hn4 hg, pre_rows hm4 hh⟩, ?_⟩
  have hf : sameRB 5 5 0 0 c (uR5 c) (sameBB c.o (uR5 c).o (eqSh (sbOf c.o) (sbOf (uR5 c).o) && Nat.beq n 0)) (Nat.beq m 0) = rForm 5 0 c n g m h := by
    rw [sameRB_comm, sameBB_comm, eqSh_comm]
    rfl
  rw [hf]
  unfold repE
  rw [show rkOk 5 = true from rfl]
  cases rForm 5 0 c n g m h with
  | false => exact sel_of (fun _ => rfl) fun e => by cases e
  | true =>
    refine sel_of (fun e => by cases e) fun _ => ⟨⟨⟨⟨pre_rows hn4 hg, pre_rows hm4 hh⟩, ⟨hc, ⟨by omega, by omega⟩, ⟨by omega, by omega⟩⟩, hn, hm'⟩, ⟨by omega, by omega⟩, fun _ => by omega⟩, ?_⟩
    exact sel_of (fun e => by have e : rBad 5 0 c n m (fun i => h (0 + i)) = true := e; simp only [Nat.zero_add] at e; rw [e]; rfl) fun e => by have e : rBad 5 0 c n m (fun i => h (0 + i)) = false := e; simp only [Nat.zero_add] at e; rw [e]; rfl
theorem rch_6 {c : RV} {n cap m cp : Nat} {g h : Nat → Int × Int} (hc : rvOk c) (hn : n < 100) (hg : ∀ i, i < n → I64 (g i).1 ∧ I64 (g i).2) (hm' : m < 200) (hh : ∀ i, i < m → I64 (h i).1 ∧ I64 (h i).2) : vcFn Try.prog ΓRn noΛ Try.f35 [reS 6 0 c (.sl 0 2 0 n cap) (.sl 1 2 0 m cp)] (roHeap [⟨2, n, rowsP g⟩, ⟨2, m, rowsP h⟩]) 64 (fun y _ => y = iV (repE 6 0 c n g m h)) := by
  have hn4 : n < 1099511627776 := by omega
  have hm4 : m < 1099511627776 := by omega
  refine Eq.mpr (vcRCh6 c n cap m cp g h _) ⟨⟨win_sp hn4 hg, win_sp hm4 hh⟩, ⟨pre_rows hn4 hg, pre_rows hm4 hh⟩, ?_⟩
  have hf : sameRB 6 6 0 0 c (uR6 c) (sameBB c.o (uR6 c).o (eqSh (sbOf c.o) (sbOf (uR6 c).o) && Nat.beq n 0)) (Nat.beq m 0) = rForm 6 0 c n g m h := by
    rw [sameRB_comm, sameBB_comm, eqSh_comm]
    rfl
  rw [hf]
  unfold repE
  rw [show rkOk 6 = true from rfl]
  cases rForm 6 0 c n g m h with
  | false => exact sel_of (fun _ => rfl) fun e => by cases e
  | true =>
    refine sel_of (fun e => by cases e) fun _ => ⟨⟨⟨⟨pre_rows hn4 hg, pre_rows hm4 hh⟩, ⟨hc, ⟨by omega, by omega⟩, ⟨by omega, by omega⟩⟩, hn, hm'⟩, ⟨by omega, by omega⟩, fun _ => by omega⟩, ?_⟩
    exact sel_of (fun e => by have e : rBad 6 0 c n m (fun i => h (0 + i)) = true := e; simp only [Nat.zero_add] at e; rw [e]; rfl) fun e => by have e : rBad 6 0 c n m (fun i => h (0 + i)) = false := e; simp only [Nat.zero_add] at e; rw [e]; rfl
theorem rch_7 {c : RV} {n cap m cp : Nat} {g h : Nat → Int × Int} (hc : rvOk c) (hn : n < 100) (hg : ∀ i, i < n → I64 (g i).1 ∧ I64 (g i).2) (hm' : m < 200) (hh : ∀ i, i < m → I64 (h i).1 ∧ I64 (h i).2) : vcFn Try.prog ΓRn noΛ Try.f35 [reS 7 0 c (.sl 0 2 0 n cap) (.sl 1 2 0 m cp)] (roHeap [⟨2, n, rowsP g⟩, ⟨2, m, rowsP h⟩]) 64 (fun y _ => y = iV (repE 7 0 c n g m h)) := by
  have hn4 : n < 1099511627776 := by omega
  have hm4 : m < 1099511627776 := by omega
  refine Eq.mpr (vcRCh7 c n cap m cp g h _) ⟨⟨win_sp hn4 hg, win_sp hm4 hh⟩, ⟨pre_rows hn4 hg, pre_rows hm4 hh, pre_rows hn4 hg⟩, ?_⟩
  rw [gi_rows0 g]
  have hf : sameRB 7 7 0 0 c (uR7 c) (sameBB c.o (uR7 c).o (sameS (sbOf c.o) n g (sbOf (uR7 c).o) n g)) (Nat.beq m 0) = rForm 7 0 c n g m h := by
    rw [sameRB_comm, sameBB_comm, sameS_comm0]
    rfl
  rw [hf]
  unfold repE
  rw [show rkOk 7 = true from rfl]
  cases rForm 7 0 c n g m h with
  | false => exact sel_of (fun _ => rfl) fun e => by cases e
  | true =>
    refine sel_of (fun e => by cases e) fun _ => ⟨⟨⟨⟨pre_rows hn4 hg, pre_rows hm4 hh⟩, ⟨hc, ⟨by omega, by omega⟩, ⟨by omega, by omega⟩⟩, hn, hm'⟩, ⟨by omega, by omega⟩, fun _ => by omega⟩, ?_⟩
    exact sel_of (fun e => by have e : rBad 7 0 c n m (fun i => h (0 + i)) = true := e; simp only [Nat.zero_add] at e; rw [e]; rfl) fun e => by have e : rBad 7 0 c n m (fun i => h (0 + i)) = false := e; simp only [Nat.zero_add] at e; rw [e]; rfl
theorem rch_8 {c : RV} {n cap m cp : Nat} {g h : Nat → Int × Int} (hc : rvOk c) (hn : n < 100) (hg : ∀ i, i < n → I64 (g i).1 ∧ I64 (g i).2) (hm' : m < 200) (hh : ∀ i, i < m → I64 (h i).1 ∧ I64 (h i).2) : vcFn Try.prog ΓRn noΛ Try.f35 [reS 8 0 c (.sl 0 2 0 n cap) (.sl 1 2 0 m cp)] (roHeap [⟨2, n, rowsP g⟩, ⟨2, m, rowsP h⟩]) 64 (fun y _ => y = iV (repE 8 0 c n g m h)) := by
  have hn4 : n < 1099511627776 := by omega
  have hm4 : m < 1099511627776 := by omega
  refine Eq.mpr (vcRCh8 c n cap m cp g h _) ⟨⟨win_sp hn4 hg, win_sp hm4 hh⟩, ⟨pre_rows hn4 hg, pre_rows hm4 hh, pre_rows hm4 hh⟩, ?_⟩
  rw [gi_rows0 h]
  have hf : sameRB 8 8 0 0 c (uR8 c) (sameBB c.o (uR8 c).o (eqSh (sbOf c.o) (sbOf (uR8 c).o) && Nat.beq n 0)) (sameP m h m h) = rForm 8 0 c n g m h := by
    rw [sameRB_comm, sameBB_comm, eqSh_comm]
    rfl
  rw [hf]
  unfold repE
  rw [show rkOk 8 = true from rfl]
  cases rForm 8 0 c n g m h with
  | false => exact sel_of (fun _ => rfl) fun e => by cases e
  | true =>
    refine sel_of (fun e => by cases e) fun _ => ⟨⟨⟨⟨pre_rows hn4 hg, pre_rows hm4 hh⟩, ⟨hc, ⟨by omega, by omega⟩, ⟨by omega, by omega⟩⟩, hn, hm'⟩, ⟨by omega, by omega⟩, fun _ => by omega⟩, ?_⟩
    exact sel_of (fun e => by rw [e]; rfl) fun e => by rw [e]; rfl
theorem rch_9 {c : RV} {n cap m cp : Nat} {g h : Nat → Int × Int} (hc : rvOk c) (hn : n < 100) (hg : ∀ i, i < n → I64 (g i).1 ∧ I64 (g i).2) (hm' : m < 200) (hh : ∀ i, i < m → I64 (h i).1 ∧ I64 (h i).2) : vcFn Try.prog ΓRn noΛ Try.f35 [reS 9 0 c (.sl 0 2 0 n cap) (.sl 1 2 0 m cp)] (roHeap [⟨2, n, rowsP g⟩, ⟨2, m, rowsP h⟩]) 64 (fun y _ => y = iV (repE 9 0 c n g m h)) := by
  have hn4 : n < 1099511627776 := by omega
  have hm4 : m < 1099511627776 := by omega
  refine Eq.mpr (vcRCh9 c n cap m cp g h _) ⟨⟨win_sp hn4 hg, win_sp hm4 hh⟩, ⟨pre_rows hn4 hg, pre_rows hm4 hh⟩, ?_⟩
  have hf : sameRB 9 9 0 0 c (uR9 c) (sameBB c.o (uR9 c).o (eqSh (sbOf c.o) (sbOf (uR9 c).o) && Nat.beq n 0)) (Nat.beq m 0) = rForm 9 0 c n g m h := by
    rw [sameRB_comm, sameBB_comm, eqSh_comm]
    rfl
  rw [hf]
  unfold repE
  rw [show rkOk 9 = true from rfl]
  cases rForm 9 0 c n g m h with
  | false => exact sel_of (fun _ => rfl) fun e => by cases e
  | true =>
    refine sel_of (fun e => by cases e) fun _ => ⟨⟨⟨⟨pre_rows hn4 hg, pre_rows hm4 hh⟩, ⟨hc, ⟨by omega, by omega⟩, ⟨by omega, by omega⟩⟩, hn, hm'⟩, ⟨by omega, by omega⟩, fun _ => by omega⟩, ?_⟩
    exact sel_of (fun e => by have e : rBad 9 0 c n m (fun i => h (0 + i)) = true := e; simp only [Nat.zero_add] at e; rw [e]; rfl) fun e => by have e : rBad 9 0 c n m (fun i => h (0 + i)) = false := e; simp only [Nat.zero_add] at e; rw [e]; rfl
theorem rch_10 {c : RV} {n cap m cp : Nat} {g h : Nat → Int × Int} (hc : rvOk c) (hn : n < 100) (hg : ∀ i, i < n → I64 (g i).1 ∧ I64 (g i).2) (hm' : m < 200) (hh : ∀ i, i < m → I64 (h i).1 ∧ I64 (h i).2) : vcFn Try.prog ΓRn noΛ Try.f35 [reS 10 0 c (.sl 0 2 0 n cap) (.sl 1 2 0 m cp)] (roHeap [⟨2, n, rowsP g⟩, ⟨2, m, rowsP h⟩]) 64 (fun y _ => y = iV (repE 10 0 c n g m h)) := by
  have hn4 : n < 1099511627776 := by omega
  have hm4 : m < 1099511627776 := by omega
  refine Eq.mpr (vcRCh10 c n cap m cp g h _) ⟨⟨win_sp hn4 hg, win_sp hm4 hh⟩, ⟨pre_rows hn4 hg, pre_rows hm4 hh⟩, ?_⟩
  have hf : sameRB 10 10 0 0 c (uR10 c) (sameBB c.o (uR10 c).o (eqSh (sbOf c.o) (sbOf (uR10 c).o) && Nat.beq n 0)) (Nat.beq m 0) = rForm 10 0 c n g m h := by
    rw [sameRB_comm, sameBB_comm, eqSh_comm]
    rfl
  rw [hf]
  unfold repE
  rw [show rkOk 10 = true from rfl]
  cases rForm 10 0 c n g m h with
  | false => exact sel_of (fun _ => rfl) fun e => by cases e
  | true =>
    refine sel_of (fun e => by cases e) fun _ => ⟨⟨⟨⟨pre_rows hn4 hg, pre_rows hm4 hh⟩, ⟨hc, ⟨by omega, by omega⟩, ⟨by omega, by omega⟩⟩, hn, hm'⟩, ⟨by omega, by omega⟩, fun _ => by omega⟩, ?_⟩
    exact sel_of (fun e => by have e : rBad 10 0 c n m (fun i => h (0 + i)) = true := e; simp only [Nat.zero_add] at e; rw [e]; rfl) fun e => by have e : rBad 10 0 c n m (fun i => h (0 + i)) = false := e; simp only [Nat.zero_add] at e; rw [e]; rfl
theorem rch_P {k : Int} {a : Nat} {c : RV} {n cap m cp : Nat} {g h : Nat → Int × Int} (hc : rvOk c) (hn : n < 100) (hg : ∀ i, i < n → I64 (g i).1 ∧ I64 (g i).2) (hm' : m < 200) (hh : ∀ i, i < m → I64 (h i).1 ∧ I64 (h i).2) (hk : I64 k) (he : I64 (Int.ofNat (a + 1))) : vcFn Try.prog ΓRn noΛ Try.f35 [reS k (Int.ofNat (a + 1)) c (.sl 0 2 0 n cap) (.sl 1 2 0 m cp)] (roHeap [⟨2, n, rowsP g⟩, ⟨2, m, rowsP h⟩]) 64 (fun y _ => y = iV (repE k (Int.ofNat (a + 1)) c n g m h)) := by
  have hn4 : n < 1099511627776 := by omega
  have hm4 : m < 1099511627776 := by omega
  have he0 : (Int.ofNat (a + 1)) ≠ 0 := fun hz => by have := e_P a; rw [hz] at this; cases this
  refine Eq.mpr (vcRChP k a c n cap m cp g h _) (sel_of (fun e1 => ?_) fun e1 => sel_of (fun e2 => ?_) fun e2 => ⟨⟨win_sp hn4 hg, win_sp hm4 hh⟩, ⟨pre_rows hn4 hg, pre_rows hm4 hh⟩, ?_⟩)
  · have e1 := of_decide_eq_true e1
    unfold repE rkOk
    rw [decide_eq_false (show ¬ 0 ≤ k by omega)]
    rfl
  · have e2 := of_decide_eq_true e2
    unfold repE rkOk
    rw [decide_eq_false (show ¬ k ≤ 10 by omega), Bool.and_false]
    rfl
  have e1 := of_decide_eq_false e1
  have e2 := of_decide_eq_false e2
  have hko : rkOk k = true := by
    unfold rkOk
    rw [decide_eq_true (show 0 ≤ k by omega), decide_eq_true (show k ≤ 10 by omega)]
    rfl
  have hS : sameRB k k (Int.ofNat (a + 1)) (Int.ofNat (a + 1)) c (uTN k (Int.ofNat (a + 1)) c) (sameBB c.o (uTN k (Int.ofNat (a + 1)) c).o (eqSh (sbOf c.o) (sbOf (uTN k (Int.ofNat (a + 1)) c).o) && Nat.beq n 0)) (Nat.beq m 0) = ((!(k == 0) || c.id == 0) && sameRB k k (Int.ofNat (a + 1)) (Int.ofNat (a + 1)) (uRN (Int.ofNat (a + 1)) c) c (sameBB (uRN (Int.ofNat (a + 1)) c).o c.o (eqSh (sbOf (uRN (Int.ofNat (a + 1)) c).o) (sbOf c.o) && Nat.beq n 0)) (Nat.beq m 0)) := by
    rw [sameRB_comm, sameBB_comm, eqSh_comm]
    show sameRB k k (Int.ofNat (a + 1)) (Int.ofNat (a + 1)) ⟨bif k == 0 then 0 else c.id, 0, 0, bif (Int.ofNat (a + 1)) == 14 then c.ver else 0, 0, zBV, false, 0, false, 0, false, 0, false, 0⟩ c (sameBB zBV c.o (eqSh (sbOf zBV) (sbOf c.o) && Nat.beq n 0)) (Nat.beq m 0) = ((!(k == 0) || c.id == 0) && sameRB k k (Int.ofNat (a + 1)) (Int.ofNat (a + 1)) ⟨c.id, 0, 0, bif (Int.ofNat (a + 1)) == 14 then c.ver else 0, 0, zBV, false, 0, false, 0, false, 0, false, 0⟩ c (sameBB zBV c.o (eqSh (sbOf zBV) (sbOf c.o) && Nat.beq n 0)) (Nat.beq m 0))
    cases k == 0 with
    | false => rfl
    | true =>
      rw [cond_true]
      show _ = (c.id == 0 && _)
      cases hid : c.id == 0 with
      | true =>
        rw [Bool.true_and, beq_iff_eq.1 hid]
      | false =>
        rw [Bool.false_and]
        unfold sameRB
        simp only [show ((0 : Int) == c.id) = false from (bcI 0 c.id).trans hid, Bool.false_and, Bool.and_false]
  have hf : rForm k (Int.ofNat (a + 1)) c n g m h = ((!(k == 0) || (c.id == 0 && !((Int.ofNat (a + 1)) == 14))) && sameRB k k (Int.ofNat (a + 1)) (Int.ofNat (a + 1)) (uRN (Int.ofNat (a + 1)) c) c (sameBB (uRN (Int.ofNat (a + 1)) c).o c.o (eqSh (sbOf (uRN (Int.ofNat (a + 1)) c).o) (sbOf c.o) && Nat.beq n 0)) (Nat.beq m 0)) := by
    unfold rForm uRK
    rw [e_P a]
    rfl
  rw [hS]
  unfold repE
  rw [hko, hf]
  generalize sameRB k k (Int.ofNat (a + 1)) (Int.ofNat (a + 1)) (uRN (Int.ofNat (a + 1)) c) c (sameBB (uRN (Int.ofNat (a + 1)) c).o c.o (eqSh (sbOf (uRN (Int.ofNat (a + 1)) c).o) (sbOf c.o) && Nat.beq n 0)) (Nat.beq m 0) = s
  have pre : repPre k (Int.ofNat (a + 1)) c n n m m (fun y => [SV.v (.int .i64 (g (0 + y)).1), SV.v (.int .i64 (g (0 + y)).2)]) (fun y => [SV.v (.int .i64 (h (0 + y)).1), SV.v (.int .i64 (h (0 + y)).2)]) ∧ (0 ≤ k ∧ k ≤ 10) ∧ ((Int.ofNat (a + 1)) = 0 → 1 ≤ k) := ⟨⟨⟨pre_rows hn4 hg, pre_rows hm4 hh⟩, ⟨hc, hk, he⟩, hn, hm'⟩, ⟨by omega, by omega⟩, fun h0 => absurd h0 he0⟩
  have go : ∀ f : Bool, f = true → sel (rBad k (Int.ofNat (a + 1)) c n m (fun i => h (0 + i))) (SV.v (.int .i64 3) = iV (bif true then (bif f then (bif rBad k (Int.ofNat (a + 1)) c n m h then 3 else 0) else 4) else 8)) (SV.v (.int .i64 0) = iV (bif true then (bif f then (bif rBad k (Int.ofNat (a + 1)) c n m h then 3 else 0) else 4) else 8)) := fun f hf => by
    subst hf
    simp only [Nat.zero_add]
    exact sel_of (fun e => by rw [e]; rfl) fun e => by rw [e]; rfl
  cases s with
  | false =>
    rw [Bool.and_false, Bool.and_false]
    exact sel_of (fun _ => rfl) fun e => by cases e
  | true =>
    rw [Bool.and_true, Bool.and_true]
    cases h0 : k == 0 with
    | false => exact sel_of (fun e => by cases e) fun _ => sel_of (fun e => by cases e) fun _ => ⟨pre, go _ rfl⟩
    | true =>
      cases h1 : c.id == 0 with
      | false => exact sel_of (fun _ => rfl) fun e => by cases e
      | true =>
        refine sel_of (fun e => by cases e) fun _ => sel_of (fun _ => sel_of (fun h2 => ?_) fun h2 => ?_) fun e => by cases e
        · rw [h2]
          rfl
        · rw [h2]
          exact ⟨pre, go _ rfl⟩
theorem rch_M {k : Int} {a : Nat} {c : RV} {n cap m cp : Nat} {g h : Nat → Int × Int} (hc : rvOk c) (hn : n < 100) (hg : ∀ i, i < n → I64 (g i).1 ∧ I64 (g i).2) (hm' : m < 200) (hh : ∀ i, i < m → I64 (h i).1 ∧ I64 (h i).2) (hk : I64 k) (he : I64 (Int.negSucc a)) : vcFn Try.prog ΓRn noΛ Try.f35 [reS k (Int.negSucc a) c (.sl 0 2 0 n cap) (.sl 1 2 0 m cp)] (roHeap [⟨2, n, rowsP g⟩, ⟨2, m, rowsP h⟩]) 64 (fun y _ => y = iV (repE k (Int.negSucc a) c n g m h)) := by
  have hn4 : n < 1099511627776 := by omega
  have hm4 : m < 1099511627776 := by omega
  have he0 : (Int.negSucc a) ≠ 0 := fun hz => by have := e_M a; rw [hz] at this; cases this
  refine Eq.mpr (vcRChM k a c n cap m cp g h _) (sel_of (fun e1 => ?_) fun e1 => sel_of (fun e2 => ?_) fun e2 => ⟨⟨win_sp hn4 hg, win_sp hm4 hh⟩, ⟨pre_rows hn4 hg, pre_rows hm4 hh⟩, ?_⟩)
  · have e1 := of_decide_eq_true e1
    unfold repE rkOk
    rw [decide_eq_false (show ¬ 0 ≤ k by omega)]
    rfl
  · have e2 := of_decide_eq_true e2
    unfold repE rkOk
    rw [decide_eq_false (show ¬ k ≤ 10 by omega), Bool.and_false]
    rfl
  have e1 := of_decide_eq_false e1
  have e2 := of_decide_eq_false e2
  have hko : rkOk k = true := by
    unfold rkOk
    rw [decide_eq_true (show 0 ≤ k by omega), decide_eq_true (show k ≤ 10 by omega)]
    rfl
  have hS : sameRB k k (Int.negSucc a) (Int.negSucc a) c (uTN k (Int.negSucc a) c) (sameBB c.o (uTN k (Int.negSucc a) c).o (eqSh (sbOf c.o) (sbOf (uTN k (Int.negSucc a) c).o) && Nat.beq n 0)) (Nat.beq m 0) = ((!(k == 0) || c.id == 0) && sameRB k k (Int.negSucc a) (Int.negSucc a) (uRN (Int.negSucc a) c) c (sameBB (uRN (Int.negSucc a) c).o c.o (eqSh (sbOf (uRN (Int.negSucc a) c).o) (sbOf c.o) && Nat.beq n 0)) (Nat.beq m 0)) := by
    rw [sameRB_comm, sameBB_comm, eqSh_comm]
    show sameRB k k (Int.negSucc a) (Int.negSucc a) ⟨bif k == 0 then 0 else c.id, 0, 0, bif (Int.negSucc a) == 14 then c.ver else 0, 0, zBV, false, 0, false, 0, false, 0, false, 0⟩ c (sameBB zBV c.o (eqSh (sbOf zBV) (sbOf c.o) && Nat.beq n 0)) (Nat.beq m 0) = ((!(k == 0) || c.id == 0) && sameRB k k (Int.negSucc a) (Int.negSucc a) ⟨c.id, 0, 0, bif (Int.negSucc a) == 14 then c.ver else 0, 0, zBV, false, 0, false, 0, false, 0, false, 0⟩ c (sameBB zBV c.o (eqSh (sbOf zBV) (sbOf c.o) && Nat.beq n 0)) (Nat.beq m 0))
    cases k == 0 with
    | false => rfl
    | true =>
      rw [cond_true]
      show _ = (c.id == 0 && _)
      cases hid : c.id == 0 with
      | true =>
        rw [Bool.true_and, beq_iff_eq.1 hid]
      | false =>
        rw [Bool.false_and]
        unfold sameRB
        simp only [show ((0 : Int) == c.id) = false from (bcI 0 c.id).trans hid, Bool.false_and, Bool.and_false]
  have hf : rForm k (Int.negSucc a) c n g m h = ((!(k == 0) || (c.id == 0 && !((Int.negSucc a) == 14))) && sameRB k k (Int.negSucc a) (Int.negSucc a) (uRN (Int.negSucc a) c) c (sameBB (uRN (Int.negSucc a) c).o c.o (eqSh (sbOf (uRN (Int.negSucc a) c).o) (sbOf c.o) && Nat.beq n 0)) (Nat.beq m 0)) := by
    unfold rForm uRK
    rw [e_M a]
    rfl
  rw [hS]
  unfold repE
  rw [hko, hf]
  generalize sameRB k k (Int.negSucc a) (Int.negSucc a) (uRN (Int.negSucc a) c) c (sameBB (uRN (Int.negSucc a) c).o c.o (eqSh (sbOf (uRN (Int.negSucc a) c).o) (sbOf c.o) && Nat.beq n 0)) (Nat.beq m 0) = s
  have pre : repPre k (Int.negSucc a) c n n m m (fun y => [SV.v (.int .i64 (g (0 + y)).1), SV.v (.int .i64 (g (0 + y)).2)]) (fun y => [SV.v (.int .i64 (h (0 + y)).1), SV.v (.int .i64 (h (0 + y)).2)]) ∧ (0 ≤ k ∧ k ≤ 10) ∧ ((Int.negSucc a) = 0 → 1 ≤ k) := ⟨⟨⟨pre_rows hn4 hg, pre_rows hm4 hh⟩, ⟨hc, hk, he⟩, hn, hm'⟩, ⟨by omega, by omega⟩, fun h0 => absurd h0 he0⟩
  have go : ∀ f : Bool, f = true → sel (rBad k (Int.negSucc a) c n m (fun i => h (0 + i))) (SV.v (.int .i64 3) = iV (bif true then (bif f then (bif rBad k (Int.negSucc a) c n m h then 3 else 0) else 4) else 8)) (SV.v (.int .i64 0) = iV (bif true then (bif f then (bif rBad k (Int.negSucc a) c n m h then 3 else 0) else 4) else 8)) := fun f hf => by
    subst hf
    simp only [Nat.zero_add]
    exact sel_of (fun e => by rw [e]; rfl) fun e => by rw [e]; rfl
  cases s with
  | false =>
    rw [Bool.and_false, Bool.and_false]
    exact sel_of (fun _ => rfl) fun e => by cases e
  | true =>
    rw [Bool.and_true, Bool.and_true]
    cases h0 : k == 0 with
    | false => exact sel_of (fun e => by cases e) fun _ => sel_of (fun e => by cases e) fun _ => ⟨pre, go _ rfl⟩
    | true =>
      cases h1 : c.id == 0 with
      | false => exact sel_of (fun _ => rfl) fun e => by cases e
      | true =>
        rw [e_M14 a]
        exact sel_of (fun e => by cases e) fun _ => sel_of (fun _ => ⟨pre, go _ rfl⟩) fun e => by cases e
theorem rch_O {k e : Int} {c : RV} {n cap m cp : Nat} {g h : Nat → Int × Int} (hk : ¬ (0 ≤ k ∧ k ≤ 10)) : vcFn Try.prog noCtrs noΛ Try.f35 [reS k e c (.sl 0 2 0 n cap) (.sl 1 2 0 m cp)] (roHeap [⟨2, n, rowsP g⟩, ⟨2, m, rowsP h⟩]) 64 (fun y _ => y = iV (repE k e c n g m h)) := by
  refine Eq.mpr (vcRChO k e c n cap m cp g h _) (sel_of (fun e1 => ?_) fun e1 => sel_of (fun e2 => ?_) fun e2 => ?_)
  · have e1 := of_decide_eq_true e1
    unfold repE rkOk
    rw [decide_eq_false (show ¬ 0 ≤ k by omega)]
    rfl
  · have e2 := of_decide_eq_true e2
    unfold repE rkOk
    rw [decide_eq_false (show ¬ k ≤ 10 by omega), Bool.and_false]
    rfl
  · have e1 := of_decide_eq_false e1
    have e2 := of_decide_eq_false e2
    omega
def sRChI : List SV → List Ro → Option (Option Prop × SV)
  | [.agg l], [⟨2, n', r1⟩, ⟨2, m', r2⟩] => match cellsOfR l with
    | some (k, e, c, .sl 0 2 0 n _, .sl 1 2 0 m _) => bif rkOk k then some (some (repPre k e c n n' m m' r1 r2), iV (repE k e c n (fun i => gi (r1 i)) m fun i => gi (r2 i))) else none
    | _ => none
  | _, _ => none
theorem RChI_spec : RoSpec Try.prog 35 sRChI := ro_spec hm ΓRn_ok Try.func35 (Λ := fun _ _ => noΛ) fun args bs p x hs hp => by
  unfold sRChI at hs
  split at hs <;> try (cases hs; done)
  rename_i l n' r1 m' r2
  split at hs <;> try (cases hs; done)
  rename_i k e c n cap m cp hl
  obtain ⟨hko, hs⟩ := bif_some2' hs
  have hs := Option.some.inj hs
  obtain ⟨rfl, rfl⟩ := Prod.mk.inj hs
  obtain ⟨⟨⟨o1, e1, l1⟩, o2, e2, l2⟩, ⟨hc, ik, ie⟩, hn, hm'⟩ := hp _ rfl
  subst e1 e2
  have o1 := okAll_rows.1 o1
  have o2 := okAll_rows.1 o2
  refine ⟨rfl, [⟨2, _, rowsP fun i => gi (r1 i)⟩, ⟨2, _, rowsP fun i => gi (r2 i)⟩], ⟨⟨rfl, rfl, fun i hi => (isPI_row (o1 i hi)).1⟩, ⟨rfl, rfl, fun i hi => (isPI_row (o2 i hi)).1⟩, trivial⟩, ?_⟩
  rw [reps_eq hl]
  have hg := fun i hi => (isPI_row (o1 i hi)).2
  have hh := fun i hi => (isPI_row (o2 i hi)).2
  have hk := rk_in hko
  cases e with
  | ofNat e =>
    cases e with
    | zero =>
      have hk' : k = 0 ∨ k = 1 ∨ k = 2 ∨ k = 3 ∨ k = 4 ∨ k = 5 ∨ k = 6 ∨ k = 7 ∨ k = 8 ∨ k = 9 ∨ k = 10 := by omega
      rcases hk' with x | x | x | x | x | x | x | x | x | x | x <;> subst x
      · exact rch_0 hc hn hg hm' hh
      · exact rch_1 hc hn hg hm' hh
      · exact rch_2 hc hn hg hm' hh
      · exact rch_3 hc hn hg hm' hh
      · exact rch_4 hc hn hg hm' hh
      · exact rch_5 hc hn hg hm' hh
      · exact rch_6 hc hn hg hm' hh
      · exact rch_7 hc hn hg hm' hh
      · exact rch_8 hc hn hg hm' hh
      · exact rch_9 hc hn hg hm' hh
      · exact rch_10 hc hn hg hm' hh
    | succ a => exact rch_P hc hn hg hm' hh ik ie
  | negSucc a => exact rch_M hc hn hg hm' hh ik ie
def sRChO : List SV → List Ro → Option (Option Prop × SV)
  | [.agg l], [⟨2, n', r1⟩, ⟨2, m', r2⟩] => match cellsOfR l with
    | some (k, e, c, .sl 0 2 0 n _, .sl 1 2 0 m _) => bif rkOk k then none else some (some (repPre k e c n n' m m' r1 r2), iV (repE k e c n (fun i => gi (r1 i)) m fun i => gi (r2 i)))
    | _ => none
  | _, _ => none
theorem RChO_spec : RoSpec Try.prog 35 sRChO := ro_spec hm noCtrs_ok Try.func35 (Λ := fun _ _ => noΛ) fun args bs p x hs hp => by
  unfold sRChO at hs
  split at hs <;> try (cases hs; done)
  rename_i l n' r1 m' r2
  split at hs <;> try (cases hs; done)
  rename_i k e c n cap m cp hl
  obtain ⟨hko, hs⟩ := bif_no hs
  have hs := Option.some.inj hs
  obtain ⟨rfl, rfl⟩ := Prod.mk.inj hs
  obtain ⟨⟨⟨o1, e1, l1⟩, o2, e2, l2⟩, ⟨hc, ik, ie⟩, hn, hm'⟩ := hp _ rfl
  subst e1 e2
  have o1 := okAll_rows.1 o1
  have o2 := okAll_rows.1 o2
  refine ⟨rfl, [⟨2, _, rowsP fun i => gi (r1 i)⟩, ⟨2, _, rowsP fun i => gi (r2 i)⟩], ⟨⟨rfl, rfl, fun i hi => (isPI_row (o1 i hi)).1⟩, ⟨rfl, rfl, fun i hi => (isPI_row (o2 i hi)).1⟩, trivial⟩, ?_⟩
  rw [reps_eq hl]
  exact rch_O (rk_out hko)
theorem RCheckR_spec : RoSpec Try.prog 35 sCheckR := ro_split' RChI_spec RChO_spec fun args rs p h => by
  unfold sCheckR at h
  split at h <;> try (cases h; done)
  rename_i l n' r1 m' r2
  split at h <;> try (cases h; done)
  rename_i k e c n cap m cp hl
  cases hk : rkOk k with
  | true =>
    left
    unfold sRChI
    simp only [hl, hk, cond_true]
    exact h
  | false =>
    right
    unfold sRChO
    simp only [hl, hk, cond_false]
    exact h
theorem ΓRq_ok : ∀ f g, ΓRq f = some g → g.ok Try.prog f := addCtr_ok (addCtr_ok noCtrs_ok (ro_ok Try.func35 (by kernel_rfl) (by kernel_rfl) RCheckR_spec)) (ro_ok Try.func79 (by kernel_rfl) (by kernel_rfl) RRw_spec)
theorem boLl (b : BV) (n : Nat) (x y : Nat → Int) : (boL b n x y).length = boN n := by
  unfold boL boT boN
  simp only [List.length_append, hLl, i8l, c4l, numl, vecl, poBl, voBl, wmBl, shLl, hsL_len, List.length_cons, List.length_nil, flB_len]
theorem rT1_len (c : RV) (n : Nat) (x y : Nat → Int) (m : Nat) (u v : Nat → Int) : (rT1 c n x y m u v).length = rN1 n m := by
  unfold rT1 rN1
  first | rfl | (simp only [boLl, List.length_append, hLl, i8l, c4l, numl, vecl, poBl, voBl, wmBl, shLl, hsL_len, List.length_cons, List.length_nil, flB_len]; done) | (simp only [boLl, List.length_append, hLl, i8l, c4l, numl, vecl, poBl, voBl, wmBl, shLl, hsL_len, List.length_cons, List.length_nil, flB_len]; omega)
theorem rT2_len (c : RV) (n : Nat) (x y : Nat → Int) (m : Nat) (u v : Nat → Int) : (rT2 c n x y m u v).length = rN2 n m := by
  unfold rT2 rN2
  first | rfl | (simp only [boLl, List.length_append, hLl, i8l, c4l, numl, vecl, poBl, voBl, wmBl, shLl, hsL_len, List.length_cons, List.length_nil, flB_len]; done) | (simp only [boLl, List.length_append, hLl, i8l, c4l, numl, vecl, poBl, voBl, wmBl, shLl, hsL_len, List.length_cons, List.length_nil, flB_len]; omega)
theorem rT3_len (c : RV) (n : Nat) (x y : Nat → Int) (m : Nat) (u v : Nat → Int) : (rT3 c n x y m u v).length = rN3 n m := by
  unfold rT3 rN3
  first | rfl | (simp only [boLl, List.length_append, hLl, i8l, c4l, numl, vecl, poBl, voBl, wmBl, shLl, hsL_len, List.length_cons, List.length_nil, flB_len]; done) | (simp only [boLl, List.length_append, hLl, i8l, c4l, numl, vecl, poBl, voBl, wmBl, shLl, hsL_len, List.length_cons, List.length_nil, flB_len]; omega)
theorem rT4_len (c : RV) (n : Nat) (x y : Nat → Int) (m : Nat) (u v : Nat → Int) : (rT4 c n x y m u v).length = rN4 n m := by
  unfold rT4 rN4
  first | rfl | (simp only [boLl, List.length_append, hLl, i8l, c4l, numl, vecl, poBl, voBl, wmBl, shLl, hsL_len, List.length_cons, List.length_nil, flB_len]; done) | (simp only [boLl, List.length_append, hLl, i8l, c4l, numl, vecl, poBl, voBl, wmBl, shLl, hsL_len, List.length_cons, List.length_nil, flB_len]; omega)
theorem rT5_len (c : RV) (n : Nat) (x y : Nat → Int) (m : Nat) (u v : Nat → Int) : (rT5 c n x y m u v).length = rN5 n m := by
  unfold rT5 rN5
  first | rfl | (simp only [boLl, List.length_append, hLl, i8l, c4l, numl, vecl, poBl, voBl, wmBl, shLl, hsL_len, List.length_cons, List.length_nil, flB_len]; done) | (simp only [boLl, List.length_append, hLl, i8l, c4l, numl, vecl, poBl, voBl, wmBl, shLl, hsL_len, List.length_cons, List.length_nil, flB_len]; omega)
theorem rT6_len (c : RV) (n : Nat) (x y : Nat → Int) (m : Nat) (u v : Nat → Int) : (rT6 c n x y m u v).length = rN6 n m := by
  unfold rT6 rN6
  first | rfl | (simp only [boLl, List.length_append, hLl, i8l, c4l, numl, vecl, poBl, voBl, wmBl, shLl, hsL_len, List.length_cons, List.length_nil, flB_len]; done) | (simp only [boLl, List.length_append, hLl, i8l, c4l, numl, vecl, poBl, voBl, wmBl, shLl, hsL_len, List.length_cons, List.length_nil, flB_len]; omega)
theorem rT7_len (c : RV) (n : Nat) (x y : Nat → Int) (m : Nat) (u v : Nat → Int) : (rT7 c n x y m u v).length = rN7 n m := by
  unfold rT7 rN7
  first | rfl | (simp only [boLl, List.length_append, hLl, i8l, c4l, numl, vecl, poBl, voBl, wmBl, shLl, hsL_len, List.length_cons, List.length_nil, flB_len]; done) | (simp only [boLl, List.length_append, hLl, i8l, c4l, numl, vecl, poBl, voBl, wmBl, shLl, hsL_len, List.length_cons, List.length_nil, flB_len]; omega)
theorem rT8_len (c : RV) (n : Nat) (x y : Nat → Int) (m : Nat) (u v : Nat → Int) : (rT8 c n x y m u v).length = rN8 n m := by
  unfold rT8 rN8
  first | rfl | (simp only [boLl, List.length_append, hLl, i8l, c4l, numl, vecl, poBl, voBl, wmBl, shLl, hsL_len, List.length_cons, List.length_nil, flB_len]; done) | (simp only [boLl, List.length_append, hLl, i8l, c4l, numl, vecl, poBl, voBl, wmBl, shLl, hsL_len, List.length_cons, List.length_nil, flB_len]; omega)
theorem rT9_len (c : RV) (n : Nat) (x y : Nat → Int) (m : Nat) (u v : Nat → Int) : (rT9 c n x y m u v).length = rN9 n m := by
  unfold rT9 rN9
  first | rfl | (simp only [boLl, List.length_append, hLl, i8l, c4l, numl, vecl, poBl, voBl, wmBl, shLl, hsL_len, List.length_cons, List.length_nil, flB_len]; done) | (simp only [boLl, List.length_append, hLl, i8l, c4l, numl, vecl, poBl, voBl, wmBl, shLl, hsL_len, List.length_cons, List.length_nil, flB_len]; omega)
theorem rT10_len (c : RV) (n : Nat) (x y : Nat → Int) (m : Nat) (u v : Nat → Int) : (rT10 c n x y m u v).length = rN10 n m := by
  unfold rT10 rN10
  first | rfl | (simp only [boLl, List.length_append, hLl, i8l, c4l, numl, vecl, poBl, voBl, wmBl, shLl, hsL_len, List.length_cons, List.length_nil, flB_len]; done) | (simp only [boLl, List.length_append, hLl, i8l, c4l, numl, vecl, poBl, voBl, wmBl, shLl, hsL_len, List.length_cons, List.length_nil, flB_len]; omega)
theorem rTK_len {k e : Int} (hk : e = 0 → 1 ≤ k ∧ k ≤ 10) (c : RV) (n : Nat) (x y : Nat → Int) (m : Nat) (u v : Nat → Int) : (rTK k e c n x y m u v).length = rNK k e n m := by
  by_cases h0 : e = 0
  · subst h0
    have hk := hk rfl
    have hk' : k = 1 ∨ k = 2 ∨ k = 3 ∨ k = 4 ∨ k = 5 ∨ k = 6 ∨ k = 7 ∨ k = 8 ∨ k = 9 ∨ k = 10 := by omega
    rcases hk' with z | z | z | z | z | z | z | z | z | z <;> subst z
    · exact rT1_len c n x y m u v
    · exact rT2_len c n x y m u v
    · exact rT3_len c n x y m u v
    · exact rT4_len c n x y m u v
    · exact rT5_len c n x y m u v
    · exact rT6_len c n x y m u v
    · exact rT7_len c n x y m u v
    · exact rT8_len c n x y m u v
    · exact rT9_len c n x y m u v
    · exact rT10_len c n x y m u v
  · unfold rTK rNK
    rw [show (e == 0) = false by simpa using h0, cond_false, cond_false]
    cases e == 14
    · rfl
    · exact i8l _
theorem repBs_eq {k e : Int} (hk : e = 0 → 1 ≤ k ∧ k ≤ 10) (c : RV) (n : Nat) (g : Nat → Int × Int) (m : Nat) (h : Nat → Int × Int) : repBs k e c n g m h = strOfNums (repL k e c n g m h) := by
  unfold repBs
  have hl : (repL k e c n g m h).length = 6 + rNK k e n m := by
    unfold repL rpL
    simp only [List.length_append, c4l, rTK_len hk, List.length_cons, List.length_nil]
    omega
  rw [strOf_lst]
  congr 1
  have := lstG_list (repL k e c n g m h)
  rw [hl] at this
  exact this
theorem stp_none {u v : Nat → Int} {m : Nat} (h : anyH u v m = false) : stp u v m = m := by
  refine stp_exit (Nat.le_refl _) ?_ (.inl rfl)
  by_cases h0 : m = 0
  · exact .inl h0
  · refine .inr ?_
    cases hA : anyH u v (m - 1) with
    | false => rfl
    | true =>
      rw [anyH_mono hA (m := m) (by omega)] at h
      cases h
theorem notIn_r {x m : Int} (h : notIn x m = false) : 0 ≤ x ∧ x ≤ m := by
  unfold notIn at h
  have h : (decide (0 ≤ x) && decide (x ≤ m)) = true := not_f h
  rw [Bool.and_eq_true] at h
  exact ⟨of_decide_eq_true h.1, of_decide_eq_true h.2⟩
theorem r7_ok {c : RV} {n : Nat} {g : Nat → Int × Int} {m : Nat} {h : Nat → Int × Int} (hb : rBad 7 0 c n m h = false) : r7S c n (fun i => (g i).1) (fun i => (g i).2) = strOfNums (repL 7 0 c n g m h) := by
  have hb : rpB 0 c (rB7 c n m (fun i => (h i).1) (fun i => (h i).2)) = false := hb
  simp only [rpB, rB7, Bool.or_eq_false_iff] at hb
  obtain ⟨h1, -, h2, h3⟩ := hb
  have h4 := h3
  simp only [boBad, shBad, Bool.or_eq_false_iff] at h4
  have h5 := h4.1
  have hB : (notIn c.id 2147483647 || hBad c.bs c.bg || shBad c.o.sk n) = false := by
    unfold shBad
    rw [h1, h2, h5.1, h5.2]
    rfl
  have hn : Nat.ble n 8 = true := by
    have := notIn_r h5.2
    exact Nat.ble_eq_true_of_le (by omega)
  unfold r7S rBoS rShS
  rw [hB, cond_false, emp_app, str_append, str_append, str_append, str_append, str_append, str_append]
  congr 1
  have hL : repL 7 0 c n g m h = [7 % 256] ++ (c4 c.id ++ ([0 % 256] ++ (hL c.bs c.bg ++ boL c.o n (fun i => (g i).1) (fun i => (g i).2)))) := rfl
  rw [hL]
  unfold boL shL hdS
  rw [hn, cond_true]
  simp only [List.append_assoc]
  rfl
theorem r8_ok {c : RV} {n : Nat} {g : Nat → Int × Int} {m : Nat} {h : Nat → Int × Int} (hb : rBad 8 0 c n m h = false) : r8S c m (fun i => (h i).1) (fun i => (h i).2) = strOfNums (repL 8 0 c n g m h) := by
  have hb : rpB 0 c (rB8 c n m (fun i => (h i).1) (fun i => (h i).2)) = false := hb
  simp only [rpB, rB8, Bool.or_eq_false_iff] at hb
  obtain ⟨h1, -, h2, h3⟩ := hb
  unfold r8S
  rw [h1, h2, Bool.or_false, cond_false, stp_none h3, str_append]
  congr 1
theorem rwS_ok {k e : Int} {c : RV} {n : Nat} {g : Nat → Int × Int} {m : Nat} {h : Nat → Int × Int} (hk : e = 0 → 1 ≤ k ∧ k ≤ 10) (hb : rBad k e c n m h = false) : rwS k e c n g m h = repBs k e c n g m h := by
  rw [repBs_eq hk]
  unfold rwS
  by_cases h0 : e = 0
  · subst h0
    by_cases h7 : k = 7
    · subst h7
      exact r7_ok hb
    · by_cases h8 : k = 8
      · subst h8
        exact r8_ok hb
      · rw [show (k == 7) = false by simpa using h7, show (k == 8) = false by simpa using h8]
        rfl
  · rw [show (e == 0) = false by simpa using h0]
    rfl
theorem repT_err {k e : Int} {c : RV} {n : Nat} {g : Nat → Int × Int} {m : Nat} {h : Nat → Int × Int} (hE : repE k e c n g m h ≠ 0) : repT k e c n g m h = emp := by
  unfold repE at hE
  unfold repT
  cases h1 : rkOk k with
  | false => rfl
  | true =>
    rw [h1] at hE
    cases h2 : rForm k e c n g m h with
    | false => rfl
    | true =>
      rw [h2] at hE
      cases h3 : rBad k e c n m h with
      | true => rfl
      | false => rw [h3] at hE; exact absurd rfl hE
theorem repE0 {k e : Int} {c : RV} {n : Nat} {g : Nat → Int × Int} {m : Nat} {h : Nat → Int × Int} (hE : repE k e c n g m h = 0) : (0 ≤ k ∧ k ≤ 10) ∧ (e = 0 → 1 ≤ k ∧ k ≤ 10) ∧ rForm k e c n g m h = true ∧ rBad k e c n m h = false := by
  unfold repE at hE
  cases h1 : rkOk k with
  | false => rw [h1] at hE; cases hE
  | true =>
    rw [h1] at hE
    cases h2 : rForm k e c n g m h with
    | false => rw [h2] at hE; cases hE
    | true =>
      rw [h2] at hE
      cases h3 : rBad k e c n m h with
      | true => rw [h3] at hE; cases hE
      | false =>
        have hk := rk_in h1
        refine ⟨hk, fun h0 => ?_, rfl, rfl⟩
        unfold rForm at h2
        rw [Bool.and_eq_true] at h2
        have h2 := h2.1
        by_cases hk0 : k = 0
        · subst hk0 h0
          rw [show (!((0 : Int) == 0)) = false from rfl, Bool.false_and, Bool.and_false] at h2
          cases h2
        · omega
theorem repT_ok {k e : Int} {c : RV} {n : Nat} {g : Nat → Int × Int} {m : Nat} {h : Nat → Int × Int} (hE : repE k e c n g m h = 0) : repT k e c n g m h = repBs k e c n g m h := by
  obtain ⟨h1, _, h2, h3⟩ := repE0 hE
  unfold repT rkOk
  rw [decide_eq_true h1.1, decide_eq_true h1.2, h2, h3]
  rfl
theorem RRepG_spec : RoSpec Try.prog 33 sRepG := ro_spec hm ΓRq_ok Try.func33 (Λ := fun _ _ => noΛ) fun args bs p x hs hp => by
  unfold sRepG at hs
  split at hs <;> try (cases hs; done)
  rename_i l n' r1 m' r2
  split at hs <;> try (cases hs; done)
  rename_i k e c n cap m cp hl
  have hs := Option.some.inj hs
  obtain ⟨rfl, rfl⟩ := Prod.mk.inj hs
  obtain ⟨⟨⟨o1, e1, l1⟩, o2, e2, l2⟩, ⟨hc, ik, ie⟩, hn, hm'⟩ := hp _ rfl
  subst e1 e2
  have o1 := okAll_rows.1 o1
  have o2 := okAll_rows.1 o2
  refine ⟨rfl, [⟨2, _, rowsP fun i => gi (r1 i)⟩, ⟨2, _, rowsP fun i => gi (r2 i)⟩], ⟨⟨rfl, rfl, fun i hi => (isPI_row (o1 i hi)).1⟩, ⟨rfl, rfl, fun i hi => (isPI_row (o2 i hi)).1⟩, trivial⟩, ?_⟩
  have hg := fun i hi => (isPI_row (o1 i hi)).2
  have hh := fun i hi => (isPI_row (o2 i hi)).2
  rw [reps_eq hl, vcRRep, gi_rows0 fun i => gi (r1 i), gi_rows0 fun i => gi (r2 i)]
  have pre : repPre k e c n' n' m' m' (fun y => [SV.v (.int .i64 (gi (r1 (0 + y))).1), SV.v (.int .i64 (gi (r1 (0 + y))).2)]) (fun y => [SV.v (.int .i64 (gi (r2 (0 + y))).1), SV.v (.int .i64 (gi (r2 (0 + y))).2)]) := ⟨⟨pre_rows l1 hg, pre_rows l2 hh⟩, ⟨hc, ik, ie⟩, hn, hm'⟩
  refine ⟨pre, sel_of (fun e1 => ?_) fun e1 => ?_⟩
  · have e1 : repE k e c n' (fun i => gi (r1 i)) m' (fun i => gi (r2 i)) ≠ 0 := by simpa using e1
    show SV.tup [strS _, _] = SV.tup [strS _, _]
    rw [repT_err e1]
    rfl
  · have e1 : repE k e c n' (fun i => gi (r1 i)) m' (fun i => gi (r2 i)) = 0 := by simpa using e1
    obtain ⟨h1, h2, h3, h4⟩ := repE0 e1
    refine ⟨⟨pre, h1, fun h0 => (h2 h0).1⟩, ?_⟩
    show SV.tup [strS _, iV 0] = SV.tup [strS _, iV _]
    rw [rwS_ok h2 h4, repT_ok e1, e1]
end Go.Proofs.Ytjdldadmaaeimaa
end

section
set_option maxRecDepth 100000
set_option linter.unusedSimpArgs false
set_option linter.unusedVariables false
namespace Go.Proofs.Ytjdldadmaaeimaa
open Go.SE Go.RowKit

def zBody : List SV := zShape ++ (zN ++ zN ++ zN ++ zN) ++ (zN ++ zN) ++ zN ++ (zN ++ zN) ++ [iV 0, bV false, bV false, iV 0]
def zBo : SV := .agg zBody
def repC : SV := .agg ([iV 10, iV 7, iV 0, iV 0, iV 0, iV 0, iV 0] ++ zBody ++ [nilS] ++ [bV false] ++ zN ++ (zN ++ zN) ++ [iV 3])
def repLs : List Int := [10] ++ (c4 7 ++ ([0] ++ c4 3))
def ΓK0 : Ctrs := addCtr noCtrs 72 (pureCtr (sAt [zSh, zSh] (bV true)))
def ΓK1 : Ctrs := addCtr (addCtr noCtrs 81 (pureCtr (sAt [zBo, zBo] (bV true)))) 82 (pureCtr (sAt [nilS, nilS] (bV true)))
theorem vcShownR (R : SV→Prop) : (vcPure Try.prog noCtrs noΛ Try.f77 [repC] R) = (R (SV.agg [(SV.v (.int .i64 10)),(SV.v (.int .i64 7)),(SV.v (.int .i64 0)),(SV.v (.int .i64 0)),(SV.v (.int .i64 0)),(SV.v (.int .i64 0)),(SV.v (.int .i64 0)),(SV.v (.int .i64 0)),(SV.v (.int .i64 0)),(SV.v (.int .i64 0)),(SV.v (.int .i64 0)),(SV.v (Value.slice none 0 0)),(SV.v (.int .i64 0)),(SV.v (.bool false)),(SV.v (.int .i64 0)),(SV.v (.bool false)),(SV.v (.int .i64 0)),(SV.v (.bool false)),(SV.v (.int .i64 0)),(SV.v (.bool false)),(SV.v (.int .i64 0)),(SV.v (.bool false)),(SV.v (.int .i64 0)),(SV.v (.bool false)),(SV.v (.int .i64 0)),(SV.v (.bool false)),(SV.v (.int .i64 0)),(SV.v (.bool false)),(SV.v (.int .i64 0)),(SV.v (.bool false)),(SV.v (.int .i64 0)),(SV.v (.bool false)),(SV.v (.bool false)),(SV.v (.int .i64 0)),(SV.v (Value.slice none 0 0)),(SV.v (.bool false)),(SV.v (.int .i64 0)),(SV.v (.bool false)),(SV.v (.int .i64 0)),(SV.v (.bool false)),(SV.v (.int .i64 0)),(SV.v (.bool false)),(SV.v (.int .i64 3))])):=by kernel_rfl
theorem vcEqH (R : SV→Prop) : (vcPure Try.prog noCtrs (ΛZ Try.f82 13) Try.f82 [nilS,nilS] R) = ((∃ x : Nat,(((x : Nat) = 0)∧(((SV.v (.int .i64 0)) = (SV.v (.int .i64 ((↑x : Int)))))∧True)))∧(∀ x : Nat,(((x : Nat) = 0)→(R (SV.v (.bool true)))))):=by kernel_rfl
theorem vcSameBoZ (R : SV→Prop) : (vcPure Try.prog ΓK0 noΛ Try.f81 [zBo,zBo] R) = (([(SV.agg [(SV.v (.int .i64 0)),(SV.v (.int .i64 0)),(SV.v (.int .i64 0)),(SV.v (.int .i64 0)),(SV.v (Value.slice none 0 0))]),(SV.agg [(SV.v (.int .i64 0)),(SV.v (.int .i64 0)),(SV.v (.int .i64 0)),(SV.v (.int .i64 0)),(SV.v (Value.slice none 0 0))])] = [(SV.agg [(SV.v (.int .i64 0)),(SV.v (.int .i64 0)),(SV.v (.int .i64 0)),(SV.v (.int .i64 0)),(SV.v (Value.slice none 0 0))]),(SV.agg [(SV.v (.int .i64 0)),(SV.v (.int .i64 0)),(SV.v (.int .i64 0)),(SV.v (.int .i64 0)),(SV.v (Value.slice none 0 0))])])∧(R (SV.v (.bool true)))):=by kernel_rfl
theorem vcSameRep (R : SV→Prop) : (vcPure Try.prog ΓK1 noΛ Try.f36 [repC,repC] R) = (([(SV.agg [(SV.v (.int .i64 0)),(SV.v (.int .i64 0)),(SV.v (.int .i64 0)),(SV.v (.int .i64 0)),(SV.v (Value.slice none 0 0)),(SV.v (.int .i64 0)),(SV.v (.bool false)),(SV.v (.int .i64 0)),(SV.v (.bool false)),(SV.v (.int .i64 0)),(SV.v (.bool false)),(SV.v (.int .i64 0)),(SV.v (.bool false)),(SV.v (.int .i64 0)),(SV.v (.bool false)),(SV.v (.int .i64 0)),(SV.v (.bool false)),(SV.v (.int .i64 0)),(SV.v (.bool false)),(SV.v (.int .i64 0)),(SV.v (.bool false)),(SV.v (.int .i64 0)),(SV.v (.bool false)),(SV.v (.int .i64 0)),(SV.v (.bool false)),(SV.v (.bool false)),(SV.v (.int .i64 0))]),(SV.agg [(SV.v (.int .i64 0)),(SV.v (.int .i64 0)),(SV.v (.int .i64 0)),(SV.v (.int .i64 0)),(SV.v (Value.slice none 0 0)),(SV.v (.int .i64 0)),(SV.v (.bool false)),(SV.v (.int .i64 0)),(SV.v (.bool false)),(SV.v (.int .i64 0)),(SV.v (.bool false)),(SV.v (.int .i64 0)),(SV.v (.bool false)),(SV.v (.int .i64 0)),(SV.v (.bool false)),(SV.v (.int .i64 0)),(SV.v (.bool false)),(SV.v (.int .i64 0)),(SV.v (.bool false)),(SV.v (.int .i64 0)),(SV.v (.bool false)),(SV.v (.int .i64 0)),(SV.v (.bool false)),(SV.v (.int .i64 0)),(SV.v (.bool false)),(SV.v (.bool false)),(SV.v (.int .i64 0))])] = [(SV.agg [(SV.v (.int .i64 0)),(SV.v (.int .i64 0)),(SV.v (.int .i64 0)),(SV.v (.int .i64 0)),(SV.v (Value.slice none 0 0)),(SV.v (.int .i64 0)),(SV.v (.bool false)),(SV.v (.int .i64 0)),(SV.v (.bool false)),(SV.v (.int .i64 0)),(SV.v (.bool false)),(SV.v (.int .i64 0)),(SV.v (.bool false)),(SV.v (.int .i64 0)),(SV.v (.bool false)),(SV.v (.int .i64 0)),(SV.v (.bool false)),(SV.v (.int .i64 0)),(SV.v (.bool false)),(SV.v (.int .i64 0)),(SV.v (.bool false)),(SV.v (.int .i64 0)),(SV.v (.bool false)),(SV.v (.int .i64 0)),(SV.v (.bool false)),(SV.v (.bool false)),(SV.v (.int .i64 0))]),(SV.agg [(SV.v (.int .i64 0)),(SV.v (.int .i64 0)),(SV.v (.int .i64 0)),(SV.v (.int .i64 0)),(SV.v (Value.slice none 0 0)),(SV.v (.int .i64 0)),(SV.v (.bool false)),(SV.v (.int .i64 0)),(SV.v (.bool false)),(SV.v (.int .i64 0)),(SV.v (.bool false)),(SV.v (.int .i64 0)),(SV.v (.bool false)),(SV.v (.int .i64 0)),(SV.v (.bool false)),(SV.v (.int .i64 0)),(SV.v (.bool false)),(SV.v (.int .i64 0)),(SV.v (.bool false)),(SV.v (.int .i64 0)),(SV.v (.bool false)),(SV.v (.int .i64 0)),(SV.v (.bool false)),(SV.v (.int .i64 0)),(SV.v (.bool false)),(SV.v (.bool false)),(SV.v (.int .i64 0))])])∧(([(SV.v (Value.slice none 0 0)),(SV.v (Value.slice none 0 0))] = [(SV.v (Value.slice none 0 0)),(SV.v (Value.slice none 0 0))])∧(R (SV.v (.bool true))))):=by kernel_rfl
def ΓK3 : Ctrs := addCtr ΓG0 118 (hpCtr true sSmall)
theorem vcReplyR (b : Bool) : (vcFn Try.prog ΓK3 noΛ Try.f78 [.vp 0 0,repC] (heapOf (fB (some b))) 64 (fun y h' => FinE (fB (some b)) (apE (.fresh (some b)) 0 True 10 repLs false) y h')) = ((I64 10)∧(∀ c : Nat,((((bytesOk 1 (1 + c) {elem:=5,size:=1,rw:=true,lock:=false,lit:=false,flat:=true,n:=1,row:=fun i => [SV.v (.int .u8 ((fun i => List.getD [10] i 0) i))],ext:=1 + c})∧((1 : Nat) ≤ M0))∧(I64 7))∧(∀ c_1 : Nat,((((bytesOk 5 (5 + c_1) {elem:=5,size:=1,rw:=true,lock:=false,lit:=false,flat:=true,n:=5,row:=fun i => [SV.v (.int .u8 (apG 1 (fun i => SE.byteOf [SV.v (.int .u8 ((fun i => List.getD [10] i 0) i))]) (be 7 4) i))],ext:=5 + c_1})∧((5 : Nat) ≤ M0))∧(I64 0))∧(∀ c_2 : Nat,((((bytesOk 6 (6 + c_2) {elem:=5,size:=1,rw:=true,lock:=false,lit:=false,flat:=true,n:=6,row:=fun i => [SV.v (.int .u8 (apG 5 (fun i => SE.byteOf [SV.v (.int .u8 (apG 1 (fun i => SE.byteOf [SV.v (.int .u8 ((fun i => List.getD [10] i 0) i))]) (be 7 4) i))]) [0] i))],ext:=6 + c_2})∧((6 : Nat) ≤ M0))∧(I64 3))∧(∀ c_3 : Nat,(∃ c_4 : Nat,(True∧((((1 : Nat) = 1)∧(((1 : Nat) ≤ 1)∧(((SV.sl 464 1 0 10 (10 + c_3)) = (SV.sl 464 1 0 10 (10 + c_4)))∧((SV.v (.bool (b||false||false||false||false))) = (SV.v (.bool (b||false)))))))∧(((10 : Nat) = 10)∧((((10 + c_4) : Nat) ≤ (10 + c_3))∧(∀ i : Nat,(((i : Nat) < 10)→([(SV.v (.int .u8 (apG 6 (fun i => SE.byteOf [SV.v (.int .u8 (apG 5 (fun i => SE.byteOf [SV.v (.int .u8 (apG 1 (fun i => SE.byteOf [SV.v (.int .u8 ((fun i => List.getD [10] i 0) i))]) (be 7 4) i))]) [0] i))]) (be 3 4) i)))] = [(SV.v (.int .u8 (List.getD repLs i 0)))])))))))))))))))):=by kernel_rfl
def sReplyR (args : List SV) (bs : List Blk) : Option Eff := match args with
  | [.vp 0 0, x] => match wrOf bs with
    | some (.fresh (some b)) => some (apE (.fresh (some b)) 0 (x = repC) 10 repLs false)
    | _ => none
  | _ => none
def ΓK2 : Ctrs := addCtr (addCtr (addCtr (addCtr noCtrs 77 (pureCtr (sAt [repC] repC))) 36 (pureCtr (sAt [repC, repC] (bV true)))) 78 (hpCtr true sReplyR)) 71 (hpCtr true sDoneX)
theorem vcReply (R : SV→Prop) : (vcPure Try.prog ΓK2 noΛ Try.f32 [repC] R) = (([(SV.agg [(SV.v (.int .i64 10)),(SV.v (.int .i64 7)),(SV.v (.int .i64 0)),(SV.v (.int .i64 0)),(SV.v (.int .i64 0)),(SV.v (.int .i64 0)),(SV.v (.int .i64 0)),(SV.v (.int .i64 0)),(SV.v (.int .i64 0)),(SV.v (.int .i64 0)),(SV.v (.int .i64 0)),(SV.v (Value.slice none 0 0)),(SV.v (.int .i64 0)),(SV.v (.bool false)),(SV.v (.int .i64 0)),(SV.v (.bool false)),(SV.v (.int .i64 0)),(SV.v (.bool false)),(SV.v (.int .i64 0)),(SV.v (.bool false)),(SV.v (.int .i64 0)),(SV.v (.bool false)),(SV.v (.int .i64 0)),(SV.v (.bool false)),(SV.v (.int .i64 0)),(SV.v (.bool false)),(SV.v (.int .i64 0)),(SV.v (.bool false)),(SV.v (.int .i64 0)),(SV.v (.bool false)),(SV.v (.int .i64 0)),(SV.v (.bool false)),(SV.v (.bool false)),(SV.v (.int .i64 0)),(SV.v (Value.slice none 0 0)),(SV.v (.bool false)),(SV.v (.int .i64 0)),(SV.v (.bool false)),(SV.v (.int .i64 0)),(SV.v (.bool false)),(SV.v (.int .i64 0)),(SV.v (.bool false)),(SV.v (.int .i64 3))])] = [(SV.agg [(SV.v (.int .i64 10)),(SV.v (.int .i64 7)),(SV.v (.int .i64 0)),(SV.v (.int .i64 0)),(SV.v (.int .i64 0)),(SV.v (.int .i64 0)),(SV.v (.int .i64 0)),(SV.v (.int .i64 0)),(SV.v (.int .i64 0)),(SV.v (.int .i64 0)),(SV.v (.int .i64 0)),(SV.v (Value.slice none 0 0)),(SV.v (.int .i64 0)),(SV.v (.bool false)),(SV.v (.int .i64 0)),(SV.v (.bool false)),(SV.v (.int .i64 0)),(SV.v (.bool false)),(SV.v (.int .i64 0)),(SV.v (.bool false)),(SV.v (.int .i64 0)),(SV.v (.bool false)),(SV.v (.int .i64 0)),(SV.v (.bool false)),(SV.v (.int .i64 0)),(SV.v (.bool false)),(SV.v (.int .i64 0)),(SV.v (.bool false)),(SV.v (.int .i64 0)),(SV.v (.bool false)),(SV.v (.int .i64 0)),(SV.v (.bool false)),(SV.v (.bool false)),(SV.v (.int .i64 0)),(SV.v (Value.slice none 0 0)),(SV.v (.bool false)),(SV.v (.int .i64 0)),(SV.v (.bool false)),(SV.v (.int .i64 0)),(SV.v (.bool false)),(SV.v (.int .i64 0)),(SV.v (.bool false)),(SV.v (.int .i64 3))])])∧(([(SV.agg [(SV.v (.int .i64 10)),(SV.v (.int .i64 7)),(SV.v (.int .i64 0)),(SV.v (.int .i64 0)),(SV.v (.int .i64 0)),(SV.v (.int .i64 0)),(SV.v (.int .i64 0)),(SV.v (.int .i64 0)),(SV.v (.int .i64 0)),(SV.v (.int .i64 0)),(SV.v (.int .i64 0)),(SV.v (Value.slice none 0 0)),(SV.v (.int .i64 0)),(SV.v (.bool false)),(SV.v (.int .i64 0)),(SV.v (.bool false)),(SV.v (.int .i64 0)),(SV.v (.bool false)),(SV.v (.int .i64 0)),(SV.v (.bool false)),(SV.v (.int .i64 0)),(SV.v (.bool false)),(SV.v (.int .i64 0)),(SV.v (.bool false)),(SV.v (.int .i64 0)),(SV.v (.bool false)),(SV.v (.int .i64 0)),(SV.v (.bool false)),(SV.v (.int .i64 0)),(SV.v (.bool false)),(SV.v (.int .i64 0)),(SV.v (.bool false)),(SV.v (.bool false)),(SV.v (.int .i64 0)),(SV.v (Value.slice none 0 0)),(SV.v (.bool false)),(SV.v (.int .i64 0)),(SV.v (.bool false)),(SV.v (.int .i64 0)),(SV.v (.bool false)),(SV.v (.int .i64 0)),(SV.v (.bool false)),(SV.v (.int .i64 3))]),(SV.agg [(SV.v (.int .i64 10)),(SV.v (.int .i64 7)),(SV.v (.int .i64 0)),(SV.v (.int .i64 0)),(SV.v (.int .i64 0)),(SV.v (.int .i64 0)),(SV.v (.int .i64 0)),(SV.v (.int .i64 0)),(SV.v (.int .i64 0)),(SV.v (.int .i64 0)),(SV.v (.int .i64 0)),(SV.v (Value.slice none 0 0)),(SV.v (.int .i64 0)),(SV.v (.bool false)),(SV.v (.int .i64 0)),(SV.v (.bool false)),(SV.v (.int .i64 0)),(SV.v (.bool false)),(SV.v (.int .i64 0)),(SV.v (.bool false)),(SV.v (.int .i64 0)),(SV.v (.bool false)),(SV.v (.int .i64 0)),(SV.v (.bool false)),(SV.v (.int .i64 0)),(SV.v (.bool false)),(SV.v (.int .i64 0)),(SV.v (.bool false)),(SV.v (.int .i64 0)),(SV.v (.bool false)),(SV.v (.int .i64 0)),(SV.v (.bool false)),(SV.v (.bool false)),(SV.v (.int .i64 0)),(SV.v (Value.slice none 0 0)),(SV.v (.bool false)),(SV.v (.int .i64 0)),(SV.v (.bool false)),(SV.v (.int .i64 0)),(SV.v (.bool false)),(SV.v (.int .i64 0)),(SV.v (.bool false)),(SV.v (.int .i64 3))])] = [(SV.agg [(SV.v (.int .i64 10)),(SV.v (.int .i64 7)),(SV.v (.int .i64 0)),(SV.v (.int .i64 0)),(SV.v (.int .i64 0)),(SV.v (.int .i64 0)),(SV.v (.int .i64 0)),(SV.v (.int .i64 0)),(SV.v (.int .i64 0)),(SV.v (.int .i64 0)),(SV.v (.int .i64 0)),(SV.v (Value.slice none 0 0)),(SV.v (.int .i64 0)),(SV.v (.bool false)),(SV.v (.int .i64 0)),(SV.v (.bool false)),(SV.v (.int .i64 0)),(SV.v (.bool false)),(SV.v (.int .i64 0)),(SV.v (.bool false)),(SV.v (.int .i64 0)),(SV.v (.bool false)),(SV.v (.int .i64 0)),(SV.v (.bool false)),(SV.v (.int .i64 0)),(SV.v (.bool false)),(SV.v (.int .i64 0)),(SV.v (.bool false)),(SV.v (.int .i64 0)),(SV.v (.bool false)),(SV.v (.int .i64 0)),(SV.v (.bool false)),(SV.v (.bool false)),(SV.v (.int .i64 0)),(SV.v (Value.slice none 0 0)),(SV.v (.bool false)),(SV.v (.int .i64 0)),(SV.v (.bool false)),(SV.v (.int .i64 0)),(SV.v (.bool false)),(SV.v (.int .i64 0)),(SV.v (.bool false)),(SV.v (.int .i64 3))]),(SV.agg [(SV.v (.int .i64 10)),(SV.v (.int .i64 7)),(SV.v (.int .i64 0)),(SV.v (.int .i64 0)),(SV.v (.int .i64 0)),(SV.v (.int .i64 0)),(SV.v (.int .i64 0)),(SV.v (.int .i64 0)),(SV.v (.int .i64 0)),(SV.v (.int .i64 0)),(SV.v (.int .i64 0)),(SV.v (Value.slice none 0 0)),(SV.v (.int .i64 0)),(SV.v (.bool false)),(SV.v (.int .i64 0)),(SV.v (.bool false)),(SV.v (.int .i64 0)),(SV.v (.bool false)),(SV.v (.int .i64 0)),(SV.v (.bool false)),(SV.v (.int .i64 0)),(SV.v (.bool false)),(SV.v (.int .i64 0)),(SV.v (.bool false)),(SV.v (.int .i64 0)),(SV.v (.bool false)),(SV.v (.int .i64 0)),(SV.v (.bool false)),(SV.v (.int .i64 0)),(SV.v (.bool false)),(SV.v (.int .i64 0)),(SV.v (.bool false)),(SV.v (.bool false)),(SV.v (.int .i64 0)),(SV.v (Value.slice none 0 0)),(SV.v (.bool false)),(SV.v (.int .i64 0)),(SV.v (.bool false)),(SV.v (.int .i64 0)),(SV.v (.bool false)),(SV.v (.int .i64 0)),(SV.v (.bool false)),(SV.v (.int .i64 3))])])∧(((SV.agg [(SV.v (.int .i64 10)),(SV.v (.int .i64 7)),(SV.v (.int .i64 0)),(SV.v (.int .i64 0)),(SV.v (.int .i64 0)),(SV.v (.int .i64 0)),(SV.v (.int .i64 0)),(SV.v (.int .i64 0)),(SV.v (.int .i64 0)),(SV.v (.int .i64 0)),(SV.v (.int .i64 0)),(SV.v (Value.slice none 0 0)),(SV.v (.int .i64 0)),(SV.v (.bool false)),(SV.v (.int .i64 0)),(SV.v (.bool false)),(SV.v (.int .i64 0)),(SV.v (.bool false)),(SV.v (.int .i64 0)),(SV.v (.bool false)),(SV.v (.int .i64 0)),(SV.v (.bool false)),(SV.v (.int .i64 0)),(SV.v (.bool false)),(SV.v (.int .i64 0)),(SV.v (.bool false)),(SV.v (.int .i64 0)),(SV.v (.bool false)),(SV.v (.int .i64 0)),(SV.v (.bool false)),(SV.v (.int .i64 0)),(SV.v (.bool false)),(SV.v (.bool false)),(SV.v (.int .i64 0)),(SV.v (Value.slice none 0 0)),(SV.v (.bool false)),(SV.v (.int .i64 0)),(SV.v (.bool false)),(SV.v (.int .i64 0)),(SV.v (.bool false)),(SV.v (.int .i64 0)),(SV.v (.bool false)),(SV.v (.int .i64 3))]) = (SV.agg [(SV.v (.int .i64 10)),(SV.v (.int .i64 7)),(SV.v (.int .i64 0)),(SV.v (.int .i64 0)),(SV.v (.int .i64 0)),(SV.v (.int .i64 0)),(SV.v (.int .i64 0)),(SV.v (.int .i64 0)),(SV.v (.int .i64 0)),(SV.v (.int .i64 0)),(SV.v (.int .i64 0)),(SV.v (Value.slice none 0 0)),(SV.v (.int .i64 0)),(SV.v (.bool false)),(SV.v (.int .i64 0)),(SV.v (.bool false)),(SV.v (.int .i64 0)),(SV.v (.bool false)),(SV.v (.int .i64 0)),(SV.v (.bool false)),(SV.v (.int .i64 0)),(SV.v (.bool false)),(SV.v (.int .i64 0)),(SV.v (.bool false)),(SV.v (.int .i64 0)),(SV.v (.bool false)),(SV.v (.int .i64 0)),(SV.v (.bool false)),(SV.v (.int .i64 0)),(SV.v (.bool false)),(SV.v (.int .i64 0)),(SV.v (.bool false)),(SV.v (.bool false)),(SV.v (.int .i64 0)),(SV.v (Value.slice none 0 0)),(SV.v (.bool false)),(SV.v (.int .i64 0)),(SV.v (.bool false)),(SV.v (.int .i64 0)),(SV.v (.bool false)),(SV.v (.int .i64 0)),(SV.v (.bool false)),(SV.v (.int .i64 3))]))∧(∀ c : Nat,((bytesOk 10 (10 + c) {elem:=5,size:=1,rw:=true,lock:=false,lit:=false,flat:=true,n:=10,row:=fun i => [SV.v (.int .u8 ((fun i => List.getD repLs i 0) i))],ext:=10 + c})∧(R (SV.tup [(SV.v (.string (strOf 10 fun i => [SV.v (.int .u8 (SE.byteOf [SV.v (.int .u8 ((fun i => List.getD repLs i 0) i))]))]))),(SV.v (.int .i64 0))]))))))):=by kernel_rfl
theorem ShownR_spec : PureSpec Try.prog 77 (sAt [repC] repC) := at_spec noCtrs_ok Try.func77 (by kernel_rfl) (by kernel_rfl) (by rw [vcShownR]; kernel_rfl)
theorem EqH_spec : PureSpec Try.prog 82 (sAt [nilS, nilS] (bV true)) := at_spec noCtrs_ok Try.func82 (by kernel_rfl) (by kernel_rfl) (Eq.mpr (vcEqH _) ⟨⟨0, rfl, rfl, trivial⟩, fun _ _ => rfl⟩)
theorem ΓK0_ok : ∀ f g, ΓK0 f = some g → g.ok Try.prog f := addCtr_ok noCtrs_ok (pure_ok Try.func72 (by kernel_rfl) (by kernel_rfl) SameShZ_spec)
theorem SameBoZ_spec : PureSpec Try.prog 81 (sAt [zBo, zBo] (bV true)) := at_spec ΓK0_ok Try.func81 (by kernel_rfl) (by kernel_rfl) (Λ := noΛ) (by rw [vcSameBoZ]; exact ⟨rfl, rfl⟩)
theorem ΓK1_ok : ∀ f g, ΓK1 f = some g → g.ok Try.prog f := addCtr_ok (addCtr_ok noCtrs_ok (pure_ok Try.func81 (by kernel_rfl) (by kernel_rfl) SameBoZ_spec)) (pure_ok Try.func82 (by kernel_rfl) (by kernel_rfl) EqH_spec)
theorem SameRep_spec : PureSpec Try.prog 36 (sAt [repC, repC] (bV true)) := at_spec ΓK1_ok Try.func36 (by kernel_rfl) (by kernel_rfl) (Λ := noΛ) (by rw [vcSameRep]; exact ⟨rfl, rfl, rfl⟩)
theorem ΓK3_ok : ∀ f g, ΓK3 f = some g → g.ok Try.prog f := addCtr_ok ΓG0_ok (hp_ok Try.func118 (by kernel_rfl) (by kernel_rfl) Small_spec)
theorem apG_list (x : Int) (M : List Int) (i : Nat) : apG 1 (fun i => ([x] : List Int).getD i 0) M i = ([x] ++ M).getD i 0 := by
  by_cases h1 : i < 1
  · have : i = 0 := by omega
    subst this; rfl
  · obtain ⟨j, rfl⟩ : ∃ j, i = j + 1 := ⟨i - 1, by omega⟩
    rw [apG_new h1, Nat.add_sub_cancel]
    rfl
theorem rep_row (i : Nat) : apG 6 (apG 5 (apG 1 (fun i => ([10] : List Int).getD i 0) (be 7 4)) [0]) (be 3 4) i = repLs.getD i 0 := by
  rw [apG_ap (n := 5) (m := 6) (L := [0]) rfl, apG_ap (n := 1) (m := 5) (by rw [be_len]), apG_list]
  rfl
def relStr : ByteArray := ⟨#[6, 0, 0, 0, 1, 0, 0, 0, 2]⟩
def repStr : ByteArray := ⟨#[10, 0, 0, 0, 7, 0, 0, 0, 0, 3]⟩
theorem rel_str : (strOf 9 fun i => [SV.v (.int .u8 (relL.getD i 0))]) = relStr := by kernel_rfl
theorem rep_str : (strOf 10 fun i => [SV.v (.int .u8 (repLs.getD i 0))]) = repStr := by kernel_rfl
theorem Call_spec : PureSpec Try.prog 24 (sAt [relC] (.tup [strS relStr, iV 0])) := at_spec ΓI0_ok Try.func24 (by kernel_rfl) (by kernel_rfl) (Λ := noΛ) (by
  rw [vcCall]
  exact ⟨rfl, rfl, rfl, fun c => ⟨bytesOk_bG _ _ _ (by omega), congrArg (fun z => SV.tup [SV.v (.string z), SV.v (.int .i64 0)]) rel_str⟩⟩)
theorem ReplyR_spec : HpSpec Try.prog 78 sReplyR := hp_spec hm ΓK3_ok Try.func78 (Λ := fun _ _ => noΛ) fun args bs e hs hp => by
  unfold sReplyR at hs
  split at hs <;> try (cases hs; done)
  rename_i x
  split at hs <;> try (cases hs; done)
  rename_i b hw
  cases hs
  have hx : x = repC := hp
  subst hx
  refine ⟨_, wrOf_fresh hw, Eq.mpr (vcReplyR b) ⟨⟨by omega, by omega⟩, fun c => ⟨⟨⟨bytesOk_bG _ _ _ (by omega), by show 1 ≤ 1099511627776; omega⟩, ⟨by omega, by omega⟩⟩, fun c1 => ⟨⟨⟨bytesOk_bG _ _ _ (by omega), by show 5 ≤ 1099511627776; omega⟩, ⟨by omega, by omega⟩⟩, fun c2 => ⟨⟨⟨bytesOk_bG _ _ _ (by omega), by show 6 ≤ 1099511627776; omega⟩, ⟨by omega, by omega⟩⟩, fun c3 => tailU rfl (by simp) fun i hi => rep_row i⟩⟩⟩⟩⟩
theorem ΓK2_ok : ∀ f g, ΓK2 f = some g → g.ok Try.prog f := addCtr_ok (addCtr_ok (addCtr_ok (addCtr_ok noCtrs_ok (pure_ok Try.func77 (by kernel_rfl) (by kernel_rfl) ShownR_spec)) (pure_ok Try.func36 (by kernel_rfl) (by kernel_rfl) SameRep_spec)) (hp_ok Try.func78 (by kernel_rfl) (by kernel_rfl) ReplyR_spec)) (hp_ok Try.func71 (by kernel_rfl) (by kernel_rfl) Done_spec)
theorem Reply_spec : PureSpec Try.prog 32 (sAt [repC] (.tup [strS repStr, iV 0])) := at_spec ΓK2_ok Try.func32 (by kernel_rfl) (by kernel_rfl) (Λ := noΛ) (by
  rw [vcReply]
  exact ⟨rfl, rfl, rfl, fun c => ⟨bytesOk_bG _ _ _ (by omega), congrArg (fun z => SV.tup [SV.v (.string z), SV.v (.int .i64 0)]) rep_str⟩⟩)
end Go.Proofs.Ytjdldadmaaeimaa
end

section
set_option maxRecDepth 100000
set_option linter.unusedSimpArgs false
set_option linter.unusedVariables false
namespace Go.Proofs.Ytjdldadmaaeimaa
open Go.SE Go.RowKit

def rdB (s : ByteArray) (k : Int) : Blk := { elem := 141, size := 2, rw := true, lock := false, lit := true, flat := true, n := 1, row := fun _ => [.v (.string s), .v (.int .i64 k)], ext := 1, whole := true }
def rdOk (b : Blk) : Bool := Nat.beq b.elem 141 && Nat.beq b.size 2 && b.rw && !b.dead && Nat.beq b.n 1 && Nat.beq b.ext 1 && b.whole && b.flat
def sRdG (f : List SV → ByteArray → Int → Option (Prop × SV × Int)) (args : List SV) (bs : List Blk) : Option Eff := match args, bs with
  | .vp 0 0 :: rest, [B] => match B.row 0 with
    | [.v (.string s), .v (.int .i64 k)] => match f rest s k with
      | some (q, x, k') => bif rdOk B then some (.det (some q) x [(0, rdB s k')]) else none
      | none => none
    | _ => none
  | _, _ => none
def rdT (s : ByteArray) (k : Int) : Nat → Int
  | 0 => 0
  | i + 1 => rdT s k i * 256 + ((s.data.toList.getD (k.toNat + i) 0).toNat : Int)
def rdQ (s : ByteArray) (k : Int) (n : Int) : Prop := (0 ≤ k ∧ 0 ≤ n) ∧ (n ≤ 8 ∧ k + n ≤ (s.size : Int)) ∧ s.size ≤ 1099511627776
def fTake : List SV → ByteArray → Int → Option (Prop × SV × Int)
  | [.v (.int .i64 n)], s, k => some (rdQ s k n, .v (.int .u64 (rdT s k n.toNat)), k + n)
  | _, _, _ => none
def fUpto : List SV → ByteArray → Int → Option (Prop × SV × Int)
  | [.v (.int .u64 m), .v (.int .i64 n)], s, k => some (rdQ s k n ∧ rdT s k n.toNat ≤ m ∧ m ≤ 1099511627776, .v (.int .i64 (rdT s k n.toNat)), k + n)
  | _, _, _ => none
def fRdCount : List SV → ByteArray → Int → Option (Prop × SV × Int)
  | [], s, k => some (rdQ s k 4 ∧ rdT s k 4 ≤ 2147483647, .v (.int .i64 (rdT s k 4)), k + 4)
  | _, _, _ => none
def fEnd : List SV → ByteArray → Int → Option (Prop × SV × Int)
  | [], s, k => some (k = (s.size : Int), .tup [], k)
  | _, _, _ => none
def fKind10 : List SV → ByteArray → Int → Option (Prop × SV × Int)
  | [.v (.int .i64 low)], s, k => some (rdQ s k 1 ∧ rdT s k 1 = 10 ∧ low ≤ 10, iV 10, k + 1)
  | _, _, _ => none
def sRNeed : List SV → Option (Option Prop × SV)
  | [.v (.bool b), .v (.int .i64 _)] => some (some (b = true), .tup [])
  | _ => none
noncomputable def ΛTake (s : ByteArray) (k : Int) (n : Nat) : Nat → Option LoopSpec := addLoop noΛ Try.f87 0 Nat (fun i => i ≤ n) (fun i => n - i) [(20, fun i => .v (.int .i64 i)), (5, fun i => .v (.int .u64 (rdT s k i)))] [(0, fun i => rdB s (k + (i : Int)))]
def ΓR0 : Ctrs := addCtr noCtrs 132 (pureCtr sRNeed)
def ΓR1 : Ctrs := addCtr ΓR0 87 (hpCtr true (sRdG fTake))
def ΓR2 : Ctrs := addCtr ΓR1 133 (hpCtr true (sRdG fUpto))
theorem vcRNeed (b : Bool) (e : Int) (R : SV→Prop) : (vcPure Try.prog noCtrs noΛ Try.f132 [.v (.bool b),.v (.int .i64 e)] R) = (sel (!b) False (R (SV.tup []))):=by kernel_rfl
theorem vcRdTake (s : ByteArray) (k : Int) (n : Nat) : (vcFn Try.prog ΓR0 (ΛTake s k n) Try.f87 [.vp 0 0,.v (.int .i64 (n : Int))] (heapOf [rdB s k]) 64 (fun y h' => FinE [rdB s k] (.det none (.v (.int .u64 (rdT s k n))) [(0,rdB s (k + (n : Int)))]) y h')) = ((decide (IntKind.wrap IntKind.i64 ((↑(ByteArray.size s) : Int) - k) ≥ (↑n : Int)) = true)∧((∃ x : Nat,((Nat.le x n)∧((((SV.v (.int .i64 0)) = (SV.v (.int .i64 ((↑x : Int)))))∧((SV.v (.int .u64 0)) = (SV.v (.int .u64 (rdT s k x)))))∧(((1 : Nat) = 1)∧(((1 : Nat) ≤ 1)∧(∀ i : Nat,(((i : Nat) < 1)→([(SV.v (.string s)),(SV.v (.int .i64 k))] = [(SV.v (.string s)),(SV.v (.int .i64 (k + (↑x : Int))))]))))))))∧(∀ x : Nat,((Nat.le x n)→(sel (decide ((↑x : Int) < (↑n : Int))) ((((0 : Int) ≤ (k + (↑x : Int)))∧(((k + (↑x : Int)) : Int) < ((↑(ByteArray.size s) : Int))))∧(∃ x' : Nat,(((Nat.le x' n)∧((((SV.v (.int .i64 (IntKind.wrap IntKind.i64 ((↑x : Int) + 1)))) = (SV.v (.int .i64 ((↑x' : Int)))))∧((SV.v (.int .u64 (bits BinOp.or IntKind.u64 (IntKind.wrap IntKind.u64 (rdT s k x * 256)) (IntKind.wrap IntKind.u64 (↑(UInt8.toNat (List.getD (Array.toList (ByteArray.data s)) (Int.toNat (k + (↑x : Int))) 0)) : Int))))) = (SV.v (.int .u64 (rdT s k x')))))∧(((1 : Nat) = 1)∧(((1 : Nat) ≤ 1)∧(∀ i : Nat,(((i : Nat) < 1)→([(SV.v (.string s)),(SV.v (.int .i64 (IntKind.wrap IntKind.i64 (k + (↑x : Int) + 1))))] = [(SV.v (.string s)),(SV.v (.int .i64 (k + (↑x' : Int))))])))))))∧(((n - x') : Nat) < (n - x))))) (((SV.v (.int .u64 (rdT s k x))) = (SV.v (.int .u64 (rdT s k n))))∧(((1 : Nat) = 1)∧(((1 : Nat) ≤ 1)∧(∀ i : Nat,(((i : Nat) < 1)→([(SV.v (.string s)),(SV.v (.int .i64 (k + (↑x : Int))))] = [(SV.v (.string s)),(SV.v (.int .i64 (k + (↑n : Int))))]))))))))))):=by kernel_rfl
theorem vcRdUpto (s : ByteArray) (k m n : Int) : (vcFn Try.prog ΓR1 noΛ Try.f133 [.vp 0 0,.v (.int .u64 m),.v (.int .i64 n)] (heapOf [rdB s k]) 64 (fun y h' => FinE [rdB s k] (.det none (.v (.int .i64 (rdT s k n.toNat))) [(0,rdB s (k + n))]) y h')) = ((rdQ s k n)∧((decide (rdT s k (Int.toNat n) ≤ m) = true)∧(((SV.v (.int .i64 (IntKind.wrap IntKind.i64 (rdT s k (Int.toNat n))))) = (SV.v (.int .i64 (rdT s k (Int.toNat n)))))∧(((1 : Nat) = 1)∧(((1 : Nat) ≤ 1)∧(∀ i : Nat,(((i : Nat) < 1)→([(SV.v (.string s)),(SV.v (.int .i64 (k + n)))] = [(SV.v (.string s)),(SV.v (.int .i64 (k + n)))])))))))):=by kernel_rfl
theorem vcRdCount (s : ByteArray) (k : Int) : (vcFn Try.prog ΓR2 noΛ Try.f121 [.vp 0 0] (heapOf [rdB s k]) 64 (fun y h' => FinE [rdB s k] (.det none (.v (.int .i64 (rdT s k 4))) [(0,rdB s (k + 4))]) y h')) = (((rdQ s k 4)∧((((rdT s k 4) : Int) ≤ 2147483647)∧((2147483647 : Int) ≤ 1099511627776)))∧(((SV.v (.int .i64 (rdT s k 4))) = (SV.v (.int .i64 (rdT s k 4))))∧(((1 : Nat) = 1)∧(((1 : Nat) ≤ 1)∧(∀ i : Nat,(((i : Nat) < 1)→([(SV.v (.string s)),(SV.v (.int .i64 (k + 4)))] = [(SV.v (.string s)),(SV.v (.int .i64 (k + 4)))]))))))):=by kernel_rfl
theorem vcRdEnd (s : ByteArray) (k : Int) : (vcFn Try.prog ΓR0 noΛ Try.f131 [.vp 0 0] (heapOf [rdB s k]) 64 (fun y h' => FinE [rdB s k] (.det none (.tup []) [(0,rdB s k)]) y h')) = (((k == (↑(ByteArray.size s) : Int)) = true)∧(True∧(((1 : Nat) = 1)∧(((1 : Nat) ≤ 1)∧(∀ i : Nat,(((i : Nat) < 1)→([(SV.v (.string s)),(SV.v (.int .i64 k))] = [(SV.v (.string s)),(SV.v (.int .i64 k))]))))))):=by kernel_rfl
theorem vcKind10 (s : ByteArray) (k low : Int) : (vcFn Try.prog ΓR1 noΛ Try.f120 [.vp 0 0,.v (.int .i64 low)] (heapOf [rdB s k]) 64 (fun y h' => FinE [rdB s k] (.det none (iV 10) [(0,rdB s (k + 1))]) y h')) = ((rdQ s k 1)∧(sel (decide (IntKind.wrap IntKind.i64 (rdT s k 1) ≥ low)) ((decide (IntKind.wrap IntKind.i64 (rdT s k 1) ≤ 10) = true)∧(((SV.v (.int .i64 (IntKind.wrap IntKind.i64 (rdT s k 1)))) = (SV.v (.int .i64 10)))∧(((1 : Nat) = 1)∧(((1 : Nat) ≤ 1)∧(∀ i : Nat,(((i : Nat) < 1)→([(SV.v (.string s)),(SV.v (.int .i64 (k + 1)))] = [(SV.v (.string s)),(SV.v (.int .i64 (k + 1)))]))))))) ((false = true)∧(((SV.v (.int .i64 (IntKind.wrap IntKind.i64 (rdT s k 1)))) = (SV.v (.int .i64 10)))∧(((1 : Nat) = 1)∧(((1 : Nat) ≤ 1)∧(∀ i : Nat,(((i : Nat) < 1)→([(SV.v (.string s)),(SV.v (.int .i64 (k + 1)))] = [(SV.v (.string s)),(SV.v (.int .i64 (k + 1)))]))))))))):=by kernel_rfl
theorem rdOk_same {B : Blk} {s : ByteArray} {k : Int} (h1 : rdOk B = true) (h2 : B.row 0 = [.v (.string s), .v (.int .i64 k)]) : BlkSame B (rdB s k) := by
  simp only [rdOk, Bool.and_eq_true, Bool.not_eq_true'] at h1
  obtain ⟨⟨⟨⟨⟨⟨⟨a1, a2⟩, a3⟩, a4⟩, a5⟩, a6⟩, a7⟩, a8⟩ := h1
  have hn := Nat.eq_of_beq_eq_true a5
  exact ⟨Nat.eq_of_beq_eq_true a2, a3, a8, hn, Nat.eq_of_beq_eq_true a6, a4, Nat.eq_of_beq_eq_true a1, a7, fun i hi => by
    have : i = 0 := by omega
    subst this
    exact h2⟩
theorem rd_spec {Γ : Ctrs} (hΓ : ∀ f g, Γ f = some g → g.ok Try.prog f) {f : FuncId} {fn : Func} (hf : Try.prog.funcs[f]? = some fn) {F : List SV → ByteArray → Int → Option (Prop × SV × Int)} {Λ : List SV → ByteArray → Int → Nat → Option LoopSpec}
    (h : ∀ rest s k q x k', F rest s k = some (q, x, k') → q → vcFn Try.prog Γ (Λ rest s k) fn (.vp 0 0 :: rest) (heapOf [rdB s k]) 64 (fun y h' => FinE [rdB s k] (.det none x [(0, rdB s k')]) y h')) :
    HpSpec Try.prog f (sRdG F) := hp_spec hm hΓ hf (Λ := fun args bs => match args, bs with
      | _ :: rest, [B] => match B.row 0 with
        | [.v (.string s), .v (.int _ k)] => Λ rest s k
        | _ => noΛ
      | _, _ => noΛ) fun args bs e hs hp => by
  unfold sRdG at hs
  split at hs <;> try (cases hs; done)
  rename_i rest B
  split at hs <;> try (cases hs; done)
  rename_i s k hB
  split at hs <;> try (cases hs; done)
  rename_i q x k' hF
  obtain ⟨ha, he⟩ := bif_some hs
  subst he
  refine ⟨[rdB s k], ⟨rdOk_same ha hB, trivial⟩, ?_⟩
  simp only [hB]
  exact h rest s k q x k' hF (hp _ rfl)
theorem RNeed_spec : PureSpec Try.prog 132 sRNeed := vc_spec hm noCtrs_ok Try.func132 (Λ := fun _ => noΛ) fun args p x h hp => by
  unfold sRNeed at h
  split at h <;> try (cases h; done)
  rename_i b e
  cases h
  have hb := hp _ rfl
  subst hb
  refine ⟨rfl, rfl, ?_⟩
  rw [vcRNeed]
  rfl
theorem ΓR0_ok : ∀ f g, ΓR0 f = some g → g.ok Try.prog f := addCtr_ok noCtrs_ok (pure_ok Try.func132 (by kernel_rfl) (by kernel_rfl) RNeed_spec)
theorem rdT_rng (s : ByteArray) (k : Int) : ∀ n : Nat, 0 ≤ rdT s k n ∧ rdT s k n < 256 ^ n
  | 0 => ⟨Int.le_refl _, by show (0 : Int) < 1; omega⟩
  | n + 1 => by
    obtain ⟨h1, h2⟩ := rdT_rng s k n
    have hb := (s.data.toList.getD (k.toNat + n) 0).toNat_lt
    simp only [rdT]
    rw [Int.pow_succ]
    omega
theorem or_byte {a b : Int} (ha : 0 ≤ a) (ha' : a < 72057594037927936) (hb : 0 ≤ b) (hb' : b < 256) : bits .or .u64 (a * 256) b = a * 256 + b := by
  rw [u64_or (a * 256) b (by omega) (by omega) hb (by omega)]
  have h := nat_join 8 (a * 256).toNat b.toNat (by omega) (by omega)
  rw [h]; omega
theorem pow_le8 {x : Int} {n : Nat} (h : x < 256 ^ n) (hn : n ≤ 7) : x < 72057594037927936 := by
  have : (256 : Int) ^ n ≤ 256 ^ 7 := by exact_mod_cast Nat.pow_le_pow_right (by decide) hn
  omega
theorem Take_spec : HpSpec Try.prog 87 (sRdG fTake) := rd_spec ΓR0_ok Try.func87 (Λ := fun rest s k => match rest with | [.v (.int _ n)] => ΛTake s k n.toNat | _ => noΛ) fun rest s k q x k' h hq => by
  unfold fTake at h
  split at h <;> try (cases h; done)
  rename_i n
  cases h
  obtain ⟨⟨hk, hn0⟩, ⟨hn8, hsz⟩, hM⟩ := hq
  obtain ⟨n, rfl⟩ : ∃ m : Nat, n = (m : Int) := ⟨n.toNat, by omega⟩
  rw [Int.toNat_natCast]
  refine Eq.mpr (vcRdTake s k n) ⟨decide_eq_true ?_, ⟨0, Nat.zero_le _, ⟨rfl, rfl⟩, rfl, Nat.le_refl _, fun i hi => by rw [show k + ((0 : Nat) : Int) = k by omega]⟩, fun x hx => sel_of (fun hlt => ?_) fun hge => ?_⟩
  · rw [wrap_i64 ⟨by omega, by omega⟩]; omega
  · have hx : x ≤ n := hx
    have hlt := of_decide_eq_true hlt
    have hlt : x < n := by omega
    obtain ⟨r1, r2⟩ := rdT_rng s k x
    have r3 := pow_le8 r2 (by omega)
    have hb := (s.data.toList.getD (k + (x : Int)).toNat 0).toNat_lt
    have e1 : IntKind.i64.wrap ((x : Int) + 1) = ((x + 1 : Nat) : Int) := wrap_i64 ⟨by omega, by omega⟩
    have e2 : IntKind.i64.wrap (k + (x : Int) + 1) = k + ((x + 1 : Nat) : Int) := by rw [wrap_i64 ⟨by omega, by omega⟩]; omega
    have e3 : IntKind.u64.wrap (rdT s k x * 256) = rdT s k x * 256 := by rw [wrap_u64]; omega
    have e4 : IntKind.u64.wrap ((s.data.toList.getD (k + (x : Int)).toNat 0).toNat : Int) = ((s.data.toList.getD (k + (x : Int)).toNat 0).toNat : Int) := by rw [wrap_u64]; omega
    rw [e1, e2, e3, e4, or_byte r1 r3 (by omega) (by omega)]
    refine ⟨⟨by omega, by omega⟩, x + 1, ⟨hlt, ⟨rfl, ?_⟩, rfl, Nat.le_refl _, fun _ _ => rfl⟩, by omega⟩
    show _ = SV.v (.int .u64 (rdT s k x * 256 + ((s.data.toList.getD (k.toNat + x) 0).toNat : Int)))
    rw [show (k + (x : Int)).toNat = k.toNat + x by omega]
  · have hx : x ≤ n := hx
    have hge := of_decide_eq_false hge
    have hx : x = n := by omega
    subst hx
    exact ⟨rfl, rfl, Nat.le_refl _, fun _ _ => rfl⟩
theorem ΓR1_ok : ∀ f g, ΓR1 f = some g → g.ok Try.prog f := addCtr_ok ΓR0_ok (hp_ok Try.func87 (by kernel_rfl) (by kernel_rfl) Take_spec)
theorem RdUpto_spec : HpSpec Try.prog 133 (sRdG fUpto) := rd_spec ΓR1_ok Try.func133 (Λ := fun _ _ _ => noΛ) fun rest s k q x k' h hq => by
  unfold fUpto at h
  split at h <;> try (cases h; done)
  rename_i m n
  cases h
  obtain ⟨hq, h1, h2⟩ := hq
  rw [vcRdUpto]
  refine ⟨hq, decide_eq_true h1, ?_, rfl, Nat.le_refl _, fun _ _ => rfl⟩
  have := (rdT_rng s k n.toNat).1
  rw [wrap_i64 ⟨by omega, by omega⟩]
theorem ΓR2_ok : ∀ f g, ΓR2 f = some g → g.ok Try.prog f := addCtr_ok ΓR1_ok (hp_ok Try.func133 (by kernel_rfl) (by kernel_rfl) RdUpto_spec)
theorem RdCount_spec : HpSpec Try.prog 121 (sRdG fRdCount) := rd_spec ΓR2_ok Try.func121 (Λ := fun _ _ _ => noΛ) fun rest s k q x k' h hq => by
  unfold fRdCount at h
  split at h <;> try (cases h; done)
  cases h
  rw [vcRdCount]
  exact ⟨⟨hq.1, hq.2, by omega⟩, rfl, rfl, Nat.le_refl _, fun _ _ => rfl⟩
theorem RdEnd_spec : HpSpec Try.prog 131 (sRdG fEnd) := rd_spec ΓR0_ok Try.func131 (Λ := fun _ _ _ => noΛ) fun rest s k q x k' h hq => by
  unfold fEnd at h
  split at h <;> try (cases h; done)
  cases h
  rw [vcRdEnd]
  exact ⟨by rw [hq]; exact beq_self_eq_true _, trivial, rfl, Nat.le_refl _, fun _ _ => rfl⟩
theorem Kind10_spec : HpSpec Try.prog 120 (sRdG fKind10) := rd_spec ΓR1_ok Try.func120 (Λ := fun _ _ _ => noΛ) fun rest s k q x k' h hq => by
  unfold fKind10 at h
  split at h <;> try (cases h; done)
  cases h
  obtain ⟨hq, h1, h2⟩ := hq
  rw [vcKind10, h1]
  exact ⟨hq, sel_of (fun _ => ⟨rfl, rfl, rfl, Nat.le_refl _, fun _ _ => rfl⟩) fun h => by
    have h := of_decide_eq_false h
    rw [wrap_i64 ⟨by omega, by omega⟩] at h
    omega⟩
end Go.Proofs.Ytjdldadmaaeimaa
end

section
set_option maxRecDepth 100000
set_option linter.unusedSimpArgs false
set_option linter.unusedVariables false
namespace Go.Proofs.Ytjdldadmaaeimaa
open Go.SE Go.RowKit

def cntStr : ByteArray := ⟨#[10, 0, 0, 0, 7]⟩
def cntC : SV := .agg ([iV 10, iV 7, iV 0, iV 0, iV 0] ++ zShape ++ (zN ++ zN ++ zN ++ zN) ++ (zN ++ zN) ++ zN ++ [iV 0, bV false] ++ (zN ++ zN) ++ (zN ++ zN) ++ [iV 0] ++ [iV 0, iV 0, iV 0, iV 0] ++ [iV 0, iV 0] ++ [iV 0, iV 0])
def fCall10 : List SV → ByteArray → Int → Option (Prop × SV × Int)
  | [], s, k => some (k = 0 ∧ s = cntStr, cntC, 5)
  | _, _, _ => none
def ΓQ0 : Ctrs := addCtr (addCtr (addCtr noCtrs 120 (hpCtr true (sRdG fKind10))) 121 (hpCtr true (sRdG fRdCount))) 131 (hpCtr true (sRdG fEnd))
theorem vcCall10 : (vcFn Try.prog ΓQ0 noΛ Try.f85 [.vp 0 0] (heapOf [rdB cntStr 0]) 64 (fun y h' => FinE [rdB cntStr 0] (.det none cntC [(0,rdB cntStr 5)]) y h')) = (((rdQ cntStr 0 1)∧(((10 : Int) = 10)∧((1 : Int) ≤ 10)))∧(((rdQ cntStr 1 4)∧((7 : Int) ≤ 2147483647))∧(((5 : Int) = 5)∧((((SV.v (.int .i64 10)) = (SV.v (.int .i64 10)))∧(((SV.v (.int .i64 7)) = (SV.v (.int .i64 7)))∧(((SV.v (.int .i64 0)) = (SV.v (.int .i64 0)))∧(((SV.v (.int .i64 0)) = (SV.v (.int .i64 0)))∧(((SV.v (.int .i64 0)) = (SV.v (.int .i64 0)))∧(((SV.v (.int .i64 0)) = (SV.v (.int .i64 0)))∧(((SV.v (.int .i64 0)) = (SV.v (.int .i64 0)))∧(((SV.v (.int .i64 0)) = (SV.v (.int .i64 0)))∧(((SV.v (.int .i64 0)) = (SV.v (.int .i64 0)))∧(((SV.v (Value.slice none 0 0)) = (SV.v (Value.slice none 0 0)))∧(((SV.v (.int .i64 0)) = (SV.v (.int .i64 0)))∧(((SV.v (.bool false)) = (SV.v (.bool false)))∧(((SV.v (.int .i64 0)) = (SV.v (.int .i64 0)))∧(((SV.v (.bool false)) = (SV.v (.bool false)))∧(((SV.v (.int .i64 0)) = (SV.v (.int .i64 0)))∧(((SV.v (.bool false)) = (SV.v (.bool false)))∧(((SV.v (.int .i64 0)) = (SV.v (.int .i64 0)))∧(((SV.v (.bool false)) = (SV.v (.bool false)))∧(((SV.v (.int .i64 0)) = (SV.v (.int .i64 0)))∧(((SV.v (.bool false)) = (SV.v (.bool false)))∧(((SV.v (.int .i64 0)) = (SV.v (.int .i64 0)))∧(((SV.v (.bool false)) = (SV.v (.bool false)))∧(((SV.v (.int .i64 0)) = (SV.v (.int .i64 0)))∧(((SV.v (.bool false)) = (SV.v (.bool false)))∧(((SV.v (.int .i64 0)) = (SV.v (.int .i64 0)))∧(((SV.v (.bool false)) = (SV.v (.bool false)))∧(((SV.v (.int .i64 0)) = (SV.v (.int .i64 0)))∧(((SV.v (.bool false)) = (SV.v (.bool false)))∧(((SV.v (.int .i64 0)) = (SV.v (.int .i64 0)))∧(((SV.v (.bool false)) = (SV.v (.bool false)))∧(((SV.v (.int .i64 0)) = (SV.v (.int .i64 0)))∧(((SV.v (.bool false)) = (SV.v (.bool false)))∧(((SV.v (.int .i64 0)) = (SV.v (.int .i64 0)))∧(((SV.v (.bool false)) = (SV.v (.bool false)))∧(((SV.v (.int .i64 0)) = (SV.v (.int .i64 0)))∧(((SV.v (.int .i64 0)) = (SV.v (.int .i64 0)))∧(((SV.v (.int .i64 0)) = (SV.v (.int .i64 0)))∧(((SV.v (.int .i64 0)) = (SV.v (.int .i64 0)))∧(((SV.v (.int .i64 0)) = (SV.v (.int .i64 0)))∧(((SV.v (.int .i64 0)) = (SV.v (.int .i64 0)))∧(((SV.v (.int .i64 0)) = (SV.v (.int .i64 0)))∧(((SV.v (.int .i64 0)) = (SV.v (.int .i64 0)))∧((SV.v (.int .i64 0)) = (SV.v (.int .i64 0)))))))))))))))))))))))))))))))))))))))))))))∧(((1 : Nat) = 1)∧(((1 : Nat) ≤ 1)∧(∀ i : Nat,(((i : Nat) < 1)→([(SV.v (.string cntStr)),(SV.v (.int .i64 5))] = [(SV.v (.string cntStr)),(SV.v (.int .i64 5))]))))))))):=by kernel_rfl
def ΓQ1 : Ctrs := addCtr noCtrs 85 (hpCtr true (sRdG fCall10))
def dA (fn : Func) : Code := match fn.body with
  | some (.seq a _) => a
  | _ => .skip
def dB (fn : Func) : Code := match fn.body with
  | some (.seq _ (.seq _ b)) => b
  | _ => .skip
def dC (fn : Func) : Code := match fn.body with
  | some (.seq _ b) => b
  | _ => .skip
def sReadC (args : List SV) (bs : List Blk) : Option Eff := match args, bs with
  | [.v (.string s)], [] => some (.det (some (s = cntStr)) (.tup [cntC, iV 0]) [])
  | _, _ => none
theorem vcReadC (q : Option Prop) : (vcFnD Try.prog ΓQ1 noΛ Try.f38 Try.f84 (dA Try.f38) (dB Try.f38) (dC Try.f84) 3 5 [.v (.string cntStr)] (heapOf []) 64 (fun y h' => FinE [] (.det q (.tup [cntC,iV 0]) []) y h')) = ((((0 : Int) = 0)∧(cntStr = cntStr))∧(((((SV.v (.int .i64 10)) = (SV.v (.int .i64 10)))∧(((SV.v (.int .i64 7)) = (SV.v (.int .i64 7)))∧(((SV.v (.int .i64 0)) = (SV.v (.int .i64 0)))∧(((SV.v (.int .i64 0)) = (SV.v (.int .i64 0)))∧(((SV.v (.int .i64 0)) = (SV.v (.int .i64 0)))∧(((SV.v (.int .i64 0)) = (SV.v (.int .i64 0)))∧(((SV.v (.int .i64 0)) = (SV.v (.int .i64 0)))∧(((SV.v (.int .i64 0)) = (SV.v (.int .i64 0)))∧(((SV.v (.int .i64 0)) = (SV.v (.int .i64 0)))∧(((SV.v (Value.slice none 0 0)) = (SV.v (Value.slice none 0 0)))∧(((SV.v (.int .i64 0)) = (SV.v (.int .i64 0)))∧(((SV.v (.bool false)) = (SV.v (.bool false)))∧(((SV.v (.int .i64 0)) = (SV.v (.int .i64 0)))∧(((SV.v (.bool false)) = (SV.v (.bool false)))∧(((SV.v (.int .i64 0)) = (SV.v (.int .i64 0)))∧(((SV.v (.bool false)) = (SV.v (.bool false)))∧(((SV.v (.int .i64 0)) = (SV.v (.int .i64 0)))∧(((SV.v (.bool false)) = (SV.v (.bool false)))∧(((SV.v (.int .i64 0)) = (SV.v (.int .i64 0)))∧(((SV.v (.bool false)) = (SV.v (.bool false)))∧(((SV.v (.int .i64 0)) = (SV.v (.int .i64 0)))∧(((SV.v (.bool false)) = (SV.v (.bool false)))∧(((SV.v (.int .i64 0)) = (SV.v (.int .i64 0)))∧(((SV.v (.bool false)) = (SV.v (.bool false)))∧(((SV.v (.int .i64 0)) = (SV.v (.int .i64 0)))∧(((SV.v (.bool false)) = (SV.v (.bool false)))∧(((SV.v (.int .i64 0)) = (SV.v (.int .i64 0)))∧(((SV.v (.bool false)) = (SV.v (.bool false)))∧(((SV.v (.int .i64 0)) = (SV.v (.int .i64 0)))∧(((SV.v (.bool false)) = (SV.v (.bool false)))∧(((SV.v (.int .i64 0)) = (SV.v (.int .i64 0)))∧(((SV.v (.bool false)) = (SV.v (.bool false)))∧(((SV.v (.int .i64 0)) = (SV.v (.int .i64 0)))∧(((SV.v (.bool false)) = (SV.v (.bool false)))∧(((SV.v (.int .i64 0)) = (SV.v (.int .i64 0)))∧(((SV.v (.int .i64 0)) = (SV.v (.int .i64 0)))∧(((SV.v (.int .i64 0)) = (SV.v (.int .i64 0)))∧(((SV.v (.int .i64 0)) = (SV.v (.int .i64 0)))∧(((SV.v (.int .i64 0)) = (SV.v (.int .i64 0)))∧(((SV.v (.int .i64 0)) = (SV.v (.int .i64 0)))∧(((SV.v (.int .i64 0)) = (SV.v (.int .i64 0)))∧(((SV.v (.int .i64 0)) = (SV.v (.int .i64 0)))∧((SV.v (.int .i64 0)) = (SV.v (.int .i64 0)))))))))))))))))))))))))))))))))))))))))))))∧((SV.v (.int .i64 0)) = (SV.v (.int .i64 0))))∧True)):=by kernel_rfl
theorem defer38 : ∃ o rid, Try.f38.body = some (.seq (dA Try.f38) (.seq (.region rid #[o] false) (dB Try.f38))) ∧ o.guard = none ∧ o.dst = none ∧ ∀ (a : Act) (w : World), (execOp a.eval o).run Try.prog w = .ok (.defer { target := .fn (.func 84) #[], args := #[a.eval (.tmp 3)] }) w :=
  ⟨_, _, rfl, rfl, rfl, fun a w => by simp [execOp, resolve, Act.eval, Deferred.ofValue]⟩
theorem caught84 : ∃ o rid, Try.f84.body = some (.seq (.region rid #[o] false) (dC Try.f84)) ∧ o.guard = none ∧ o.dst = some 5 ∧ ∀ (ρ : Operand → Value) (w : World), (execOp ρ o).run Try.prog w = .ok .recover w :=
  ⟨_, _, rfl, rfl, rfl, fun ρ w => rfl⟩
theorem cnt_size : cntStr.size = 5 := rfl
theorem ΓQ0_ok : ∀ f g, ΓQ0 f = some g → g.ok Try.prog f := addCtr_ok (addCtr_ok (addCtr_ok noCtrs_ok (hp_ok Try.func120 (by kernel_rfl) (by kernel_rfl) Kind10_spec)) (hp_ok Try.func121 (by kernel_rfl) (by kernel_rfl) RdCount_spec)) (hp_ok Try.func131 (by kernel_rfl) (by kernel_rfl) RdEnd_spec)
theorem Call10_spec : HpSpec Try.prog 85 (sRdG fCall10) := rd_spec ΓQ0_ok Try.func85 (Λ := fun _ _ _ => noΛ) fun rest s k q x k' h hq => by
  unfold fCall10 at h
  split at h <;> try (cases h; done)
  cases h
  obtain ⟨rfl, rfl⟩ := hq
  rw [vcCall10]
  refine ⟨⟨⟨⟨by omega, by omega⟩, ⟨by omega, by rw [cnt_size]; omega⟩, by rw [cnt_size]; omega⟩, rfl, by omega⟩, ⟨⟨⟨by omega, by omega⟩, ⟨by omega, by rw [cnt_size]; omega⟩, by rw [cnt_size]; omega⟩, by omega⟩, rfl, ?_, rfl, Nat.le_refl _, fun _ _ => rfl⟩
  repeat (first | exact rfl | refine ⟨rfl, ?_⟩)
theorem ΓQ1_ok : ∀ f g, ΓQ1 f = some g → g.ok Try.prog f := addCtr_ok noCtrs_ok (hp_ok Try.func85 (by kernel_rfl) (by kernel_rfl) Call10_spec)
theorem vcReadC_holds (q : Option Prop) : vcFnD Try.prog ΓQ1 noΛ Try.f38 Try.f84 (dA Try.f38) (dB Try.f38) (dC Try.f84) 3 5 [.v (.string cntStr)] (heapOf []) 64 (fun y h' => FinE [] (.det q (.tup [cntC, iV 0]) []) y h') := by
  rw [vcReadC]
  refine ⟨⟨rfl, rfl⟩, ⟨?_, rfl⟩, trivial⟩
  repeat (first | exact rfl | refine ⟨rfl, ?_⟩)
theorem ReadC_spec : HpSpec Try.prog 38 sReadC := hp_spec_of fun args bs e hs hp => by
  unfold sReadC at hs
  split at hs
  · rename_i s
    have he := Option.some.inj hs
    subst he
    have hx : s = cntStr := hp _ rfl
    subst hx
    obtain ⟨o, rid, b1, b2, b3, b4⟩ := defer38
    obtain ⟨o2, rid2, d1, d2, d3, d4⟩ := caught84
    exact ⟨[], trivial, fun δ w vals ha hr ht => fn_callsD hm ΓQ1_ok Try.func38 Try.func84 b1 b4 b2 b3 (by kernel_rfl) d1 d4 d2 d3 rfl (by kernel_rfl) (by kernel_rfl) ha hr ht (vcReadC_holds _)⟩
  · cases hs
end Go.Proofs.Ytjdldadmaaeimaa
end

section
set_option maxRecDepth 100000
set_option linter.unusedSimpArgs false
set_option linter.unusedVariables false
namespace Go.Proofs.Ytjdldadmaaeimaa
open Go.SE Go.RowKit

def frT (s : ByteArray) : ByteArray := bif Nat.beq s.size 0 then emp else bif Nat.blt 2048 s.size then emp else strOfNums (be (s.size : Int) 4) ++ s
def frE (s : ByteArray) : Int := bif Nat.beq s.size 0 then 7 else bif Nat.blt 2048 s.size then 6 else 0
def sFrame2 : List SV → Option (Option Prop × SV)
  | [.v (.string s)] => some (some (s.size < 4294967296), .tup [strS (frT s), iV (frE s)])
  | _ => none
def ΓA0 : Ctrs := addCtr (addCtr (addCtr (addCtr (addCtr (addCtr noCtrs 24 (pureCtr (sAt [relC] (.tup [strS relStr, iV 0])))) 38 (hpCtr true sReadC)) 32 (pureCtr (sAt [repC] (.tup [strS repStr, iV 0])))) 21 (pureCtr sFrame2)) 16 (pureCtr sName)) 18 (pureCtr sKind)
theorem vcAwake (R : SV→Prop) : (vcPure Try.prog ΓA0 noΛ Try.f20 [] R) = (([(SV.agg [(SV.v (.int .i64 6)),(SV.v (.int .i64 1)),(SV.v (.int .i64 0)),(SV.v (.int .i64 0)),(SV.v (.int .i64 0)),(SV.v (.int .i64 0)),(SV.v (.int .i64 0)),(SV.v (.int .i64 0)),(SV.v (.int .i64 0)),(SV.v (Value.slice none 0 0)),(SV.v (.int .i64 0)),(SV.v (.bool false)),(SV.v (.int .i64 0)),(SV.v (.bool false)),(SV.v (.int .i64 0)),(SV.v (.bool false)),(SV.v (.int .i64 0)),(SV.v (.bool false)),(SV.v (.int .i64 0)),(SV.v (.bool false)),(SV.v (.int .i64 0)),(SV.v (.bool false)),(SV.v (.int .i64 0)),(SV.v (.bool false)),(SV.v (.int .i64 0)),(SV.v (.bool false)),(SV.v (.int .i64 0)),(SV.v (.bool false)),(SV.v (.int .i64 0)),(SV.v (.bool false)),(SV.v (.int .i64 0)),(SV.v (.bool false)),(SV.v (.int .i64 0)),(SV.v (.bool false)),(SV.v (.int .i64 2)),(SV.v (.int .i64 0)),(SV.v (.int .i64 0)),(SV.v (.int .i64 0)),(SV.v (.int .i64 0)),(SV.v (.int .i64 0)),(SV.v (.int .i64 0)),(SV.v (.int .i64 0)),(SV.v (.int .i64 0))])] = [(SV.agg [(SV.v (.int .i64 6)),(SV.v (.int .i64 1)),(SV.v (.int .i64 0)),(SV.v (.int .i64 0)),(SV.v (.int .i64 0)),(SV.v (.int .i64 0)),(SV.v (.int .i64 0)),(SV.v (.int .i64 0)),(SV.v (.int .i64 0)),(SV.v (Value.slice none 0 0)),(SV.v (.int .i64 0)),(SV.v (.bool false)),(SV.v (.int .i64 0)),(SV.v (.bool false)),(SV.v (.int .i64 0)),(SV.v (.bool false)),(SV.v (.int .i64 0)),(SV.v (.bool false)),(SV.v (.int .i64 0)),(SV.v (.bool false)),(SV.v (.int .i64 0)),(SV.v (.bool false)),(SV.v (.int .i64 0)),(SV.v (.bool false)),(SV.v (.int .i64 0)),(SV.v (.bool false)),(SV.v (.int .i64 0)),(SV.v (.bool false)),(SV.v (.int .i64 0)),(SV.v (.bool false)),(SV.v (.int .i64 0)),(SV.v (.bool false)),(SV.v (.int .i64 0)),(SV.v (.bool false)),(SV.v (.int .i64 2)),(SV.v (.int .i64 0)),(SV.v (.int .i64 0)),(SV.v (.int .i64 0)),(SV.v (.int .i64 0)),(SV.v (.int .i64 0)),(SV.v (.int .i64 0)),(SV.v (.int .i64 0)),(SV.v (.int .i64 0))])])∧(({data:=#[10,0,0,0,7]} = cntStr)∧(([(SV.agg [(SV.v (.int .i64 10)),(SV.v (.int .i64 7)),(SV.v (.int .i64 0)),(SV.v (.int .i64 0)),(SV.v (.int .i64 0)),(SV.v (.int .i64 0)),(SV.v (.int .i64 0)),(SV.v (.int .i64 0)),(SV.v (.int .i64 0)),(SV.v (.int .i64 0)),(SV.v (.int .i64 0)),(SV.v (Value.slice none 0 0)),(SV.v (.int .i64 0)),(SV.v (.bool false)),(SV.v (.int .i64 0)),(SV.v (.bool false)),(SV.v (.int .i64 0)),(SV.v (.bool false)),(SV.v (.int .i64 0)),(SV.v (.bool false)),(SV.v (.int .i64 0)),(SV.v (.bool false)),(SV.v (.int .i64 0)),(SV.v (.bool false)),(SV.v (.int .i64 0)),(SV.v (.bool false)),(SV.v (.int .i64 0)),(SV.v (.bool false)),(SV.v (.int .i64 0)),(SV.v (.bool false)),(SV.v (.int .i64 0)),(SV.v (.bool false)),(SV.v (.bool false)),(SV.v (.int .i64 0)),(SV.v (Value.slice none 0 0)),(SV.v (.bool false)),(SV.v (.int .i64 0)),(SV.v (.bool false)),(SV.v (.int .i64 0)),(SV.v (.bool false)),(SV.v (.int .i64 0)),(SV.v (.bool false)),(SV.v (.int .i64 3))])] = [(SV.agg [(SV.v (.int .i64 10)),(SV.v (.int .i64 7)),(SV.v (.int .i64 0)),(SV.v (.int .i64 0)),(SV.v (.int .i64 0)),(SV.v (.int .i64 0)),(SV.v (.int .i64 0)),(SV.v (.int .i64 0)),(SV.v (.int .i64 0)),(SV.v (.int .i64 0)),(SV.v (.int .i64 0)),(SV.v (Value.slice none 0 0)),(SV.v (.int .i64 0)),(SV.v (.bool false)),(SV.v (.int .i64 0)),(SV.v (.bool false)),(SV.v (.int .i64 0)),(SV.v (.bool false)),(SV.v (.int .i64 0)),(SV.v (.bool false)),(SV.v (.int .i64 0)),(SV.v (.bool false)),(SV.v (.int .i64 0)),(SV.v (.bool false)),(SV.v (.int .i64 0)),(SV.v (.bool false)),(SV.v (.int .i64 0)),(SV.v (.bool false)),(SV.v (.int .i64 0)),(SV.v (.bool false)),(SV.v (.int .i64 0)),(SV.v (.bool false)),(SV.v (.bool false)),(SV.v (.int .i64 0)),(SV.v (Value.slice none 0 0)),(SV.v (.bool false)),(SV.v (.int .i64 0)),(SV.v (.bool false)),(SV.v (.int .i64 0)),(SV.v (.bool false)),(SV.v (.int .i64 0)),(SV.v (.bool false)),(SV.v (.int .i64 3))])])∧(((2 : Nat) < 4294967296)∧(((((-9223372036854775808) : Int) ≤ 9)∧((9 : Int) < 9223372036854775808))∧(R (SV.v (.bool true)))))))):=by kernel_rfl
def sAwake : List SV → Option (Option Prop × SV)
  | [] => some (none, bV true)
  | _ => none
theorem frame2 (s : ByteArray) : frameS s = .tup [strS (frT s), iV (frE s)] := by
  unfold frameS frT frE
  cases Nat.beq s.size 0 with
  | true => rfl
  | false => cases Nat.blt 2048 s.size <;> rfl
theorem sFrame_eq (s : ByteArray) : sFrame [.v (.string s)] = sFrame2 [.v (.string s)] := by
  show some (some (s.size < 4294967296), frameS s) = _
  rw [frame2]
  rfl
theorem frame2_of {f : FuncId} (h : PureSpec Try.prog f sFrame) : PureSpec Try.prog f sFrame2 := fun args p x hs hp => by
  refine h args p x ?_ hp
  rw [← hs]
  unfold sFrame2 at hs
  split at hs
  · exact sFrame_eq _
  · cases hs
theorem ΓA0_ok : ∀ f g, ΓA0 f = some g → g.ok Try.prog f := addCtr_ok (addCtr_ok (addCtr_ok (addCtr_ok (addCtr_ok (addCtr_ok noCtrs_ok (pure_ok Try.func24 (by kernel_rfl) (by kernel_rfl) Call_spec)) (hp_ok Try.func38 (by kernel_rfl) (by kernel_rfl) ReadC_spec)) (pure_ok Try.func32 (by kernel_rfl) (by kernel_rfl) Reply_spec)) (pure_ok Try.func21 (by kernel_rfl) (by kernel_rfl) (frame2_of Frame_spec))) (pure_ok Try.func16 (by kernel_rfl) (by kernel_rfl) Name_spec)) (pure_ok Try.func18 (by kernel_rfl) (by kernel_rfl) Kind_spec)
theorem Awake_spec : PureSpec Try.prog 20 (sAt [] (bV true)) := at_spec ΓA0_ok Try.func20 (by kernel_rfl) (by kernel_rfl) (Λ := noΛ) (by
  rw [vcAwake]
  exact ⟨rfl, rfl, rfl, by omega, ⟨by omega, by omega⟩, rfl⟩)
theorem Awake0_spec : PureSpec Try.prog 20 sAwake := fun args p x hs hp => by
  unfold sAwake at hs
  split at hs
  · cases hs
    exact Awake_spec [] (some ([] = [])) (bV true) rfl (fun q hq => by cases hq; rfl)
  · cases hs
end Go.Proofs.Ytjdldadmaaeimaa
end

section
set_option maxRecDepth 100000
set_option linter.unusedSimpArgs false
set_option linter.unusedVariables false
namespace Go.Proofs.Ytjdldadmaaeimaa
open Go.SE Go.RowKit
structure RC2 where
  a : Nat
  b : Nat
def hdW2 (n c : Nat) (g : Nat → Int × Int) : Blk := { elem := 32, size := 2, rw := true, lock := false, lit := false, flat := true, n := n, row := rowsP g, ext := c }
def ownRE (q : Prop) (k e : Int) (c : RV) (n : Nat) (g : Nat → Int × Int) (m : Nat) (h : Nat → Int × Int) : Eff := .nd q RC2 ⟨0, 0⟩ (fun z => reS k e c (.sl 1000 2 0 n (n + z.a)) (.sl 1001 2 0 m (m + z.b))) fun z => [(1000, spW n (n + z.a) g), (1001, hdW2 m (m + z.b) h)]
def ΓOr : Ctrs := addCtr noCtrs 73 (hpCtr true sCopyS)
theorem vcOwnR (q : Prop) (k e : Int) (c : RV) (b b2 : Blk) (n cap m cp : Nat) (g h : Nat→Int × Int) : (vcFn Try.prog ΓOr noΛ Try.f31 [reS k e c (.sl 0 2 0 n cap) (.sl 1 2 0 m cp)] (heapOf [rdS b n g,rdS b2 m h]) 64 (fun y h' => FinE [rdS b n g,rdS b2 m h] (ownRE q k e c n g m h) y h')) = ((spPre n (winBlk (rdS b n g) 2 0 n))∧(∀ c_1 : Nat,((((((0 + m) * 16) : Nat) ≤ 140737488355328)∧(((0 : Nat) ≤ 0)∧(∀ y : Nat,(((y : Nat) < m)→True))))∧(∀ c_2 : Nat,(∃ c_3 : RC2,((((SV.v (.int .i64 k)) = (SV.v (.int .i64 k)))∧(((SV.v (.int .i64 (RV.id c))) = (SV.v (.int .i64 (RV.id c))))∧(((SV.v (.int .i64 e)) = (SV.v (.int .i64 e)))∧(((SV.v (.int .i64 (RV.bs c))) = (SV.v (.int .i64 (RV.bs c))))∧(((SV.v (.int .i64 (RV.bg c))) = (SV.v (.int .i64 (RV.bg c))))∧(((SV.v (.int .i64 (RV.ver c))) = (SV.v (.int .i64 (RV.ver c))))∧(((SV.v (.int .i64 (RV.gr c))) = (SV.v (.int .i64 (RV.gr c))))∧(((SV.v (.int .i64 (ShB.k {k:=BV.sk (RV.o c),r:=BV.sr (RV.o c),w:=BV.sw (RV.o c),h:=BV.sh (RV.o c)}))) = (SV.v (.int .i64 (BV.sk (RV.o c)))))∧(((SV.v (.int .i64 (ShB.r {k:=BV.sk (RV.o c),r:=BV.sr (RV.o c),w:=BV.sw (RV.o c),h:=BV.sh (RV.o c)}))) = (SV.v (.int .i64 (BV.sr (RV.o c)))))∧(((SV.v (.int .i64 (ShB.w {k:=BV.sk (RV.o c),r:=BV.sr (RV.o c),w:=BV.sw (RV.o c),h:=BV.sh (RV.o c)}))) = (SV.v (.int .i64 (BV.sw (RV.o c)))))∧(((SV.v (.int .i64 (ShB.h {k:=BV.sk (RV.o c),r:=BV.sr (RV.o c),w:=BV.sw (RV.o c),h:=BV.sh (RV.o c)}))) = (SV.v (.int .i64 (BV.sh (RV.o c)))))∧(((SV.sl 104 2 0 n (n + c_1)) = (SV.sl 104 2 0 n (n + RC2.a c_3)))∧(((SV.v (.int .i64 (BV.p0v (RV.o c)))) = (SV.v (.int .i64 (BV.p0v (RV.o c)))))∧(((SV.v (.bool (BV.p0f (RV.o c)))) = (SV.v (.bool (BV.p0f (RV.o c)))))∧(((SV.v (.int .i64 (BV.p1v (RV.o c)))) = (SV.v (.int .i64 (BV.p1v (RV.o c)))))∧(((SV.v (.bool (BV.p1f (RV.o c)))) = (SV.v (.bool (BV.p1f (RV.o c)))))∧(((SV.v (.int .i64 (BV.p2v (RV.o c)))) = (SV.v (.int .i64 (BV.p2v (RV.o c)))))∧(((SV.v (.bool (BV.p2f (RV.o c)))) = (SV.v (.bool (BV.p2f (RV.o c)))))∧(((SV.v (.int .i64 (BV.p3v (RV.o c)))) = (SV.v (.int .i64 (BV.p3v (RV.o c)))))∧(((SV.v (.bool (BV.p3f (RV.o c)))) = (SV.v (.bool (BV.p3f (RV.o c)))))∧(((SV.v (.int .i64 (BV.v0v (RV.o c)))) = (SV.v (.int .i64 (BV.v0v (RV.o c)))))∧(((SV.v (.bool (BV.v0f (RV.o c)))) = (SV.v (.bool (BV.v0f (RV.o c)))))∧(((SV.v (.int .i64 (BV.v1v (RV.o c)))) = (SV.v (.int .i64 (BV.v1v (RV.o c)))))∧(((SV.v (.bool (BV.v1f (RV.o c)))) = (SV.v (.bool (BV.v1f (RV.o c)))))∧(((SV.v (.int .i64 (BV.w0v (RV.o c)))) = (SV.v (.int .i64 (BV.w0v (RV.o c)))))∧(((SV.v (.bool (BV.w0f (RV.o c)))) = (SV.v (.bool (BV.w0f (RV.o c)))))∧(((SV.v (.int .i64 (BV.m0v (RV.o c)))) = (SV.v (.int .i64 (BV.m0v (RV.o c)))))∧(((SV.v (.bool (BV.m0f (RV.o c)))) = (SV.v (.bool (BV.m0f (RV.o c)))))∧(((SV.v (.int .i64 (BV.m1v (RV.o c)))) = (SV.v (.int .i64 (BV.m1v (RV.o c)))))∧(((SV.v (.bool (BV.m1f (RV.o c)))) = (SV.v (.bool (BV.m1f (RV.o c)))))∧(((SV.v (.int .i64 (BV.st (RV.o c)))) = (SV.v (.int .i64 (BV.st (RV.o c)))))∧(((SV.v (.bool (BV.asl (RV.o c)))) = (SV.v (.bool (BV.asl (RV.o c)))))∧(((SV.v (.bool (BV.flt (RV.o c)))) = (SV.v (.bool (BV.flt (RV.o c)))))∧(((SV.v (.int .i64 (BV.bv (RV.o c)))) = (SV.v (.int .i64 (BV.bv (RV.o c)))))∧(((SV.sl 160 2 0 (0 + m) (0 + m + c_2)) = (SV.sl 160 2 0 m (m + RC2.b c_3)))∧(((SV.v (.bool (RV.hit c))) = (SV.v (.bool (RV.hit c))))∧(((SV.v (.int .i64 (RV.htv c))) = (SV.v (.int .i64 (RV.htv c))))∧(((SV.v (.bool (RV.htf c))) = (SV.v (.bool (RV.htf c))))∧(((SV.v (.int .i64 (RV.x0v c))) = (SV.v (.int .i64 (RV.x0v c))))∧(((SV.v (.bool (RV.x0f c))) = (SV.v (.bool (RV.x0f c))))∧(((SV.v (.int .i64 (RV.x1v c))) = (SV.v (.int .i64 (RV.x1v c))))∧(((SV.v (.bool (RV.x1f c))) = (SV.v (.bool (RV.x1f c))))∧((SV.v (.int .i64 (RV.cnt c))) = (SV.v (.int .i64 (RV.cnt c))))))))))))))))))))))))))))))))))))))))))))))∧((((n : Nat) = n)∧((((n + RC2.a c_3) : Nat) ≤ (n + c_1))∧(∀ i : Nat,(((i : Nat) < n)→([(SV.v (.int .i64 (Prod.fst (rowG (winBlk (rdS b n g) 2 0 n) i)))),(SV.v (.int .i64 (Prod.snd (rowG (winBlk (rdS b n g) 2 0 n) i))))] = [(SV.v (.int .i64 (Prod.fst (g i)))),(SV.v (.int .i64 (Prod.snd (g i))))])))))∧((((0 + m) : Nat) = m)∧((((m + RC2.b c_3) : Nat) ≤ (0 + m + c_2))∧(∀ i : Nat,(((i : Nat) < m)→([(SV.v (.int .i64 (Prod.fst (h (0 + (i - 0)))))),(SV.v (.int .i64 (Prod.snd (h (0 + (i - 0))))))] = [(SV.v (.int .i64 (Prod.fst (h i)))),(SV.v (.int .i64 (Prod.snd (h i))))])))))))))))):=by kernel_rfl
def sOwnR (args : List SV) (bs : List Blk) : Option Eff := match args, bs with
  | [.agg l], [b, b2] => match cellsOfR l with
    | some (k, e, c, .sl 0 2 0 n _, .sl 1 2 0 m _) => bif okB b && okB b2 then some (ownRE ((spPre n b ∧ spPre m b2) ∧ m < 200) k e c n (rowG b) m (rowG b2)) else none
    | _ => none
  | _, _ => none
def ΓWR : Ctrs := addCtr (addCtr (addCtr (addCtr (addCtr (addCtr (addCtr (addCtr noCtrs 31 (hpCtr false sOwnR)) 32 (roCtr sRepG)) 33 (roCtr sRepG)) 34 (roCtr sCheckR)) 35 (roCtr sCheckR)) 36 (roCtr sSame_ww)) 37 (roCtr sRSame_ww)) 20 (pureCtr sAwake)
theorem vcRepliesL (k e k' e' : Int) (c o : RV) (n nc m mc p pc q qc : Nat) (g h u v : Nat→Int × Int) (R : SV→Prop) : (vcFn Try.prog ΓWR (addPr noΛ 3 [(6,fun nx => nx + 32),(7,fun nx => nx + 40)]) Try.f7 [reS k e c (.sl 0 2 0 n nc) (.sl 1 2 0 m mc),reS k' e' o (.sl 2 2 0 p pc) (.sl 3 2 0 q qc)] (roHeap [⟨2,n,rowsP g⟩,⟨2,m,rowsP h⟩,⟨2,p,rowsP u⟩,⟨2,q,rowsP v⟩]) 64 (fun y _ => R y)) = (sel (decide ((↑n : Int) > 20)) (R (SV.v (.bool true))) (sel (decide ((↑p : Int) > 20)) (R (SV.v (.bool true))) (sel (decide ((↑m : Int) > 100)) (R (SV.v (.bool true))) (sel (decide ((↑q : Int) > 100)) (R (SV.v (.bool true))) ((((spPre n (winBlk (Ro.blk {s:=2,n:=n,row:=fun i => [SV.v (.int .i64 (Prod.fst (g i))),SV.v (.int .i64 (Prod.snd (g i)))]}) 2 0 n))∧(spPre m (winBlk (Ro.blk {s:=2,n:=m,row:=fun i => [SV.v (.int .i64 (Prod.fst (h i))),SV.v (.int .i64 (Prod.snd (h i)))]}) 2 0 m)))∧((m : Nat) < 200))∧(∀ c_1 : RC2,((((spPre p (winBlk (Ro.blk {s:=2,n:=p,row:=fun i => [SV.v (.int .i64 (Prod.fst (u i))),SV.v (.int .i64 (Prod.snd (u i)))]}) 2 0 p))∧(spPre q (winBlk (Ro.blk {s:=2,n:=q,row:=fun i => [SV.v (.int .i64 (Prod.fst (v i))),SV.v (.int .i64 (Prod.snd (v i)))]}) 2 0 q)))∧((q : Nat) < 200))∧(∀ c_2 : RC2,((repPre k e c n n m m (fun y => [SV.v (.int .i64 (Prod.fst (rowG (winBlk (Ro.blk {s:=2,n:=n,row:=fun i => [SV.v (.int .i64 (Prod.fst (g i))),SV.v (.int .i64 (Prod.snd (g i)))]}) 2 0 n) (0 + y)))),SV.v (.int .i64 (Prod.snd (rowG (winBlk (Ro.blk {s:=2,n:=n,row:=fun i => [SV.v (.int .i64 (Prod.fst (g i))),SV.v (.int .i64 (Prod.snd (g i)))]}) 2 0 n) (0 + y))))]) fun y => [SV.v (.int .i64 (Prod.fst (rowG (winBlk (Ro.blk {s:=2,n:=m,row:=fun i => [SV.v (.int .i64 (Prod.fst (h i))),SV.v (.int .i64 (Prod.snd (h i)))]}) 2 0 m) (0 + y)))),SV.v (.int .i64 (Prod.snd (rowG (winBlk (Ro.blk {s:=2,n:=m,row:=fun i => [SV.v (.int .i64 (Prod.fst (h i))),SV.v (.int .i64 (Prod.snd (h i)))]}) 2 0 m) (0 + y))))])∧((repPre k e c n n m m (fun y => [SV.v (.int .i64 (Prod.fst (g (0 + y)))),SV.v (.int .i64 (Prod.snd (g (0 + y))))]) fun y => [SV.v (.int .i64 (Prod.fst (h (0 + y)))),SV.v (.int .i64 (Prod.snd (h (0 + y))))])∧(sel ((repT k e c n (fun i => gi [SV.v (.int .i64 (Prod.fst (rowG (winBlk (Ro.blk {s:=2,n:=n,row:=fun i => [SV.v (.int .i64 (Prod.fst (g i))),SV.v (.int .i64 (Prod.snd (g i)))]}) 2 0 n) (0 + i)))),SV.v (.int .i64 (Prod.snd (rowG (winBlk (Ro.blk {s:=2,n:=n,row:=fun i => [SV.v (.int .i64 (Prod.fst (g i))),SV.v (.int .i64 (Prod.snd (g i)))]}) 2 0 n) (0 + i))))]) m fun i => gi [SV.v (.int .i64 (Prod.fst (rowG (winBlk (Ro.blk {s:=2,n:=m,row:=fun i => [SV.v (.int .i64 (Prod.fst (h i))),SV.v (.int .i64 (Prod.snd (h i)))]}) 2 0 m) (0 + i)))),SV.v (.int .i64 (Prod.snd (rowG (winBlk (Ro.blk {s:=2,n:=m,row:=fun i => [SV.v (.int .i64 (Prod.fst (h i))),SV.v (.int .i64 (Prod.snd (h i)))]}) 2 0 m) (0 + i))))]) == repT k e c n (fun i => gi [SV.v (.int .i64 (Prod.fst (g (0 + i)))),SV.v (.int .i64 (Prod.snd (g (0 + i))))]) m fun i => gi [SV.v (.int .i64 (Prod.fst (h (0 + i)))),SV.v (.int .i64 (Prod.snd (h (0 + i))))]) (sel ((repE k e c n (fun i => gi [SV.v (.int .i64 (Prod.fst (rowG (winBlk (Ro.blk {s:=2,n:=n,row:=fun i => [SV.v (.int .i64 (Prod.fst (g i))),SV.v (.int .i64 (Prod.snd (g i)))]}) 2 0 n) (0 + i)))),SV.v (.int .i64 (Prod.snd (rowG (winBlk (Ro.blk {s:=2,n:=n,row:=fun i => [SV.v (.int .i64 (Prod.fst (g i))),SV.v (.int .i64 (Prod.snd (g i)))]}) 2 0 n) (0 + i))))]) m fun i => gi [SV.v (.int .i64 (Prod.fst (rowG (winBlk (Ro.blk {s:=2,n:=m,row:=fun i => [SV.v (.int .i64 (Prod.fst (h i))),SV.v (.int .i64 (Prod.snd (h i)))]}) 2 0 m) (0 + i)))),SV.v (.int .i64 (Prod.snd (rowG (winBlk (Ro.blk {s:=2,n:=m,row:=fun i => [SV.v (.int .i64 (Prod.fst (h i))),SV.v (.int .i64 (Prod.snd (h i)))]}) 2 0 m) (0 + i))))]) == repE k e c n (fun i => gi [SV.v (.int .i64 (Prod.fst (g (0 + i)))),SV.v (.int .i64 (Prod.snd (g (0 + i))))]) m fun i => gi [SV.v (.int .i64 (Prod.fst (h (0 + i)))),SV.v (.int .i64 (Prod.snd (h (0 + i))))]) ((repPre k e c n n m m (fun y => [SV.v (.int .i64 (Prod.fst (rowG (winBlk (Ro.blk {s:=2,n:=n,row:=fun i => [SV.v (.int .i64 (Prod.fst (g i))),SV.v (.int .i64 (Prod.snd (g i)))]}) 2 0 n) (0 + y)))),SV.v (.int .i64 (Prod.snd (rowG (winBlk (Ro.blk {s:=2,n:=n,row:=fun i => [SV.v (.int .i64 (Prod.fst (g i))),SV.v (.int .i64 (Prod.snd (g i)))]}) 2 0 n) (0 + y))))]) fun y => [SV.v (.int .i64 (Prod.fst (rowG (winBlk (Ro.blk {s:=2,n:=m,row:=fun i => [SV.v (.int .i64 (Prod.fst (h i))),SV.v (.int .i64 (Prod.snd (h i)))]}) 2 0 m) (0 + y)))),SV.v (.int .i64 (Prod.snd (rowG (winBlk (Ro.blk {s:=2,n:=m,row:=fun i => [SV.v (.int .i64 (Prod.fst (h i))),SV.v (.int .i64 (Prod.snd (h i)))]}) 2 0 m) (0 + y))))])∧((repPre k e c n n m m (fun y => [SV.v (.int .i64 (Prod.fst (g (0 + y)))),SV.v (.int .i64 (Prod.snd (g (0 + y))))]) fun y => [SV.v (.int .i64 (Prod.fst (h (0 + y)))),SV.v (.int .i64 (Prod.snd (h (0 + y))))])∧(sel ((repE k e c n (fun i => gi [SV.v (.int .i64 (Prod.fst (rowG (winBlk (Ro.blk {s:=2,n:=n,row:=fun i => [SV.v (.int .i64 (Prod.fst (g i))),SV.v (.int .i64 (Prod.snd (g i)))]}) 2 0 n) (0 + i)))),SV.v (.int .i64 (Prod.snd (rowG (winBlk (Ro.blk {s:=2,n:=n,row:=fun i => [SV.v (.int .i64 (Prod.fst (g i))),SV.v (.int .i64 (Prod.snd (g i)))]}) 2 0 n) (0 + i))))]) m fun i => gi [SV.v (.int .i64 (Prod.fst (rowG (winBlk (Ro.blk {s:=2,n:=m,row:=fun i => [SV.v (.int .i64 (Prod.fst (h i))),SV.v (.int .i64 (Prod.snd (h i)))]}) 2 0 m) (0 + i)))),SV.v (.int .i64 (Prod.snd (rowG (winBlk (Ro.blk {s:=2,n:=m,row:=fun i => [SV.v (.int .i64 (Prod.fst (h i))),SV.v (.int .i64 (Prod.snd (h i)))]}) 2 0 m) (0 + i))))]) == repE k e c n (fun i => gi [SV.v (.int .i64 (Prod.fst (g (0 + i)))),SV.v (.int .i64 (Prod.snd (g (0 + i))))]) m fun i => gi [SV.v (.int .i64 (Prod.fst (h (0 + i)))),SV.v (.int .i64 (Prod.snd (h (0 + i))))]) (((rowsPre n n fun y => [SV.v (.int .i64 (Prod.fst (rowG (winBlk (Ro.blk {s:=2,n:=n,row:=fun i => [SV.v (.int .i64 (Prod.fst (g i))),SV.v (.int .i64 (Prod.snd (g i)))]}) 2 0 n) (0 + y)))),SV.v (.int .i64 (Prod.snd (rowG (winBlk (Ro.blk {s:=2,n:=n,row:=fun i => [SV.v (.int .i64 (Prod.fst (g i))),SV.v (.int .i64 (Prod.snd (g i)))]}) 2 0 n) (0 + y))))])∧((rowsPre m m fun y => [SV.v (.int .i64 (Prod.fst (rowG (winBlk (Ro.blk {s:=2,n:=m,row:=fun i => [SV.v (.int .i64 (Prod.fst (h i))),SV.v (.int .i64 (Prod.snd (h i)))]}) 2 0 m) (0 + y)))),SV.v (.int .i64 (Prod.snd (rowG (winBlk (Ro.blk {s:=2,n:=m,row:=fun i => [SV.v (.int .i64 (Prod.fst (h i))),SV.v (.int .i64 (Prod.snd (h i)))]}) 2 0 m) (0 + y))))])∧((rowsPre p p fun y => [SV.v (.int .i64 (Prod.fst (rowG (winBlk (Ro.blk {s:=2,n:=p,row:=fun i => [SV.v (.int .i64 (Prod.fst (u i))),SV.v (.int .i64 (Prod.snd (u i)))]}) 2 0 p) (0 + y)))),SV.v (.int .i64 (Prod.snd (rowG (winBlk (Ro.blk {s:=2,n:=p,row:=fun i => [SV.v (.int .i64 (Prod.fst (u i))),SV.v (.int .i64 (Prod.snd (u i)))]}) 2 0 p) (0 + y))))])∧(rowsPre q q fun y => [SV.v (.int .i64 (Prod.fst (rowG (winBlk (Ro.blk {s:=2,n:=q,row:=fun i => [SV.v (.int .i64 (Prod.fst (v i))),SV.v (.int .i64 (Prod.snd (v i)))]}) 2 0 q) (0 + y)))),SV.v (.int .i64 (Prod.snd (rowG (winBlk (Ro.blk {s:=2,n:=q,row:=fun i => [SV.v (.int .i64 (Prod.fst (v i))),SV.v (.int .i64 (Prod.snd (v i)))]}) 2 0 q) (0 + y))))]))))∧(((rowsPre n n fun y => [SV.v (.int .i64 (Prod.fst (g (0 + y)))),SV.v (.int .i64 (Prod.snd (g (0 + y))))])∧((rowsPre m m fun y => [SV.v (.int .i64 (Prod.fst (h (0 + y)))),SV.v (.int .i64 (Prod.snd (h (0 + y))))])∧((rowsPre p p fun y => [SV.v (.int .i64 (Prod.fst (u (0 + y)))),SV.v (.int .i64 (Prod.snd (u (0 + y))))])∧(rowsPre q q fun y => [SV.v (.int .i64 (Prod.fst (v (0 + y)))),SV.v (.int .i64 (Prod.snd (v (0 + y))))]))))∧(sel (sameRB k k' e e' c o (sameBB (RV.o c) (RV.o o) (sameS (sbOf (RV.o c)) n (fun i => gi [SV.v (.int .i64 (Prod.fst (rowG (winBlk (Ro.blk {s:=2,n:=n,row:=fun i => [SV.v (.int .i64 (Prod.fst (g i))),SV.v (.int .i64 (Prod.snd (g i)))]}) 2 0 n) (0 + i)))),SV.v (.int .i64 (Prod.snd (rowG (winBlk (Ro.blk {s:=2,n:=n,row:=fun i => [SV.v (.int .i64 (Prod.fst (g i))),SV.v (.int .i64 (Prod.snd (g i)))]}) 2 0 n) (0 + i))))]) (sbOf (RV.o o)) p fun i => gi [SV.v (.int .i64 (Prod.fst (rowG (winBlk (Ro.blk {s:=2,n:=p,row:=fun i => [SV.v (.int .i64 (Prod.fst (u i))),SV.v (.int .i64 (Prod.snd (u i)))]}) 2 0 p) (0 + i)))),SV.v (.int .i64 (Prod.snd (rowG (winBlk (Ro.blk {s:=2,n:=p,row:=fun i => [SV.v (.int .i64 (Prod.fst (u i))),SV.v (.int .i64 (Prod.snd (u i)))]}) 2 0 p) (0 + i))))])) (sameP m (fun i => gi [SV.v (.int .i64 (Prod.fst (rowG (winBlk (Ro.blk {s:=2,n:=m,row:=fun i => [SV.v (.int .i64 (Prod.fst (h i))),SV.v (.int .i64 (Prod.snd (h i)))]}) 2 0 m) (0 + i)))),SV.v (.int .i64 (Prod.snd (rowG (winBlk (Ro.blk {s:=2,n:=m,row:=fun i => [SV.v (.int .i64 (Prod.fst (h i))),SV.v (.int .i64 (Prod.snd (h i)))]}) 2 0 m) (0 + i))))]) q fun i => gi [SV.v (.int .i64 (Prod.fst (rowG (winBlk (Ro.blk {s:=2,n:=q,row:=fun i => [SV.v (.int .i64 (Prod.fst (v i))),SV.v (.int .i64 (Prod.snd (v i)))]}) 2 0 q) (0 + i)))),SV.v (.int .i64 (Prod.snd (rowG (winBlk (Ro.blk {s:=2,n:=q,row:=fun i => [SV.v (.int .i64 (Prod.fst (v i))),SV.v (.int .i64 (Prod.snd (v i)))]}) 2 0 q) (0 + i))))]) == sameRB k k' e e' c o (sameBB (RV.o c) (RV.o o) (sameS (sbOf (RV.o c)) n (fun i => gi [SV.v (.int .i64 (Prod.fst (g (0 + i)))),SV.v (.int .i64 (Prod.snd (g (0 + i))))]) (sbOf (RV.o o)) p fun i => gi [SV.v (.int .i64 (Prod.fst (u (0 + i)))),SV.v (.int .i64 (Prod.snd (u (0 + i))))])) (sameP m (fun i => gi [SV.v (.int .i64 (Prod.fst (h (0 + i)))),SV.v (.int .i64 (Prod.snd (h (0 + i))))]) q fun i => gi [SV.v (.int .i64 (Prod.fst (v (0 + i)))),SV.v (.int .i64 (Prod.snd (v (0 + i))))])) (((rowsPre n n fun y => [SV.v (.int .i64 (Prod.fst (rowG (winBlk (Ro.blk {s:=2,n:=n,row:=fun i => [SV.v (.int .i64 (Prod.fst (g i))),SV.v (.int .i64 (Prod.snd (g i)))]}) 2 0 n) (0 + y)))),SV.v (.int .i64 (Prod.snd (rowG (winBlk (Ro.blk {s:=2,n:=n,row:=fun i => [SV.v (.int .i64 (Prod.fst (g i))),SV.v (.int .i64 (Prod.snd (g i)))]}) 2 0 n) (0 + y))))])∧((rowsPre m m fun y => [SV.v (.int .i64 (Prod.fst (rowG (winBlk (Ro.blk {s:=2,n:=m,row:=fun i => [SV.v (.int .i64 (Prod.fst (h i))),SV.v (.int .i64 (Prod.snd (h i)))]}) 2 0 m) (0 + y)))),SV.v (.int .i64 (Prod.snd (rowG (winBlk (Ro.blk {s:=2,n:=m,row:=fun i => [SV.v (.int .i64 (Prod.fst (h i))),SV.v (.int .i64 (Prod.snd (h i)))]}) 2 0 m) (0 + y))))])∧((rowsPre n n fun y => [SV.v (.int .i64 (Prod.fst (rowG (winBlk (Ro.blk {s:=2,n:=n,row:=fun i => [SV.v (.int .i64 (Prod.fst (g i))),SV.v (.int .i64 (Prod.snd (g i)))]}) 2 0 n) (0 + y)))),SV.v (.int .i64 (Prod.snd (rowG (winBlk (Ro.blk {s:=2,n:=n,row:=fun i => [SV.v (.int .i64 (Prod.fst (g i))),SV.v (.int .i64 (Prod.snd (g i)))]}) 2 0 n) (0 + y))))])∧(rowsPre m m fun y => [SV.v (.int .i64 (Prod.fst (rowG (winBlk (Ro.blk {s:=2,n:=m,row:=fun i => [SV.v (.int .i64 (Prod.fst (h i))),SV.v (.int .i64 (Prod.snd (h i)))]}) 2 0 m) (0 + y)))),SV.v (.int .i64 (Prod.snd (rowG (winBlk (Ro.blk {s:=2,n:=m,row:=fun i => [SV.v (.int .i64 (Prod.fst (h i))),SV.v (.int .i64 (Prod.snd (h i)))]}) 2 0 m) (0 + y))))]))))∧(sel (sameRB k k e e c c (sameBB (RV.o c) (RV.o c) (sameS (sbOf (RV.o c)) n (fun i => gi [SV.v (.int .i64 (Prod.fst (rowG (winBlk (Ro.blk {s:=2,n:=n,row:=fun i => [SV.v (.int .i64 (Prod.fst (g i))),SV.v (.int .i64 (Prod.snd (g i)))]}) 2 0 n) (0 + i)))),SV.v (.int .i64 (Prod.snd (rowG (winBlk (Ro.blk {s:=2,n:=n,row:=fun i => [SV.v (.int .i64 (Prod.fst (g i))),SV.v (.int .i64 (Prod.snd (g i)))]}) 2 0 n) (0 + i))))]) (sbOf (RV.o c)) n fun i => gi [SV.v (.int .i64 (Prod.fst (rowG (winBlk (Ro.blk {s:=2,n:=n,row:=fun i => [SV.v (.int .i64 (Prod.fst (g i))),SV.v (.int .i64 (Prod.snd (g i)))]}) 2 0 n) (0 + i)))),SV.v (.int .i64 (Prod.snd (rowG (winBlk (Ro.blk {s:=2,n:=n,row:=fun i => [SV.v (.int .i64 (Prod.fst (g i))),SV.v (.int .i64 (Prod.snd (g i)))]}) 2 0 n) (0 + i))))])) (sameP m (fun i => gi [SV.v (.int .i64 (Prod.fst (rowG (winBlk (Ro.blk {s:=2,n:=m,row:=fun i => [SV.v (.int .i64 (Prod.fst (h i))),SV.v (.int .i64 (Prod.snd (h i)))]}) 2 0 m) (0 + i)))),SV.v (.int .i64 (Prod.snd (rowG (winBlk (Ro.blk {s:=2,n:=m,row:=fun i => [SV.v (.int .i64 (Prod.fst (h i))),SV.v (.int .i64 (Prod.snd (h i)))]}) 2 0 m) (0 + i))))]) m fun i => gi [SV.v (.int .i64 (Prod.fst (rowG (winBlk (Ro.blk {s:=2,n:=m,row:=fun i => [SV.v (.int .i64 (Prod.fst (h i))),SV.v (.int .i64 (Prod.snd (h i)))]}) 2 0 m) (0 + i)))),SV.v (.int .i64 (Prod.snd (rowG (winBlk (Ro.blk {s:=2,n:=m,row:=fun i => [SV.v (.int .i64 (Prod.fst (h i))),SV.v (.int .i64 (Prod.snd (h i)))]}) 2 0 m) (0 + i))))])) (((rowsPre n n fun y => [SV.v (.int .i64 (Prod.fst (rowG (winBlk (Ro.blk {s:=2,n:=n,row:=fun i => [SV.v (.int .i64 (Prod.fst (g i))),SV.v (.int .i64 (Prod.snd (g i)))]}) 2 0 n) (0 + y)))),SV.v (.int .i64 (Prod.snd (rowG (winBlk (Ro.blk {s:=2,n:=n,row:=fun i => [SV.v (.int .i64 (Prod.fst (g i))),SV.v (.int .i64 (Prod.snd (g i)))]}) 2 0 n) (0 + y))))])∧((rowsPre m m fun y => [SV.v (.int .i64 (Prod.fst (rowG (winBlk (Ro.blk {s:=2,n:=m,row:=fun i => [SV.v (.int .i64 (Prod.fst (h i))),SV.v (.int .i64 (Prod.snd (h i)))]}) 2 0 m) (0 + y)))),SV.v (.int .i64 (Prod.snd (rowG (winBlk (Ro.blk {s:=2,n:=m,row:=fun i => [SV.v (.int .i64 (Prod.fst (h i))),SV.v (.int .i64 (Prod.snd (h i)))]}) 2 0 m) (0 + y))))])∧((rowsPre n n fun y => [SV.v (.int .i64 (Prod.fst (g (0 + y)))),SV.v (.int .i64 (Prod.snd (g (0 + y))))])∧(rowsPre m m fun y => [SV.v (.int .i64 (Prod.fst (h (0 + y)))),SV.v (.int .i64 (Prod.snd (h (0 + y))))]))))∧(sel (sameRB k k e e c c (sameBB (RV.o c) (RV.o c) (sameS (sbOf (RV.o c)) n (fun i => gi [SV.v (.int .i64 (Prod.fst (rowG (winBlk (Ro.blk {s:=2,n:=n,row:=fun i => [SV.v (.int .i64 (Prod.fst (g i))),SV.v (.int .i64 (Prod.snd (g i)))]}) 2 0 n) (0 + i)))),SV.v (.int .i64 (Prod.snd (rowG (winBlk (Ro.blk {s:=2,n:=n,row:=fun i => [SV.v (.int .i64 (Prod.fst (g i))),SV.v (.int .i64 (Prod.snd (g i)))]}) 2 0 n) (0 + i))))]) (sbOf (RV.o c)) n fun i => gi [SV.v (.int .i64 (Prod.fst (g (0 + i)))),SV.v (.int .i64 (Prod.snd (g (0 + i))))])) (sameP m (fun i => gi [SV.v (.int .i64 (Prod.fst (rowG (winBlk (Ro.blk {s:=2,n:=m,row:=fun i => [SV.v (.int .i64 (Prod.fst (h i))),SV.v (.int .i64 (Prod.snd (h i)))]}) 2 0 m) (0 + i)))),SV.v (.int .i64 (Prod.snd (rowG (winBlk (Ro.blk {s:=2,n:=m,row:=fun i => [SV.v (.int .i64 (Prod.fst (h i))),SV.v (.int .i64 (Prod.snd (h i)))]}) 2 0 m) (0 + i))))]) m fun i => gi [SV.v (.int .i64 (Prod.fst (h (0 + i)))),SV.v (.int .i64 (Prod.snd (h (0 + i))))])) (((rowsPre p p fun y => [SV.v (.int .i64 (Prod.fst (rowG (winBlk (Ro.blk {s:=2,n:=p,row:=fun i => [SV.v (.int .i64 (Prod.fst (u i))),SV.v (.int .i64 (Prod.snd (u i)))]}) 2 0 p) (0 + y)))),SV.v (.int .i64 (Prod.snd (rowG (winBlk (Ro.blk {s:=2,n:=p,row:=fun i => [SV.v (.int .i64 (Prod.fst (u i))),SV.v (.int .i64 (Prod.snd (u i)))]}) 2 0 p) (0 + y))))])∧((rowsPre q q fun y => [SV.v (.int .i64 (Prod.fst (rowG (winBlk (Ro.blk {s:=2,n:=q,row:=fun i => [SV.v (.int .i64 (Prod.fst (v i))),SV.v (.int .i64 (Prod.snd (v i)))]}) 2 0 q) (0 + y)))),SV.v (.int .i64 (Prod.snd (rowG (winBlk (Ro.blk {s:=2,n:=q,row:=fun i => [SV.v (.int .i64 (Prod.fst (v i))),SV.v (.int .i64 (Prod.snd (v i)))]}) 2 0 q) (0 + y))))])∧((rowsPre p p fun y => [SV.v (.int .i64 (Prod.fst (u (0 + y)))),SV.v (.int .i64 (Prod.snd (u (0 + y))))])∧(rowsPre q q fun y => [SV.v (.int .i64 (Prod.fst (v (0 + y)))),SV.v (.int .i64 (Prod.snd (v (0 + y))))]))))∧(sel (sameRB k' k' e' e' o o (sameBB (RV.o o) (RV.o o) (sameS (sbOf (RV.o o)) p (fun i => gi [SV.v (.int .i64 (Prod.fst (rowG (winBlk (Ro.blk {s:=2,n:=p,row:=fun i => [SV.v (.int .i64 (Prod.fst (u i))),SV.v (.int .i64 (Prod.snd (u i)))]}) 2 0 p) (0 + i)))),SV.v (.int .i64 (Prod.snd (rowG (winBlk (Ro.blk {s:=2,n:=p,row:=fun i => [SV.v (.int .i64 (Prod.fst (u i))),SV.v (.int .i64 (Prod.snd (u i)))]}) 2 0 p) (0 + i))))]) (sbOf (RV.o o)) p fun i => gi [SV.v (.int .i64 (Prod.fst (u (0 + i)))),SV.v (.int .i64 (Prod.snd (u (0 + i))))])) (sameP q (fun i => gi [SV.v (.int .i64 (Prod.fst (rowG (winBlk (Ro.blk {s:=2,n:=q,row:=fun i => [SV.v (.int .i64 (Prod.fst (v i))),SV.v (.int .i64 (Prod.snd (v i)))]}) 2 0 q) (0 + i)))),SV.v (.int .i64 (Prod.snd (rowG (winBlk (Ro.blk {s:=2,n:=q,row:=fun i => [SV.v (.int .i64 (Prod.fst (v i))),SV.v (.int .i64 (Prod.snd (v i)))]}) 2 0 q) (0 + i))))]) q fun i => gi [SV.v (.int .i64 (Prod.fst (v (0 + i)))),SV.v (.int .i64 (Prod.snd (v (0 + i))))])) (R (SV.v (.bool true))) (R (SV.v (.bool false))))) (R (SV.v (.bool false))))) (R (SV.v (.bool false))))) (R (SV.v (.bool false)))))) (R (SV.v (.bool false)))))) (R (SV.v (.bool false)))) (R (SV.v (.bool false)))))))))))))):=by kernel_rfl
def sRepliesL : List SV → List Ro → Option (Option Prop × SV)
  | [.agg l, .agg l'], [⟨2, n', r1⟩, ⟨2, m', r2⟩, ⟨2, p', r3⟩, ⟨2, q', r4⟩] => match cellsOfR l, cellsOfR l' with
    | some (k, e, c, .sl 0 2 0 n _, .sl 1 2 0 m _), some (k', e', o, .sl 2 2 0 p _, .sl 3 2 0 q _) => some (some ((((okAll isPI (rowsOf n' r1) ∧ n' = n) ∧ okAll isPI (rowsOf m' r2) ∧ m' = m) ∧ rvOk c ∧ I64 k ∧ I64 e) ∧ ((okAll isPI (rowsOf p' r3) ∧ p' = p) ∧ okAll isPI (rowsOf q' r4) ∧ q' = q) ∧ rvOk o ∧ I64 k' ∧ I64 e'), bV true)
    | _, _ => none
  | _, _ => none
theorem sameBB_self (a : BV) : sameBB a a true = true := by
  unfold sameBB bodB
  simp only [beq_self_eq_true, Bool.and_true, Bool.true_and]
theorem sameRB_self (k e : Int) (c : RV) : sameRB k k e e c c true true = true := by
  unfold sameRB
  simp only [beq_self_eq_true, Bool.and_true, Bool.true_and]
theorem sameP_self' (n : Nat) (g : Nat → Int × Int) : sameP n g n g = true := by
  unfold sameP
  rw [Nat.beq_refl, Bool.true_and]
  exact List.all_eq_true.2 fun i _ => eqP_self _
theorem ΓOr_ok : ∀ f g, ΓOr f = some g → g.ok Try.prog f := addCtr_ok noCtrs_ok (hp_ok Try.func73 (by kernel_rfl) (by kernel_rfl) OwnS_spec)
theorem rowG_rd' {b : Blk} {n i : Nat} {g : Nat → Int × Int} : rowG (winBlk (rdS b n g) 2 0 n) i = g i := by
  show (gi [SV.v (.int .i64 (g (0 + i)).1), SV.v (.int .i64 (g (0 + i)).2)]) = _
  rw [Nat.zero_add]
  rfl
theorem slT_eq0 {k s i i' n n' c c' : Nat} (h1 : i = i') (h2 : n = n') (h3 : c = c') : SV.sl k s i n c = SV.sl k s i' n' c' := by subst h1 h2 h3; rfl
theorem OwnR_spec : HpSpec Try.prog 31 sOwnR := hp_spec hm ΓOr_ok Try.func31 (Λ := fun _ _ => noΛ) fun args bs e0 hs hp => by
  unfold sOwnR at hs
  split at hs <;> try (cases hs; done)
  rename_i l b b2
  split at hs <;> try (cases hs; done)
  rename_i k e c n cap m cp hl
  obtain ⟨hb, hs⟩ := bif_some2' hs
  have he := Option.some.inj hs
  subst he
  rw [Bool.and_eq_true] at hb
  have hpre : (spPre n b ∧ spPre m b2) ∧ m < 200 := hp
  obtain ⟨⟨h1, h2⟩, hm'⟩ := hpre
  obtain ⟨hn, hg⟩ := pre_of h1
  refine ⟨[rdS b n (rowG b), rdS b2 m (rowG b2)], ⟨same_rdS hb.1 h1, same_rdS hb.2 h2, trivial⟩, ?_⟩
  rw [reps_eq hl, vcOwnR]
  refine ⟨⟨okAll_rows.2 fun i hi => ?_, rfl, hn⟩, fun c1 => ⟨⟨by omega, Nat.le_refl _, fun _ _ => trivial⟩, fun c2 => ⟨⟨c1, c2⟩, ⟨rfl, rfl, rfl, rfl, rfl, rfl, rfl, rfl, rfl, rfl, rfl, rfl, rfl, rfl, rfl, rfl, rfl, rfl, rfl, rfl, rfl, rfl, rfl, rfl, rfl, rfl, rfl, rfl, rfl, rfl, rfl, rfl, rfl, rfl, slT_eq0 rfl (by omega) (by show 0 + m + c2 = m + c2; omega), rfl, rfl, rfl, rfl, rfl, rfl, rfl, rfl⟩, ⟨rfl, Nat.le_refl _, fun i _ => by rw [rowG_rd']⟩, by omega, by show m + c2 ≤ 0 + m + c2; omega, fun i _ => by rw [Nat.sub_zero, Nat.zero_add]⟩⟩⟩
  show isPI [SV.v (.int .i64 (rowG b (0 + i)).1), SV.v (.int .i64 (rowG b (0 + i)).2)]
  rw [Nat.zero_add]
  exact hg i hi
theorem ΓWR_ok : ∀ f g, ΓWR f = some g → g.ok Try.prog f := addCtr_ok (addCtr_ok (addCtr_ok (addCtr_ok (addCtr_ok (addCtr_ok (addCtr_ok (addCtr_ok noCtrs_ok (hp_ok Try.func31 (by kernel_rfl) (by kernel_rfl) OwnR_spec)) (ro_ok Try.func32 (by kernel_rfl) (by kernel_rfl) RepG_spec)) (ro_ok Try.func33 (by kernel_rfl) (by kernel_rfl) RRepG_spec)) (ro_ok Try.func34 (by kernel_rfl) (by kernel_rfl) CheckR_spec)) (ro_ok Try.func35 (by kernel_rfl) (by kernel_rfl) RCheckR_spec)) (ro_ok Try.func36 (by kernel_rfl) (by kernel_rfl) Same_ww_spec)) (ro_ok Try.func37 (by kernel_rfl) (by kernel_rfl) RSame_ww_spec)) (pure_ok Try.func20 (by kernel_rfl) (by kernel_rfl) Awake0_spec)
theorem replies_holds {k e k' e' : Int} {c o : RV} {n nc m mc p pc q qc : Nat} {g h u v : Nat → Int × Int} (hk : I64 k) (he : I64 e) (hk' : I64 k') (he' : I64 e') (hc : rvOk c) (ho : rvOk o) (hg : ∀ i, i < n → I64 (g i).1 ∧ I64 (g i).2) (hh : ∀ i, i < m → I64 (h i).1 ∧ I64 (h i).2) (hu : ∀ i, i < p → I64 (u i).1 ∧ I64 (u i).2) (hv : ∀ i, i < q → I64 (v i).1 ∧ I64 (v i).2) : vcFn Try.prog ΓWR (addPr noΛ 3 [(6, fun nx => nx + 32), (7, fun nx => nx + 40)]) Try.f7 [reS k e c (.sl 0 2 0 n nc) (.sl 1 2 0 m mc), reS k' e' o (.sl 2 2 0 p pc) (.sl 3 2 0 q qc)] (roHeap [⟨2, n, rowsP g⟩, ⟨2, m, rowsP h⟩, ⟨2, p, rowsP u⟩, ⟨2, q, rowsP v⟩]) 64 (fun y _ => y = bV true) := by
  rw [vcRepliesL]
  rw [rowG_roh (g := g), rowG_roh (g := h), rowG_roh (g := u), rowG_roh (g := v), gi_rows0 g, gi_rows0 h, gi_rows0 u, gi_rows0 v]
  rw [show (repT k e c n g m h == repT k e c n g m h) = true from bs_self _]
  simp only [beq_self_eq_true, sameS_self, sameP_self', sameBB_self, sameRB_self]
  refine sel_of (fun _ => rfl) fun h1 => sel_of (fun _ => rfl) fun h2 => sel_of (fun _ => rfl) fun h3 => sel_of (fun _ => rfl) fun h4 => ?_
  have h1 := of_decide_eq_false h1
  have h2 := of_decide_eq_false h2
  have h3 := of_decide_eq_false h3
  have h4 := of_decide_eq_false h4
  have hn : n < 1099511627776 := by omega
  have hm4 : m < 1099511627776 := by omega
  have hp : p < 1099511627776 := by omega
  have hq : q < 1099511627776 := by omega
  have pn := pre_rows hn hg
  have pm := pre_rows hm4 hh
  have pp := pre_rows hp hu
  have pq := pre_rows hq hv
  have cp := (show repPre k e c n n m m (fun y => [SV.v (.int .i64 (g (0 + y)).1), SV.v (.int .i64 (g (0 + y)).2)]) (fun y => [SV.v (.int .i64 (h (0 + y)).1), SV.v (.int .i64 (h (0 + y)).2)]) from ⟨⟨pn, pm⟩, ⟨hc, hk, he⟩, by omega, by omega⟩)
  exact ⟨⟨⟨win_sp hn hg, win_sp hm4 hh⟩, by omega⟩, fun _ => ⟨⟨⟨win_sp hp hu, win_sp hq hv⟩, by omega⟩, fun _ => ⟨cp, cp, cp, cp, ⟨pn, pm, pp, pq⟩, ⟨pn, pm, pp, pq⟩, ⟨pn, pm, pn, pm⟩, ⟨pn, pm, pn, pm⟩, ⟨pp, pq, pp, pq⟩, rfl⟩⟩⟩
theorem RepliesL_spec : RoSpec Try.prog 7 sRepliesL := ro_spec hm ΓWR_ok Try.func7 (Λ := fun _ _ => addPr noΛ 3 [(6, fun nx => nx + 32), (7, fun nx => nx + 40)]) fun args bs p0 x0 hs hp => by
  unfold sRepliesL at hs
  split at hs <;> try (cases hs; done)
  rename_i l l' n' r1 m' r2 p' r3 q' r4
  split at hs <;> try (cases hs; done)
  rename_i k e c n nc m mc k' e' o p pc q qc hl hl'
  have hs := Option.some.inj hs
  obtain ⟨rfl, rfl⟩ := Prod.mk.inj hs
  obtain ⟨⟨⟨⟨o1, e1⟩, o2, e2⟩, hc, hk, he⟩, ⟨⟨o3, e3⟩, o4, e4⟩, ho, hk', he'⟩ := hp _ rfl
  subst e1 e2 e3 e4
  have o1 := okAll_rows.1 o1
  have o2 := okAll_rows.1 o2
  have o3 := okAll_rows.1 o3
  have o4 := okAll_rows.1 o4
  refine ⟨rfl, [⟨2, _, rowsP fun i => gi (r1 i)⟩, ⟨2, _, rowsP fun i => gi (r2 i)⟩, ⟨2, _, rowsP fun i => gi (r3 i)⟩, ⟨2, _, rowsP fun i => gi (r4 i)⟩], ⟨⟨rfl, rfl, fun i hi => (isPI_row (o1 i hi)).1⟩, ⟨rfl, rfl, fun i hi => (isPI_row (o2 i hi)).1⟩, ⟨rfl, rfl, fun i hi => (isPI_row (o3 i hi)).1⟩, ⟨rfl, rfl, fun i hi => (isPI_row (o4 i hi)).1⟩, trivial⟩, ?_⟩
  rw [reps_eq hl, reps_eq hl']
  exact replies_holds hk he hk' he' hc ho (fun i hi => (isPI_row (o1 i hi)).2) (fun i hi => (isPI_row (o2 i hi)).2) (fun i hi => (isPI_row (o3 i hi)).2) fun i hi => (isPI_row (o4 i hi)).2
end Go.Proofs.Ytjdldadmaaeimaa
end
