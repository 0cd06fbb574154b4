/-
  WirePieces: the plain part.
-/
import Derived.Test.YtjdldadmaaeimaaWiPc
set_option maxRecDepth 100000
set_option linter.unusedSimpArgs false
set_option linter.unusedVariables false
namespace Go.Proofs.Ytjdldadmaaeimaa
open Go.SE Go.RowKit
theorem Mod_spec : PureSpec Try.prog 39 sMod := vc_spec hm noCtrs_ok Try.func39 (Λ := fun _ => noΛ) fun args p x h hp => by
  unfold sMod at h
  split at h
  · rename_i a b
    cases h
    obtain ⟨⟨ha1, ha2⟩, hb, hb2⟩ := hp _ rfl
    refine ⟨rfl, rfl, Eq.mpr (vcMod a b _) ?_⟩
    have hb1 := Int.tmod_lt_of_pos a hb
    have hb3 : -b < Int.tmod a b := by
      have := Int.tmod_lt_of_pos (-a) hb
      rw [Int.neg_tmod] at this; omega
    refine ⟨by omega, sel_of (fun h => int_mk ?_) fun h => int_mk ?_⟩
    · have h := of_decide_eq_true h
      rw [wrap_i64 ⟨by omega, by omega⟩]
      have e := Int.tmod_add_tdiv_mul a b
      have : a = (Int.tmod a b + b) + (Int.tdiv a b - 1) * b := by rw [Int.sub_mul, Int.one_mul]; omega
      conv => rhs; rw [this]
      rw [Int.add_mul_emod_self_right, Int.emod_eq_of_lt (by omega) (by omega)]
    · have h := of_decide_eq_false h
      have e := Int.tmod_add_tdiv_mul a b
      conv => rhs; rw [← e]
      rw [Int.add_mul_emod_self_right, Int.emod_eq_of_lt (by omega) (by omega)]
  · cases h
theorem ΓMod_ok : ∀ f g, ΓMod f = some g → g.ok Try.prog f := addCtr_ok noCtrs_ok (pure_ok Try.func39 (by kernel_rfl) (by kernel_rfl) Mod_spec)
theorem isInt_row {r : List SV} (h : isIntR r) : r = [.v (.int .i64 (intRow r))] ∧ I64 (intRow r) := by
  unfold isIntR at h
  split at h
  · exact ⟨rfl, h⟩
  · exact h.elim
theorem AtI_spec : RoSpec Try.prog 46 sAtI := ro_spec hm ΓMod_ok Try.func46 (Λ := fun _ _ => noΛ) fun args bs p x hs hp => by
  unfold sAtI at hs
  split at hs
  · rename_i n c i n' row
    cases hs
    obtain ⟨⟨rfl, hn, hi⟩, hr⟩ := hp _ rfl
    refine ⟨rfl, [intR n' fun j => intRow (row j)], ⟨⟨rfl, rfl, fun j hj => (isInt_row (hr j hj)).1⟩, trivial⟩, Eq.mpr (vcAtI n' c _ i _) (sel_of (fun h0 => ?_) fun h0 => ?_)⟩
    · have h0 : n' = 0 := by have := (beq_iff_eq ..).1 h0; omega
      subst h0
      rfl
    · have h0 : n' ≠ 0 := fun hc => by rw [hc] at h0; cases h0
      have h1 := Int.emod_nonneg i (show (n' : Int) ≠ 0 by omega)
      have h2 := Int.emod_lt_of_pos i (show (0 : Int) < n' by omega)
      refine ⟨⟨hi, by omega, by omega⟩, ⟨h1, h2⟩, ?_⟩
      unfold atV
      rw [Go.SE.beq_false h0, cond_false, Nat.zero_add]
  · cases hs
theorem ΓPc_ok : ∀ f g, ΓPc f = some g → g.ok Try.prog f := addCtr_ok (addCtr_ok (ΓB_ok false) (pure_ok Try.func39 (by kernel_rfl) (by kernel_rfl) Mod_spec)) (ro_ok Try.func46 (by kernel_rfl) (by kernel_rfl) AtI_spec)
theorem kOf_zero (G : Nat → Int) : kOf G 0 = 0 := kOf_eq (fun i hi => absurd hi (Nat.not_lt_zero _)) (frOk_no fun h => by have := h.1; omega)
theorem atV_rng {n : Nat} {f : Nat → Int} {i : Int} (h : ∀ j, j < n → I64 (f j)) : I64 (atV n f i) := by
  unfold atV
  by_cases h0 : n = 0
  · rw [h0]
    show I64 (0 : Int)
    exact ⟨by omega, by omega⟩
  · rw [Go.SE.beq_false h0, cond_false]
    have h1 := Int.emod_nonneg i (show (n : Int) ≠ 0 by omega)
    have h2 := Int.emod_lt_of_pos i (show (0 : Int) < n by omega)
    exact h _ (by omega)
theorem wl_len (S : Nat → ByteArray) : ∀ n, (wl S n).length ≤ n
  | 0 => Nat.le_refl _
  | n + 1 => by
    have := wl_len S n
    show (wl S n ++ _).length ≤ _
    rw [List.length_append]
    by_cases h0 : (S n).size = 0
    · rw [h0]
      show _ + 0 ≤ _
      omega
    · rw [Go.SE.beq_false h0]
      show _ + 1 ≤ _
      omega
theorem pie_law {n r nc c0 c1 c2 : Nat} {S : Nat → ByteArray} {rb f : Nat → Int} (hf : ∀ j, j < nc → I64 (f j)) (hr : ∀ y, y < r → 0 ≤ rb y ∧ rb y < 256) (hrc : r ≤ c1) : vcFn Try.prog ΓPc (ΛPie n S (allG (al S n) rb) ((al S n).size + min r 3)) Try.f10 [.sl 0 1 0 n c0, .sl 1 1 0 r c1, .sl 2 1 0 nc c2] (roHeap [stR n S, byR r rb, intR nc f]) 64 (fun y _ => y = bV true) := by
  rw [vcPie]
  refine sel_of (fun _ => rfl) fun hn => sel_of (fun _ => rfl) fun hnc2 => ⟨⟨⟨0, 0⟩, ⟨Nat.zero_le _, fun j hj => absurd hj (Nat.not_lt_zero _), Nat.le_refl _⟩, ⟨rfl, rfl, rfl, rfl, rfl, rfl⟩, ⟨rfl, rfl, trivial⟩, trivial⟩, fun x hx => ?_⟩
  have hn := of_decide_eq_false hn
  have hn : n ≤ 10 := by omega
  have hnc : nc < 4611686018427387904 := by have := of_decide_eq_false hnc2; omega
  obtain ⟨h1, h2, h3⟩ := hx
  refine sel_of (fun hlt => ?_) fun hge => ?_
  · have hlt := of_decide_eq_true hlt
    have hlt : x.i < n := by omega
    rw [show 0 + Int.toNat (x.i : Int) = x.i by omega]
    have hi : (0 : Int) ≤ (x.i : Int) ∧ (x.i : Int) < (n : Int) := ⟨by omega, by omega⟩
    refine ⟨hi, sel_of (fun _ => rfl) fun hs => ⟨hi, ?_⟩⟩
    have hs := of_decide_eq_false hs
    have hs : (S x.i).size ≤ 200 := by omega
    have hS : ∀ j, j < x.i + 1 → (S j).size ≤ 200 := fun j hj => by
      by_cases hji : j = x.i
      · rw [hji]; exact hs
      · exact h2 j (by omega)
    have hw : IntKind.i64.wrap ((x.i : Int) + 1) = ((x.i + 1 : Nat) : Int) := wrap_i64 ⟨by omega, by omega⟩
    have hwl : (wl S x.i).length ≤ x.i := wl_len S x.i
    refine ⟨by omega, hi, sel_of (fun he => ?_) fun hne => ?_⟩
    · have he : S x.i = emp := (ba_beq _ _).1 he
      have h0 : (S x.i).size = 0 := by rw [he]; rfl
      have e1 : wl S (x.i + 1) = wl S x.i := by
        show wl S x.i ++ _ = _
        rw [h0]
        exact List.append_nil _
      have e2 : al S (x.i + 1) = al S x.i := by
        show al S x.i ++ frT (S x.i) = _
        rw [frT_zero h0, app_emp]
      refine selF (by unfold frE; rw [h0]; rfl) (selF (by rw [frT_zero h0]; rfl) ⟨⟨x.i + 1, x.kc⟩, ⟨⟨hlt, hS, by rw [e1]; exact h3⟩, ⟨int_mk hw, by rw [e2], by rw [e1]⟩, by rw [e1], Nat.le_refl _, fun i _ => by rw [e1]⟩, by show n - (x.i + 1) < n - x.i; omega⟩)
    · have h0 : (S x.i).size ≠ 0 := fun hc => ba_bne hne (size_zero hc)
      have e1 : wl S (x.i + 1) = wl S x.i ++ [S x.i] := by
        show wl S x.i ++ _ = _
        rw [Go.SE.beq_false h0]
        rfl
      have e3 : (wl S (x.i + 1)).length = (wl S x.i).length + 1 := by rw [e1]; simp
      have e4 := al_size h2
      have e5 := size_frT h0 (by omega)
      refine selF (by rw [frE_mid h0 (by omega)]; rfl) ⟨hi, ⟨by omega, by omega, fun _ _ => trivial⟩, fun c => ⟨by omega, ⟨x.i + 1, (wl S x.i).length + 1 + c⟩, ⟨⟨hlt, hS, by rw [e3]; show (wl S x.i).length + 1 ≤ (wl S x.i).length + 1 + c; omega⟩, ⟨int_mk hw, rfl, by rw [e3]⟩, e3.symm, Nat.le_refl _, fun i hi => ?_⟩, by show n - (x.i + 1) < n - x.i; omega⟩⟩
      have hi : i < (wl S (x.i + 1)).length := hi
      show [SV.v (.string _)] = [SV.v (.string ((wl S (x.i + 1)).getD i emp))]
      rw [e1]
      by_cases hi1 : i < (wl S x.i).length
      · rw [blt_true hi1, Nat.zero_add]
        simp only [List.getD, List.getElem?_append_left hi1]
        rfl
      · have hi2 : i = (wl S x.i).length := by omega
        rw [blt_false hi1, hi2]
        simp [List.getD]
        rfl
  · have hge := of_decide_eq_false hge
    have hxn : x.i = n := by omega
    rw [hxn]
    have hS : ∀ j, j < n → (S j).size ≤ 200 := by rw [← hxn]; exact h2
    have F := pcF (r := rb) hS hn (show min r 3 ≤ 3 by omega) fun y hy => hr y (by omega)
    have hal := al_size hS
    have hlast := pcF_last (r := rb) hS
    have hrow : ∀ i, [SV.v (.int .u8 (bop (Nat.blt i (al S n).size) (((al S n).data.toList.getD (0 + i) 0).toNat : Int) (rb (0 + (i - (al S n).size)))))] = [SV.v (.int .u8 (allG (al S n) rb i))] := fun i => by
      rw [Nat.zero_add, Nat.zero_add]
      rfl
    generalize hGG : allG (al S n) rb = GG at F hlast hrow ⊢
    generalize hTT : (al S n).size + min r 3 = TT at F ⊢
    have init : ∀ c1 : Nat, pfInv GG TT ⟨0, 0, TT + c1, TT + c1, 0, 0, 0, 0, fun _ => 0, 0, 0⟩ := fun c1 =>
      ⟨⟨Nat.zero_le _, Nat.le_refl _, by show 0 + (TT + c1) ≤ TT + c1; omega, by show TT ≤ 0 + (TT + c1); omega⟩, ⟨by show 0 = 0 - _; omega, Nat.le_refl _, by show 0 < 70368744177664; omega⟩, fun y hy => absurd hy (Nat.not_lt_zero _), by show kOf GG 0 ≤ 0; rw [kOf_zero]; omega⟩
    refine sel_of (fun h3 => ?_) fun h3 => ?_
    · have h3 := of_decide_eq_true h3
      rw [show Option.getD (some (3 : Int)) (r : Int) = 3 from rfl, show Int.toNat 3 - 0 = 3 from rfl]
      have hmin : (al S n).size + 3 = TT := by rw [← hTT]; omega
      rw [hmin]
      refine ⟨⟨by omega, by omega, by omega, hrc⟩, trivial, fun c3 => ⟨⟨by omega, by omega, fun _ _ => trivial⟩, fun c4 => ⟨⟨_, init c4, ⟨rfl, rfl, ⟨rfl, rfl, kOf_zero GG, rfl⟩, rfl⟩, ⟨rfl, Nat.le_refl _, fun i _ => hrow i⟩, ⟨kOf_zero GG, rfl, trivial⟩, ⟨rfl, Nat.le_refl _, rfl, rfl, rfl, rfl, rfl, rfl⟩, ⟨rfl, rfl, trivial⟩, trivial⟩, fun x1 hx1 => sel_of (fun hlt => ?_) fun hge => ?_⟩⟩⟩
      · have hlt := of_decide_eq_true hlt
        have hlt : x1.p < TT := by omega
        obtain ⟨⟨p1, p2, p3, p4⟩, ⟨q1, q2, q3⟩, q4, q5⟩ := hx1
        have hav : I64 (atV nc (fun j => intRow [SV.v (.int .i64 (f (0 + j)))]) (x1.i : Int)) := atV_rng fun j hj => by
          rw [Nat.zero_add]; exact hf j hj
        refine ⟨⟨⟨rfl, by omega, by omega, by omega⟩, fun j hj => by rw [Nat.zero_add]; exact hf j hj⟩, ⟨hav, by omega, by omega⟩, ?_⟩
        obtain ⟨m, hm, hm1, hm2⟩ : ∃ m : Nat, min ((TT - x1.p : Nat) : Int) (IntKind.i64.wrap (1 + atV nc (fun j => intRow [SV.v (.int .i64 (f (0 + j)))]) (x1.i : Int) % 60)) = (m : Int) ∧ 1 ≤ m ∧ m ≤ TT - x1.p := by
          generalize atV nc (fun j => intRow [SV.v (.int .i64 (f (0 + j)))]) (x1.i : Int) = av
          rw [wrap_i64 ⟨by omega, by omega⟩]
          exact ⟨(min ((TT - x1.p : Nat) : Int) (1 + av % 60)).toNat, by omega, by omega, by omega⟩
        rw [hm]
        rw [show Option.getD (some (m : Int)) ((TT - x1.p : Nat) : Int) = (m : Int) from rfl, show Option.getD (some (m : Int)) (0 : Int) = (m : Int) from rfl, show Option.getD none ((TT - x1.p : Nat) : Int) = ((TT - x1.p : Nat) : Int) from rfl, Int.toNat_natCast, Int.toNat_natCast, Nat.sub_zero]
        have hat := at_le GG x1.p
        generalize hG1 : (jnG x1.n x1.o (fun i => SE.byteOf [SV.v (.int .u8 (x1.g i))]) fun i => SE.byteOf [SV.v (.int .u8 (GG (x1.p + 0 + i)))]) = G1
        have P : Piece GG x1.p m G1 := ⟨fun y hy => by
          rw [← hG1]
          unfold jnG
          by_cases hy1 : y < x1.n
          · rw [blt_true hy1]
            exact q4 y hy1
          · rw [blt_false hy1]
            show GG (x1.p + 0 + (y - x1.n)) = _
            congr 1
            omega⟩
        have fk := P.k
        have fo := P.o
        have fe := P.err F (show x1.p + m ≤ TT by omega)
        have fg := P.gv F (show x1.p + m ≤ TT by omega)
        have ff := fun j => P.fr (j := j)
        have fl := at_le G1 (x1.n + m)
        rw [← q1] at fk fo fe fg ff
        have hKT : kOf GG x1.p + kOf G1 (x1.n + m) ≤ TT := by
          rw [← fk]
          have := le_oAt GG (kOf GG (x1.p + m))
          have := at_le GG (x1.p + m)
          omega
        refine ⟨⟨by omega, by omega, by omega, by omega⟩, ⟨⟨⟨rfl, fun _ _ => trivial⟩, ⟨rfl, rfl, q3, fun _ _ => trivial⟩, q2⟩, fg, fe⟩, fun c2 => ⟨⟨by omega, by omega, fun _ _ => trivial⟩, fun c3 => ⟨⟨by omega, by omega, Int.le_refl _, by omega⟩, ⟨x1.i + 1, x1.p + m, x1.cap - m, x1.C, oAt G1 (kOf G1 (x1.n + m)), x1.n + m - oAt G1 (kOf G1 (x1.n + m)), x1.n + m - oAt G1 (kOf G1 (x1.n + m)) + c2.a, x1.n + m, G1, x1.n + m + c2.a + c2.b, kOf GG x1.p + kOf G1 (x1.n + m) + c3⟩, ⟨⟨⟨?_, ?_, ?_, ?_⟩, ⟨?_, ?_, ?_⟩, ?_, ?_⟩, ⟨?_, ?_, ?_, rfl⟩, ⟨rfl, Nat.le_refl _, fun _ _ => rfl⟩, ⟨?_, Nat.le_refl _, ?_⟩, ⟨rfl, Nat.le_refl _, rfl, rfl, rfl⟩, rfl, Nat.le_refl _, fun _ _ => rfl⟩, ?_⟩⟩⟩
        · show x1.p + m ≤ TT; omega
        · show x1.i + 1 ≤ x1.p + m; omega
        · show x1.p + m + (x1.cap - m) ≤ x1.C; omega
        · show TT ≤ x1.p + m + (x1.cap - m); omega
        · show x1.n + m - oAt G1 (kOf G1 (x1.n + m)) = x1.p + m - oAt GG (kOf GG (x1.p + m))
          omega
        · show oAt G1 (kOf G1 (x1.n + m)) + (x1.n + m - oAt G1 (kOf G1 (x1.n + m)) + c2.a) ≤ x1.n + m + c2.a + c2.b
          omega
        · show x1.n + m < 70368744177664
          omega
        · intro y hy
          have hy : y < x1.n + m - oAt G1 (kOf G1 (x1.n + m)) := hy
          show G1 (oAt G1 (kOf G1 (x1.n + m)) + y) = GG (oAt GG (kOf GG (x1.p + m)) + y)
          rw [P.eq _ (by omega), fo]
          congr 1
          omega
        · show kOf GG (x1.p + m) ≤ kOf GG x1.p + kOf G1 (x1.n + m) + c3
          omega
        · exact int_mk (wrap_i64 ⟨by omega, by omega⟩)
        · exact sl_eq rfl (by show TT - x1.p - m = TT - (x1.p + m); omega) rfl
        · exact sl_eq rfl fk.symm rfl
        · exact fk.symm
        · intro i hi
          have hi : i < kOf GG (x1.p + m) := hi
          by_cases hi1 : i < kOf GG x1.p
          · rw [blt_true hi1, Nat.zero_add]; rfl
          · rw [blt_false hi1, Nat.zero_add, ff _ (by omega), show kOf GG x1.p + (0 + (i - kOf GG x1.p)) = i by omega]; rfl
        · show TT - (x1.p + m) < TT - x1.p; omega
      · have hge := of_decide_eq_false hge
        obtain ⟨⟨p1, p2, p3, p4⟩, ⟨q1, q2, q3⟩, q4, q5⟩ := hx1
        have hp : x1.p = TT := by omega
        have hk : kOf GG x1.p = (wl S n).length := by rw [hp]; exact F.k
        have hkT : (wl S n).length ≤ TT := by
          have := le_oAt GG (wl S n).length
          have := F.pos
          omega
        have hpos := F.pos
        refine ⟨⟨⟨rfl, rfl, by omega⟩, fun _ _ => trivial, fun _ _ => trivial⟩, selT ?_ ⟨⟨rfl, rfl, q3, fun _ _ => trivial⟩, selT ?_ ⟨⟨rfl, rfl, q3, fun _ _ => trivial⟩, rfl⟩⟩⟩
        · rw [hk]
          refine sameStr_yes fun j hj => (ba_beq _ _).2 ?_
          show frS GG (0 + j) = (wl S n).getD (0 + j) emp
          rw [Nat.zero_add]
          exact F.fr j hj
        · show ((x1.n : Int) == _) = true
          rw [q1, hp, F.k, hlast]
          refine (beq_iff_eq ..).2 ?_
          omega
    · have h3 := of_decide_eq_false h3
      have hmin : (al S n).size + r = TT := by rw [← hTT]; omega
      rw [hmin]
      refine ⟨trivial, fun c3 => ⟨⟨by omega, by omega, fun _ _ => trivial⟩, fun c4 => ⟨⟨_, init c4, ⟨rfl, rfl, ⟨rfl, rfl, kOf_zero GG, rfl⟩, rfl⟩, ⟨rfl, Nat.le_refl _, fun i _ => hrow i⟩, ⟨kOf_zero GG, rfl, trivial⟩, ⟨rfl, Nat.le_refl _, rfl, rfl, rfl, rfl, rfl, rfl⟩, ⟨rfl, rfl, trivial⟩, trivial⟩, fun x1 hx1 => sel_of (fun hlt => ?_) fun hge => ?_⟩⟩⟩
      · have hlt := of_decide_eq_true hlt
        have hlt : x1.p < TT := by omega
        obtain ⟨⟨p1, p2, p3, p4⟩, ⟨q1, q2, q3⟩, q4, q5⟩ := hx1
        have hav : I64 (atV nc (fun j => intRow [SV.v (.int .i64 (f (0 + j)))]) (x1.i : Int)) := atV_rng fun j hj => by
          rw [Nat.zero_add]; exact hf j hj
        refine ⟨⟨⟨rfl, by omega, by omega, by omega⟩, fun j hj => by rw [Nat.zero_add]; exact hf j hj⟩, ⟨hav, by omega, by omega⟩, ?_⟩
        obtain ⟨m, hm, hm1, hm2⟩ : ∃ m : Nat, min ((TT - x1.p : Nat) : Int) (IntKind.i64.wrap (1 + atV nc (fun j => intRow [SV.v (.int .i64 (f (0 + j)))]) (x1.i : Int) % 60)) = (m : Int) ∧ 1 ≤ m ∧ m ≤ TT - x1.p := by
          generalize atV nc (fun j => intRow [SV.v (.int .i64 (f (0 + j)))]) (x1.i : Int) = av
          rw [wrap_i64 ⟨by omega, by omega⟩]
          exact ⟨(min ((TT - x1.p : Nat) : Int) (1 + av % 60)).toNat, by omega, by omega, by omega⟩
        rw [hm]
        rw [show Option.getD (some (m : Int)) ((TT - x1.p : Nat) : Int) = (m : Int) from rfl, show Option.getD (some (m : Int)) (0 : Int) = (m : Int) from rfl, show Option.getD none ((TT - x1.p : Nat) : Int) = ((TT - x1.p : Nat) : Int) from rfl, Int.toNat_natCast, Int.toNat_natCast, Nat.sub_zero]
        have hat := at_le GG x1.p
        generalize hG1 : (jnG x1.n x1.o (fun i => SE.byteOf [SV.v (.int .u8 (x1.g i))]) fun i => SE.byteOf [SV.v (.int .u8 (GG (x1.p + 0 + i)))]) = G1
        have P : Piece GG x1.p m G1 := ⟨fun y hy => by
          rw [← hG1]
          unfold jnG
          by_cases hy1 : y < x1.n
          · rw [blt_true hy1]
            exact q4 y hy1
          · rw [blt_false hy1]
            show GG (x1.p + 0 + (y - x1.n)) = _
            congr 1
            omega⟩
        have fk := P.k
        have fo := P.o
        have fe := P.err F (show x1.p + m ≤ TT by omega)
        have fg := P.gv F (show x1.p + m ≤ TT by omega)
        have ff := fun j => P.fr (j := j)
        have fl := at_le G1 (x1.n + m)
        rw [← q1] at fk fo fe fg ff
        have hKT : kOf GG x1.p + kOf G1 (x1.n + m) ≤ TT := by
          rw [← fk]
          have := le_oAt GG (kOf GG (x1.p + m))
          have := at_le GG (x1.p + m)
          omega
        refine ⟨⟨by omega, by omega, by omega, by omega⟩, ⟨⟨⟨rfl, fun _ _ => trivial⟩, ⟨rfl, rfl, q3, fun _ _ => trivial⟩, q2⟩, fg, fe⟩, fun c2 => ⟨⟨by omega, by omega, fun _ _ => trivial⟩, fun c3 => ⟨⟨by omega, by omega, Int.le_refl _, by omega⟩, ⟨x1.i + 1, x1.p + m, x1.cap - m, x1.C, oAt G1 (kOf G1 (x1.n + m)), x1.n + m - oAt G1 (kOf G1 (x1.n + m)), x1.n + m - oAt G1 (kOf G1 (x1.n + m)) + c2.a, x1.n + m, G1, x1.n + m + c2.a + c2.b, kOf GG x1.p + kOf G1 (x1.n + m) + c3⟩, ⟨⟨⟨?_, ?_, ?_, ?_⟩, ⟨?_, ?_, ?_⟩, ?_, ?_⟩, ⟨?_, ?_, ?_, rfl⟩, ⟨rfl, Nat.le_refl _, fun _ _ => rfl⟩, ⟨?_, Nat.le_refl _, ?_⟩, ⟨rfl, Nat.le_refl _, rfl, rfl, rfl⟩, rfl, Nat.le_refl _, fun _ _ => rfl⟩, ?_⟩⟩⟩
        · show x1.p + m ≤ TT; omega
        · show x1.i + 1 ≤ x1.p + m; omega
        · show x1.p + m + (x1.cap - m) ≤ x1.C; omega
        · show TT ≤ x1.p + m + (x1.cap - m); omega
        · show x1.n + m - oAt G1 (kOf G1 (x1.n + m)) = x1.p + m - oAt GG (kOf GG (x1.p + m))
          omega
        · show oAt G1 (kOf G1 (x1.n + m)) + (x1.n + m - oAt G1 (kOf G1 (x1.n + m)) + c2.a) ≤ x1.n + m + c2.a + c2.b
          omega
        · show x1.n + m < 70368744177664
          omega
        · intro y hy
          have hy : y < x1.n + m - oAt G1 (kOf G1 (x1.n + m)) := hy
          show G1 (oAt G1 (kOf G1 (x1.n + m)) + y) = GG (oAt GG (kOf GG (x1.p + m)) + y)
          rw [P.eq _ (by omega), fo]
          congr 1
          omega
        · show kOf GG (x1.p + m) ≤ kOf GG x1.p + kOf G1 (x1.n + m) + c3
          omega
        · exact int_mk (wrap_i64 ⟨by omega, by omega⟩)
        · exact sl_eq rfl (by show TT - x1.p - m = TT - (x1.p + m); omega) rfl
        · exact sl_eq rfl fk.symm rfl
        · exact fk.symm
        · intro i hi
          have hi : i < kOf GG (x1.p + m) := hi
          by_cases hi1 : i < kOf GG x1.p
          · rw [blt_true hi1, Nat.zero_add]; rfl
          · rw [blt_false hi1, Nat.zero_add, ff _ (by omega), show kOf GG x1.p + (0 + (i - kOf GG x1.p)) = i by omega]; rfl
        · show TT - (x1.p + m) < TT - x1.p; omega
      · have hge := of_decide_eq_false hge
        obtain ⟨⟨p1, p2, p3, p4⟩, ⟨q1, q2, q3⟩, q4, q5⟩ := hx1
        have hp : x1.p = TT := by omega
        have hk : kOf GG x1.p = (wl S n).length := by rw [hp]; exact F.k
        have hkT : (wl S n).length ≤ TT := by
          have := le_oAt GG (wl S n).length
          have := F.pos
          omega
        have hpos := F.pos
        refine ⟨⟨⟨rfl, rfl, by omega⟩, fun _ _ => trivial, fun _ _ => trivial⟩, selT ?_ ⟨⟨rfl, rfl, q3, fun _ _ => trivial⟩, selT ?_ ⟨⟨rfl, rfl, q3, fun _ _ => trivial⟩, rfl⟩⟩⟩
        · rw [hk]
          refine sameStr_yes fun j hj => (ba_beq _ _).2 ?_
          show frS GG (0 + j) = (wl S n).getD (0 + j) emp
          rw [Nat.zero_add]
          exact F.fr j hj
        · show ((x1.n : Int) == _) = true
          rw [q1, hp, F.k, hlast]
          refine (beq_iff_eq ..).2 ?_
          omega
def sPiecesL : List SV → List Ro → Option (Option Prop × SV)
  | [.sl 0 1 0 n c0, .sl 1 1 0 r c1, .sl 2 1 0 nc c2], [⟨1, n', ra⟩, ⟨1, r', rb⟩, ⟨1, nc', rc⟩] => some (some ((n' = n ∧ r' = r ∧ nc' = nc) ∧ r ≤ c1 ∧ (∀ i, i < n → isStrR (ra i)) ∧ (∀ i, i < r → isByte (rb i) ∧ 0 ≤ SE.byteOf (rb i) ∧ SE.byteOf (rb i) < 256) ∧ ∀ i, i < nc → isIntR (rc i)), bV true)
  | _, _ => none
theorem PiecesL_spec : RoSpec Try.prog 10 sPiecesL := ro_spec hm ΓPc_ok Try.func10 (Λ := fun args bs => match args, bs with
    | [.sl _ _ _ n _, .sl _ _ _ r _, .sl _ _ _ nc _], [a, b, c] => ΛPie n (fun i => strRow (a.row i)) (allG (al (fun i => strRow (a.row i)) n) fun i => SE.byteOf (b.row i)) ((al (fun i => strRow (a.row i)) n).size + min r 3)
    | _, _ => noΛ) fun args bs p x hs hp => by
  unfold sPiecesL at hs
  split at hs
  · rename_i n c0 r c1 nc c2 n' ra r' rb nc' rc
    cases hs
    obtain ⟨⟨rfl, rfl, rfl⟩, h1, h2, h3, h4⟩ := hp _ rfl
    refine ⟨rfl, [stR n' fun i => strRow (ra i), byR r' fun i => SE.byteOf (rb i), intR nc' fun i => intRow (rc i)], ⟨⟨rfl, rfl, fun i hi => isStr_row (h2 i hi)⟩, ⟨rfl, rfl, fun i hi => isByte_row (h3 i hi).1⟩, ⟨rfl, rfl, fun i hi => (isInt_row (h4 i hi)).1⟩, trivial⟩, ?_⟩
    exact pie_law (fun j hj => (isInt_row (h4 j hj)).2) (fun y hy => (h3 y hy).2) h1
  · cases hs
end Go.Proofs.Ytjdldadmaaeimaa
