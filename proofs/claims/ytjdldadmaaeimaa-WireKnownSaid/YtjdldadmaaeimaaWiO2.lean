/-
  Contracts: Give on a feed.
-/
import Derived.Test.YtjdldadmaaeimaaWiO
set_option maxRecDepth 100000
set_option linter.unusedSimpArgs false
set_option linter.unusedVariables false
namespace Go.Proofs.Ytjdldadmaaeimaa
open Go.SE Go.RowKit

def gvP (G : Nat → Int) (T : Nat) : Prop := (∀ y, y < T → 0 ≤ G y ∧ G y < 256) ∧ T ≤ 1099511627776
def dOk (b : Blk) : Bool := Nat.beq b.size 1 && !b.rw && !b.dead && b.flat
def rowsOk (m : Nat) (D : Blk) : Prop := D.n = m ∧ ∀ i, i < m → isByte (D.row i)
/-- What Give does; bad: in the end there is a length that may not be. -/
def giveE (bad : Bool) (q0 : Prop) (m : Nat) (h : Nat → Int) : FdS → Option Eff
  | .fresh true true fl => some (.det (some q0) (.tup [nilS, iV 12]) [(0, fdB true true fl nilS)])
  | .fresh true false true => bif bad then some (geBad (q0 ∧ gvP h m ∧ errAt h m (kOf h m) ≠ 0) [] h m) else some (geOk (q0 ∧ gvP h m ∧ errAt h m (kOf h m) = 0) [] h m)
  | .used true false o n c N g e p => bif bad then some (geBad ((q0 ∧ p ∧ o + c ≤ e) ∧ gvP (jnG n o g h) (n + m) ∧ errAt (jnG n o g h) (n + m) (kOf (jnG n o g h) (n + m)) ≠ 0) [(1, killed (bG N g e))] (jnG n o g h) (n + m)) else some (geOk ((q0 ∧ p ∧ o + c ≤ e) ∧ gvP (jnG n o g h) (n + m) ∧ errAt (jnG n o g h) (n + m) (kOf (jnG n o g h) (n + m)) = 0) [(1, killed (bG N g e))] (jnG n o g h) (n + m))
  | _ => none
def sGive (bad : Bool) (args : List SV) (bs : List Blk) : Option Eff := match args with
  | [.vp 0 0, .sl 1 1 0 m _] => match bs with
    | [B, D] => match fdOf [B] with
      | some s => bif dOk D then giveE bad (rowsOk m D) m (fun i => SE.byteOf (D.row i)) s else none
      | none => none
    | _ => none
  | [.vp 0 0, .sl 2 1 0 m _] => match bs with
    | [B, H, D] => match fdOf [B, H] with
      | some s => bif dOk D then giveE bad (rowsOk m D) m (fun i => SE.byteOf (D.row i)) s else none
      | none => none
    | _ => none
  | _ => none
theorem strOf_get {n i : Nat} {row : Nat → List SV} (h : i < n) : (strOf n row).data.toList.getD i 0 = UInt8.ofNat (SE.byteOf (row i)).toNat := by
  simp [strOf, List.getD, h]
theorem u8_back {x : Int} (h : 0 ≤ x ∧ x < 256) : ((UInt8.ofNat x.toNat).toNat : Int) = x := by
  have : (UInt8.ofNat x.toNat).toNat = x.toNat := by
    rw [UInt8.toNat_ofNat']
    omega
  rw [this]; omega
theorem strOf_size (n : Nat) (row : Nat → List SV) : (strOf n row).size = n := by simp [strOf, ByteArray.size]
theorem num_eq {G : Nat → Int} {o T N : Nat} (hB : ∀ y, y < T → 0 ≤ G y ∧ G y < 256) (h : o + 4 ≤ T) (hN : 4 ≤ N) : rdT (strOf N fun y => [SV.v (.int .u8 (G (o + 0 + y)))]) 0 4 = ((numAt G o : Nat) : Int) := by
  have b (i : Nat) (hi : i < 4) : (((strOf N fun y => [SV.v (.int .u8 (G (o + 0 + y)))]).data.toList.getD ((0 : Int).toNat + i) 0).toNat : Int) = G (o + i) := by
    rw [show (0 : Int).toNat + i = i by simp, strOf_get (by omega)]
    exact u8_back (hB (o + i) (by omega))
  simp only [rdT]
  rw [b 0 (by omega), b 1 (by omega), b 2 (by omega), b 3 (by omega)]
  have h0 := hB o (by omega)
  have h1 := hB (o + 1) (by omega)
  have h2 := hB (o + 2) (by omega)
  have h3 := hB (o + 3) (by omega)
  unfold numAt
  rw [Nat.add_zero]
  omega
theorem num_lt {G : Nat → Int} {o T : Nat} (hB : ∀ y, y < T → 0 ≤ G y ∧ G y < 256) (h : o + 4 ≤ T) : numAt G o < 4294967296 := by
  have h0 := hB o (by omega)
  have h1 := hB (o + 1) (by omega)
  have h2 := hB (o + 2) (by omega)
  have h3 := hB (o + 3) (by omega)
  unfold numAt
  omega
theorem frOk_iff {G : Nat → Int} {T i : Nat} : frOk G T i = true ↔ oAt G i + 4 ≤ T ∧ (1 ≤ numAt G (oAt G i) ∧ numAt G (oAt G i) ≤ 2048) ∧ oAt G (i + 1) ≤ T := by
  simp only [frOk, Bool.and_eq_true, Nat.ble_eq, and_assoc]
theorem frOk_no {G : Nat → Int} {T i : Nat} (h : ¬ (oAt G i + 4 ≤ T ∧ (1 ≤ numAt G (oAt G i) ∧ numAt G (oAt G i) ≤ 2048) ∧ oAt G (i + 1) ≤ T)) : frOk G T i = false := by
  cases hb : frOk G T i with
  | false => rfl
  | true => exact absurd (frOk_iff.1 hb) h
theorem le_oAt (G : Nat → Int) : ∀ k, k ≤ oAt G k
  | 0 => Nat.zero_le _
  | k + 1 => by have := le_oAt G k; simp only [oAt]; omega
theorem oAt_le {G : Nat → Int} {T k : Nat} (h : ∀ i, i < k → frOk G T i = true) : oAt G k ≤ T := by
  cases k with
  | zero => exact Nat.zero_le _
  | succ k => exact (frOk_iff.1 (h k (by omega))).2.2
theorem kFrom_eq {G : Nat → Int} {T k : Nat} (h : ∀ i, i < k → frOk G T i = true) (hn : frOk G T k = false) : ∀ f i, i ≤ k → k < i + f → kFrom G T f i = k
  | 0, i, h1, h2 => by omega
  | f + 1, i, h1, h2 => by
    unfold kFrom
    by_cases hik : i = k
    · subst hik; rw [hn]; rfl
    · rw [h i (by omega), cond_true]
      exact kFrom_eq h hn f (i + 1) (by omega) (by omega)
theorem kOf_eq {G : Nat → Int} {T k : Nat} (h : ∀ i, i < k → frOk G T i = true) (hn : frOk G T k = false) : kOf G T = k :=
  kFrom_eq h hn (T + 1) 0 (Nat.zero_le _) (by have := oAt_le h; have := le_oAt G k; omega)
theorem sl_eq {k s i i' n n' c c' : Nat} (h1 : i = i') (h2 : n = n') (h3 : c = c') : SV.sl k s i n c = SV.sl k s i' n' c' := by subst h1 h2 h3; rfl
theorem err_none {G : Nat → Int} {T k : Nat} (h : T < oAt G k + 4) : errAt G T k = 0 := by
  unfold errAt
  rw [blt_true h, cond_true]
theorem err_zero {G : Nat → Int} {T k : Nat} (h : oAt G k + 4 ≤ T) (h0 : numAt G (oAt G k) = 0) : errAt G T k = 7 := by
  unfold errAt
  rw [blt_false (by omega), cond_false, h0]
  rfl
theorem err_big {G : Nat → Int} {T k : Nat} (h : oAt G k + 4 ≤ T) (h0 : 2048 < numAt G (oAt G k)) : errAt G T k = 6 := by
  unfold errAt
  rw [blt_false (by omega), cond_false, Go.SE.beq_false (by omega : numAt G (oAt G k) ≠ 0), cond_false, blt_true h0, cond_true]
theorem err_part {G : Nat → Int} {T k : Nat} (h : oAt G k + 4 ≤ T) (h0 : numAt G (oAt G k) ≠ 0) (h1 : ¬ 2048 < numAt G (oAt G k)) : errAt G T k = 0 := by
  unfold errAt
  rw [blt_false (by omega), cond_false, Go.SE.beq_false h0, cond_false, blt_false h1, cond_false]
theorem jn_eq (n o : Nat) (g h : Nat → Int) (i : Nat) : SV.v (.int .u8 (bop (Nat.blt i n) (SE.byteOf [SV.v (.int .u8 (g (o + i)))]) (h (0 + (i - n))))) = SV.v (.int .u8 (jnG n o g h i)) := by
  unfold jnG
  rw [Nat.zero_add]
  rfl
theorem give_F (q : Prop) (e m cb x0 : Nat) (h : Nat → Int) (wh : Bool) (hP : gvP h m) (hz : errAt h m (kOf h m) = 0) : vcFn Try.prog ΓO0 (ΛGive h m) Try.f41 [.vp 0 0, .sl 1 1 0 m cb] (heapOf [fdB true false true nilS, byB e m h x0 wh]) 64 (fun y h' => FinE [fdB true false true nilS, byB e m h x0 wh] (geOk q [] h m) y h') := by
  rw [vcGiveF]
  obtain ⟨hB, hT⟩ := hP
  refine ⟨trivial, by omega, fun c0 => ⟨⟨⟨0, 0, 0, m + c0, m + c0⟩, ⟨rfl, fun i hi => absurd hi (Nat.not_lt_zero _), ⟨by show 0 + (m + c0) ≤ m + c0; omega, by show m ≤ 0 + (m + c0); omega⟩, Nat.le_refl _⟩, ⟨rfl, rfl, rfl, rfl⟩, ⟨rfl, Nat.le_refl _, rfl, rfl, rfl⟩, ⟨rfl, rfl, trivial⟩, rfl, Nat.le_refl _, fun i _ => by rw [Nat.zero_add]⟩, fun x hx => ?_⟩⟩
  obtain ⟨h1, h2, ⟨h3, h4⟩, h5⟩ := hx
  have hoT : x.o ≤ m := by rw [h1]; exact oAt_le h2
  have hkT : x.k ≤ m := by have := le_oAt h x.k; omega
  refine sel_of (fun hge => ?_) fun hlt => ?_
  · have hge := of_decide_eq_true hge
    have hge : x.o + 4 ≤ m := by omega
    have hge' : oAt h x.k + 4 ≤ m := by rw [← h1]; exact hge
    have hN := num_eq (G := h) hB hge (N := Int.toNat (Option.getD (some (4 : Int)) ((m - x.o : Nat) : Int)) - 0) (Nat.le_refl 4)
    have hl := num_lt (G := h) hB hge
    rw [hN]
    have hne : numAt h (oAt h x.k) = numAt h x.o := by rw [h1]
    generalize hn0 : numAt h x.o = num at hl hne ⊢
    have hw : IntKind.i64.wrap (num : Int) = num := wrap_i64 ⟨by omega, by omega⟩
    rw [hw]
    have hw4 : IntKind.i64.wrap (4 + (num : Int)) = 4 + (num : Int) := wrap_i64 ⟨by omega, by omega⟩
    rw [hw4]
    refine ⟨⟨by omega, by show (0 : Int) ≤ 4; omega, by show (4 : Int) ≤ ((m - x.o : Nat) : Int); omega, by omega⟩, fun _ _ => trivial, ⟨⟨by omega, by omega⟩, ⟨by omega, by rw [strOf_size]; exact Int.le_refl 4⟩, by rw [strOf_size]; show 4 ≤ 1099511627776; omega⟩, ?_⟩
    refine sel_of (fun hz0 => ?_) fun hz0 => sel_of (fun hbg => ?_) fun hbg => sel_of (fun hpt => ?_) fun hpt => ?_
    · have hz0 : num = 0 := by have := (beq_iff_eq ..).1 hz0; omega
      have hK : kOf h m = x.k := kOf_eq h2 (frOk_no fun hh => by have := hh.2.1.1; omega)
      rw [hK, err_zero hge' (by omega)] at hz
      cases hz
    · have hz0 : num ≠ 0 := fun hc => by rw [hc] at hz0; cases hz0
      have hbg := of_decide_eq_true hbg
      have hbg : 2048 < num := by omega
      have hK : kOf h m = x.k := kOf_eq h2 (frOk_no fun hh => by have := hh.2.1.2; omega)
      rw [hK, err_big hge' (by omega)] at hz
      cases hz
    · have hz0 : num ≠ 0 := fun hc => by rw [hc] at hz0; cases hz0
      have hbg := of_decide_eq_false hbg
      have hpt := of_decide_eq_true hpt
      have hK : kOf h m = x.k := kOf_eq h2 (frOk_no fun hh => by
        have := hh.2.2
        simp only [oAt] at this
        omega)
      exact ⟨⟨x.cap - (m - x.o), 0, x.kc - x.k⟩, ⟨sl_eq rfl hK.symm (by rw [hK]; show x.kc = x.k + (x.kc - x.k); omega), rfl⟩, ⟨rfl, Nat.le_refl _, rfl, rfl, by rw [hK, ← h1]; exact sl_eq rfl rfl (by show x.cap = m - x.o + (x.cap - (m - x.o)); omega)⟩, ⟨rfl, by show m + (x.cap - (m - x.o)) + 0 ≤ x.C; omega, fun _ _ => rfl⟩, hK.symm, by rw [hK]; show x.k + (x.kc - x.k) ≤ x.kc; omega, fun _ _ => rfl⟩
    · have hz0 : num ≠ 0 := fun hc => by rw [hc] at hz0; cases hz0
      have hbg := of_decide_eq_false hbg
      have hpt := of_decide_eq_false hpt
      have e1 : Int.toNat (4 + (num : Int)) = 4 + num := by omega
      have e2 : Int.toNat ((m - x.o : Nat) : Int) = m - x.o := by omega
      rw [show Option.getD (some (4 + (num : Int))) ((m - x.o : Nat) : Int) = 4 + (num : Int) from rfl, show Option.getD (some (4 + (num : Int))) (0 : Int) = 4 + (num : Int) from rfl, show Option.getD none ((m - x.o : Nat) : Int) = ((m - x.o : Nat) : Int) from rfl, e1, e2]
      refine ⟨⟨by omega, by omega, by omega, by omega⟩, fun _ _ => trivial, ⟨by omega, by omega, fun _ _ => trivial⟩, fun c1 => ⟨⟨by omega, by omega, Int.le_refl _, by omega⟩, ⟨x.o + (4 + num), x.k + 1, x.k + 1 + c1, x.cap - (4 + num), x.C⟩, ⟨⟨?_, ?_, ⟨by show x.o + (4 + num) + (x.cap - (4 + num)) ≤ x.C; omega, by show m ≤ x.o + (4 + num) + (x.cap - (4 + num)); omega⟩, by show x.k + 1 ≤ x.k + 1 + c1; omega⟩, rfl, ⟨rfl, Nat.le_refl _, rfl, rfl, sl_eq rfl (by show m - x.o - (4 + num) = m - (x.o + (4 + num)); omega) rfl⟩, ⟨rfl, Nat.le_refl _, fun i hi => ?_⟩, rfl, Nat.le_refl _, fun _ _ => rfl⟩, by show m - (x.o + (4 + num)) < m - x.o; omega⟩⟩
      · show x.o + (4 + num) = oAt h x.k + 4 + numAt h (oAt h x.k)
        omega
      · intro i hi
        by_cases hik : i = x.k
        · subst hik
          exact frOk_iff.2 ⟨hge', ⟨by omega, by omega⟩, by simp only [oAt]; omega⟩
        · exact h2 i (by have : i < x.k + 1 := hi; omega)
      · have hi : i < x.k + 1 := hi
        by_cases hik : i < x.k
        · rw [blt_true hik, Nat.zero_add]
          rfl
        · have hik : i = x.k := by omega
          subst hik
          rw [blt_false (Nat.lt_irrefl _)]
          unfold frS
          rw [hne, ← h1, show 4 + num - 4 = num by omega]
          rfl
  · have hlt := of_decide_eq_false hlt
    have hlt : m < x.o + 4 := by omega
    have hK : kOf h m = x.k := kOf_eq h2 (frOk_no fun hh => by have := hh.1; omega)
    exact ⟨⟨x.cap - (m - x.o), 0, x.kc - x.k⟩, ⟨sl_eq rfl hK.symm (by rw [hK]; show x.kc = x.k + (x.kc - x.k); omega), rfl⟩, ⟨rfl, Nat.le_refl _, rfl, rfl, by rw [hK, ← h1]; exact sl_eq rfl rfl (by show x.cap = m - x.o + (x.cap - (m - x.o)); omega)⟩, ⟨rfl, by show m + (x.cap - (m - x.o)) + 0 ≤ x.C; omega, fun _ _ => rfl⟩, hK.symm, by rw [hK]; show x.k + (x.kc - x.k) ≤ x.kc; omega, fun _ _ => rfl⟩
theorem give_U (q : Prop) (o n c N ex e m cb x0 : Nat) (g h : Nat → Int) (wh : Bool) (hN0 : N < 70368744177664) (hoc : o + c ≤ ex) (hP : gvP (jnG n o g h) (n + m)) (hz : errAt (jnG n o g h) (n + m) (kOf (jnG n o g h) (n + m)) = 0) : vcFn Try.prog ΓO0 (ΛGive (jnG n o g h) (n + m)) Try.f41 [.vp 0 0, .sl 2 1 0 m cb] (heapOf [fdB true false false (.sl 1 1 o n c), bG N g ex, byB e m h x0 wh]) 64 (fun y h' => FinE [fdB true false false (.sl 1 1 o n c), bG N g ex, byB e m h x0 wh] (geOk q [(1, killed (bG N g ex))] (jnG n o g h) (n + m)) y h') := by
  rw [vcGiveU]
  obtain ⟨hB, hT⟩ := hP
  refine ⟨⟨rfl, rfl, hN0, fun _ _ => trivial⟩, ⟨by omega, hoc, fun _ _ => trivial⟩, fun c0 => ⟨⟨⟨0, 0, 0, n + m + c0, n + m + c0⟩, ⟨rfl, fun i hi => absurd hi (Nat.not_lt_zero _), ⟨by show 0 + (n + m + c0) ≤ n + m + c0; omega, by show n + m ≤ 0 + (n + m + c0); omega⟩, Nat.le_refl _⟩, ⟨rfl, rfl, rfl, rfl⟩, ⟨rfl, Nat.le_refl _, rfl, rfl, rfl⟩, ⟨rfl, rfl, trivial⟩, rfl, Nat.le_refl _, fun i _ => congrArg (fun z => [z]) (jn_eq n o g h i)⟩, fun x hx => ?_⟩⟩
  obtain ⟨h1, h2, ⟨h3, h4⟩, h5⟩ := hx
  have hoT : x.o ≤ (n + m) := by rw [h1]; exact oAt_le h2
  have hkT : x.k ≤ (n + m) := by have := le_oAt (jnG n o g h) x.k; omega
  refine sel_of (fun hge => ?_) fun hlt => ?_
  · have hge := of_decide_eq_true hge
    have hge : x.o + 4 ≤ (n + m) := by omega
    have hge' : oAt (jnG n o g h) x.k + 4 ≤ (n + m) := by rw [← h1]; exact hge
    have hN := num_eq (G := (jnG n o g h)) hB hge (N := Int.toNat (Option.getD (some (4 : Int)) (((n + m) - x.o : Nat) : Int)) - 0) (Nat.le_refl 4)
    have hl := num_lt (G := (jnG n o g h)) hB hge
    rw [hN]
    have hne : numAt (jnG n o g h) (oAt (jnG n o g h) x.k) = numAt (jnG n o g h) x.o := by rw [h1]
    generalize hn0 : numAt (jnG n o g h) x.o = num at hl hne ⊢
    have hw : IntKind.i64.wrap (num : Int) = num := wrap_i64 ⟨by omega, by omega⟩
    rw [hw]
    have hw4 : IntKind.i64.wrap (4 + (num : Int)) = 4 + (num : Int) := wrap_i64 ⟨by omega, by omega⟩
    rw [hw4]
    refine ⟨⟨by omega, by show (0 : Int) ≤ 4; omega, by show (4 : Int) ≤ (((n + m) - x.o : Nat) : Int); omega, by omega⟩, fun _ _ => trivial, ⟨⟨by omega, by omega⟩, ⟨by omega, by rw [strOf_size]; exact Int.le_refl 4⟩, by rw [strOf_size]; show 4 ≤ 1099511627776; omega⟩, ?_⟩
    refine sel_of (fun hz0 => ?_) fun hz0 => sel_of (fun hbg => ?_) fun hbg => sel_of (fun hpt => ?_) fun hpt => ?_
    · have hz0 : num = 0 := by have := (beq_iff_eq ..).1 hz0; omega
      have hK : kOf (jnG n o g h) (n + m) = x.k := kOf_eq h2 (frOk_no fun hh => by have := hh.2.1.1; omega)
      rw [hK, err_zero hge' (by omega)] at hz
      cases hz
    · have hz0 : num ≠ 0 := fun hc => by rw [hc] at hz0; cases hz0
      have hbg := of_decide_eq_true hbg
      have hbg : 2048 < num := by omega
      have hK : kOf (jnG n o g h) (n + m) = x.k := kOf_eq h2 (frOk_no fun hh => by have := hh.2.1.2; omega)
      rw [hK, err_big hge' (by omega)] at hz
      cases hz
    · have hz0 : num ≠ 0 := fun hc => by rw [hc] at hz0; cases hz0
      have hbg := of_decide_eq_false hbg
      have hpt := of_decide_eq_true hpt
      have hK : kOf (jnG n o g h) (n + m) = x.k := kOf_eq h2 (frOk_no fun hh => by
        have := hh.2.2
        simp only [oAt] at this
        omega)
      exact ⟨⟨x.cap - ((n + m) - x.o), 0, x.kc - x.k⟩, ⟨sl_eq rfl hK.symm (by rw [hK]; show x.kc = x.k + (x.kc - x.k); omega), rfl⟩, ⟨rfl, Nat.le_refl _, rfl, rfl, by rw [hK, ← h1]; exact sl_eq rfl rfl (by show x.cap = (n + m) - x.o + (x.cap - ((n + m) - x.o)); omega)⟩, ⟨rfl, by show (n + m) + (x.cap - ((n + m) - x.o)) + 0 ≤ x.C; omega, fun _ _ => rfl⟩, ⟨hK.symm, by rw [hK]; show x.k + (x.kc - x.k) ≤ x.kc; omega, fun _ _ => rfl⟩, trivial⟩
    · have hz0 : num ≠ 0 := fun hc => by rw [hc] at hz0; cases hz0
      have hbg := of_decide_eq_false hbg
      have hpt := of_decide_eq_false hpt
      have e1 : Int.toNat (4 + (num : Int)) = 4 + num := by omega
      have e2 : Int.toNat (((n + m) - x.o : Nat) : Int) = (n + m) - x.o := by omega
      rw [show Option.getD (some (4 + (num : Int))) (((n + m) - x.o : Nat) : Int) = 4 + (num : Int) from rfl, show Option.getD (some (4 + (num : Int))) (0 : Int) = 4 + (num : Int) from rfl, show Option.getD none (((n + m) - x.o : Nat) : Int) = (((n + m) - x.o : Nat) : Int) from rfl, e1, e2]
      refine ⟨⟨by omega, by omega, by omega, by omega⟩, fun _ _ => trivial, ⟨by omega, by omega, fun _ _ => trivial⟩, fun c1 => ⟨⟨by omega, by omega, Int.le_refl _, by omega⟩, ⟨x.o + (4 + num), x.k + 1, x.k + 1 + c1, x.cap - (4 + num), x.C⟩, ⟨⟨?_, ?_, ⟨by show x.o + (4 + num) + (x.cap - (4 + num)) ≤ x.C; omega, by show (n + m) ≤ x.o + (4 + num) + (x.cap - (4 + num)); omega⟩, by show x.k + 1 ≤ x.k + 1 + c1; omega⟩, rfl, ⟨rfl, Nat.le_refl _, rfl, rfl, sl_eq rfl (by show (n + m) - x.o - (4 + num) = (n + m) - (x.o + (4 + num)); omega) rfl⟩, ⟨rfl, Nat.le_refl _, fun i hi => ?_⟩, rfl, Nat.le_refl _, fun _ _ => rfl⟩, by show (n + m) - (x.o + (4 + num)) < (n + m) - x.o; omega⟩⟩
      · show x.o + (4 + num) = oAt (jnG n o g h) x.k + 4 + numAt (jnG n o g h) (oAt (jnG n o g h) x.k)
        omega
      · intro i hi
        by_cases hik : i = x.k
        · subst hik
          exact frOk_iff.2 ⟨hge', ⟨by omega, by omega⟩, by simp only [oAt]; omega⟩
        · exact h2 i (by have : i < x.k + 1 := hi; omega)
      · have hi : i < x.k + 1 := hi
        by_cases hik : i < x.k
        · rw [blt_true hik, Nat.zero_add]
          rfl
        · have hik : i = x.k := by omega
          subst hik
          rw [blt_false (Nat.lt_irrefl _)]
          unfold frS
          rw [hne, ← h1, show 4 + num - 4 = num by omega]
          rfl
  · have hlt := of_decide_eq_false hlt
    have hlt : (n + m) < x.o + 4 := by omega
    have hK : kOf (jnG n o g h) (n + m) = x.k := kOf_eq h2 (frOk_no fun hh => by have := hh.1; omega)
    exact ⟨⟨x.cap - ((n + m) - x.o), 0, x.kc - x.k⟩, ⟨sl_eq rfl hK.symm (by rw [hK]; show x.kc = x.k + (x.kc - x.k); omega), rfl⟩, ⟨rfl, Nat.le_refl _, rfl, rfl, by rw [hK, ← h1]; exact sl_eq rfl rfl (by show x.cap = (n + m) - x.o + (x.cap - ((n + m) - x.o)); omega)⟩, ⟨rfl, by show (n + m) + (x.cap - ((n + m) - x.o)) + 0 ≤ x.C; omega, fun _ _ => rfl⟩, ⟨hK.symm, by rw [hK]; show x.k + (x.kc - x.k) ≤ x.kc; omega, fun _ _ => rfl⟩, trivial⟩
theorem give_Fb (q : Prop) (e m cb x0 : Nat) (h : Nat → Int) (wh : Bool) (hP : gvP h m) (hz : errAt h m (kOf h m) ≠ 0) : vcFn Try.prog ΓO0 (ΛGive h m) Try.f41 [.vp 0 0, .sl 1 1 0 m cb] (heapOf [fdB true false true nilS, byB e m h x0 wh]) 64 (fun y h' => FinE [fdB true false true nilS, byB e m h x0 wh] (geBad q [] h m) y h') := by
  rw [vcGiveFb]
  obtain ⟨hB, hT⟩ := hP
  refine ⟨trivial, by omega, fun c0 => ⟨⟨⟨0, 0, 0, m + c0, m + c0⟩, ⟨rfl, fun i hi => absurd hi (Nat.not_lt_zero _), ⟨by show 0 + (m + c0) ≤ m + c0; omega, by show m ≤ 0 + (m + c0); omega⟩, Nat.le_refl _⟩, ⟨rfl, rfl, rfl, rfl⟩, ⟨rfl, Nat.le_refl _, rfl, rfl, rfl⟩, ⟨rfl, rfl, trivial⟩, rfl, Nat.le_refl _, fun i _ => by rw [Nat.zero_add]⟩, fun x hx => ?_⟩⟩
  obtain ⟨h1, h2, ⟨h3, h4⟩, h5⟩ := hx
  have hoT : x.o ≤ m := by rw [h1]; exact oAt_le h2
  have hkT : x.k ≤ m := by have := le_oAt h x.k; omega
  refine sel_of (fun hge => ?_) fun hlt => ?_
  · have hge := of_decide_eq_true hge
    have hge : x.o + 4 ≤ m := by omega
    have hge' : oAt h x.k + 4 ≤ m := by rw [← h1]; exact hge
    have hN := num_eq (G := h) hB hge (N := Int.toNat (Option.getD (some (4 : Int)) ((m - x.o : Nat) : Int)) - 0) (Nat.le_refl 4)
    have hl := num_lt (G := h) hB hge
    rw [hN]
    have hne : numAt h (oAt h x.k) = numAt h x.o := by rw [h1]
    generalize hn0 : numAt h x.o = num at hl hne ⊢
    have hw : IntKind.i64.wrap (num : Int) = num := wrap_i64 ⟨by omega, by omega⟩
    rw [hw]
    have hw4 : IntKind.i64.wrap (4 + (num : Int)) = 4 + (num : Int) := wrap_i64 ⟨by omega, by omega⟩
    rw [hw4]
    refine ⟨⟨by omega, by show (0 : Int) ≤ 4; omega, by show (4 : Int) ≤ ((m - x.o : Nat) : Int); omega, by omega⟩, fun _ _ => trivial, ⟨⟨by omega, by omega⟩, ⟨by omega, by rw [strOf_size]; exact Int.le_refl 4⟩, by rw [strOf_size]; show 4 ≤ 1099511627776; omega⟩, ?_⟩
    refine sel_of (fun hz0 => ?_) fun hz0 => sel_of (fun hbg => ?_) fun hbg => sel_of (fun hpt => ?_) fun hpt => ?_
    · have hz0 : num = 0 := by have := (beq_iff_eq ..).1 hz0; omega
      have hK : kOf h m = x.k := kOf_eq h2 (frOk_no fun hh => by have := hh.2.1.1; omega)
      exact sel_of (fun _ => ⟨x.kc - x.k, ⟨sl_eq rfl hK.symm (by rw [hK]; omega), by rw [hK, err_zero hge' (by omega)]⟩, ⟨rfl, Nat.le_refl _, rfl, rfl, rfl⟩, hK.symm, by rw [hK]; omega, fun _ _ => rfl⟩) fun hc => by
        have hc : ((num : Int) == 0) = false := hc
        rw [hz0] at hc
        cases hc
    · have hz0 : num ≠ 0 := fun hc => by rw [hc] at hz0; cases hz0
      have hbg := of_decide_eq_true hbg
      have hbg : 2048 < num := by omega
      have hK : kOf h m = x.k := kOf_eq h2 (frOk_no fun hh => by have := hh.2.1.2; omega)
      exact sel_of (fun hc => by
        have hc : num = 0 := by have := (beq_iff_eq ..).1 hc; omega
        exact absurd hc hz0) fun _ => ⟨x.kc - x.k, ⟨sl_eq rfl hK.symm (by rw [hK]; omega), by rw [hK, err_big hge' (by omega)]⟩, ⟨rfl, Nat.le_refl _, rfl, rfl, rfl⟩, hK.symm, by rw [hK]; omega, fun _ _ => rfl⟩
    · have hz0 : num ≠ 0 := fun hc => by rw [hc] at hz0; cases hz0
      have hbg := of_decide_eq_false hbg
      have hpt := of_decide_eq_true hpt
      have hK : kOf h m = x.k := kOf_eq h2 (frOk_no fun hh => by
        have := hh.2.2
        simp only [oAt] at this
        omega)
      exact absurd (by rw [hK]; exact err_part hge' (by omega) (by omega)) hz
    · have hz0 : num ≠ 0 := fun hc => by rw [hc] at hz0; cases hz0
      have hbg := of_decide_eq_false hbg
      have hpt := of_decide_eq_false hpt
      have e1 : Int.toNat (4 + (num : Int)) = 4 + num := by omega
      have e2 : Int.toNat ((m - x.o : Nat) : Int) = m - x.o := by omega
      rw [show Option.getD (some (4 + (num : Int))) ((m - x.o : Nat) : Int) = 4 + (num : Int) from rfl, show Option.getD (some (4 + (num : Int))) (0 : Int) = 4 + (num : Int) from rfl, show Option.getD none ((m - x.o : Nat) : Int) = ((m - x.o : Nat) : Int) from rfl, e1, e2]
      refine ⟨⟨by omega, by omega, by omega, by omega⟩, fun _ _ => trivial, ⟨by omega, by omega, fun _ _ => trivial⟩, fun c1 => ⟨⟨by omega, by omega, Int.le_refl _, by omega⟩, ⟨x.o + (4 + num), x.k + 1, x.k + 1 + c1, x.cap - (4 + num), x.C⟩, ⟨⟨?_, ?_, ⟨by show x.o + (4 + num) + (x.cap - (4 + num)) ≤ x.C; omega, by show m ≤ x.o + (4 + num) + (x.cap - (4 + num)); omega⟩, by show x.k + 1 ≤ x.k + 1 + c1; omega⟩, rfl, ⟨rfl, Nat.le_refl _, rfl, rfl, sl_eq rfl (by show m - x.o - (4 + num) = m - (x.o + (4 + num)); omega) rfl⟩, ⟨rfl, Nat.le_refl _, fun i hi => ?_⟩, rfl, Nat.le_refl _, fun _ _ => rfl⟩, by show m - (x.o + (4 + num)) < m - x.o; omega⟩⟩
      · show x.o + (4 + num) = oAt h x.k + 4 + numAt h (oAt h x.k)
        omega
      · intro i hi
        by_cases hik : i = x.k
        · subst hik
          exact frOk_iff.2 ⟨hge', ⟨by omega, by omega⟩, by simp only [oAt]; omega⟩
        · exact h2 i (by have : i < x.k + 1 := hi; omega)
      · have hi : i < x.k + 1 := hi
        by_cases hik : i < x.k
        · rw [blt_true hik, Nat.zero_add]
          rfl
        · have hik : i = x.k := by omega
          subst hik
          rw [blt_false (Nat.lt_irrefl _)]
          unfold frS
          rw [hne, ← h1, show 4 + num - 4 = num by omega]
          rfl
  · have hlt := of_decide_eq_false hlt
    have hlt : m < x.o + 4 := by omega
    have hK : kOf h m = x.k := kOf_eq h2 (frOk_no fun hh => by have := hh.1; omega)
    exact absurd (by rw [hK]; exact err_none (by omega)) hz
theorem give_Ub (q : Prop) (o n c N ex e m cb x0 : Nat) (g h : Nat → Int) (wh : Bool) (hN0 : N < 70368744177664) (hoc : o + c ≤ ex) (hP : gvP (jnG n o g h) (n + m)) (hz : errAt (jnG n o g h) (n + m) (kOf (jnG n o g h) (n + m)) ≠ 0) : vcFn Try.prog ΓO0 (ΛGive (jnG n o g h) (n + m)) Try.f41 [.vp 0 0, .sl 2 1 0 m cb] (heapOf [fdB true false false (.sl 1 1 o n c), bG N g ex, byB e m h x0 wh]) 64 (fun y h' => FinE [fdB true false false (.sl 1 1 o n c), bG N g ex, byB e m h x0 wh] (geBad q [(1, killed (bG N g ex))] (jnG n o g h) (n + m)) y h') := by
  rw [vcGiveUb]
  obtain ⟨hB, hT⟩ := hP
  refine ⟨⟨rfl, rfl, hN0, fun _ _ => trivial⟩, ⟨by omega, hoc, fun _ _ => trivial⟩, fun c0 => ⟨⟨⟨0, 0, 0, n + m + c0, n + m + c0⟩, ⟨rfl, fun i hi => absurd hi (Nat.not_lt_zero _), ⟨by show 0 + (n + m + c0) ≤ n + m + c0; omega, by show n + m ≤ 0 + (n + m + c0); omega⟩, Nat.le_refl _⟩, ⟨rfl, rfl, rfl, rfl⟩, ⟨rfl, Nat.le_refl _, rfl, rfl, rfl⟩, ⟨rfl, rfl, trivial⟩, rfl, Nat.le_refl _, fun i _ => congrArg (fun z => [z]) (jn_eq n o g h i)⟩, fun x hx => ?_⟩⟩
  obtain ⟨h1, h2, ⟨h3, h4⟩, h5⟩ := hx
  have hoT : x.o ≤ (n + m) := by rw [h1]; exact oAt_le h2
  have hkT : x.k ≤ (n + m) := by have := le_oAt (jnG n o g h) x.k; omega
  refine sel_of (fun hge => ?_) fun hlt => ?_
  · have hge := of_decide_eq_true hge
    have hge : x.o + 4 ≤ (n + m) := by omega
    have hge' : oAt (jnG n o g h) x.k + 4 ≤ (n + m) := by rw [← h1]; exact hge
    have hN := num_eq (G := (jnG n o g h)) hB hge (N := Int.toNat (Option.getD (some (4 : Int)) (((n + m) - x.o : Nat) : Int)) - 0) (Nat.le_refl 4)
    have hl := num_lt (G := (jnG n o g h)) hB hge
    rw [hN]
    have hne : numAt (jnG n o g h) (oAt (jnG n o g h) x.k) = numAt (jnG n o g h) x.o := by rw [h1]
    generalize hn0 : numAt (jnG n o g h) x.o = num at hl hne ⊢
    have hw : IntKind.i64.wrap (num : Int) = num := wrap_i64 ⟨by omega, by omega⟩
    rw [hw]
    have hw4 : IntKind.i64.wrap (4 + (num : Int)) = 4 + (num : Int) := wrap_i64 ⟨by omega, by omega⟩
    rw [hw4]
    refine ⟨⟨by omega, by show (0 : Int) ≤ 4; omega, by show (4 : Int) ≤ (((n + m) - x.o : Nat) : Int); omega, by omega⟩, fun _ _ => trivial, ⟨⟨by omega, by omega⟩, ⟨by omega, by rw [strOf_size]; exact Int.le_refl 4⟩, by rw [strOf_size]; show 4 ≤ 1099511627776; omega⟩, ?_⟩
    refine sel_of (fun hz0 => ?_) fun hz0 => sel_of (fun hbg => ?_) fun hbg => sel_of (fun hpt => ?_) fun hpt => ?_
    · have hz0 : num = 0 := by have := (beq_iff_eq ..).1 hz0; omega
      have hK : kOf (jnG n o g h) (n + m) = x.k := kOf_eq h2 (frOk_no fun hh => by have := hh.2.1.1; omega)
      exact sel_of (fun _ => ⟨x.kc - x.k, ⟨sl_eq rfl hK.symm (by rw [hK]; omega), by rw [hK, err_zero hge' (by omega)]⟩, ⟨rfl, Nat.le_refl _, rfl, rfl, rfl⟩, ⟨hK.symm, by rw [hK]; omega, fun _ _ => rfl⟩, trivial⟩) fun hc => by
        have hc : ((num : Int) == 0) = false := hc
        rw [hz0] at hc
        cases hc
    · have hz0 : num ≠ 0 := fun hc => by rw [hc] at hz0; cases hz0
      have hbg := of_decide_eq_true hbg
      have hbg : 2048 < num := by omega
      have hK : kOf (jnG n o g h) (n + m) = x.k := kOf_eq h2 (frOk_no fun hh => by have := hh.2.1.2; omega)
      exact sel_of (fun hc => by
        have hc : num = 0 := by have := (beq_iff_eq ..).1 hc; omega
        exact absurd hc hz0) fun _ => ⟨x.kc - x.k, ⟨sl_eq rfl hK.symm (by rw [hK]; omega), by rw [hK, err_big hge' (by omega)]⟩, ⟨rfl, Nat.le_refl _, rfl, rfl, rfl⟩, ⟨hK.symm, by rw [hK]; omega, fun _ _ => rfl⟩, trivial⟩
    · have hz0 : num ≠ 0 := fun hc => by rw [hc] at hz0; cases hz0
      have hbg := of_decide_eq_false hbg
      have hpt := of_decide_eq_true hpt
      have hK : kOf (jnG n o g h) (n + m) = x.k := kOf_eq h2 (frOk_no fun hh => by
        have := hh.2.2
        simp only [oAt] at this
        omega)
      exact absurd (by rw [hK]; exact err_part hge' (by omega) (by omega)) hz
    · have hz0 : num ≠ 0 := fun hc => by rw [hc] at hz0; cases hz0
      have hbg := of_decide_eq_false hbg
      have hpt := of_decide_eq_false hpt
      have e1 : Int.toNat (4 + (num : Int)) = 4 + num := by omega
      have e2 : Int.toNat (((n + m) - x.o : Nat) : Int) = (n + m) - x.o := by omega
      rw [show Option.getD (some (4 + (num : Int))) (((n + m) - x.o : Nat) : Int) = 4 + (num : Int) from rfl, show Option.getD (some (4 + (num : Int))) (0 : Int) = 4 + (num : Int) from rfl, show Option.getD none (((n + m) - x.o : Nat) : Int) = (((n + m) - x.o : Nat) : Int) from rfl, e1, e2]
      refine ⟨⟨by omega, by omega, by omega, by omega⟩, fun _ _ => trivial, ⟨by omega, by omega, fun _ _ => trivial⟩, fun c1 => ⟨⟨by omega, by omega, Int.le_refl _, by omega⟩, ⟨x.o + (4 + num), x.k + 1, x.k + 1 + c1, x.cap - (4 + num), x.C⟩, ⟨⟨?_, ?_, ⟨by show x.o + (4 + num) + (x.cap - (4 + num)) ≤ x.C; omega, by show (n + m) ≤ x.o + (4 + num) + (x.cap - (4 + num)); omega⟩, by show x.k + 1 ≤ x.k + 1 + c1; omega⟩, rfl, ⟨rfl, Nat.le_refl _, rfl, rfl, sl_eq rfl (by show (n + m) - x.o - (4 + num) = (n + m) - (x.o + (4 + num)); omega) rfl⟩, ⟨rfl, Nat.le_refl _, fun i hi => ?_⟩, rfl, Nat.le_refl _, fun _ _ => rfl⟩, by show (n + m) - (x.o + (4 + num)) < (n + m) - x.o; omega⟩⟩
      · show x.o + (4 + num) = oAt (jnG n o g h) x.k + 4 + numAt (jnG n o g h) (oAt (jnG n o g h) x.k)
        omega
      · intro i hi
        by_cases hik : i = x.k
        · subst hik
          exact frOk_iff.2 ⟨hge', ⟨by omega, by omega⟩, by simp only [oAt]; omega⟩
        · exact h2 i (by have : i < x.k + 1 := hi; omega)
      · have hi : i < x.k + 1 := hi
        by_cases hik : i < x.k
        · rw [blt_true hik, Nat.zero_add]
          rfl
        · have hik : i = x.k := by omega
          subst hik
          rw [blt_false (Nat.lt_irrefl _)]
          unfold frS
          rw [hne, ← h1, show 4 + num - 4 = num by omega]
          rfl
  · have hlt := of_decide_eq_false hlt
    have hlt : (n + m) < x.o + 4 := by omega
    have hK : kOf (jnG n o g h) (n + m) = x.k := kOf_eq h2 (frOk_no fun hh => by have := hh.1; omega)
    exact absurd (by rw [hK]; exact err_none (by omega)) hz
end Go.Proofs.Ytjdldadmaaeimaa
