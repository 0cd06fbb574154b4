/-
  Lists: a copy, equal lists: the plain part.
-/
import Derived.Test.YtnnmfonapfhcaaaFyF
set_option maxRecDepth 100000
namespace Go.Proofs.Ytnnmfonapfhcaaa
open Go.SE Go.RowKit

theorem Nums_spec : HpSpec Try.prog 27 sNums := hp_spec hm noCtrs_ok Try.func27 (Λ := fun args bs => match args, bs with | [.sl 0 2 0 n _], [S] => ΛNums n (fun i => rowV (S.row i)) (fun i => rowF (S.row i)) | _, _ => noΛ) fun args bs e hs hp => by
  unfold sNums at hs
  split at hs <;> try (cases hs; done)
  rename_i n c S
  cases hS : nrOk S with
  | false => rw [hS] at hs; cases hs
  | true =>
    rw [hS] at hs
    cases hs
    obtain ⟨p1, p2, p3⟩ := hp
    have p1 := okAll_rows.1 p1
    refine ⟨[nrB S.elem n (fun i => rowV (S.row i)) fun i => rowF (S.row i)], ⟨same_nrB hS p2 p1, trivial⟩, ?_⟩
    refine Eq.mpr (vcNums S.elem n c (fun i => rowV (S.row i)) (fun i => rowF (S.row i))) ?_
    refine ⟨⟨⟨0, 0⟩, ⟨Nat.zero_le _, Nat.le_refl _⟩, ⟨rfl, rfl, rfl, rfl, rfl⟩, ⟨rfl, rfl, trivial⟩, trivial⟩, fun x ⟨x1, x2⟩ => ?_⟩
    refine sel_of (fun g => ?_) fun g => ?_
    · have g := of_decide_eq_true g
      have e1 : IntKind.i64.wrap ((x.k : Int) + 1) = ((x.k + 1 : Nat) : Int) := by rw [wrap_i64 ⟨by omega, by omega⟩]; omega
      refine ⟨⟨by omega, by omega⟩, ⟨by omega, by omega, fun _ _ => trivial⟩, fun c1 => ⟨⟨x.k + 1, x.k + 1 + c1⟩, ⟨⟨by show x.k + 1 ≤ n; omega, by show x.k + 1 ≤ x.k + 1 + c1; omega⟩, ⟨int_mk e1, rfl⟩, rfl, Nat.le_refl _, fun i hi => ?_⟩, by show n - (x.k + 1) < _; omega⟩⟩
      have hi : i < x.k + 1 := hi
      rw [Int.toNat_natCast, Nat.zero_add, Nat.zero_add]
      have b1 : ∀ (a b : Int), bop true a b = a := fun _ _ => rfl
      have b2 : ∀ (a b : Int), bop false a b = b := fun _ _ => rfl
      have b3 : ∀ (a b : Bool), bop true a b = a := fun _ _ => rfl
      have b4 : ∀ (a b : Bool), bop false a b = b := fun _ _ => rfl
      by_cases h : i < x.k
      · rw [show Nat.blt i x.k = true from Nat.ble_eq_true_of_le h, b1, b3]
      · have e : i = x.k := by omega
        subst e
        rw [show Nat.blt x.k x.k = false from by cases hb : Nat.blt x.k x.k with | false => rfl | true => exact absurd (Nat.le_of_ble_eq_true hb) (by omega), b2, b4]
    · have g := of_decide_eq_false g
      have e : x.k = n := by omega
      exact ⟨x.c, by rw [e], e, Nat.le_refl _, fun i hi => rfl⟩
theorem Same_spec : RoSpec Try.prog 34 sSame := ro_spec hm noCtrs_ok Try.func34 (Λ := fun args _ => match args with | [.sl 0 2 0 n _, _] => ΛSame n | _ => noΛ) fun args bs p x h hp => by
  unfold sSame at h
  split at h <;> try (cases h; done)
  rename_i n c m c' n' row m' row'
  cases h
  obtain ⟨⟨h1, rfl, h2⟩, ⟨h3, rfl⟩, rfl, h4⟩ := hp _ rfl
  have h1 := okAll_rows.1 h1
  have h3 := okAll_rows.1 h3
  have h5 : ∀ i, i < n' → row i = row' i := fun i hi => by
    have := congrArg (fun l => l[i]?) h4
    simp only [rowsOf_get, if_pos hi] at this
    exact Option.some.inj this
  refine ⟨rfl, [⟨2, n', rowsN (fun i => rowV (row i)) fun i => rowF (row i)⟩, ⟨2, n', rowsN (fun i => rowV (row' i)) fun i => rowF (row' i)⟩], ⟨⟨rfl, rfl, fun i hi => isN_row (h1 i hi)⟩, ⟨rfl, rfl, fun i hi => isN_row (h3 i hi)⟩, trivial⟩, ?_⟩
  refine Eq.mpr (vcSame n' n' c n' n' c' (fun i => rowV (row i)) (fun i => rowV (row' i)) (fun i => rowF (row i)) (fun i => rowF (row' i)) _) ?_
  refine sel_F (by simp) ⟨⟨0, Nat.zero_le _, rfl, trivial⟩, fun x hx => ?_⟩
  have hx : x ≤ n' := hx
  refine sel_of (fun g => ?_) fun _ => rfl
  have g := of_decide_eq_true g
  have e1 : IntKind.i64.wrap ((x : Int) + 1) = ((x + 1 : Nat) : Int) := by rw [wrap_i64 ⟨by omega, by omega⟩]; omega
  refine ⟨⟨by omega, by omega⟩, ⟨by omega, by omega⟩, sel_F (nq ?_ ?_) ⟨x + 1, ⟨Nat.succ_le_of_lt (by omega), int_mk e1, trivial⟩, by omega⟩⟩
  · rw [Int.toNat_natCast, Nat.zero_add, h5 x (by omega)]
  · rw [Int.toNat_natCast, Nat.zero_add, h5 x (by omega)]
end Go.Proofs.Ytnnmfonapfhcaaa
