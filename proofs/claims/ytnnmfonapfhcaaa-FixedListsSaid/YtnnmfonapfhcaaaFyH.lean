/-
  FixedLists: the plain part.
-/
import Derived.Test.YtnnmfonapfhcaaaFyG
set_option maxRecDepth 100000
namespace Go.Proofs.Ytnnmfonapfhcaaa
open Go.SE Go.RowKit

theorem ΓN_ok : ∀ f g, ΓN f = some g → g.ok Try.prog f := addCtr_ok (addCtr_ok ΓL_ok (hp_ok Try.func27 (by kernel_rfl) (by kernel_rfl) Nums_spec)) (ro_ok Try.func34 (by kernel_rfl) (by kernel_rfl) Same_spec)
theorem ListsLaw_spec : RoSpec Try.prog 5 sListsLaw := ro_spec hm ΓN_ok Try.func5 (Λ := fun _ _ => noΛ) fun args bs p x h hp => by
  unfold sListsLaw at h
  split at h <;> try (cases h; done)
  rename_i n c a fa b fb d fd n' row
  cases h
  obtain ⟨h0, rfl, ha, hb, hd⟩ := hp _ rfl
  have h0 := okAll_rows.1 h0
  have h1 : ∀ i, i < n' → isN (row i) := fun i hi => (isNI_row (h0 i hi)).1
  have hv : ∀ i, i < n' → I64 (rowV (row i)) := fun i hi => (isNI_row (h0 i hi)).2
  refine ⟨rfl, [⟨2, n', rowsN (fun i => rowV (row i)) fun i => rowF (row i)⟩], ⟨⟨rfl, rfl, fun i hi => isN_row (h1 i hi)⟩, trivial⟩, ?_⟩
  refine Eq.mpr (vcListsLaw n' n' c (fun i => rowV (row i)) (fun i => rowF (row i)) a fa b fb d fd _) ?_
  have hNI : okAll isNI (rowsOf n' fun y => [SV.v (Value.int .i64 (rowV (row (0 + y)))), SV.v (Value.bool (rowF (row (0 + y))))]) := okAll_rows.2 fun i hi => hv (0 + i) (by omega)
  have hN : okAll isN (rowsOf n' fun y => [SV.v (Value.int .i64 (rowV (row (0 + y)))), SV.v (Value.bool (rowF (row (0 + y))))]) := okAll_rows.2 fun i hi => trivial
  have hNI' : okAll isNI (rowsOf n' fun y => [SV.v (Value.int .i64 (rowV (row (0 + (0 + y))))), SV.v (Value.bool (rowF (row (0 + (0 + y)))))]) := okAll_rows.2 fun i hi => hv (0 + (0 + i)) (by omega)
  have hN' : okAll isN (rowsOf n' fun y => [SV.v (Value.int .i64 (rowV (row (0 + (0 + y))))), SV.v (Value.bool (rowF (row (0 + (0 + y)))))]) := okAll_rows.2 fun i hi => trivial
  have hr : (rowsOf n' fun y => [SV.v (Value.int .i64 (rowV (row (0 + (0 + y))))), SV.v (Value.bool (rowF (row (0 + (0 + y)))))]) = rowsOf n' fun y => [SV.v (Value.int .i64 (rowV (row (0 + y)))), SV.v (Value.bool (rowF (row (0 + y))))] := by simp only [Nat.zero_add]
  refine sel_of (fun _ => rfl) fun g => ?_
  have g := of_decide_eq_false g
  have hn : n' < 1099511627776 := by omega
  refine ⟨⟨hN, rfl, hn⟩, fun c1 => ⟨⟨hN', rfl, hn⟩, ⟨hN, rfl, hn⟩, sel_F (nq (congrArg _ hr) (congrArg _ hr)) ⟨⟨hN', rfl, hn⟩, ⟨hN, rfl, hn⟩, sel_F (nq (congrArg _ hr) (congrArg _ hr)) ⟨⟨hNI', rfl, hn⟩, ⟨hNI, rfl, hn⟩, sel_F (nq (congrArg (fun l => fitE (sumG l)) hr) (congrArg (fun l => fitG (sumG l) (anyG l)) hr)) ?_⟩⟩⟩⟩
  exact ⟨⟨⟨hN', rfl, hn⟩, ⟨hN, rfl⟩, rfl, hr⟩, ⟨ha, hb, hd⟩, ⟨ha, hb, hd⟩, sel_T (yq rfl rfl) (sel_T (beq_self_eq_true _) rfl)⟩
end Go.Proofs.Ytnnmfonapfhcaaa
