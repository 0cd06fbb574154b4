/-
  FixedOps, FixedOrder: the plain part.
-/
import Derived.Test.YtnnmfonapfhcaaaFyC
set_option maxRecDepth 100000
namespace Go.Proofs.Ytnnmfonapfhcaaa
open Go.SE Go.RowKit

theorem sel_T {b : Bool} {x y : Prop} (h : b = true) (k : x) : sel b x y := by subst h; exact k
theorem sel_F {b : Bool} {x y : Prop} (h : b = false) (k : y) : sel b x y := by subst h; exact k
theorem nq {X Y : Int} {U V : Bool} (h : X = Y) (k : U = V) : (!(X == Y && U == V)) = false := by subst h k; simp
theorem yq {X Y : Int} {U V : Bool} (h : X = Y) (k : U = V) : (X == Y && U == V) = true := by subst h k; simp
theorem OpsLaw_spec : PureSpec Try.prog 7 sOpsLaw := vc_spec hm ΓL_ok Try.func7 (Λ := fun _ => noΛ) fun args p x h hp => by
  unfold sOpsLaw at h
  split at h <;> try (cases h; done)
  rename_i a f b g v w
  cases h
  obtain ⟨⟨h1, h2⟩, h3, h4⟩ := hp _ rfl
  refine ⟨rfl, rfl, ?_⟩
  refine Eq.mpr (vcOpsLaw a f b g v w _) ?_
  exact sel_F (nq rfl rfl) ⟨h3, h3, sel_F (nq rfl rfl) ⟨⟨h3, h4⟩, ⟨h3, h4⟩, sel_F (nq rfl rfl) ⟨h1, h1, sel_F (nq rfl rfl) ⟨h1, h1, sel_F (nq rfl rfl) ⟨⟨h1, h2⟩, ⟨h1, h2⟩, sel_T (yq rfl rfl) ⟨⟨h1, h2⟩, ⟨h1, h2⟩, sel_T (yq rfl rfl) ⟨⟨h1, h2⟩, ⟨h1, h2⟩, sel_T (yq rfl rfl) ⟨⟨h1, h2⟩, ⟨h1, h2⟩, sel_T (yq rfl rfl) rfl⟩⟩⟩⟩⟩⟩⟩⟩
theorem sum3 (v u t : Int) (f g h : Bool) : sumG [[SV.v (Value.int .i64 v), SV.v (Value.bool f)], [SV.v (Value.int .i64 u), SV.v (Value.bool g)], [SV.v (Value.int .i64 t), SV.v (Value.bool h)]] = sndV v + (sndV u + sndV t) := by simp [sumG, rowV]
theorem any3 (v u t : Int) (f g h : Bool) : anyG [[SV.v (Value.int .i64 v), SV.v (Value.bool f)], [SV.v (Value.int .i64 u), SV.v (Value.bool g)], [SV.v (Value.int .i64 t), SV.v (Value.bool h)]] = (sndF v f || (sndF u g || sndF t h)) := by simp [anyG, rowV, rowF]
theorem min3 (v u t : Int) (f g h : Bool) : mostV 1 [[SV.v (Value.int .i64 v), SV.v (Value.bool f)], [SV.v (Value.int .i64 u), SV.v (Value.bool g)], [SV.v (Value.int .i64 t), SV.v (Value.bool h)]] = minE (minE (sndV v) (sndV u)) (sndV t) := by
  rw [← minE_2, ← minE_2]; rfl
theorem max3 (v u t : Int) (f g h : Bool) : mostV (-1) [[SV.v (Value.int .i64 v), SV.v (Value.bool f)], [SV.v (Value.int .i64 u), SV.v (Value.bool g)], [SV.v (Value.int .i64 t), SV.v (Value.bool h)]] = maxE (maxE (sndV v) (sndV u)) (sndV t) := by
  rw [← maxE_2, ← maxE_2]; rfl
theorem mulE_comm (a b : Int) : mulE a b = mulE b a := by unfold mulE; rw [Int.mul_comm]
theorem OrderLaw_spec : PureSpec Try.prog 9 sThreeLaw := vc_spec hm ΓL_ok Try.func9 (Λ := fun _ => noΛ) fun args p x h hp => by
  unfold sThreeLaw at h
  split at h <;> try (cases h; done)
  rename_i a f b g c h
  cases h
  obtain ⟨h1, h2, h3⟩ := hp _ rfl
  refine ⟨rfl, rfl, ?_⟩
  refine Eq.mpr (vcOrderLaw a f b g c h _) ?_
  have n1 := sndV_n h1
  have n2 := sndV_n h2
  rw [sum3, sum3, any3, any3, any3, any3, min3, min3, max3, max3]
  simp only [n1.1, n2.1, Int.neg_neg, snd2 h1, sndF_n h1, sndF_n h2, sndF2 h1]
  have e3 : ∀ x y z : Bool, (x || (y || z)) = (z || (x || y)) := by decide
  have e4 : ∀ x y z : Bool, (x || (y || z)) = (z || (y || x)) := by decide
  have e5 : ∀ x y z : Bool, (x || (y || z)) = (y || (z || x)) := by decide
  have hF : ∀ x : Bool, (sndF a x) = (x || a == -9223372036854775808) := fun x => by
    unfold sndF; by_cases hh : a = -9223372036854775808 <;> simp [hh]
  have hsub : sndV a - sndV b = sndV a + -sndV b := by omega
  refine ⟨⟨h1, h2⟩, ⟨h2, h1⟩, sel_F (nq (by rw [Int.add_comm]) (by rw [Int.add_comm, Bool.or_comm])) ⟨⟨h1, h2⟩, ⟨h2, h1⟩, sel_F (nq (by rw [mulE_comm]) (by rw [mulE_comm, Bool.or_comm])) ?_⟩⟩
  refine ⟨⟨⟨h1, h2, h3, trivial⟩, by trivial, by decide⟩, ⟨⟨h3, h1, h2, trivial⟩, by trivial, by decide⟩, sel_F (nq ?_ ?_) ?_⟩
  · congr 1; omega
  · rw [e3 (sndF a f)]; congr 1; omega
  refine ⟨⟨⟨trivial, trivial, trivial, trivial⟩, by trivial, by decide⟩, ⟨⟨trivial, trivial, trivial, trivial⟩, by trivial, by decide⟩, sel_F (nq ?_ ?_) ?_⟩
  · unfold minE; (repeat' split) <;> omega
  · rw [e4 (sndF a f)]
  refine ⟨⟨⟨trivial, trivial, trivial, trivial⟩, by trivial, by decide⟩, ⟨⟨trivial, trivial, trivial, trivial⟩, by trivial, by decide⟩, sel_F (nq ?_ ?_) ?_⟩
  · unfold maxE; (repeat' split) <;> omega
  · rw [e5 (sndF a f)]
  refine ⟨h1, n1.2, ⟨h1, h2⟩, h2, ⟨h1, n2.2⟩, sel_T (yq ?_ ?_) ?_⟩
  · rw [hsub]
  · rw [hsub]
  refine sel_T ?_ (sel_of (fun hf => sel_T ?_ ⟨?_, ?_, sel_T (yq rfl rfl) (by trivial)⟩) fun hf => sel_T ?_ ⟨?_, ?_, sel_T (yq rfl rfl) (by trivial)⟩)
  · rw [cmpI_eq]; rfl
  · rw [hF, hf]; rfl
  · exact sndV_i64 h1
  · exact n1.2
  · rw [hF, hf, Bool.false_or]; simp
  · exact sndV_i64 h1
  · exact n1.2
end Go.Proofs.Ytnnmfonapfhcaaa
