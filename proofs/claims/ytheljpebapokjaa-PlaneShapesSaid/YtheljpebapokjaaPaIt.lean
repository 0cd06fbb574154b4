/-
  The iterator over a polygon's corners.
-/
import Derived.Test.YtheljpebapokjaaPaC
import Derived.Test.YtheljpebapokjaaSeDet
import Derived.RangeFuncNested
import Derived.RangeFuncBound
import Derived.RangeFuncCalls
import Derived.RangeFuncLeaves
import Derived.Shelf.Abstract
import Derived.Shelf.RegionOpen
import Derived.WalkKit
import Derived.OwnWalkIn
import Derived.TacticsInMore
import Derived.LoopNIn
import Derived.LoopIn
import Derived.BigRegionIn
import Derived.Stop.RegionWithIn
set_option linter.unusedSimpArgs false
set_option linter.unusedVariables false
set_option maxRecDepth 100000
set_option maxHeartbeats 2000000
namespace Go.Proofs.Ytheljpebapokjaa
open Go.RowKit Go.Shelf Go.SE

attribute [local go_sem] Oper.semAt_some

theorem eval_of {a : Act} {t : Nat} {v : Value} (h : a.tmps[t]? = some v) : a.eval (.tmp t) = v := by
  simp [Act.eval, Array.getD_eq_getD_getElem?, h]

theorem corners1_in (l Bs b off len cap : Nat) (g : Nat → Int × Int) (hlen : len ≤ 1099511627776) (J : Nat → World → Prop) (Jx : World → Prop)
    (hC : ∀ k W, J k W → (∃ a, W.cell? ⟨Bs, 0, none⟩ = some (.slice a len cap) ∧ (0 < len → a = some ⟨b, off, none⟩)) ∧ ∀ j, j < len → W.cell? ⟨b, off + j * 2, none⟩ = some (.int .i64 (g j).1) ∧ W.cell? ⟨b, off + j * 2 + 1, none⟩ = some (.int .i64 (g j).2))
    (hY : ∀ k W, J k W → k < len → YieldAt Fence.wide 0 Try.prog l #[.agg #[.int .i64 k, .int .i64 (g k).1, .int .i64 (g k).2, .int .i64 (g ((k + 1) % len)).1, .int .i64 (g ((k + 1) % len)).2, .int .i64 (g ((k + 2) % len)).1, .int .i64 (g ((k + 2) % len)).2]] W fun e W' =>
      (e = .returned (.bool true) ∧ J (k + 1) W') ∨ (e = .returned (.bool false) ∧ Jx W'))
    (hB : ∀ k W W', J k W → Below W.heap.size W W' → J k W') (W : World) (h0 : J 0 W) :
    CallsIn Fence.wide 1 Try.prog 134 #[.func (.yield l) #[] #[], .pointer (some ⟨Bs, 0, none⟩)] W fun e W' => (∃ v, e = .returned v) ∧ (J len W' ∨ Jx W') := by
  refine callsIn_of_wp Try.func134 rfl trivial ?_ rfl
  simp only [Try.ntmps134, List.size_toArray, List.length_cons, List.length_nil, Nat.reduceAdd, Nat.reduceSub, Array.replicate_succ, Array.replicate_zero, List.push_toArray, List.append_toArray, List.nil_append, List.cons_append]
  obtain ⟨a, hc0, ha⟩ := (hC 0 W h0).1
  gi_wp2
  gi_loopw [8] (fun i wr => ∃ k : Nat, k ≤ len ∧ i = .int .i64 k ∧ J k wr) (fun i _ => len - (intOf i).toNat)
  case atStart => exact ⟨0, Nat.zero_le _, rfl, h0⟩
  case round =>
    obtain ⟨k, hk, rfl, hJs⟩ := hrel
    obtain ⟨⟨a', hcb, ha'⟩, hcs⟩ := hC k wr hJs
    by_cases hlt : k < len
    · obtain rfl := ha (by omega)
      obtain rfl := ha' (by omega)
      clear ha ha'
      obtain ⟨fn, tmps, assign, body, hy, hR⟩ := hY k wr.drew (hB k wr _ hJs ((Below.refl _ wr).drew)) hlt
      have hR' := hR.mono (R' := fun e W' => ∃ t : Bool, e = .returned (.bool t) ∧ ((t = true ∧ J (k + 1) W') ∨ (t = false ∧ Jx W'))) (fun e W' h => by
        rcases h with ⟨rfl, h⟩ | ⟨rfl, h⟩
        · exact ⟨true, rfl, .inl ⟨rfl, h⟩⟩
        · exact ⟨false, rfl, .inr ⟨rfl, h⟩⟩)
      clear hR
      obtain ⟨c0, c0'⟩ := hcs k hlt
      have l1 : (k + 1) % len < len := Nat.mod_lt _ (by omega)
      have l2 : (k + 2) % len < len := Nat.mod_lt _ (by omega)
      have e1 : ((k : Int) + 1) % (len : Int) = (((k + 1) % len : Nat) : Int) := by rw [Int.natCast_emod]; rfl
      have e2 : ((k : Int) + 2) % (len : Int) = (((k + 2) % len : Nat) : Int) := by rw [Int.natCast_emod]; rfl
      have e1' : ((k + 1 : Nat) : Int) % (len : Int) = (((k + 1) % len : Nat) : Int) := by rw [Int.natCast_emod]
      have e2' : ((k + 2 : Nat) : Int) % (len : Int) = (((k + 2) % len : Nat) : Int) := by rw [Int.natCast_emod]
      have b1 : ((k : Int) + 1) % (len : Int) < (len : Int) := Int.emod_lt_of_pos _ (by omega)
      have b1' : 0 ≤ ((k : Int) + 1) % (len : Int) := Int.emod_nonneg _ (by omega)
      have t1 : Int.tmod ((k : Int) + 1) (len : Int) = (((k + 1) % len : Nat) : Int) := by rw [Int.tmod_eq_emod_of_nonneg (by omega), Int.natCast_emod]; rfl
      have t2 : Int.tmod ((k : Int) + 2) (len : Int) = (((k + 2) % len : Nat) : Int) := by rw [Int.tmod_eq_emod_of_nonneg (by omega), Int.natCast_emod]; rfl
      have w1 : (IntKind.i64.wrap ((k : Int) + 1)).tmod (len : Int) = (((k + 1) % len : Nat) : Int) := by rw [wrap_i64 ⟨by omega, by omega⟩]; exact t1
      have w2 : (IntKind.i64.wrap ((k : Int) + 2)).tmod (len : Int) = (((k + 2) % len : Nat) : Int) := by rw [wrap_i64 ⟨by omega, by omega⟩]; exact t2
      generalize (k + 1) % len = j1 at *
      generalize (k + 2) % len = j2 at *
      obtain ⟨c1, c1'⟩ := hcs _ l1
      obtain ⟨c2, c2'⟩ := hcs _ l2
      clear hC hY hcs
      have f0 : (len : Int) ≠ 0 := by omega
      have f0' : ¬ len = 0 := by omega
      have fk : (k : Int) < (len : Int) := by omega
      have f1 : (j1 : Int) < (len : Int) := by omega
      have f2 : (j2 : Int) < (len : Int) := by omega
      have fk' : ¬ (len : Int) ≤ (k : Int) := by omega
      have f1' : ¬ (len : Int) ≤ (j1 : Int) := by omega
      have f2' : ¬ (len : Int) ≤ (j2 : Int) := by omega
      have gk : ¬ len ≤ k := by omega
      have g1 : ¬ len ≤ j1 := by omega
      have g2 : ¬ len ≤ j2 := by omega
      gi_wp2
      refine det_region (ro := none) (m := 21) (T := #[.func (.yield l) #[] #[], .pointer (some ⟨Bs, 0, none⟩), undef, .int .i64 (len), .int .i64 (k), .slice (some ⟨b, off, none⟩) len cap, .int .i64 (len), .int .i64 (len), .int .i64 (k), .bool true, .int .i64 (k), .func (.yield l) #[] #[], .int .i64 (k), .slice (some ⟨b, off, none⟩) len cap, .int .i64 (k), .pointer (some ⟨b, off + k * 2, none⟩), .agg #[.int .i64 (g k).1, .int .i64 (g k).2], .slice (some ⟨b, off, none⟩) len cap, .int .i64 (k), .int .i64 (IntKind.i64.wrap ((k : Int) + 1)), .int .i64 (len), .int .i64 (j1), .pointer (some ⟨b, off + j1 * 2, none⟩), .agg #[.int .i64 (g j1).1, .int .i64 (g j1).2], .slice (some ⟨b, off, none⟩) len cap, .int .i64 (k), .int .i64 (IntKind.i64.wrap ((k : Int) + 2)), .int .i64 (len), .int .i64 (j2), .pointer (some ⟨b, off + j2 * 2, none⟩), .agg #[.int .i64 (g j2).1, .int .i64 (g j2).2], .agg #[.int .i64 k, .int .i64 (g k).1, .int .i64 (g k).2, .int .i64 (g j1).1, .int .i64 (g j1).2, .int .i64 (g j2).1, .int .i64 (g j2).2], u32, u33, u34]) (dst := fun i => i + 11) (vals := fun i => ([.func (.yield l) #[] #[], .int .i64 (k), .slice (some ⟨b, off, none⟩) len cap, .int .i64 (k), .pointer (some ⟨b, off + k * 2, none⟩), .agg #[.int .i64 (g k).1, .int .i64 (g k).2], .slice (some ⟨b, off, none⟩) len cap, .int .i64 (k), .int .i64 (IntKind.i64.wrap ((k : Int) + 1)), .int .i64 (len), .int .i64 (j1), .pointer (some ⟨b, off + j1 * 2, none⟩), .agg #[.int .i64 (g j1).1, .int .i64 (g j1).2], .slice (some ⟨b, off, none⟩) len cap, .int .i64 (k), .int .i64 (IntKind.i64.wrap ((k : Int) + 2)), .int .i64 (len), .int .i64 (j2), .pointer (some ⟨b, off + j2 * 2, none⟩), .agg #[.int .i64 (g j2).1, .int .i64 (g j2).2], .agg #[.int .i64 k, .int .i64 (g k).1, .int .i64 (g k).2, .int .i64 (g j1).1, .int .i64 (g j1).2, .int .i64 (g j2).1, .int .i64 (g j2).2]] : List Value).getD i undef) rfl (fun i j _ _ h => by simpa using h) (fun i hi => by simp; omega) (by simp) (fun j o ho e he hb => by have := backOk_spec (k := 0) rfl j o (by simpa using ho) e (by simpa using he) hb; omega) ?_ ?_ (by kernel_rfl) ?_
      · intro i hi o ho j hj
        have hi' := (Array.getElem?_eq_some_iff.1 ho).1
        simp only [List.size_toArray, List.length_cons, List.length_nil] at hi'
        obtain rfl | rfl : i = 21 ∨ i = 22 := by omega
        · exact (by decide : ∀ j, j < 21 → Nat.testBit 2097151 j = true) j hj
        · exact (by decide : ∀ j, j < 21 → Nat.testBit 4194303 j = true) j hj
      · intro i hi o ho
        obtain rfl | rfl | rfl | rfl | rfl | rfl | rfl | rfl | rfl | rfl | rfl | rfl | rfl | rfl | rfl | rfl | rfl | rfl | rfl | rfl | rfl : i = 0 ∨ i = 1 ∨ i = 2 ∨ i = 3 ∨ i = 4 ∨ i = 5 ∨ i = 6 ∨ i = 7 ∨ i = 8 ∨ i = 9 ∨ i = 10 ∨ i = 11 ∨ i = 12 ∨ i = 13 ∨ i = 14 ∨ i = 15 ∨ i = 16 ∨ i = 17 ∨ i = 18 ∨ i = 19 ∨ i = 20 := by omega
        · have ho := (Option.some.inj ho).symm; subst ho
          refine ⟨rfl, rfl, fun c h => (by simp at h), fun b' _ hE hm => ?_⟩
          have y0 : b'.eval (.tmp 0) = .func (.yield l) #[] #[] := eval_of (hm 0 (fun j _ => by omega))
          clear hE hm
          generalize b'.eval = E at *
          show Sem.run _ _ _ = Result.ok (Next.value (.func (.yield l) #[] #[])) _
          go_simp
        · have ho := (Option.some.inj ho).symm; subst ho
          refine ⟨rfl, rfl, fun c h => (by simp at h), fun b' _ hE hm => ?_⟩
          have y4 : b'.eval (.tmp 4) = .int .i64 (k) := eval_of (hm 4 (fun j _ => by omega))
          clear hE hm
          generalize b'.eval = E at *
          show Sem.run _ _ _ = Result.ok (Next.value (.int .i64 (k))) _
          go_simp
        · have ho := (Option.some.inj ho).symm; subst ho
          refine ⟨rfl, rfl, fun c h => (by simp at h), fun b' _ hE hm => ?_⟩
          have y1 : b'.eval (.tmp 1) = .pointer (some ⟨Bs, 0, none⟩) := eval_of (hm 1 (fun j _ => by omega))
          clear hE hm
          generalize b'.eval = E at *
          show Sem.run _ _ _ = Result.ok (Next.value (.slice (some ⟨b, off, none⟩) len cap)) _
          go_simp
        · have ho := (Option.some.inj ho).symm; subst ho
          refine ⟨rfl, rfl, fun c h => (by simp at h), fun b' _ hE hm => ?_⟩
          have y4 : b'.eval (.tmp 4) = .int .i64 (k) := eval_of (hm 4 (fun j _ => by omega))
          clear hE hm
          generalize b'.eval = E at *
          show Sem.run _ _ _ = Result.ok (Next.value (.int .i64 (k))) _
          go_simp
        · have ho := (Option.some.inj ho).symm; subst ho
          refine ⟨rfl, rfl, fun c h => (by simp at h), fun b' _ hE hm => ?_⟩
          have x2 : b'.eval (.tmp 13) = .slice (some ⟨b, off, none⟩) len cap := eval_of (hE ⟨2, .data⟩ (by simp) (by decide) rfl)
          have x3 : b'.eval (.tmp 14) = .int .i64 (k) := eval_of (hE ⟨3, .data⟩ (by simp) (by decide) rfl)
          clear hE hm
          generalize b'.eval = E at *
          show Sem.run _ _ _ = Result.ok (Next.value (.pointer (some ⟨b, off + k * 2, none⟩))) _
          go_simp
        · have ho := (Option.some.inj ho).symm; subst ho
          refine ⟨rfl, rfl, fun c h => (by simp at h), fun b' _ hE hm => ?_⟩
          have x4 : b'.eval (.tmp 15) = .pointer (some ⟨b, off + k * 2, none⟩) := eval_of (hE ⟨4, .data⟩ (by simp) (by decide) rfl)
          clear hE hm
          generalize b'.eval = E at *
          show Sem.run _ _ _ = Result.ok (Next.value (.agg #[.int .i64 (g k).1, .int .i64 (g k).2])) _
          go_simp
        · have ho := (Option.some.inj ho).symm; subst ho
          refine ⟨rfl, rfl, fun c h => (by simp at h), fun b' _ hE hm => ?_⟩
          have y1 : b'.eval (.tmp 1) = .pointer (some ⟨Bs, 0, none⟩) := eval_of (hm 1 (fun j _ => by omega))
          clear hE hm
          generalize b'.eval = E at *
          show Sem.run _ _ _ = Result.ok (Next.value (.slice (some ⟨b, off, none⟩) len cap)) _
          go_simp
        · have ho := (Option.some.inj ho).symm; subst ho
          refine ⟨rfl, rfl, fun c h => (by simp at h), fun b' _ hE hm => ?_⟩
          have y4 : b'.eval (.tmp 4) = .int .i64 (k) := eval_of (hm 4 (fun j _ => by omega))
          clear hE hm
          generalize b'.eval = E at *
          show Sem.run _ _ _ = Result.ok (Next.value (.int .i64 (k))) _
          go_simp
        · have ho := (Option.some.inj ho).symm; subst ho
          refine ⟨rfl, rfl, fun c h => (by simp at h), fun b' _ hE hm => ?_⟩
          have x7 : b'.eval (.tmp 18) = .int .i64 (k) := eval_of (hE ⟨7, .data⟩ (by simp) (by decide) rfl)
          clear hE hm
          have z : b'.eval (.const (.int .i64 1)) = .int .i64 1 := rfl
          generalize b'.eval = E at *
          show Sem.run _ _ _ = Result.ok (Next.value (.int .i64 (IntKind.i64.wrap ((k : Int) + 1)))) _
          go_simp
        · have ho := (Option.some.inj ho).symm; subst ho
          refine ⟨rfl, rfl, fun c h => (by simp at h), fun b' _ hE hm => ?_⟩
          have y3 : b'.eval (.tmp 3) = .int .i64 (len) := eval_of (hm 3 (fun j _ => by omega))
          clear hE hm
          generalize b'.eval = E at *
          show Sem.run _ _ _ = Result.ok (Next.value (.int .i64 (len))) _
          go_simp
        · have ho := (Option.some.inj ho).symm; subst ho
          refine ⟨rfl, rfl, fun c h => (by simp at h), fun b' _ hE hm => ?_⟩
          have x8 : b'.eval (.tmp 19) = .int .i64 (IntKind.i64.wrap ((k : Int) + 1)) := eval_of (hE ⟨8, .data⟩ (by simp) (by decide) rfl)
          have x9 : b'.eval (.tmp 20) = .int .i64 (len) := eval_of (hE ⟨9, .data⟩ (by simp) (by decide) rfl)
          clear hE hm
          generalize b'.eval = E at *
          show Sem.run _ _ _ = Result.ok (Next.value (.int .i64 (j1))) _
          go_simp
        · have ho := (Option.some.inj ho).symm; subst ho
          refine ⟨rfl, rfl, fun c h => (by simp at h), fun b' _ hE hm => ?_⟩
          have x6 : b'.eval (.tmp 17) = .slice (some ⟨b, off, none⟩) len cap := eval_of (hE ⟨6, .data⟩ (by simp) (by decide) rfl)
          have x10 : b'.eval (.tmp 21) = .int .i64 (j1) := eval_of (hE ⟨10, .data⟩ (by simp) (by decide) rfl)
          clear hE hm
          generalize b'.eval = E at *
          show Sem.run _ _ _ = Result.ok (Next.value (.pointer (some ⟨b, off + j1 * 2, none⟩))) _
          go_simp
        · have ho := (Option.some.inj ho).symm; subst ho
          refine ⟨rfl, rfl, fun c h => (by simp at h), fun b' _ hE hm => ?_⟩
          have x11 : b'.eval (.tmp 22) = .pointer (some ⟨b, off + j1 * 2, none⟩) := eval_of (hE ⟨11, .data⟩ (by simp) (by decide) rfl)
          clear hE hm
          generalize b'.eval = E at *
          show Sem.run _ _ _ = Result.ok (Next.value (.agg #[.int .i64 (g j1).1, .int .i64 (g j1).2])) _
          go_simp
        · have ho := (Option.some.inj ho).symm; subst ho
          refine ⟨rfl, rfl, fun c h => (by simp at h), fun b' _ hE hm => ?_⟩
          have y1 : b'.eval (.tmp 1) = .pointer (some ⟨Bs, 0, none⟩) := eval_of (hm 1 (fun j _ => by omega))
          clear hE hm
          generalize b'.eval = E at *
          show Sem.run _ _ _ = Result.ok (Next.value (.slice (some ⟨b, off, none⟩) len cap)) _
          go_simp
        · have ho := (Option.some.inj ho).symm; subst ho
          refine ⟨rfl, rfl, fun c h => (by simp at h), fun b' _ hE hm => ?_⟩
          have y4 : b'.eval (.tmp 4) = .int .i64 (k) := eval_of (hm 4 (fun j _ => by omega))
          clear hE hm
          generalize b'.eval = E at *
          show Sem.run _ _ _ = Result.ok (Next.value (.int .i64 (k))) _
          go_simp
        · have ho := (Option.some.inj ho).symm; subst ho
          refine ⟨rfl, rfl, fun c h => (by simp at h), fun b' _ hE hm => ?_⟩
          have x14 : b'.eval (.tmp 25) = .int .i64 (k) := eval_of (hE ⟨14, .data⟩ (by simp) (by decide) rfl)
          clear hE hm
          have z : b'.eval (.const (.int .i64 2)) = .int .i64 2 := rfl
          generalize b'.eval = E at *
          show Sem.run _ _ _ = Result.ok (Next.value (.int .i64 (IntKind.i64.wrap ((k : Int) + 2)))) _
          go_simp
        · have ho := (Option.some.inj ho).symm; subst ho
          refine ⟨rfl, rfl, fun c h => (by simp at h), fun b' _ hE hm => ?_⟩
          have y3 : b'.eval (.tmp 3) = .int .i64 (len) := eval_of (hm 3 (fun j _ => by omega))
          clear hE hm
          generalize b'.eval = E at *
          show Sem.run _ _ _ = Result.ok (Next.value (.int .i64 (len))) _
          go_simp
        · have ho := (Option.some.inj ho).symm; subst ho
          refine ⟨rfl, rfl, fun c h => (by simp at h), fun b' _ hE hm => ?_⟩
          have x15 : b'.eval (.tmp 26) = .int .i64 (IntKind.i64.wrap ((k : Int) + 2)) := eval_of (hE ⟨15, .data⟩ (by simp) (by decide) rfl)
          have x16 : b'.eval (.tmp 27) = .int .i64 (len) := eval_of (hE ⟨16, .data⟩ (by simp) (by decide) rfl)
          clear hE hm
          generalize b'.eval = E at *
          show Sem.run _ _ _ = Result.ok (Next.value (.int .i64 (j2))) _
          go_simp
        · have ho := (Option.some.inj ho).symm; subst ho
          refine ⟨rfl, rfl, fun c h => (by simp at h), fun b' _ hE hm => ?_⟩
          have x13 : b'.eval (.tmp 24) = .slice (some ⟨b, off, none⟩) len cap := eval_of (hE ⟨13, .data⟩ (by simp) (by decide) rfl)
          have x17 : b'.eval (.tmp 28) = .int .i64 (j2) := eval_of (hE ⟨17, .data⟩ (by simp) (by decide) rfl)
          clear hE hm
          generalize b'.eval = E at *
          show Sem.run _ _ _ = Result.ok (Next.value (.pointer (some ⟨b, off + j2 * 2, none⟩))) _
          go_simp
        · have ho := (Option.some.inj ho).symm; subst ho
          refine ⟨rfl, rfl, fun c h => (by simp at h), fun b' _ hE hm => ?_⟩
          have x18 : b'.eval (.tmp 29) = .pointer (some ⟨b, off + j2 * 2, none⟩) := eval_of (hE ⟨18, .data⟩ (by simp) (by decide) rfl)
          clear hE hm
          generalize b'.eval = E at *
          show Sem.run _ _ _ = Result.ok (Next.value (.agg #[.int .i64 (g j2).1, .int .i64 (g j2).2])) _
          go_simp
        · have ho := (Option.some.inj ho).symm; subst ho
          refine ⟨rfl, rfl, fun c h => (by simp at h), fun b' _ hE hm => ?_⟩
          have x1 : b'.eval (.tmp 12) = .int .i64 (k) := eval_of (hE ⟨1, .data⟩ (by simp) (by decide) rfl)
          have x5 : b'.eval (.tmp 16) = .agg #[.int .i64 (g k).1, .int .i64 (g k).2] := eval_of (hE ⟨5, .data⟩ (by simp) (by decide) rfl)
          have x12 : b'.eval (.tmp 23) = .agg #[.int .i64 (g j1).1, .int .i64 (g j1).2] := eval_of (hE ⟨12, .data⟩ (by simp) (by decide) rfl)
          have x19 : b'.eval (.tmp 30) = .agg #[.int .i64 (g j2).1, .int .i64 (g j2).2] := eval_of (hE ⟨19, .data⟩ (by simp) (by decide) rfl)
          clear hE hm
          generalize b'.eval = E at *
          show Sem.run _ _ _ = Result.ok (Next.value (.agg #[.int .i64 k, .int .i64 (g k).1, .int .i64 (g k).2, .int .i64 (g j1).1, .int .i64 (g j1).2, .int .i64 (g j2).1, .int .i64 (g j2).2])) _
          go_simp
      · intro li hs hc h1 h0
        refine next_one (fuel := 1) (m := 21) (o := { dst := some 32, op := Op.call { callee := Callee.value (Operand.tmp 11), args := #[Operand.tmp 31], argTypes := #[98] }, type := 4, pos := "plane.go:157", after := #[{ on := 0, ground := Ground.data }, { on := 20, ground := Ground.data }], guard := none }) hs hc h1 h0 (fun j o ho e he hb => by have := backOk_spec (k := 0) rfl j o (by simpa using ho) e (by simpa using he) hb; omega) rfl rfl ?_ ?_
        · intro i hi o ho
          have hi' := (Array.getElem?_eq_some_iff.1 ho).1
          simp only [List.size_toArray, List.length_cons, List.length_nil] at hi'
          obtain rfl : i = 22 := by omega
          rfl
        · intro li hs hc h1 h0
          refine ⟨fun _ _ => trivial, ?_⟩
          rw [show (Oper.semAt _ _ _).run Try.prog wr.drew = .ok (.round l fn tmps assign body) wr.drew from by
            rw [Oper.semAt_eq _ _ _ (fun c h => (by simp at h))]
            go_simp]
          rw [Oper.uponIn_round]
          refine ⟨fun h => (by cases h), hR'.mono ?_⟩
          rintro e W3 ⟨t, rfl, ht⟩
          refine next_one (fuel := 0) (m := 22) (o := { dst := some 33, op := Op.unOp UnOp.not 4 (Operand.tmp 32), type := 4, pos := "plane.go:157", after := #[{ on := 21, ground := Ground.data }], guard := none }) hs hc h1 h0 (fun j o ho e he hb => by have := backOk_spec (k := 0) rfl j o (by simpa using ho) e (by simpa using he) hb; omega) rfl rfl (fun i hi o ho => absurd (Array.getElem?_eq_some_iff.1 ho).1 (by simp; omega)) ?_
          intro li hs hc h1 h0
          change Oper.wpIn (WF none) 1 Try.prog _ { tmps := #[.func (.yield l) #[] #[], .pointer (some ⟨Bs, 0, none⟩), undef, .int .i64 (len), .int .i64 (k), .slice (some ⟨b, off, none⟩) len cap, .int .i64 (len), .int .i64 (len), .int .i64 (k), .bool true, .int .i64 (k), .func (.yield l) #[] #[], .int .i64 (k), .slice (some ⟨b, off, none⟩) len cap, .int .i64 (k), .pointer (some ⟨b, off + k * 2, none⟩), .agg #[.int .i64 (g k).1, .int .i64 (g k).2], .slice (some ⟨b, off, none⟩) len cap, .int .i64 (k), .int .i64 (IntKind.i64.wrap ((k : Int) + 1)), .int .i64 (len), .int .i64 (j1), .pointer (some ⟨b, off + j1 * 2, none⟩), .agg #[.int .i64 (g j1).1, .int .i64 (g j1).2], .slice (some ⟨b, off, none⟩) len cap, .int .i64 (k), .int .i64 (IntKind.i64.wrap ((k : Int) + 2)), .int .i64 (len), .int .i64 (j2), .pointer (some ⟨b, off + j2 * 2, none⟩), .agg #[.int .i64 (g j2).1, .int .i64 (g j2).2], .agg #[.int .i64 k, .int .i64 (g k).1, .int .i64 (g k).2, .int .i64 (g j1).1, .int .i64 (g j1).2, .int .i64 (g j2).1, .int .i64 (g j2).2], .bool t, u33, u34], defers := [] } W3 _ _
          refine ⟨fun _ _ => trivial, ?_⟩
          rw [show (Oper.semAt _ _ _).run Try.prog W3 = .ok (.value (.bool (!t))) W3 from by
            rw [Oper.semAt_eq _ _ _ (fun c h => (by simp at h))]
            go_simp]
          rw [Oper.uponIn_value]
          refine done_all hs h1 ?_
          change Exit.then _ _ Exit.normal { tmps := #[.func (.yield l) #[] #[], .pointer (some ⟨Bs, 0, none⟩), undef, .int .i64 (len), .int .i64 (k), .slice (some ⟨b, off, none⟩) len cap, .int .i64 (len), .int .i64 (len), .int .i64 (k), .bool true, .int .i64 (k), .func (.yield l) #[] #[], .int .i64 (k), .slice (some ⟨b, off, none⟩) len cap, .int .i64 (k), .pointer (some ⟨b, off + k * 2, none⟩), .agg #[.int .i64 (g k).1, .int .i64 (g k).2], .slice (some ⟨b, off, none⟩) len cap, .int .i64 (k), .int .i64 (IntKind.i64.wrap ((k : Int) + 1)), .int .i64 (len), .int .i64 (j1), .pointer (some ⟨b, off + j1 * 2, none⟩), .agg #[.int .i64 (g j1).1, .int .i64 (g j1).2], .slice (some ⟨b, off, none⟩) len cap, .int .i64 (k), .int .i64 (IntKind.i64.wrap ((k : Int) + 2)), .int .i64 (len), .int .i64 (j2), .pointer (some ⟨b, off + j2 * 2, none⟩), .agg #[.int .i64 (g j2).1, .int .i64 (g j2).2], .agg #[.int .i64 k, .int .i64 (g k).1, .int .i64 (g k).2, .int .i64 (g j1).1, .int .i64 (g j1).2, .int .i64 (g j2).1, .int .i64 (g j2).2], .bool t, .bool (!t), u34], defers := [] } W3
          clear hy hR' hcb c0 c0' c1 c1' c2 c2' hs hc h1 h0
          rcases ht with ⟨rfl, hJ⟩ | ⟨rfl, hX⟩
          · gi_wp2
            exact ⟨⟨k + 1, by omega, by simp, hJ⟩, by simp only [RowKit.intOf]; omega⟩
          · gi_wp2
            refine bodyPost_ret (results_none rfl _ _ _) rfl ?_
            exact ⟨⟨_, rfl⟩, .inr hX⟩
    · obtain rfl : k = len := by omega
      gi_wp2
      go_end0
      exact ⟨⟨_, rfl⟩, .inl hJs⟩

/-- What a row of two numbers holds. -/
def gi : List SV → Int × Int
  | [.v (.int _ x), .v (.int _ y)] => (x, y)
  | _ => (0, 0)

/-- The corners of a row of spots: each with the two that follow. -/
def cornersRun (caps : List SV) (h : Heap) : Option (Prop × Nat × Nat × (Nat → List SV) × List Nat) :=
  match caps with
  | [.vp kb 0] => match h kb with
    | some bb => match bb.row 0 with
      | [.sl k s i n cap] => match h k with
        | some b => bif !bb.dead && !b.dead && bb.whole && Nat.beq bb.size 1 && Nat.beq bb.n 1 && Nat.beq b.size 2 && Nat.beq s 2 then
            some ((n ≤ 1099511627776 ∧ i + n ≤ b.n ∧ ∀ j, j < n → b.row (i + j) = [.v (.int .i64 (gi (b.row (i + j))).1), .v (.int .i64 (gi (b.row (i + j))).2)]), n, 1,
              fun j => [.agg [.v (.int .i64 j), .v (.int .i64 (gi (b.row (i + j))).1), .v (.int .i64 (gi (b.row (i + j))).2), .v (.int .i64 (gi (b.row (i + (j + 1) % n))).1), .v (.int .i64 (gi (b.row (i + (j + 1) % n))).2), .v (.int .i64 (gi (b.row (i + (j + 2) % n))).1), .v (.int .i64 (gi (b.row (i + (j + 2) % n))).2)]], [kb, k])
          else none
        | none => none
      | _ => none
    | none => none
  | _ => none

theorem cornersRun_ok : ItOk Try.prog 134 cornersRun := by
  intro caps h p N m item ks hr hp δ w lb hl hh
  unfold cornersRun at hr
  split at hr
  case h_2 => cases hr
  rename_i kb
  split at hr
  case h_2 => cases hr
  rename_i bb hbb
  split at hr
  case h_2 => cases hr
  rename_i k s i n cap hrow
  split at hr
  case h_2 => cases hr
  rename_i b hb
  cases hc : (!bb.dead && !b.dead && bb.whole && Nat.beq bb.size 1 && Nat.beq bb.n 1 && Nat.beq b.size 2 && Nat.beq s 2) with
  | false => rw [hc] at hr; cases hr
  | true =>
    rw [hc] at hr
    simp only [cond_true, Option.some.injEq, Prod.mk.injEq] at hr
    obtain ⟨rfl, rfl, rfl, rfl, rfl⟩ := hr
    simp only [Bool.and_eq_true, Bool.not_eq_true', Nat.beq_eq] at hc
    obtain ⟨⟨⟨⟨⟨⟨d1, d2⟩, hw⟩, z1⟩, z2⟩, z3⟩, rfl⟩ := hc
    obtain ⟨hn, hin, hrows⟩ := hp
    refine ⟨fun args w => rfl, fun j => #[.agg #[.int .i64 j, .int .i64 (gi (b.row (i + j))).1, .int .i64 (gi (b.row (i + j))).2, .int .i64 (gi (b.row (i + (j + 1) % n))).1, .int .i64 (gi (b.row (i + (j + 1) % n))).2, .int .i64 (gi (b.row (i + (j + 2) % n))).1, .int .i64 (gi (b.row (i + (j + 2) % n))).2]], fun j hj => ⟨?_, rfl⟩, ?_⟩
    · simp [absL, absV]
    · obtain ⟨q, hq, hqn, rfl⟩ : ∃ q, δ kb = some q ∧ 0 < q.n ∧ lb = [.pointer (some ⟨q.r, q.o + 0, none⟩)] := by
        match lb, hl with
        | [r], hl =>
          simp only [absL, absV, and_true] at hl
          obtain ⟨q, h1, h2, rfl⟩ := hl
          exact ⟨q, h1, h2, rfl⟩
        | [], hl => simp [absL] at hl
        | _ :: _ :: _, hl => simp [absL] at hl
      obtain ⟨q2, hq2, hlive2⟩ := hh.blk k b hb
      obtain ⟨q1, hq1, hlive1⟩ := hh.blk kb bb hbb
      rw [hq] at hq1; cases hq1
      have hno : q.no = false := by
        cases e : q.no with
        | false => rfl
        | true => have := ((hlive1 d1).no e).1; omega
      have ho : q.o = 0 := by
        obtain ⟨c, e, fz, _, _, _, _, _, h7, _⟩ := (hlive1 d1).rep hno
        exact (h7 hw).1
      have hCk : ∀ W, Keeps δ h [kb, k] W → (∃ a, W.cell? ⟨q.r, 0, none⟩ = some (.slice a n cap) ∧ (0 < n → a = some ⟨q2.r, q2.o + i * 2, none⟩)) ∧ ∀ j, j < n → W.cell? ⟨q2.r, q2.o + i * 2 + j * 2, none⟩ = some (.int .i64 (gi (b.row (i + j))).1) ∧ W.cell? ⟨q2.r, q2.o + i * 2 + j * 2 + 1, none⟩ = some (.int .i64 (gi (b.row (i + j))).2) := by
        rintro W ⟨δ', hδ, hK⟩
        have L1 := hK kb (by simp) bb q hbb hq d1
        have L2 := hK k (by simp) b q2 hb hq2 d2
        constructor
        · obtain ⟨c, e, fz, hc, _, _, _, _, _, h8⟩ := L1.rep hno
          obtain ⟨_, h9⟩ := h8 0 (by omega)
          obtain ⟨r, hr, hv⟩ := h9 0 (.sl k 2 i n cap) (by rw [hrow]; rfl)
          rw [ho] at hr
          simp only [Nat.zero_mul, Nat.add_zero] at hr
          simp only [absV] at hv
          obtain ⟨p', hp', _, _, hv⟩ := hv
          have := hδ _ _ hq2
          rw [hp'] at this; cases this
          rcases hv with ⟨_, rfl⟩ | ⟨e0, e1, a, rfl⟩
          · exact ⟨_, by rw [cell_of hc, hr], fun _ => rfl⟩
          · subst e0 e1
            exact ⟨a, by rw [cell_of hc, hr], fun h => absurd h (by omega)⟩
        · intro j hj
          have hno2 : q2.no = false := by
            cases e : q2.no with
            | false => rfl
            | true => have := (L2.no e).1; omega
          obtain ⟨c, e, fz, hc, _, _, _, _, _, h8⟩ := L2.rep hno2
          obtain ⟨_, h9⟩ := h8 (i + j) (by omega)
          obtain ⟨r0, hr0, hv0⟩ := h9 0 _ (by rw [hrows j hj]; rfl)
          obtain ⟨r1, hr1, hv1⟩ := h9 1 _ (by rw [hrows j hj]; rfl)
          simp only [absV] at hv0 hv1
          rw [z3] at hr0 hr1
          constructor
          · rw [cell_of hc, show q2.o + i * 2 + j * 2 = q2.o + (i + j) * 2 + 0 by omega, hr0, hv0]
          · rw [cell_of hc, show q2.o + i * 2 + j * 2 + 1 = q2.o + (i + j) * 2 + 1 by omega, hr1, hv1]
      intro l J Jx W hbW hJB hJxB hJK hY h0 n'
      have hh := callsIn_wide.1 (corners1_in l q.r q2.r (q2.o + i * 2) n cap (fun j => gi (b.row (i + j))) hn J Jx (fun k W hk => hCk W (hJK k W hk)) (fun k W hk hlt => hY k W 0 hk hlt) (fun k W W' hk hB => hJB k W W' hk hB) W h0)
      rw [ho]
      exact callsIn_wide.2 hh

noncomputable def cornersIt : It := ⟨Try.prog, 134, cornersRun, cornersRun_ok⟩
end Go.Proofs.Ytheljpebapokjaa
