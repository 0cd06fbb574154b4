/-
  What the proof uses, part 12.
-/
import Derived.RangeFuncNested
import Derived.RangeFuncBound
import Derived.Shelf.Abstract
import Derived.Shelf.RegionOpen
import Derived.OwnWalkIn
import Derived.TacticsInMore
import Derived.LoopNIn
import Derived.LoopIn
import Derived.BigRegionIn
import Derived.Stop.RegionWithIn
import Derived.Test.YtlcfnlhognegcaaZc11
set_option maxRecDepth 100000
set_option linter.unusedSimpArgs false
set_option linter.unusedVariables false

section
set_option maxHeartbeats 2000000
namespace Go.Proofs.Ytlcfnlhognegcaa
open Go.RowKit Go.Shelf Go.SE
attribute [local go_sem] Oper.semAt_some
theorem eval_of {a : Act} {t : Nat} {v : Value} (h : a.tmps[t]? = some v) : a.eval (.tmp t) = v := by
  simp [Act.eval, Array.getD_eq_getD_getElem?, h]
theorem corners1_in (l Bs b off len cap : Nat) (g : Nat → Int × Int) (hlen : len ≤ 1099511627776) (J : Nat → World → Prop) (Jx : World → Prop)
    (hC : ∀ k W, J k W → (∃ a, W.cell? ⟨Bs, 0, none⟩ = some (.slice a len cap) ∧ (0 < len → a = some ⟨b, off, none⟩)) ∧ ∀ j, j < len → W.cell? ⟨b, off + j * 2, none⟩ = some (.int .i64 (g j).1) ∧ W.cell? ⟨b, off + j * 2 + 1, none⟩ = some (.int .i64 (g j).2))
    (hY : ∀ k W, J k W → k < len → YieldAt Fence.wide 0 Try.prog l #[.agg #[.int .i64 k, .int .i64 (g k).1, .int .i64 (g k).2, .int .i64 (g ((k + 1) % len)).1, .int .i64 (g ((k + 1) % len)).2, .int .i64 (g ((k + 2) % len)).1, .int .i64 (g ((k + 2) % len)).2]] W fun e W' =>
      (e = .returned (.bool true) ∧ J (k + 1) W') ∨ (e = .returned (.bool false) ∧ Jx W'))
    (hB : ∀ k W W', J k W → Below W.heap.size W W' → J k W') (W : World) (h0 : J 0 W) :
    CallsIn Fence.wide 1 Try.prog 39 #[.func (.yield l) #[] #[], .pointer (some ⟨Bs, 0, none⟩)] W fun e W' => (∃ v, e = .returned v) ∧ (J len W' ∨ Jx W') := by
  refine callsIn_of_wp Try.func39 rfl trivial ?_ rfl
  simp only [Try.ntmps39, List.size_toArray, List.length_cons, List.length_nil, Nat.reduceAdd, Nat.reduceSub, Array.replicate_succ, Array.replicate_zero, List.push_toArray, List.append_toArray, List.nil_append, List.cons_append]
  obtain ⟨a, hc0, ha⟩ := (hC 0 W h0).1
  gi_wp2
  gi_loopw [8] (fun i wr => ∃ k : Nat, k ≤ len ∧ i = .int .i64 k ∧ J k wr) (fun i _ => len - (intOf i).toNat)
  case atStart => exact ⟨0, Nat.zero_le _, rfl, h0⟩
  case round =>
    obtain ⟨k, hk, rfl, hJs⟩ := hrel
    obtain ⟨⟨a', hcb, ha'⟩, hcs⟩ := hC k wr hJs
    by_cases hlt : k < len
    · obtain rfl := ha (by omega)
      obtain rfl := ha' (by omega)
      clear ha ha'
      obtain ⟨fn, tmps, assign, body, hy, hR⟩ := hY k wr.drew (hB k wr _ hJs ((Below.refl _ wr).drew)) hlt
      have hR' := hR.mono (R' := fun e W' => ∃ t : Bool, e = .returned (.bool t) ∧ ((t = true ∧ J (k + 1) W') ∨ (t = false ∧ Jx W'))) (fun e W' h => by
        rcases h with ⟨rfl, h⟩ | ⟨rfl, h⟩
        · exact ⟨true, rfl, .inl ⟨rfl, h⟩⟩
        · exact ⟨false, rfl, .inr ⟨rfl, h⟩⟩)
      clear hR
      obtain ⟨c0, c0'⟩ := hcs k hlt
      have l1 : (k + 1) % len < len := Nat.mod_lt _ (by omega)
      have l2 : (k + 2) % len < len := Nat.mod_lt _ (by omega)
      have e1 : ((k : Int) + 1) % (len : Int) = (((k + 1) % len : Nat) : Int) := by rw [Int.natCast_emod]; rfl
      have e2 : ((k : Int) + 2) % (len : Int) = (((k + 2) % len : Nat) : Int) := by rw [Int.natCast_emod]; rfl
      have e1' : ((k + 1 : Nat) : Int) % (len : Int) = (((k + 1) % len : Nat) : Int) := by rw [Int.natCast_emod]
      have e2' : ((k + 2 : Nat) : Int) % (len : Int) = (((k + 2) % len : Nat) : Int) := by rw [Int.natCast_emod]
      have b1 : ((k : Int) + 1) % (len : Int) < (len : Int) := Int.emod_lt_of_pos _ (by omega)
      have b1' : 0 ≤ ((k : Int) + 1) % (len : Int) := Int.emod_nonneg _ (by omega)
      have t1 : Int.tmod ((k : Int) + 1) (len : Int) = (((k + 1) % len : Nat) : Int) := by rw [Int.tmod_eq_emod_of_nonneg (by omega), Int.natCast_emod]; rfl
      have t2 : Int.tmod ((k : Int) + 2) (len : Int) = (((k + 2) % len : Nat) : Int) := by rw [Int.tmod_eq_emod_of_nonneg (by omega), Int.natCast_emod]; rfl
      have w1 : (IntKind.i64.wrap ((k : Int) + 1)).tmod (len : Int) = (((k + 1) % len : Nat) : Int) := by rw [wrap_i64 ⟨by omega, by omega⟩]; exact t1
      have w2 : (IntKind.i64.wrap ((k : Int) + 2)).tmod (len : Int) = (((k + 2) % len : Nat) : Int) := by rw [wrap_i64 ⟨by omega, by omega⟩]; exact t2
      generalize (k + 1) % len = j1 at *
      generalize (k + 2) % len = j2 at *
      obtain ⟨c1, c1'⟩ := hcs _ l1
      obtain ⟨c2, c2'⟩ := hcs _ l2
      clear hC hY hcs
      have f0 : (len : Int) ≠ 0 := by omega
      have f0' : ¬ len = 0 := by omega
      have fk : (k : Int) < (len : Int) := by omega
      have f1 : (j1 : Int) < (len : Int) := by omega
      have f2 : (j2 : Int) < (len : Int) := by omega
      have fk' : ¬ (len : Int) ≤ (k : Int) := by omega
      have f1' : ¬ (len : Int) ≤ (j1 : Int) := by omega
      have f2' : ¬ (len : Int) ≤ (j2 : Int) := by omega
      have gk : ¬ len ≤ k := by omega
      have g1 : ¬ len ≤ j1 := by omega
      have g2 : ¬ len ≤ j2 := by omega
      gi_wp2
      refine det_region (ro := none) (m := 21) (T := #[.func (.yield l) #[] #[], .pointer (some ⟨Bs, 0, none⟩), undef, .int .i64 (len), .int .i64 (k), .slice (some ⟨b, off, none⟩) len cap, .int .i64 (len), .int .i64 (len), .int .i64 (k), .bool true, .int .i64 (k), .func (.yield l) #[] #[], .int .i64 (k), .slice (some ⟨b, off, none⟩) len cap, .int .i64 (k), .pointer (some ⟨b, off + k * 2, none⟩), .agg #[.int .i64 (g k).1, .int .i64 (g k).2], .slice (some ⟨b, off, none⟩) len cap, .int .i64 (k), .int .i64 (IntKind.i64.wrap ((k : Int) + 1)), .int .i64 (len), .int .i64 (j1), .pointer (some ⟨b, off + j1 * 2, none⟩), .agg #[.int .i64 (g j1).1, .int .i64 (g j1).2], .slice (some ⟨b, off, none⟩) len cap, .int .i64 (k), .int .i64 (IntKind.i64.wrap ((k : Int) + 2)), .int .i64 (len), .int .i64 (j2), .pointer (some ⟨b, off + j2 * 2, none⟩), .agg #[.int .i64 (g j2).1, .int .i64 (g j2).2], .agg #[.int .i64 k, .int .i64 (g k).1, .int .i64 (g k).2, .int .i64 (g j1).1, .int .i64 (g j1).2, .int .i64 (g j2).1, .int .i64 (g j2).2], u32, u33, u34]) (dst := fun i => i + 11) (vals := fun i => ([.func (.yield l) #[] #[], .int .i64 (k), .slice (some ⟨b, off, none⟩) len cap, .int .i64 (k), .pointer (some ⟨b, off + k * 2, none⟩), .agg #[.int .i64 (g k).1, .int .i64 (g k).2], .slice (some ⟨b, off, none⟩) len cap, .int .i64 (k), .int .i64 (IntKind.i64.wrap ((k : Int) + 1)), .int .i64 (len), .int .i64 (j1), .pointer (some ⟨b, off + j1 * 2, none⟩), .agg #[.int .i64 (g j1).1, .int .i64 (g j1).2], .slice (some ⟨b, off, none⟩) len cap, .int .i64 (k), .int .i64 (IntKind.i64.wrap ((k : Int) + 2)), .int .i64 (len), .int .i64 (j2), .pointer (some ⟨b, off + j2 * 2, none⟩), .agg #[.int .i64 (g j2).1, .int .i64 (g j2).2], .agg #[.int .i64 k, .int .i64 (g k).1, .int .i64 (g k).2, .int .i64 (g j1).1, .int .i64 (g j1).2, .int .i64 (g j2).1, .int .i64 (g j2).2]] : List Value).getD i undef) rfl (fun i j _ _ h => by simpa using h) (fun i hi => by simp; omega) (by simp) (fun j o ho e he hb => by have := backOk_spec (k := 0) rfl j o (by simpa using ho) e (by simpa using he) hb; omega) ?_ ?_ (by kernel_rfl) ?_
      · intro i hi o ho j hj
        have hi' := (Array.getElem?_eq_some_iff.1 ho).1
        simp only [List.size_toArray, List.length_cons, List.length_nil] at hi'
        obtain rfl | rfl : i = 21 ∨ i = 22 := by omega
        · exact (by decide : ∀ j, j < 21 → Nat.testBit 2097151 j = true) j hj
        · exact (by decide : ∀ j, j < 21 → Nat.testBit 4194303 j = true) j hj
      · intro i hi o ho
        obtain rfl | rfl | rfl | rfl | rfl | rfl | rfl | rfl | rfl | rfl | rfl | rfl | rfl | rfl | rfl | rfl | rfl | rfl | rfl | rfl | rfl : i = 0 ∨ i = 1 ∨ i = 2 ∨ i = 3 ∨ i = 4 ∨ i = 5 ∨ i = 6 ∨ i = 7 ∨ i = 8 ∨ i = 9 ∨ i = 10 ∨ i = 11 ∨ i = 12 ∨ i = 13 ∨ i = 14 ∨ i = 15 ∨ i = 16 ∨ i = 17 ∨ i = 18 ∨ i = 19 ∨ i = 20 := by omega
        · have ho := (Option.some.inj ho).symm; subst ho
          refine ⟨rfl, rfl, fun c h => (by simp at h), fun b' _ hE hm => ?_⟩
          have y0 : b'.eval (.tmp 0) = .func (.yield l) #[] #[] := eval_of (hm 0 (fun j _ => by omega))
          clear hE hm
          generalize b'.eval = E at *
          show Sem.run _ _ _ = Result.ok (Next.value (.func (.yield l) #[] #[])) _
          go_simp
        · have ho := (Option.some.inj ho).symm; subst ho
          refine ⟨rfl, rfl, fun c h => (by simp at h), fun b' _ hE hm => ?_⟩
          have y4 : b'.eval (.tmp 4) = .int .i64 (k) := eval_of (hm 4 (fun j _ => by omega))
          clear hE hm
          generalize b'.eval = E at *
          show Sem.run _ _ _ = Result.ok (Next.value (.int .i64 (k))) _
          go_simp
        · have ho := (Option.some.inj ho).symm; subst ho
          refine ⟨rfl, rfl, fun c h => (by simp at h), fun b' _ hE hm => ?_⟩
          have y1 : b'.eval (.tmp 1) = .pointer (some ⟨Bs, 0, none⟩) := eval_of (hm 1 (fun j _ => by omega))
          clear hE hm
          generalize b'.eval = E at *
          show Sem.run _ _ _ = Result.ok (Next.value (.slice (some ⟨b, off, none⟩) len cap)) _
          go_simp
        · have ho := (Option.some.inj ho).symm; subst ho
          refine ⟨rfl, rfl, fun c h => (by simp at h), fun b' _ hE hm => ?_⟩
          have y4 : b'.eval (.tmp 4) = .int .i64 (k) := eval_of (hm 4 (fun j _ => by omega))
          clear hE hm
          generalize b'.eval = E at *
          show Sem.run _ _ _ = Result.ok (Next.value (.int .i64 (k))) _
          go_simp
        · have ho := (Option.some.inj ho).symm; subst ho
          refine ⟨rfl, rfl, fun c h => (by simp at h), fun b' _ hE hm => ?_⟩
          have x2 : b'.eval (.tmp 13) = .slice (some ⟨b, off, none⟩) len cap := eval_of (hE ⟨2, .data⟩ (by simp) (by decide) rfl)
          have x3 : b'.eval (.tmp 14) = .int .i64 (k) := eval_of (hE ⟨3, .data⟩ (by simp) (by decide) rfl)
          clear hE hm
          generalize b'.eval = E at *
          show Sem.run _ _ _ = Result.ok (Next.value (.pointer (some ⟨b, off + k * 2, none⟩))) _
          go_simp
        · have ho := (Option.some.inj ho).symm; subst ho
          refine ⟨rfl, rfl, fun c h => (by simp at h), fun b' _ hE hm => ?_⟩
          have x4 : b'.eval (.tmp 15) = .pointer (some ⟨b, off + k * 2, none⟩) := eval_of (hE ⟨4, .data⟩ (by simp) (by decide) rfl)
          clear hE hm
          generalize b'.eval = E at *
          show Sem.run _ _ _ = Result.ok (Next.value (.agg #[.int .i64 (g k).1, .int .i64 (g k).2])) _
          go_simp
        · have ho := (Option.some.inj ho).symm; subst ho
          refine ⟨rfl, rfl, fun c h => (by simp at h), fun b' _ hE hm => ?_⟩
          have y1 : b'.eval (.tmp 1) = .pointer (some ⟨Bs, 0, none⟩) := eval_of (hm 1 (fun j _ => by omega))
          clear hE hm
          generalize b'.eval = E at *
          show Sem.run _ _ _ = Result.ok (Next.value (.slice (some ⟨b, off, none⟩) len cap)) _
          go_simp
        · have ho := (Option.some.inj ho).symm; subst ho
          refine ⟨rfl, rfl, fun c h => (by simp at h), fun b' _ hE hm => ?_⟩
          have y4 : b'.eval (.tmp 4) = .int .i64 (k) := eval_of (hm 4 (fun j _ => by omega))
          clear hE hm
          generalize b'.eval = E at *
          show Sem.run _ _ _ = Result.ok (Next.value (.int .i64 (k))) _
          go_simp
        · have ho := (Option.some.inj ho).symm; subst ho
          refine ⟨rfl, rfl, fun c h => (by simp at h), fun b' _ hE hm => ?_⟩
          have x7 : b'.eval (.tmp 18) = .int .i64 (k) := eval_of (hE ⟨7, .data⟩ (by simp) (by decide) rfl)
          clear hE hm
          have z : b'.eval (.const (.int .i64 1)) = .int .i64 1 := rfl
          generalize b'.eval = E at *
          show Sem.run _ _ _ = Result.ok (Next.value (.int .i64 (IntKind.i64.wrap ((k : Int) + 1)))) _
          go_simp
        · have ho := (Option.some.inj ho).symm; subst ho
          refine ⟨rfl, rfl, fun c h => (by simp at h), fun b' _ hE hm => ?_⟩
          have y3 : b'.eval (.tmp 3) = .int .i64 (len) := eval_of (hm 3 (fun j _ => by omega))
          clear hE hm
          generalize b'.eval = E at *
          show Sem.run _ _ _ = Result.ok (Next.value (.int .i64 (len))) _
          go_simp
        · have ho := (Option.some.inj ho).symm; subst ho
          refine ⟨rfl, rfl, fun c h => (by simp at h), fun b' _ hE hm => ?_⟩
          have x8 : b'.eval (.tmp 19) = .int .i64 (IntKind.i64.wrap ((k : Int) + 1)) := eval_of (hE ⟨8, .data⟩ (by simp) (by decide) rfl)
          have x9 : b'.eval (.tmp 20) = .int .i64 (len) := eval_of (hE ⟨9, .data⟩ (by simp) (by decide) rfl)
          clear hE hm
          generalize b'.eval = E at *
          show Sem.run _ _ _ = Result.ok (Next.value (.int .i64 (j1))) _
          go_simp
        · have ho := (Option.some.inj ho).symm; subst ho
          refine ⟨rfl, rfl, fun c h => (by simp at h), fun b' _ hE hm => ?_⟩
          have x6 : b'.eval (.tmp 17) = .slice (some ⟨b, off, none⟩) len cap := eval_of (hE ⟨6, .data⟩ (by simp) (by decide) rfl)
          have x10 : b'.eval (.tmp 21) = .int .i64 (j1) := eval_of (hE ⟨10, .data⟩ (by simp) (by decide) rfl)
          clear hE hm
          generalize b'.eval = E at *
          show Sem.run _ _ _ = Result.ok (Next.value (.pointer (some ⟨b, off + j1 * 2, none⟩))) _
          go_simp
        · have ho := (Option.some.inj ho).symm; subst ho
          refine ⟨rfl, rfl, fun c h => (by simp at h), fun b' _ hE hm => ?_⟩
          have x11 : b'.eval (.tmp 22) = .pointer (some ⟨b, off + j1 * 2, none⟩) := eval_of (hE ⟨11, .data⟩ (by simp) (by decide) rfl)
          clear hE hm
          generalize b'.eval = E at *
          show Sem.run _ _ _ = Result.ok (Next.value (.agg #[.int .i64 (g j1).1, .int .i64 (g j1).2])) _
          go_simp
        · have ho := (Option.some.inj ho).symm; subst ho
          refine ⟨rfl, rfl, fun c h => (by simp at h), fun b' _ hE hm => ?_⟩
          have y1 : b'.eval (.tmp 1) = .pointer (some ⟨Bs, 0, none⟩) := eval_of (hm 1 (fun j _ => by omega))
          clear hE hm
          generalize b'.eval = E at *
          show Sem.run _ _ _ = Result.ok (Next.value (.slice (some ⟨b, off, none⟩) len cap)) _
          go_simp
        · have ho := (Option.some.inj ho).symm; subst ho
          refine ⟨rfl, rfl, fun c h => (by simp at h), fun b' _ hE hm => ?_⟩
          have y4 : b'.eval (.tmp 4) = .int .i64 (k) := eval_of (hm 4 (fun j _ => by omega))
          clear hE hm
          generalize b'.eval = E at *
          show Sem.run _ _ _ = Result.ok (Next.value (.int .i64 (k))) _
          go_simp
        · have ho := (Option.some.inj ho).symm; subst ho
          refine ⟨rfl, rfl, fun c h => (by simp at h), fun b' _ hE hm => ?_⟩
          have x14 : b'.eval (.tmp 25) = .int .i64 (k) := eval_of (hE ⟨14, .data⟩ (by simp) (by decide) rfl)
          clear hE hm
          have z : b'.eval (.const (.int .i64 2)) = .int .i64 2 := rfl
          generalize b'.eval = E at *
          show Sem.run _ _ _ = Result.ok (Next.value (.int .i64 (IntKind.i64.wrap ((k : Int) + 2)))) _
          go_simp
        · have ho := (Option.some.inj ho).symm; subst ho
          refine ⟨rfl, rfl, fun c h => (by simp at h), fun b' _ hE hm => ?_⟩
          have y3 : b'.eval (.tmp 3) = .int .i64 (len) := eval_of (hm 3 (fun j _ => by omega))
          clear hE hm
          generalize b'.eval = E at *
          show Sem.run _ _ _ = Result.ok (Next.value (.int .i64 (len))) _
          go_simp
        · have ho := (Option.some.inj ho).symm; subst ho
          refine ⟨rfl, rfl, fun c h => (by simp at h), fun b' _ hE hm => ?_⟩
          have x15 : b'.eval (.tmp 26) = .int .i64 (IntKind.i64.wrap ((k : Int) + 2)) := eval_of (hE ⟨15, .data⟩ (by simp) (by decide) rfl)
          have x16 : b'.eval (.tmp 27) = .int .i64 (len) := eval_of (hE ⟨16, .data⟩ (by simp) (by decide) rfl)
          clear hE hm
          generalize b'.eval = E at *
          show Sem.run _ _ _ = Result.ok (Next.value (.int .i64 (j2))) _
          go_simp
        · have ho := (Option.some.inj ho).symm; subst ho
          refine ⟨rfl, rfl, fun c h => (by simp at h), fun b' _ hE hm => ?_⟩
          have x13 : b'.eval (.tmp 24) = .slice (some ⟨b, off, none⟩) len cap := eval_of (hE ⟨13, .data⟩ (by simp) (by decide) rfl)
          have x17 : b'.eval (.tmp 28) = .int .i64 (j2) := eval_of (hE ⟨17, .data⟩ (by simp) (by decide) rfl)
          clear hE hm
          generalize b'.eval = E at *
          show Sem.run _ _ _ = Result.ok (Next.value (.pointer (some ⟨b, off + j2 * 2, none⟩))) _
          go_simp
        · have ho := (Option.some.inj ho).symm; subst ho
          refine ⟨rfl, rfl, fun c h => (by simp at h), fun b' _ hE hm => ?_⟩
          have x18 : b'.eval (.tmp 29) = .pointer (some ⟨b, off + j2 * 2, none⟩) := eval_of (hE ⟨18, .data⟩ (by simp) (by decide) rfl)
          clear hE hm
          generalize b'.eval = E at *
          show Sem.run _ _ _ = Result.ok (Next.value (.agg #[.int .i64 (g j2).1, .int .i64 (g j2).2])) _
          go_simp
        · have ho := (Option.some.inj ho).symm; subst ho
          refine ⟨rfl, rfl, fun c h => (by simp at h), fun b' _ hE hm => ?_⟩
          have x1 : b'.eval (.tmp 12) = .int .i64 (k) := eval_of (hE ⟨1, .data⟩ (by simp) (by decide) rfl)
          have x5 : b'.eval (.tmp 16) = .agg #[.int .i64 (g k).1, .int .i64 (g k).2] := eval_of (hE ⟨5, .data⟩ (by simp) (by decide) rfl)
          have x12 : b'.eval (.tmp 23) = .agg #[.int .i64 (g j1).1, .int .i64 (g j1).2] := eval_of (hE ⟨12, .data⟩ (by simp) (by decide) rfl)
          have x19 : b'.eval (.tmp 30) = .agg #[.int .i64 (g j2).1, .int .i64 (g j2).2] := eval_of (hE ⟨19, .data⟩ (by simp) (by decide) rfl)
          clear hE hm
          generalize b'.eval = E at *
          show Sem.run _ _ _ = Result.ok (Next.value (.agg #[.int .i64 k, .int .i64 (g k).1, .int .i64 (g k).2, .int .i64 (g j1).1, .int .i64 (g j1).2, .int .i64 (g j2).1, .int .i64 (g j2).2])) _
          go_simp
      · intro li hs hc h1 h0
        refine next_one (fuel := 1) (m := 21) (o := { dst := some 32, op := Op.call { callee := Callee.value (Operand.tmp 11), args := #[Operand.tmp 31], argTypes := #[62] }, type := 4, pos := "plane.go:157", after := #[{ on := 0, ground := Ground.data }, { on := 20, ground := Ground.data }], guard := none }) hs hc h1 h0 (fun j o ho e he hb => by have := backOk_spec (k := 0) rfl j o (by simpa using ho) e (by simpa using he) hb; omega) rfl rfl ?_ ?_
        · intro i hi o ho
          have hi' := (Array.getElem?_eq_some_iff.1 ho).1
          simp only [List.size_toArray, List.length_cons, List.length_nil] at hi'
          obtain rfl : i = 22 := by omega
          rfl
        · intro li hs hc h1 h0
          refine ⟨fun _ _ => trivial, ?_⟩
          rw [show (Oper.semAt _ _ _).run Try.prog wr.drew = .ok (.round l fn tmps assign body) wr.drew from by
            rw [Oper.semAt_eq _ _ _ (fun c h => (by simp at h))]
            go_simp]
          rw [Oper.uponIn_round]
          refine ⟨fun h => (by cases h), hR'.mono ?_⟩
          rintro e W3 ⟨t, rfl, ht⟩
          refine next_one (fuel := 0) (m := 22) (o := { dst := some 33, op := Op.unOp UnOp.not 4 (Operand.tmp 32), type := 4, pos := "plane.go:157", after := #[{ on := 21, ground := Ground.data }], guard := none }) hs hc h1 h0 (fun j o ho e he hb => by have := backOk_spec (k := 0) rfl j o (by simpa using ho) e (by simpa using he) hb; omega) rfl rfl (fun i hi o ho => absurd (Array.getElem?_eq_some_iff.1 ho).1 (by simp; omega)) ?_
          intro li hs hc h1 h0
          change Oper.wpIn (WF none) 1 Try.prog _ { tmps := #[.func (.yield l) #[] #[], .pointer (some ⟨Bs, 0, none⟩), undef, .int .i64 (len), .int .i64 (k), .slice (some ⟨b, off, none⟩) len cap, .int .i64 (len), .int .i64 (len), .int .i64 (k), .bool true, .int .i64 (k), .func (.yield l) #[] #[], .int .i64 (k), .slice (some ⟨b, off, none⟩) len cap, .int .i64 (k), .pointer (some ⟨b, off + k * 2, none⟩), .agg #[.int .i64 (g k).1, .int .i64 (g k).2], .slice (some ⟨b, off, none⟩) len cap, .int .i64 (k), .int .i64 (IntKind.i64.wrap ((k : Int) + 1)), .int .i64 (len), .int .i64 (j1), .pointer (some ⟨b, off + j1 * 2, none⟩), .agg #[.int .i64 (g j1).1, .int .i64 (g j1).2], .slice (some ⟨b, off, none⟩) len cap, .int .i64 (k), .int .i64 (IntKind.i64.wrap ((k : Int) + 2)), .int .i64 (len), .int .i64 (j2), .pointer (some ⟨b, off + j2 * 2, none⟩), .agg #[.int .i64 (g j2).1, .int .i64 (g j2).2], .agg #[.int .i64 k, .int .i64 (g k).1, .int .i64 (g k).2, .int .i64 (g j1).1, .int .i64 (g j1).2, .int .i64 (g j2).1, .int .i64 (g j2).2], .bool t, u33, u34], defers := [] } W3 _ _
          refine ⟨fun _ _ => trivial, ?_⟩
          rw [show (Oper.semAt _ _ _).run Try.prog W3 = .ok (.value (.bool (!t))) W3 from by
            rw [Oper.semAt_eq _ _ _ (fun c h => (by simp at h))]
            go_simp]
          rw [Oper.uponIn_value]
          refine done_all hs h1 ?_
          change Exit.then _ _ Exit.normal { tmps := #[.func (.yield l) #[] #[], .pointer (some ⟨Bs, 0, none⟩), undef, .int .i64 (len), .int .i64 (k), .slice (some ⟨b, off, none⟩) len cap, .int .i64 (len), .int .i64 (len), .int .i64 (k), .bool true, .int .i64 (k), .func (.yield l) #[] #[], .int .i64 (k), .slice (some ⟨b, off, none⟩) len cap, .int .i64 (k), .pointer (some ⟨b, off + k * 2, none⟩), .agg #[.int .i64 (g k).1, .int .i64 (g k).2], .slice (some ⟨b, off, none⟩) len cap, .int .i64 (k), .int .i64 (IntKind.i64.wrap ((k : Int) + 1)), .int .i64 (len), .int .i64 (j1), .pointer (some ⟨b, off + j1 * 2, none⟩), .agg #[.int .i64 (g j1).1, .int .i64 (g j1).2], .slice (some ⟨b, off, none⟩) len cap, .int .i64 (k), .int .i64 (IntKind.i64.wrap ((k : Int) + 2)), .int .i64 (len), .int .i64 (j2), .pointer (some ⟨b, off + j2 * 2, none⟩), .agg #[.int .i64 (g j2).1, .int .i64 (g j2).2], .agg #[.int .i64 k, .int .i64 (g k).1, .int .i64 (g k).2, .int .i64 (g j1).1, .int .i64 (g j1).2, .int .i64 (g j2).1, .int .i64 (g j2).2], .bool t, .bool (!t), u34], defers := [] } W3
          clear hy hR' hcb c0 c0' c1 c1' c2 c2' hs hc h1 h0
          rcases ht with ⟨rfl, hJ⟩ | ⟨rfl, hX⟩
          · gi_wp2
            exact ⟨⟨k + 1, by omega, by simp, hJ⟩, by simp only [RowKit.intOf]; omega⟩
          · gi_wp2
            refine bodyPost_ret (results_none rfl _ _ _) rfl ?_
            exact ⟨⟨_, rfl⟩, .inr hX⟩
    · obtain rfl : k = len := by omega
      gi_wp2
      go_end0
      exact ⟨⟨_, rfl⟩, .inl hJs⟩
def gi : List SV → Int × Int
  | [.v (.int _ x), .v (.int _ y)] => (x, y)
  | _ => (0, 0)
def cornersRun (caps : List SV) (h : Heap) : Option (Prop × Nat × Nat × (Nat → List SV) × List Nat) :=
  match caps with
  | [.vp kb 0] => match h kb with
    | some bb => match bb.row 0 with
      | [.sl k s i n cap] => match h k with
        | some b => bif !bb.dead && !b.dead && bb.whole && Nat.beq bb.size 1 && Nat.beq bb.n 1 && Nat.beq b.size 2 && Nat.beq s 2 then
            some ((n ≤ 1099511627776 ∧ i + n ≤ b.n ∧ ∀ j, j < n → b.row (i + j) = [.v (.int .i64 (gi (b.row (i + j))).1), .v (.int .i64 (gi (b.row (i + j))).2)]), n, 1,
              fun j => [.agg [.v (.int .i64 j), .v (.int .i64 (gi (b.row (i + j))).1), .v (.int .i64 (gi (b.row (i + j))).2), .v (.int .i64 (gi (b.row (i + (j + 1) % n))).1), .v (.int .i64 (gi (b.row (i + (j + 1) % n))).2), .v (.int .i64 (gi (b.row (i + (j + 2) % n))).1), .v (.int .i64 (gi (b.row (i + (j + 2) % n))).2)]], [kb, k])
          else none
        | none => none
      | _ => none
    | none => none
  | _ => none
theorem cornersRun_ok : ItOk Try.prog 39 cornersRun := by
  intro caps h p N m item ks hr hp δ w lb hl hh
  unfold cornersRun at hr
  split at hr
  case h_2 => cases hr
  rename_i kb
  split at hr
  case h_2 => cases hr
  rename_i bb hbb
  split at hr
  case h_2 => cases hr
  rename_i k s i n cap hrow
  split at hr
  case h_2 => cases hr
  rename_i b hb
  cases hc : (!bb.dead && !b.dead && bb.whole && Nat.beq bb.size 1 && Nat.beq bb.n 1 && Nat.beq b.size 2 && Nat.beq s 2) with
  | false => rw [hc] at hr; cases hr
  | true =>
    rw [hc] at hr
    simp only [cond_true, Option.some.injEq, Prod.mk.injEq] at hr
    obtain ⟨rfl, rfl, rfl, rfl, rfl⟩ := hr
    simp only [Bool.and_eq_true, Bool.not_eq_true', Nat.beq_eq] at hc
    obtain ⟨⟨⟨⟨⟨⟨d1, d2⟩, hw⟩, z1⟩, z2⟩, z3⟩, rfl⟩ := hc
    obtain ⟨hn, hin, hrows⟩ := hp
    refine ⟨fun args w => rfl, fun j => #[.agg #[.int .i64 j, .int .i64 (gi (b.row (i + j))).1, .int .i64 (gi (b.row (i + j))).2, .int .i64 (gi (b.row (i + (j + 1) % n))).1, .int .i64 (gi (b.row (i + (j + 1) % n))).2, .int .i64 (gi (b.row (i + (j + 2) % n))).1, .int .i64 (gi (b.row (i + (j + 2) % n))).2]], fun j hj => ⟨?_, rfl⟩, ?_⟩
    · simp [absL, absV]
    · obtain ⟨q, hq, hqn, rfl⟩ : ∃ q, δ kb = some q ∧ 0 < q.n ∧ lb = [.pointer (some ⟨q.r, q.o + 0, none⟩)] := by
        match lb, hl with
        | [r], hl =>
          simp only [absL, absV, and_true] at hl
          obtain ⟨q, h1, h2, rfl⟩ := hl
          exact ⟨q, h1, h2, rfl⟩
        | [], hl => simp [absL] at hl
        | _ :: _ :: _, hl => simp [absL] at hl
      obtain ⟨q2, hq2, hlive2⟩ := hh.blk k b hb
      obtain ⟨q1, hq1, hlive1⟩ := hh.blk kb bb hbb
      rw [hq] at hq1; cases hq1
      have hno : q.no = false := by
        cases e : q.no with
        | false => rfl
        | true => have := ((hlive1 d1).no e).1; omega
      have ho : q.o = 0 := by
        obtain ⟨c, e, fz, _, _, _, _, _, h7, _⟩ := (hlive1 d1).rep hno
        exact (h7 hw).1
      have hCk : ∀ W, Keeps δ h [kb, k] W → (∃ a, W.cell? ⟨q.r, 0, none⟩ = some (.slice a n cap) ∧ (0 < n → a = some ⟨q2.r, q2.o + i * 2, none⟩)) ∧ ∀ j, j < n → W.cell? ⟨q2.r, q2.o + i * 2 + j * 2, none⟩ = some (.int .i64 (gi (b.row (i + j))).1) ∧ W.cell? ⟨q2.r, q2.o + i * 2 + j * 2 + 1, none⟩ = some (.int .i64 (gi (b.row (i + j))).2) := by
        rintro W ⟨δ', hδ, hK⟩
        have L1 := hK kb (by simp) bb q hbb hq d1
        have L2 := hK k (by simp) b q2 hb hq2 d2
        constructor
        · obtain ⟨c, e, fz, hc, _, _, _, _, _, h8⟩ := L1.rep hno
          obtain ⟨_, h9⟩ := h8 0 (by omega)
          obtain ⟨r, hr, hv⟩ := h9 0 (.sl k 2 i n cap) (by rw [hrow]; rfl)
          rw [ho] at hr
          simp only [Nat.zero_mul, Nat.add_zero] at hr
          simp only [absV] at hv
          obtain ⟨p', hp', _, _, hv⟩ := hv
          have := hδ _ _ hq2
          rw [hp'] at this; cases this
          rcases hv with ⟨_, rfl⟩ | ⟨e0, e1, a, rfl⟩
          · exact ⟨_, by rw [cell_of hc, hr], fun _ => rfl⟩
          · subst e0 e1
            exact ⟨a, by rw [cell_of hc, hr], fun h => absurd h (by omega)⟩
        · intro j hj
          have hno2 : q2.no = false := by
            cases e : q2.no with
            | false => rfl
            | true => have := (L2.no e).1; omega
          obtain ⟨c, e, fz, hc, _, _, _, _, _, h8⟩ := L2.rep hno2
          obtain ⟨_, h9⟩ := h8 (i + j) (by omega)
          obtain ⟨r0, hr0, hv0⟩ := h9 0 _ (by rw [hrows j hj]; rfl)
          obtain ⟨r1, hr1, hv1⟩ := h9 1 _ (by rw [hrows j hj]; rfl)
          simp only [absV] at hv0 hv1
          rw [z3] at hr0 hr1
          constructor
          · rw [cell_of hc, show q2.o + i * 2 + j * 2 = q2.o + (i + j) * 2 + 0 by omega, hr0, hv0]
          · rw [cell_of hc, show q2.o + i * 2 + j * 2 + 1 = q2.o + (i + j) * 2 + 1 by omega, hr1, hv1]
      intro l J Jx W hbW hJB hJxB hJK hY h0 n'
      have hh := callsIn_wide.1 (corners1_in l q.r q2.r (q2.o + i * 2) n cap (fun j => gi (b.row (i + j))) hn J Jx (fun k W hk => hCk W (hJK k W hk)) (fun k W hk hlt => hY k W 0 hk hlt) (fun k W W' hk hB => hJB k W W' hk hB) W h0)
      rw [ho]
      exact callsIn_wide.2 hh
noncomputable def cornersIt : It := ⟨Try.prog, 39, cornersRun, cornersRun_ok⟩
end Go.Proofs.Ytlcfnlhognegcaa
end
section
namespace Go.Proofs.Ytlcfnlhognegcaa
open Go.SE Go.RowKit
def roS (el : Nat) (lo li fl wh : Bool) (n ext : Nat) (row : Nat → List SV) : Blk := { elem := el, size := 2, rw := false, lock := lo, lit := li, flat := fl, n := n, row := row, ext := ext, dead := false, whole := wh }
def cornersE (n cap : Nat) : Eff := .det none (.fn 39 [.vp 1000 0]) [(1000, varBlk 23 [.sl 0 2 0 n cap])]
def sCorners (args : List SV) (bs : List Blk) : Option Eff := match args, bs with
  | [.sl 0 2 0 n cap], [b] => bif !b.rw && !b.dead && Nat.beq b.size 2 then some (cornersE n cap) else none
  | _, _ => none
def ΓW1 : Ctrs := addCtr (addCtr (addCtr (addCtr noCtrs 21 (hpCtr false sCorners)) 56 (pureCtr sMinus)) 35 (pureCtr sCross)) 57 (pureCtr sSpan)
theorem vcCorners (el n cap n' ext : Nat) (lo li fl wh : Bool) (row : Nat→List SV) : (vcFn Try.prog noCtrs noΛ Try.f21 [.sl 0 2 0 n cap] (heapOf [roS el lo li fl wh n' ext row]) 64 (fun y h' => FinE [roS el lo li fl wh n' ext row] (cornersE n cap) y h')) = (((39 = 39)∧((SV.vp 64 0) = (SV.vp 64 0)))∧(((1 : Nat) = 1)∧(((1 : Nat) ≤ 1)∧((SV.sl 0 2 0 n cap) = (SV.sl 0 2 0 n cap))))):=by kernel_rfl
theorem Corners1_spec : HpSpec Try.prog 21 sCorners := hp_spec hm noCtrs_ok Try.func21 (Λ := fun _ _ => noΛ) fun args bs e hs hp => by
  unfold sCorners at hs
  split at hs <;> try (cases hs; done)
  rename_i n cap b
  obtain ⟨el, sz, rw, lo, li, fl, n', row, ext, de, wh⟩ := b
  cases hc : (!rw && !de && Nat.beq sz 2) with
  | false => simp only [hc, cond_false] at hs; cases hs
  | true =>
    simp only [hc, cond_true, Option.some.injEq] at hs
    subst hs
    simp only [Bool.and_eq_true, Bool.not_eq_true', Nat.beq_eq] at hc
    obtain ⟨⟨rfl, rfl⟩, rfl⟩ := hc
    refine ⟨[roS el lo li fl wh n' ext row], ⟨BlkSame.refl _, trivial⟩, ?_⟩
    refine Eq.mpr (vcCorners el n cap n' ext lo li fl wh row) ?_
    exact ⟨⟨rfl, rfl⟩, rfl, Nat.le_refl _, rfl⟩
end Go.Proofs.Ytlcfnlhognegcaa
end
section
section
namespace Go.Proofs.Ytlcfnlhognegcaa
open Go.SE Go.RowKit
def subP (p q : Int × Int) : Int × Int := (p.1 - q.1, p.2 - q.2)
def crossP (p q : Int × Int) : Int := crossI p.1 p.2 q.1 q.2
def spanP (p : Int × Int) : Int := spanI p.1 p.2
def rowsP (g : Nat → Int × Int) : Nat → List SV := fun i => [.v (.int .i64 (g i).1), .v (.int .i64 (g i).2)]
def okR (n : Nat) (g : Nat → Int × Int) (k i : Nat) : Bool := Nat.beq i k || Nat.beq i ((k + 1) % n) || !decide (crossP (subP (g ((k + 1) % n)) (g k)) (subP (g i) (g k)) ≤ 0)
def okE (n : Nat) (g : Nat → Int × Int) (k : Nat) : Bool :=
  !decide (crossP (g k) (g ((k + 1) % n)) ≤ 0) && !decide (crossP (subP (g ((k + 1) % n)) (g k)) (subP (g ((k + 2) % n)) (g ((k + 1) % n))) < 4 * (spanP (subP (g ((k + 1) % n)) (g k)) + spanP (subP (g ((k + 2) % n)) (g ((k + 1) % n)))))
def okC (n : Nat) (g : Nat → Int × Int) (k : Nat) : Bool := okE n g k && (List.range n).all (okR n g k)
def convI (n : Nat) (g : Nat → Int × Int) : Bool := (List.range n).all (okC n g)
def atOf : SV → Int
  | .agg (.v (.int _ k) :: _) => k
  | _ => -1
def falseB : Blk := varBlk 4 [.v (.bool false)]
noncomputable def ΛConvex (n : Nat) (g : Nat → Int × Int) : Nat → Option LoopSpec :=
  addLoopR (addIter noΛ 0 cornersIt Nat (fun k => k ≤ n ∧ ∀ j, j < k → okC n g j = true) (fun k => k) [(72, fun _ => falseB)])
    Try.f38 2 (Nat × Nat) (fun x => x.1 < n ∧ x.2 ≤ n ∧ ∀ j, j < x.2 → okR n g x.1 j = true) (fun s x => atOf (s.tmps.getD 10 .unk) = (x.1 : Int)) (fun x => n - x.2) [(41, fun x => .v (.int .i64 x.2))] [(72, fun _ => falseB)]
def Sq (x : Int) : Prop := -1048576 ≤ x ∧ x ≤ 1048576
def spotsOk (n : Nat) (row : Nat → List SV) : Prop := ∀ i, i < n → row i = [.v (.int .i64 (gi (row i)).1), .v (.int .i64 (gi (row i)).2)] ∧ Sq (gi (row i)).1 ∧ Sq (gi (row i)).2
def sConvex : List SV → List Ro → Option (Option Prop × SV)
  | [.sl 0 2 0 n _], [⟨2, n', row⟩] => some (some (n' = n ∧ n ≤ 1099511627776 ∧ spotsOk n row), .v (.bool (convI n fun i => gi (row i))))
  | _, _ => none
theorem vcConvex (n n' cap : Nat) (g : Nat→Int × Int) : (vcFn Try.prog ΓW1 (ΛConvex n g) Try.f38 [.sl 0 2 0 n cap] (roHeap [⟨2,n',rowsP g⟩]) 64 (fun y _ => y = .v (.bool (convI n g)))) = (((It.P cornersIt = Try.prog)∧(((n : Nat) ≤ 1099511627776)∧((((0 + n) : Nat) ≤ (Ro.n {s:=2,n:=n',row:=fun i => [SV.v (.int .i64 (Prod.fst (g i))),SV.v (.int .i64 (Prod.snd (g i)))]}))∧(∀ j : Nat,(((j : Nat) < n)→([(SV.v (.int .i64 (Prod.fst (g (0 + j))))),(SV.v (.int .i64 (Prod.snd (g (0 + j)))))] = [(SV.v (.int .i64 (Prod.fst (gi [SV.v (.int .i64 (Prod.fst (g (0 + j)))),SV.v (.int .i64 (Prod.snd (g (0 + j))))])))),(SV.v (.int .i64 (Prod.snd (gi [SV.v (.int .i64 (Prod.fst (g (0 + j)))),SV.v (.int .i64 (Prod.snd (g (0 + j))))]))))]))))))∧((∃ x : Nat,(((x : Nat) = 0)∧((((x : Nat) ≤ n)∧(∀ j : Nat,(((j : Nat) < x)→(okC n g j = true))))∧(True∧(((1 : Nat) = 1)∧(((1 : Nat) ≤ 1)∧(∀ i : Nat,(((i : Nat) < 1)→([(SV.v (.bool false))] = [(SV.v (.bool false))])))))))))∧((∀ x : Nat,((((x : Nat) ≤ n)∧(∀ j : Nat,(((j : Nat) < x)→(okC n g j = true))))→(((x : Nat) < n)→((((Sp (Prod.fst (gi [SV.v (.int .i64 (Prod.fst (g (0 + (x + 1) % n)))),SV.v (.int .i64 (Prod.snd (g (0 + (x + 1) % n))))])))∧(Sp (Prod.snd (gi [SV.v (.int .i64 (Prod.fst (g (0 + (x + 1) % n)))),SV.v (.int .i64 (Prod.snd (g (0 + (x + 1) % n))))]))))∧((Sp (Prod.fst (gi [SV.v (.int .i64 (Prod.fst (g (0 + x)))),SV.v (.int .i64 (Prod.snd (g (0 + x))))])))∧(Sp (Prod.snd (gi [SV.v (.int .i64 (Prod.fst (g (0 + x)))),SV.v (.int .i64 (Prod.snd (g (0 + x))))])))))∧((((Sp (Prod.fst (gi [SV.v (.int .i64 (Prod.fst (g (0 + (x + 2) % n)))),SV.v (.int .i64 (Prod.snd (g (0 + (x + 2) % n))))])))∧(Sp (Prod.snd (gi [SV.v (.int .i64 (Prod.fst (g (0 + (x + 2) % n)))),SV.v (.int .i64 (Prod.snd (g (0 + (x + 2) % n))))]))))∧((Sp (Prod.fst (gi [SV.v (.int .i64 (Prod.fst (g (0 + (x + 1) % n)))),SV.v (.int .i64 (Prod.snd (g (0 + (x + 1) % n))))])))∧(Sp (Prod.snd (gi [SV.v (.int .i64 (Prod.fst (g (0 + (x + 1) % n)))),SV.v (.int .i64 (Prod.snd (g (0 + (x + 1) % n))))])))))∧((((Sp (Prod.fst (gi [SV.v (.int .i64 (Prod.fst (g (0 + x)))),SV.v (.int .i64 (Prod.snd (g (0 + x))))])))∧(Sp (Prod.snd (gi [SV.v (.int .i64 (Prod.fst (g (0 + x)))),SV.v (.int .i64 (Prod.snd (g (0 + x))))]))))∧((Sp (Prod.fst (gi [SV.v (.int .i64 (Prod.fst (g (0 + (x + 1) % n)))),SV.v (.int .i64 (Prod.snd (g (0 + (x + 1) % n))))])))∧(Sp (Prod.snd (gi [SV.v (.int .i64 (Prod.fst (g (0 + (x + 1) % n)))),SV.v (.int .i64 (Prod.snd (g (0 + (x + 1) % n))))])))))∧(sel (decide (crossI (Prod.fst (gi [SV.v (.int .i64 (Prod.fst (g (0 + x)))),SV.v (.int .i64 (Prod.snd (g (0 + x))))])) (Prod.snd (gi [SV.v (.int .i64 (Prod.fst (g (0 + x)))),SV.v (.int .i64 (Prod.snd (g (0 + x))))])) (Prod.fst (gi [SV.v (.int .i64 (Prod.fst (g (0 + (x + 1) % n)))),SV.v (.int .i64 (Prod.snd (g (0 + (x + 1) % n))))])) (Prod.snd (gi [SV.v (.int .i64 (Prod.fst (g (0 + (x + 1) % n)))),SV.v (.int .i64 (Prod.snd (g (0 + (x + 1) % n))))])) ≤ 0)) ((SV.v (.bool false)) = (SV.v (.bool (convI n g)))) ((((Sp (Prod.fst (gi [SV.v (.int .i64 (Prod.fst (g (0 + (x + 1) % n)))),SV.v (.int .i64 (Prod.snd (g (0 + (x + 1) % n))))]) - Prod.fst (gi [SV.v (.int .i64 (Prod.fst (g (0 + x)))),SV.v (.int .i64 (Prod.snd (g (0 + x))))])))∧(Sp (Prod.snd (gi [SV.v (.int .i64 (Prod.fst (g (0 + (x + 1) % n)))),SV.v (.int .i64 (Prod.snd (g (0 + (x + 1) % n))))]) - Prod.snd (gi [SV.v (.int .i64 (Prod.fst (g (0 + x)))),SV.v (.int .i64 (Prod.snd (g (0 + x))))]))))∧((Sp (Prod.fst (gi [SV.v (.int .i64 (Prod.fst (g (0 + (x + 2) % n)))),SV.v (.int .i64 (Prod.snd (g (0 + (x + 2) % n))))]) - Prod.fst (gi [SV.v (.int .i64 (Prod.fst (g (0 + (x + 1) % n)))),SV.v (.int .i64 (Prod.snd (g (0 + (x + 1) % n))))])))∧(Sp (Prod.snd (gi [SV.v (.int .i64 (Prod.fst (g (0 + (x + 2) % n)))),SV.v (.int .i64 (Prod.snd (g (0 + (x + 2) % n))))]) - Prod.snd (gi [SV.v (.int .i64 (Prod.fst (g (0 + (x + 1) % n)))),SV.v (.int .i64 (Prod.snd (g (0 + (x + 1) % n))))])))))∧(((Sp (Prod.fst (gi [SV.v (.int .i64 (Prod.fst (g (0 + (x + 1) % n)))),SV.v (.int .i64 (Prod.snd (g (0 + (x + 1) % n))))]) - Prod.fst (gi [SV.v (.int .i64 (Prod.fst (g (0 + x)))),SV.v (.int .i64 (Prod.snd (g (0 + x))))])))∧(Sp (Prod.snd (gi [SV.v (.int .i64 (Prod.fst (g (0 + (x + 1) % n)))),SV.v (.int .i64 (Prod.snd (g (0 + (x + 1) % n))))]) - Prod.snd (gi [SV.v (.int .i64 (Prod.fst (g (0 + x)))),SV.v (.int .i64 (Prod.snd (g (0 + x))))]))))∧(((Sp (Prod.fst (gi [SV.v (.int .i64 (Prod.fst (g (0 + (x + 2) % n)))),SV.v (.int .i64 (Prod.snd (g (0 + (x + 2) % n))))]) - Prod.fst (gi [SV.v (.int .i64 (Prod.fst (g (0 + (x + 1) % n)))),SV.v (.int .i64 (Prod.snd (g (0 + (x + 1) % n))))])))∧(Sp (Prod.snd (gi [SV.v (.int .i64 (Prod.fst (g (0 + (x + 2) % n)))),SV.v (.int .i64 (Prod.snd (g (0 + (x + 2) % n))))]) - Prod.snd (gi [SV.v (.int .i64 (Prod.fst (g (0 + (x + 1) % n)))),SV.v (.int .i64 (Prod.snd (g (0 + (x + 1) % n))))]))))∧(sel (decide (crossI (Prod.fst (gi [SV.v (.int .i64 (Prod.fst (g (0 + (x + 1) % n)))),SV.v (.int .i64 (Prod.snd (g (0 + (x + 1) % n))))]) - Prod.fst (gi [SV.v (.int .i64 (Prod.fst (g (0 + x)))),SV.v (.int .i64 (Prod.snd (g (0 + x))))])) (Prod.snd (gi [SV.v (.int .i64 (Prod.fst (g (0 + (x + 1) % n)))),SV.v (.int .i64 (Prod.snd (g (0 + (x + 1) % n))))]) - Prod.snd (gi [SV.v (.int .i64 (Prod.fst (g (0 + x)))),SV.v (.int .i64 (Prod.snd (g (0 + x))))])) (Prod.fst (gi [SV.v (.int .i64 (Prod.fst (g (0 + (x + 2) % n)))),SV.v (.int .i64 (Prod.snd (g (0 + (x + 2) % n))))]) - Prod.fst (gi [SV.v (.int .i64 (Prod.fst (g (0 + (x + 1) % n)))),SV.v (.int .i64 (Prod.snd (g (0 + (x + 1) % n))))])) (Prod.snd (gi [SV.v (.int .i64 (Prod.fst (g (0 + (x + 2) % n)))),SV.v (.int .i64 (Prod.snd (g (0 + (x + 2) % n))))]) - Prod.snd (gi [SV.v (.int .i64 (Prod.fst (g (0 + (x + 1) % n)))),SV.v (.int .i64 (Prod.snd (g (0 + (x + 1) % n))))])) < IntKind.wrap IntKind.i64 (4 * IntKind.wrap IntKind.i64 (spanI (Prod.fst (gi [SV.v (.int .i64 (Prod.fst (g (0 + (x + 1) % n)))),SV.v (.int .i64 (Prod.snd (g (0 + (x + 1) % n))))]) - Prod.fst (gi [SV.v (.int .i64 (Prod.fst (g (0 + x)))),SV.v (.int .i64 (Prod.snd (g (0 + x))))])) (Prod.snd (gi [SV.v (.int .i64 (Prod.fst (g (0 + (x + 1) % n)))),SV.v (.int .i64 (Prod.snd (g (0 + (x + 1) % n))))]) - Prod.snd (gi [SV.v (.int .i64 (Prod.fst (g (0 + x)))),SV.v (.int .i64 (Prod.snd (g (0 + x))))])) + spanI (Prod.fst (gi [SV.v (.int .i64 (Prod.fst (g (0 + (x + 2) % n)))),SV.v (.int .i64 (Prod.snd (g (0 + (x + 2) % n))))]) - Prod.fst (gi [SV.v (.int .i64 (Prod.fst (g (0 + (x + 1) % n)))),SV.v (.int .i64 (Prod.snd (g (0 + (x + 1) % n))))])) (Prod.snd (gi [SV.v (.int .i64 (Prod.fst (g (0 + (x + 2) % n)))),SV.v (.int .i64 (Prod.snd (g (0 + (x + 2) % n))))]) - Prod.snd (gi [SV.v (.int .i64 (Prod.fst (g (0 + (x + 1) % n)))),SV.v (.int .i64 (Prod.snd (g (0 + (x + 1) % n))))])))))) ((SV.v (.bool false)) = (SV.v (.bool (convI n g)))) ((∃ x_1 : (Nat × Nat),((((((Prod.fst x_1) : Nat) < n)∧((((Prod.snd x_1) : Nat) ≤ n)∧(∀ j : Nat,(((j : Nat) < (Prod.snd x_1))→(okR n g (Prod.fst x_1) j = true)))))∧(((atOf (SV.agg [SV.v (.int .i64 (↑x : Int)),SV.v (.int .i64 (Prod.fst (gi [SV.v (.int .i64 (Prod.fst (g (0 + x)))),SV.v (.int .i64 (Prod.snd (g (0 + x))))]))),SV.v (.int .i64 (Prod.snd (gi [SV.v (.int .i64 (Prod.fst (g (0 + x)))),SV.v (.int .i64 (Prod.snd (g (0 + x))))]))),SV.v (.int .i64 (Prod.fst (gi [SV.v (.int .i64 (Prod.fst (g (0 + (x + 1) % n)))),SV.v (.int .i64 (Prod.snd (g (0 + (x + 1) % n))))]))),SV.v (.int .i64 (Prod.snd (gi [SV.v (.int .i64 (Prod.fst (g (0 + (x + 1) % n)))),SV.v (.int .i64 (Prod.snd (g (0 + (x + 1) % n))))]))),SV.v (.int .i64 (Prod.fst (gi [SV.v (.int .i64 (Prod.fst (g (0 + (x + 2) % n)))),SV.v (.int .i64 (Prod.snd (g (0 + (x + 2) % n))))]))),SV.v (.int .i64 (Prod.snd (gi [SV.v (.int .i64 (Prod.fst (g (0 + (x + 2) % n)))),SV.v (.int .i64 (Prod.snd (g (0 + (x + 2) % n))))])))])) : Int) = ((↑(Prod.fst x_1) : Int))))∧(((SV.v (.int .i64 0)) = (SV.v (.int .i64 ((↑(Prod.snd x_1) : Int)))))∧(((1 : Nat) = 1)∧(((1 : Nat) ≤ 1)∧(∀ i : Nat,(((i : Nat) < 1)→([(SV.v (.bool false))] = [(SV.v (.bool false))]))))))))∧(∀ x_1 : (Nat × Nat),((((((Prod.fst x_1) : Nat) < n)∧((((Prod.snd x_1) : Nat) ≤ n)∧(∀ j : Nat,(((j : Nat) < (Prod.snd x_1))→(okR n g (Prod.fst x_1) j = true)))))∧(((atOf (SV.agg [SV.v (.int .i64 (↑x : Int)),SV.v (.int .i64 (Prod.fst (gi [SV.v (.int .i64 (Prod.fst (g (0 + x)))),SV.v (.int .i64 (Prod.snd (g (0 + x))))]))),SV.v (.int .i64 (Prod.snd (gi [SV.v (.int .i64 (Prod.fst (g (0 + x)))),SV.v (.int .i64 (Prod.snd (g (0 + x))))]))),SV.v (.int .i64 (Prod.fst (gi [SV.v (.int .i64 (Prod.fst (g (0 + (x + 1) % n)))),SV.v (.int .i64 (Prod.snd (g (0 + (x + 1) % n))))]))),SV.v (.int .i64 (Prod.snd (gi [SV.v (.int .i64 (Prod.fst (g (0 + (x + 1) % n)))),SV.v (.int .i64 (Prod.snd (g (0 + (x + 1) % n))))]))),SV.v (.int .i64 (Prod.fst (gi [SV.v (.int .i64 (Prod.fst (g (0 + (x + 2) % n)))),SV.v (.int .i64 (Prod.snd (g (0 + (x + 2) % n))))]))),SV.v (.int .i64 (Prod.snd (gi [SV.v (.int .i64 (Prod.fst (g (0 + (x + 2) % n)))),SV.v (.int .i64 (Prod.snd (g (0 + (x + 2) % n))))])))])) : Int) = ((↑(Prod.fst x_1) : Int))))→(sel (decide ((↑(Prod.snd x_1) : Int) < (↑n : Int))) ((((0 : Int) ≤ ((↑(Prod.snd x_1) : Int)))∧((((↑(Prod.snd x_1) : Int)) : Int) < ((↑n : Int))))∧(sel ((↑(Prod.snd x_1) : Int) != (↑x : Int)) (((((↑n : Int)) : Int) ≠ 0)∧(sel ((↑(Prod.snd x_1) : Int) != Int.tmod (IntKind.wrap IntKind.i64 ((↑x : Int) + 1)) (↑n : Int)) ((((Sp (Prod.fst (g (0 + Int.toNat (↑(Prod.snd x_1) : Int)))))∧(Sp (Prod.snd (g (0 + Int.toNat (↑(Prod.snd x_1) : Int))))))∧((Sp (Prod.fst (gi [SV.v (.int .i64 (Prod.fst (g (0 + x)))),SV.v (.int .i64 (Prod.snd (g (0 + x))))])))∧(Sp (Prod.snd (gi [SV.v (.int .i64 (Prod.fst (g (0 + x)))),SV.v (.int .i64 (Prod.snd (g (0 + x))))])))))∧((((Sp (Prod.fst (gi [SV.v (.int .i64 (Prod.fst (g (0 + (x + 1) % n)))),SV.v (.int .i64 (Prod.snd (g (0 + (x + 1) % n))))]) - Prod.fst (gi [SV.v (.int .i64 (Prod.fst (g (0 + x)))),SV.v (.int .i64 (Prod.snd (g (0 + x))))])))∧(Sp (Prod.snd (gi [SV.v (.int .i64 (Prod.fst (g (0 + (x + 1) % n)))),SV.v (.int .i64 (Prod.snd (g (0 + (x + 1) % n))))]) - Prod.snd (gi [SV.v (.int .i64 (Prod.fst (g (0 + x)))),SV.v (.int .i64 (Prod.snd (g (0 + x))))]))))∧((Sp (Prod.fst (g (0 + Int.toNat (↑(Prod.snd x_1) : Int))) - Prod.fst (gi [SV.v (.int .i64 (Prod.fst (g (0 + x)))),SV.v (.int .i64 (Prod.snd (g (0 + x))))])))∧(Sp (Prod.snd (g (0 + Int.toNat (↑(Prod.snd x_1) : Int))) - Prod.snd (gi [SV.v (.int .i64 (Prod.fst (g (0 + x)))),SV.v (.int .i64 (Prod.snd (g (0 + x))))])))))∧(sel (decide (crossI (Prod.fst (gi [SV.v (.int .i64 (Prod.fst (g (0 + (x + 1) % n)))),SV.v (.int .i64 (Prod.snd (g (0 + (x + 1) % n))))]) - Prod.fst (gi [SV.v (.int .i64 (Prod.fst (g (0 + x)))),SV.v (.int .i64 (Prod.snd (g (0 + x))))])) (Prod.snd (gi [SV.v (.int .i64 (Prod.fst (g (0 + (x + 1) % n)))),SV.v (.int .i64 (Prod.snd (g (0 + (x + 1) % n))))]) - Prod.snd (gi [SV.v (.int .i64 (Prod.fst (g (0 + x)))),SV.v (.int .i64 (Prod.snd (g (0 + x))))])) (Prod.fst (g (0 + Int.toNat (↑(Prod.snd x_1) : Int))) - Prod.fst (gi [SV.v (.int .i64 (Prod.fst (g (0 + x)))),SV.v (.int .i64 (Prod.snd (g (0 + x))))])) (Prod.snd (g (0 + Int.toNat (↑(Prod.snd x_1) : Int))) - Prod.snd (gi [SV.v (.int .i64 (Prod.fst (g (0 + x)))),SV.v (.int .i64 (Prod.snd (g (0 + x))))])) ≤ 0)) ((SV.v (.bool false)) = (SV.v (.bool (convI n g)))) (∃ x' : (Nat × Nat),(((((((Prod.fst x') : Nat) < n)∧((((Prod.snd x') : Nat) ≤ n)∧(∀ j : Nat,(((j : Nat) < (Prod.snd x'))→(okR n g (Prod.fst x') j = true)))))∧(((atOf (SV.agg [SV.v (.int .i64 (↑x : Int)),SV.v (.int .i64 (Prod.fst (gi [SV.v (.int .i64 (Prod.fst (g (0 + x)))),SV.v (.int .i64 (Prod.snd (g (0 + x))))]))),SV.v (.int .i64 (Prod.snd (gi [SV.v (.int .i64 (Prod.fst (g (0 + x)))),SV.v (.int .i64 (Prod.snd (g (0 + x))))]))),SV.v (.int .i64 (Prod.fst (gi [SV.v (.int .i64 (Prod.fst (g (0 + (x + 1) % n)))),SV.v (.int .i64 (Prod.snd (g (0 + (x + 1) % n))))]))),SV.v (.int .i64 (Prod.snd (gi [SV.v (.int .i64 (Prod.fst (g (0 + (x + 1) % n)))),SV.v (.int .i64 (Prod.snd (g (0 + (x + 1) % n))))]))),SV.v (.int .i64 (Prod.fst (gi [SV.v (.int .i64 (Prod.fst (g (0 + (x + 2) % n)))),SV.v (.int .i64 (Prod.snd (g (0 + (x + 2) % n))))]))),SV.v (.int .i64 (Prod.snd (gi [SV.v (.int .i64 (Prod.fst (g (0 + (x + 2) % n)))),SV.v (.int .i64 (Prod.snd (g (0 + (x + 2) % n))))])))])) : Int) = ((↑(Prod.fst x') : Int))))∧(((SV.v (.int .i64 (IntKind.wrap IntKind.i64 ((↑(Prod.snd x_1) : Int) + 1)))) = (SV.v (.int .i64 ((↑(Prod.snd x') : Int)))))∧(((1 : Nat) = 1)∧(((1 : Nat) ≤ 1)∧(∀ i : Nat,(((i : Nat) < 1)→([(SV.v (.bool false))] = [(SV.v (.bool false))])))))))∧(((n - Prod.snd x') : Nat) < (n - Prod.snd x_1))))))) (∃ x' : (Nat × Nat),(((((((Prod.fst x') : Nat) < n)∧((((Prod.snd x') : Nat) ≤ n)∧(∀ j : Nat,(((j : Nat) < (Prod.snd x'))→(okR n g (Prod.fst x') j = true)))))∧(((atOf (SV.agg [SV.v (.int .i64 (↑x : Int)),SV.v (.int .i64 (Prod.fst (gi [SV.v (.int .i64 (Prod.fst (g (0 + x)))),SV.v (.int .i64 (Prod.snd (g (0 + x))))]))),SV.v (.int .i64 (Prod.snd (gi [SV.v (.int .i64 (Prod.fst (g (0 + x)))),SV.v (.int .i64 (Prod.snd (g (0 + x))))]))),SV.v (.int .i64 (Prod.fst (gi [SV.v (.int .i64 (Prod.fst (g (0 + (x + 1) % n)))),SV.v (.int .i64 (Prod.snd (g (0 + (x + 1) % n))))]))),SV.v (.int .i64 (Prod.snd (gi [SV.v (.int .i64 (Prod.fst (g (0 + (x + 1) % n)))),SV.v (.int .i64 (Prod.snd (g (0 + (x + 1) % n))))]))),SV.v (.int .i64 (Prod.fst (gi [SV.v (.int .i64 (Prod.fst (g (0 + (x + 2) % n)))),SV.v (.int .i64 (Prod.snd (g (0 + (x + 2) % n))))]))),SV.v (.int .i64 (Prod.snd (gi [SV.v (.int .i64 (Prod.fst (g (0 + (x + 2) % n)))),SV.v (.int .i64 (Prod.snd (g (0 + (x + 2) % n))))])))])) : Int) = ((↑(Prod.fst x') : Int))))∧(((SV.v (.int .i64 (IntKind.wrap IntKind.i64 ((↑(Prod.snd x_1) : Int) + 1)))) = (SV.v (.int .i64 ((↑(Prod.snd x') : Int)))))∧(((1 : Nat) = 1)∧(((1 : Nat) ≤ 1)∧(∀ i : Nat,(((i : Nat) < 1)→([(SV.v (.bool false))] = [(SV.v (.bool false))])))))))∧(((n - Prod.snd x') : Nat) < (n - Prod.snd x_1)))))) (∃ x' : (Nat × Nat),(((((((Prod.fst x') : Nat) < n)∧((((Prod.snd x') : Nat) ≤ n)∧(∀ j : Nat,(((j : Nat) < (Prod.snd x'))→(okR n g (Prod.fst x') j = true)))))∧(((atOf (SV.agg [SV.v (.int .i64 (↑x : Int)),SV.v (.int .i64 (Prod.fst (gi [SV.v (.int .i64 (Prod.fst (g (0 + x)))),SV.v (.int .i64 (Prod.snd (g (0 + x))))]))),SV.v (.int .i64 (Prod.snd (gi [SV.v (.int .i64 (Prod.fst (g (0 + x)))),SV.v (.int .i64 (Prod.snd (g (0 + x))))]))),SV.v (.int .i64 (Prod.fst (gi [SV.v (.int .i64 (Prod.fst (g (0 + (x + 1) % n)))),SV.v (.int .i64 (Prod.snd (g (0 + (x + 1) % n))))]))),SV.v (.int .i64 (Prod.snd (gi [SV.v (.int .i64 (Prod.fst (g (0 + (x + 1) % n)))),SV.v (.int .i64 (Prod.snd (g (0 + (x + 1) % n))))]))),SV.v (.int .i64 (Prod.fst (gi [SV.v (.int .i64 (Prod.fst (g (0 + (x + 2) % n)))),SV.v (.int .i64 (Prod.snd (g (0 + (x + 2) % n))))]))),SV.v (.int .i64 (Prod.snd (gi [SV.v (.int .i64 (Prod.fst (g (0 + (x + 2) % n)))),SV.v (.int .i64 (Prod.snd (g (0 + (x + 2) % n))))])))])) : Int) = ((↑(Prod.fst x') : Int))))∧(((SV.v (.int .i64 (IntKind.wrap IntKind.i64 ((↑(Prod.snd x_1) : Int) + 1)))) = (SV.v (.int .i64 ((↑(Prod.snd x') : Int)))))∧(((1 : Nat) = 1)∧(((1 : Nat) ≤ 1)∧(∀ i : Nat,(((i : Nat) < 1)→([(SV.v (.bool false))] = [(SV.v (.bool false))])))))))∧(((n - Prod.snd x') : Nat) < (n - Prod.snd x_1)))))) (∃ x' : Nat,(((x' : Nat) = (x + 1))∧((((x' : Nat) ≤ n)∧(∀ j : Nat,(((j : Nat) < x')→(okC n g j = true))))∧(True∧(((1 : Nat) = 1)∧(((1 : Nat) ≤ 1)∧(∀ i : Nat,(((i : Nat) < 1)→([(SV.v (.bool false))] = [(SV.v (.bool false))]))))))))))))))))))))))))∧(∀ x : Nat,((((x : Nat) ≤ n)∧(∀ j : Nat,(((j : Nat) < x)→(okC n g j = true))))→(((x : Nat) = n)→((SV.v (.bool true)) = (SV.v (.bool (convI n g)))))))))):=by kernel_rfl
theorem ΓW1_ok : ∀ f g, ΓW1 f = some g → g.ok Try.prog f := addCtr_ok (addCtr_ok (addCtr_ok (addCtr_ok noCtrs_ok (hp_ok Try.func21 (by kernel_rfl) (by kernel_rfl) Corners1_spec)) (pure_ok Try.func56 (by kernel_rfl) (by kernel_rfl) Minus_spec)) (pure_ok Try.func35 (by kernel_rfl) (by kernel_rfl) CrossS_spec)) (pure_ok Try.func57 (by kernel_rfl) (by kernel_rfl) Span_spec)
theorem Sq.sp {x : Int} (h : Sq x) : Sp x := ⟨by have := h.1; omega, by have := h.2; omega⟩
theorem Sq.sub {x y : Int} (h : Sq x) (k : Sq y) : Sp (x - y) := ⟨by have := h.1; have := k.2; omega, by have := h.2; have := k.1; omega⟩
theorem span_bd {x y z w : Int} (h : Sq x) (k : Sq y) (h' : Sq z) (k' : Sq w) : 0 ≤ spanI (x - y) (z - w) ∧ spanI (x - y) (z - w) ≤ 4194304 := by
  obtain ⟨a, b⟩ := h
  obtain ⟨c, d⟩ := k
  obtain ⟨a', b'⟩ := h'
  obtain ⟨c', d'⟩ := k'
  unfold spanI
  omega
theorem all_lt {n : Nat} {f : Nat → Bool} (h : ∀ j, j < n → f j = true) : (List.range n).all f = true := by
  rw [List.all_eq_true]
  intro i hi
  exact h i (List.mem_range.1 hi)
theorem not_all {n : Nat} {f : Nat → Bool} {k : Nat} (hk : k < n) (h : f k = false) : (List.range n).all f = false := by
  rw [List.all_eq_false]
  exact ⟨k, List.mem_range.2 hk, by simp [h]⟩
theorem conv_not {n : Nat} {g : Nat → Int × Int} {k : Nat} (hk : k < n) (h : okC n g k = false) : convI n g = false := not_all hk h
theorem okC_not {n : Nat} {g : Nat → Int × Int} {k : Nat} (h : okE n g k = false) : okC n g k = false := by unfold okC; rw [h]; rfl
theorem okC_not' {n : Nat} {g : Nat → Int × Int} {k i : Nat} (hi : i < n) (h : okR n g k i = false) : okC n g k = false := by unfold okC; rw [not_all hi h]; simp
theorem convex_vc {n cap : Nat} {g : Nat → Int × Int} (hn : n ≤ 1099511627776) (hg : ∀ i, i < n → Sq (g i).1 ∧ Sq (g i).2) : vcFn Try.prog ΓW1 (ΛConvex n g) Try.f38 [.sl 0 2 0 n cap] (roHeap [⟨2, n, rowsP g⟩]) 64 (fun y _ => y = .v (.bool (convI n g))) := by
  refine Eq.mpr (vcConvex n n cap g) ?_
  simp only [gi, Nat.zero_add]
  refine ⟨⟨rfl, hn, Nat.le_refl _, fun _ _ => trivial⟩, ⟨0, rfl, ⟨Nat.zero_le _, fun j hj => absurd hj (Nat.not_lt_zero _)⟩, trivial, trivial, Nat.le_refl _, fun _ _ => trivial⟩, fun k ⟨_, hdone⟩ hk => ?_, fun k ⟨_, hdone⟩ e => ?_⟩
  · have l1 : (k + 1) % n < n := Nat.mod_lt _ (by omega)
    have l2 : (k + 2) % n < n := Nat.mod_lt _ (by omega)
    obtain ⟨a1, a2⟩ := hg k hk
    obtain ⟨b1, b2⟩ := hg _ l1
    obtain ⟨c1, c2⟩ := hg _ l2
    refine ⟨⟨⟨b1.sp, b2.sp⟩, a1.sp, a2.sp⟩, ⟨⟨c1.sp, c2.sp⟩, b1.sp, b2.sp⟩, ⟨⟨a1.sp, a2.sp⟩, b1.sp, b2.sp⟩, ?_⟩
    have bad : ∀ {b : Bool}, okC n g k = false → SV.v (Value.bool false) = SV.v (Value.bool (convI n g)) := fun {b} h => by rw [conv_not hk h]
    refine sel_of (fun h => bad (b := true) (okC_not (by unfold okE crossP; rw [h]; rfl))) fun h1 => ?_
    have s1 := span_bd b1 a1 b2 a2
    have s2 := span_bd c1 b1 c2 b2
    refine ⟨⟨⟨b1.sub a1, b2.sub a2⟩, c1.sub b1, c2.sub b2⟩, ⟨b1.sub a1, b2.sub a2⟩, ⟨c1.sub b1, c2.sub b2⟩, ?_⟩
    rw [wrap_i64 (n := spanI _ _ + spanI _ _) ⟨by omega, by omega⟩, wrap_i64 ⟨by omega, by omega⟩]
    refine sel_of (fun h => bad (b := true) (okC_not (by unfold okE crossP spanP subP; simp only; rw [h]; simp))) fun h2 => ?_
    have hE : okE n g k = true := by unfold okE crossP spanP subP; simp only; rw [h1, h2]; rfl
    refine ⟨⟨(k, 0), ⟨⟨hk, Nat.zero_le _, fun j hj => absurd hj (Nat.not_lt_zero _)⟩, rfl⟩, rfl, trivial, Nat.le_refl _, fun _ _ => trivial⟩, ?_⟩
    rintro ⟨k', i⟩ ⟨⟨_, hi, hok⟩, hat⟩
    have hk' : k' = k := by
      have : (k : Int) = (k' : Int) := hat
      omega
    subst hk'
    simp only at hi hok ⊢
    have ew : i < n → IntKind.i64.wrap ((i : Int) + 1) = ((i + 1 : Nat) : Int) := fun h => by rw [wrap_i64 ⟨by omega, by omega⟩]; rfl
    have em : (IntKind.i64.wrap ((k' : Int) + 1)).tmod (n : Int) = (((k' + 1) % n : Nat) : Int) := by
      rw [wrap_i64 ⟨by omega, by omega⟩, Int.tmod_eq_emod_of_nonneg (by omega), Int.natCast_emod]; rfl
    have more : okR n g k' i = true → ∀ j, j < i + 1 → okR n g k' j = true := fun h j hj => by
      by_cases e : j = i
      · rw [e]; exact h
      · exact hok j (by omega)
    refine sel_of (fun hlt => ?_) fun hge => ?_
    · have hlt : i < n := by simpa using hlt
      refine ⟨⟨by omega, by omega⟩, sel_of (fun h3 => ⟨by omega, sel_of (fun h4 => ?_) fun h4 => ?_⟩) fun h3 => ?_⟩
      · obtain ⟨d1, d2⟩ := hg i hlt
        rw [Int.toNat_natCast]
        refine ⟨⟨⟨d1.sp, d2.sp⟩, a1.sp, a2.sp⟩, ⟨⟨b1.sub a1, b2.sub a2⟩, d1.sub a1, d2.sub a2⟩, sel_of (fun h5 => bad (b := true) (okC_not' hlt ?_)) fun h5 => ?_⟩
        · rw [em] at h4
          have n1 : Nat.beq i k' = false := by
            cases e : Nat.beq i k' with
            | false => rfl
            | true => rw [Nat.eq_of_beq_eq_true e] at h3; simp at h3
          have n2 : Nat.beq i ((k' + 1) % n) = false := by
            cases e : Nat.beq i ((k' + 1) % n) with
            | false => rfl
            | true => rw [← Nat.eq_of_beq_eq_true e] at h4; simp at h4
          unfold okR crossP subP
          simp only
          rw [n1, n2, h5]; rfl
        · have : okR n g k' i = true := by unfold okR crossP subP; simp only; rw [h5]; simp
          exact ⟨(k', i + 1), ⟨⟨⟨hk, hlt, more this⟩, rfl⟩, by rw [ew hlt], trivial, Nat.le_refl _, fun _ _ => trivial⟩, by simp only; omega⟩
      · have : okR n g k' i = true := by
          rw [em] at h4
          have e : i = (k' + 1) % n := by
            have : (i : Int) = (((k' + 1) % n : Nat) : Int) := by simpa using h4
            omega
          unfold okR
          rw [← e, Nat.beq_refl]; simp
        exact ⟨(k', i + 1), ⟨⟨⟨hk, hlt, more this⟩, rfl⟩, by rw [ew hlt], trivial, Nat.le_refl _, fun _ _ => trivial⟩, by simp only; omega⟩
      · have : okR n g k' i = true := by
          have e : i = k' := by
            have : (i : Int) = (k' : Int) := by simpa using h3
            omega
          unfold okR
          rw [e, Nat.beq_refl]; simp
        exact ⟨(k', i + 1), ⟨⟨⟨hk, hlt, more this⟩, rfl⟩, by rw [ew hlt], trivial, Nat.le_refl _, fun _ _ => trivial⟩, by simp only; omega⟩
    · have e : i = n := by
        have : ¬ (i : Int) < (n : Int) := by simpa using hge
        omega
      subst e
      refine ⟨k' + 1, rfl, ⟨hk, fun j hj => ?_⟩, trivial, trivial, Nat.le_refl _, fun _ _ => trivial⟩
      by_cases e : j = k'
      · rw [e]; unfold okC; rw [hE, all_lt hok]; rfl
      · exact hdone j (by omega)
  · subst e
    have : convI k g = true := all_lt hdone
    rw [this]
theorem Convex_spec : RoSpec Try.prog 38 sConvex := ro_spec hm ΓW1_ok Try.func38 (Λ := fun args bs => match args, bs with | [.sl 0 2 0 n _], [⟨2, _, row⟩] => ΛConvex n (fun i => gi (row i)) | _, _ => noΛ) fun args bs p x h hp => by
  unfold sConvex at h
  split at h <;> try (cases h; done)
  rename_i n c n' row
  cases h
  obtain ⟨rfl, hn, h0⟩ := hp _ rfl
  refine ⟨rfl, [⟨2, n', rowsP fun i => gi (row i)⟩], ⟨⟨rfl, rfl, fun i hi => (h0 i hi).1⟩, trivial⟩, ?_⟩
  exact convex_vc hn fun i hi => (h0 i hi).2
end Go.Proofs.Ytlcfnlhognegcaa
end
section
namespace Go.Proofs.Ytlcfnlhognegcaa
open Go.SE Go.RowKit
def okS (n : Nat) (g : Nat → Int × Int) (i k : Nat) : Bool := !decide (crossP (subP (g ((i + 1) % n)) (g i)) (subP (g ((i + k) % n)) (g i)) ≤ 0)
structure ShB where
  k : Int
  r : Int
  w : Int
  h : Int
def shS (s : ShB) (x : SV) : SV := .agg [.v (.int .i64 s.k), .v (.int .i64 s.r), .v (.int .i64 s.w), .v (.int .i64 s.h), x]
def shOk (s : ShB) : Prop := (I64 s.k ∧ I64 s.r) ∧ I64 s.w ∧ I64 s.h
def ptOk (p : Int × Int) : Bool := nearI p.1 && nearI p.2
def chkS (s : ShB) (n : Nat) (g : Nat → Int × Int) : Int :=
  bif s.k == 1 then (bif s.w != 0 || (s.h != 0 || ((n : Int)) != 0) then 4 else bif sizeI s.r then 0 else 3)
  else bif s.k == 2 then (bif s.r != 0 || (n : Int) != 0 then 4 else bif sizeI s.w && sizeI s.h then 0 else 3)
  else bif s.k == 3 then (bif s.r != 0 || (s.w != 0 || (s.h != 0 || (decide ((n : Int) < 3) || decide ((n : Int) > 8)))) then 4 else bif (List.range n).all (fun i => ptOk (g i)) then (bif convI n g then 0 else 5) else 3)
  else 8
def isPI : List SV → Prop
  | [.v (.int .i64 a), .v (.int .i64 b)] => I64 a ∧ I64 b
  | _ => False
def sCheckS : List SV → List Ro → Option (Option Prop × SV)
  | [.agg [.v (.int .i64 k), .v (.int .i64 r), .v (.int .i64 w), .v (.int .i64 h), .sl 0 2 0 n _]], [⟨2, n', row⟩] => some (some (shOk ⟨k, r, w, h⟩ ∧ okAll isPI (rowsOf n' row) ∧ n' = n ∧ n < 1099511627776), .v (.int .i64 (chkS ⟨k, r, w, h⟩ n fun i => gi (row i))))
  | [.agg [.v (.int .i64 k), .v (.int .i64 r), .v (.int .i64 w), .v (.int .i64 h), .v (.slice none 0 0)]], [] => some (some (shOk ⟨k, r, w, h⟩), .v (.int .i64 (chkS ⟨k, r, w, h⟩ 0 fun _ => (0, 0))))
  | _, _ => none
noncomputable def ΛCheckS (n : Nat) (g : Nat → Int × Int) : Nat → Option LoopSpec := addLoop noΛ Try.f20 1 Nat (fun i => i ≤ n ∧ ∀ j, j < i → ptOk (g j) = true) (fun i => n - i) [(78, fun i => .v (.int .i64 i))] []
def ΓW3 : Ctrs := addCtr (addCtr noCtrs 38 (roCtr sConvex)) 37 (pureCtr sSizeS)
theorem vcCheckS (s : ShB) (n n' cap : Nat) (g : Nat→Int × Int) (R : SV→Prop) : (vcFn Try.prog ΓW3 (ΛCheckS n g) Try.f20 [shS s (.sl 0 2 0 n cap)] (roHeap [⟨2,n',rowsP g⟩]) 64 (fun y _ => R y)) = (sel (ShB.k s == 1) (sel (ShB.w s != 0) (R (SV.v (.int .i64 4))) (sel (ShB.h s != 0) (R (SV.v (.int .i64 4))) (sel ((↑n : Int) != 0) (R (SV.v (.int .i64 4))) ((I64 (ShB.r s))∧(sel (!sizeI (ShB.r s)) (R (SV.v (.int .i64 3))) (R (SV.v (.int .i64 0)))))))) (sel (ShB.k s == 2) (sel (ShB.r s != 0) (R (SV.v (.int .i64 4))) (sel ((↑n : Int) != 0) (R (SV.v (.int .i64 4))) ((I64 (ShB.w s))∧(sel (!sizeI (ShB.w s)) (R (SV.v (.int .i64 3))) ((I64 (ShB.h s))∧(sel (!sizeI (ShB.h s)) (R (SV.v (.int .i64 3))) (R (SV.v (.int .i64 0))))))))) (sel (ShB.k s == 3) (sel (ShB.r s != 0) (R (SV.v (.int .i64 4))) (sel (ShB.w s != 0) (R (SV.v (.int .i64 4))) (sel (ShB.h s != 0) (R (SV.v (.int .i64 4))) (sel (decide ((↑n : Int) < 3)) (R (SV.v (.int .i64 4))) (sel (decide ((↑n : Int) > 8)) (R (SV.v (.int .i64 4))) ((∃ x : Nat,((((x : Nat) ≤ n)∧(∀ j : Nat,(((j : Nat) < x)→(ptOk (g j) = true))))∧(((SV.v (.int .i64 0)) = (SV.v (.int .i64 ((↑x : Int)))))∧True)))∧(∀ x : Nat,((((x : Nat) ≤ n)∧(∀ j : Nat,(((j : Nat) < x)→(ptOk (g j) = true))))→(sel (decide ((↑x : Int) < (↑n : Int))) ((((0 : Int) ≤ ((↑x : Int)))∧((((↑x : Int)) : Int) < ((↑n : Int))))∧(sel (decide (max (Prod.fst (g (0 + Int.toNat (↑x : Int)))) (Prod.snd (g (0 + Int.toNat (↑x : Int)))) > 4096)) (R (SV.v (.int .i64 3))) (sel (decide (min (Prod.fst (g (0 + Int.toNat (↑x : Int)))) (Prod.snd (g (0 + Int.toNat (↑x : Int)))) < -4096)) (R (SV.v (.int .i64 3))) (∃ x' : Nat,(((((x' : Nat) ≤ n)∧(∀ j : Nat,(((j : Nat) < x')→(ptOk (g j) = true))))∧(((SV.v (.int .i64 (IntKind.wrap IntKind.i64 ((↑x : Int) + 1)))) = (SV.v (.int .i64 ((↑x' : Int)))))∧True))∧(((n - x') : Nat) < (n - x))))))) ((((n : Nat) = n)∧(((n : Nat) ≤ 1099511627776)∧(spotsOk n fun y => [SV.v (.int .i64 (Prod.fst (g (0 + y)))),SV.v (.int .i64 (Prod.snd (g (0 + y))))])))∧(sel (!convI n fun i => gi [SV.v (.int .i64 (Prod.fst (g (0 + i)))),SV.v (.int .i64 (Prod.snd (g (0 + i))))]) (R (SV.v (.int .i64 5))) (R (SV.v (.int .i64 0)))))))))))))) (R (SV.v (.int .i64 8)))))):=by kernel_rfl
theorem vcCheckS0 (s : ShB) (g : Nat→Int × Int) (R : SV→Prop) : (vcFn Try.prog ΓW3 (ΛCheckS 0 g) Try.f20 [shS s (.v (.slice none 0 0))] (roHeap []) 64 (fun y _ => R y)) = (sel (ShB.k s == 1) (sel (ShB.w s != 0) (R (SV.v (.int .i64 4))) (sel (ShB.h s != 0) (R (SV.v (.int .i64 4))) ((I64 (ShB.r s))∧(sel (!sizeI (ShB.r s)) (R (SV.v (.int .i64 3))) (R (SV.v (.int .i64 0))))))) (sel (ShB.k s == 2) (sel (ShB.r s != 0) (R (SV.v (.int .i64 4))) ((I64 (ShB.w s))∧(sel (!sizeI (ShB.w s)) (R (SV.v (.int .i64 3))) ((I64 (ShB.h s))∧(sel (!sizeI (ShB.h s)) (R (SV.v (.int .i64 3))) (R (SV.v (.int .i64 0)))))))) (sel (ShB.k s == 3) (sel (ShB.r s != 0) (R (SV.v (.int .i64 4))) (sel (ShB.w s != 0) (R (SV.v (.int .i64 4))) (sel (ShB.h s != 0) (R (SV.v (.int .i64 4))) (R (SV.v (.int .i64 4)))))) (R (SV.v (.int .i64 8)))))):=by kernel_rfl
theorem mod2 {a n : Nat} (h : a < 2 * n) : a % n = if a < n then a else a - n := by
  by_cases h' : a < n
  · rw [if_pos h', Nat.mod_eq_of_lt h']
  · rw [if_neg h', Nat.mod_eq_sub_mod (by omega), Nat.mod_eq_of_lt (by omega)]
theorem okR_of {n : Nat} {g : Nat → Int × Int} {i : Nat} (hi : i < n) (h : ∀ k, 2 ≤ k → k < n → okS n g i k = true) : (List.range n).all (okR n g i) = true := all_lt fun j hj => by
  by_cases e : j = i
  · unfold okR; rw [e, Nat.beq_refl]; rfl
  · by_cases e' : j = (i + 1) % n
    · unfold okR; rw [← e', Nat.beq_refl]; simp
    · by_cases hl : i < j
      · have hk : j - i ≠ 1 := fun e'' => e' (by rw [mod2 (by omega), if_pos (by omega)]; omega)
        have := h (j - i) (by omega) (by omega)
        unfold okS at this
        rw [show i + (j - i) = j by omega, Nat.mod_eq_of_lt hj] at this
        unfold okR; rw [this]; simp
      · have hk : j + n - i ≠ 1 := fun e'' => e' (by rw [mod2 (by omega), if_neg (by omega)]; omega)
        have := h (j + n - i) (by omega) (by omega)
        unfold okS at this
        rw [show i + (j + n - i) = j + n by omega, Nat.add_mod_right, Nat.mod_eq_of_lt hj] at this
        unfold okR; rw [this]; simp
theorem ΓW3_ok : ∀ f g, ΓW3 f = some g → g.ok Try.prog f := addCtr_ok (addCtr_ok noCtrs_ok (ro_ok Try.func38 (by kernel_rfl) (by kernel_rfl) Convex_spec)) (pure_ok Try.func37 (by kernel_rfl) (by kernel_rfl) SizeS_spec)
theorem isPI_row {r : List SV} (h : isPI r) : r = [.v (.int .i64 (gi r).1), .v (.int .i64 (gi r).2)] ∧ I64 (gi r).1 ∧ I64 (gi r).2 := by
  unfold isPI at h
  split at h
  · exact ⟨rfl, h.1, h.2⟩
  · exact h.elim
theorem ptOk_sq {p : Int × Int} (h : ptOk p = true) : Sq p.1 ∧ Sq p.2 := by
  unfold ptOk nearI at h
  simp only [Bool.and_eq_true, decide_eq_true_eq] at h
  exact ⟨⟨by omega, by omega⟩, by omega, by omega⟩
theorem spots_rows {n : Nat} {g : Nat → Int × Int} (h : ∀ i, i < n → ptOk (g i) = true) : spotsOk n fun y => [SV.v (.int .i64 (g y).1), SV.v (.int .i64 (g y).2)] := fun i hi => ⟨rfl, (ptOk_sq (h i hi)).1, (ptOk_sq (h i hi)).2⟩
theorem checkS_tail {s : ShB} {n : Nat} {g : Nat → Int × Int} (h1 : (s.k == 1) = false) (h2 : (s.k == 2) = false) (h3 : (s.k == 3) = true) (h4 : (s.r != 0) = false) (h5 : (s.w != 0) = false) (h6 : (s.h != 0) = false) (h7 : decide ((n : Int) < 3) = false) (h8 : decide ((n : Int) > 8) = false) :
    chkS s n g = bif (List.range n).all (fun i => ptOk (g i)) then (bif convI n g then 0 else 5) else 3 := by
  unfold chkS; rw [h1, h2, h3, h4, h5, h6, h7, h8]; rfl
theorem maxmin {x y : Int} : ptOk (x, y) = (!decide (max x y > 4096) && !decide (min x y < -4096)) := by
  unfold ptOk nearI
  refine Bool.eq_iff_iff.2 ?_
  simp only [Bool.and_eq_true, Bool.not_eq_true', decide_eq_true_eq, decide_eq_false_iff_not]
  omega
theorem checkS_vc {s : ShB} {n cap : Nat} {g : Nat → Int × Int} (hs : shOk s) (hn : n < 1099511627776) (hg : ∀ i, i < n → I64 (g i).1 ∧ I64 (g i).2) : vcFn Try.prog ΓW3 (ΛCheckS n g) Try.f20 [shS s (.sl 0 2 0 n cap)] (roHeap [⟨2, n, rowsP g⟩]) 64 (fun y _ => y = .v (.int .i64 (chkS s n g))) := by
  refine Eq.mpr (vcCheckS s n n cap g _) ?_
  simp only [Nat.zero_add, Int.toNat_natCast]
  obtain ⟨⟨k1, k2⟩, k3, k4⟩ := hs
  refine sel_of (fun e1 => sel_of (fun e2 => ?_) fun e2 => sel_of (fun e3 => ?_) fun e3 => sel_of (fun e4 => ?_) fun e4 => ⟨k2, sel_of (fun e5 => ?_) fun e5 => ?_⟩) fun e1 => sel_of (fun e2 => sel_of (fun e3 => ?_) fun e3 => sel_of (fun e4 => ?_) fun e4 => ⟨k3, sel_of (fun e5 => ?_) fun e5 => ⟨k4, sel_of (fun e6 => ?_) fun e6 => ?_⟩⟩) fun e2 => sel_of (fun e3 => sel_of (fun e4 => ?_) fun e4 => sel_of (fun e5 => ?_) fun e5 => sel_of (fun e6 => ?_) fun e6 => sel_of (fun e7 => ?_) fun e7 => sel_of (fun e8 => ?_) fun e8 => ⟨⟨0, ⟨Nat.zero_le _, fun j hj => absurd hj (Nat.not_lt_zero _)⟩, rfl, trivial⟩, fun i ⟨hi, hok⟩ => sel_of (fun hlt => ?_) fun hge => ?_⟩) fun e3 => ?_
  all_goals try ((try simp only [Bool.not_eq_true', Bool.not_eq_false'] at *); refine int_mk ?_; unfold chkS; simp only [*, cond_true, cond_false, Bool.true_or, Bool.or_true, Bool.false_or, Bool.or_false, Bool.and_true, Bool.true_and, Bool.and_false, Bool.false_and, Bool.and_self, Bool.or_self, Int.natCast_zero, bne_self_eq_false, Int.ofNat_eq_natCast]; done)
  · have hlt : i < n := by simpa using hlt
    have et := checkS_tail (g := g) e1 e2 e3 e4 e5 e6 e7 e8
    have bad : ptOk (g i) = false → SV.v (.int .i64 3) = SV.v (.int .i64 (chkS s n g)) := fun h => by rw [et, not_all (f := fun i => ptOk (g i)) hlt h]; rfl
    refine ⟨⟨by omega, by omega⟩, sel_of (fun h => bad ?_) fun h => sel_of (fun h' => bad ?_) fun h' => ⟨i + 1, ⟨⟨hlt, fun j hj => ?_⟩, int_mk (by rw [wrap_i64 ⟨by omega, by omega⟩]; rfl), trivial⟩, by omega⟩⟩
    · show ptOk ((g i).1, (g i).2) = false
      rw [maxmin, h]; rfl
    · show ptOk ((g i).1, (g i).2) = false
      rw [maxmin, h', Bool.not_true, Bool.and_false]
    · by_cases e : j = i
      · rw [e]
        show ptOk ((g i).1, (g i).2) = true
        rw [maxmin, h, h']; rfl
      · exact hok j (by omega)
  · have hge : ¬ i < n := by simpa using hge
    obtain rfl : i = n := by omega
    have et := checkS_tail (g := g) e1 e2 e3 e4 e5 e6 e7 e8
    rw [all_lt (f := fun i => ptOk (g i)) hok, cond_true] at et
    refine ⟨⟨trivial, by omega, spots_rows hok⟩, ?_⟩
    show sel (!convI i g) _ _
    rw [et]
    cases convI i g <;> rfl
theorem checkS0_vc {s : ShB} (hs : shOk s) : vcFn Try.prog ΓW3 (ΛCheckS 0 fun _ => (0, 0)) Try.f20 [shS s (.v (.slice none 0 0))] (roHeap []) 64 (fun y _ => y = .v (.int .i64 (chkS s 0 fun _ => (0, 0)))) := by
  refine Eq.mpr (vcCheckS0 s (fun _ => (0, 0)) _) ?_
  obtain ⟨⟨k1, k2⟩, k3, k4⟩ := hs
  refine sel_of (fun e1 => sel_of (fun e2 => ?_) fun e2 => sel_of (fun e3 => ?_) fun e3 => ⟨k2, sel_of (fun e5 => ?_) fun e5 => ?_⟩) fun e1 => sel_of (fun e2 => sel_of (fun e3 => ?_) fun e3 => ⟨k3, sel_of (fun e5 => ?_) fun e5 => ⟨k4, sel_of (fun e6 => ?_) fun e6 => ?_⟩⟩) fun e2 => sel_of (fun e3 => sel_of (fun e4 => ?_) fun e4 => sel_of (fun e5 => ?_) fun e5 => sel_of (fun e6 => ?_) fun e6 => ?_) fun e3 => ?_
  all_goals ((try simp only [Bool.not_eq_true', Bool.not_eq_false'] at *); refine int_mk ?_; unfold chkS; simp only [*, cond_true, cond_false, Bool.true_or, Bool.or_true, Bool.false_or, Bool.or_false, Bool.and_true, Bool.true_and, Bool.and_false, Bool.false_and, Bool.and_self, Bool.or_self, Int.natCast_zero, bne_self_eq_false, Int.ofNat_eq_natCast]; try rfl)
theorem CheckS_spec : RoSpec Try.prog 20 sCheckS := ro_spec hm ΓW3_ok Try.func20 (Λ := fun args bs => match args, bs with | [.agg [_, _, _, _, .sl 0 2 0 n _]], [⟨2, _, row⟩] => ΛCheckS n (fun i => gi (row i)) | _, _ => ΛCheckS 0 (fun _ => (0, 0))) fun args bs p x h hp => by
  unfold sCheckS at h
  split at h <;> try (cases h; done)
  · rename_i k r w hh n c n' row
    cases h
    obtain ⟨hs, h0, rfl, hn⟩ := hp _ rfl
    have h0 := okAll_rows.1 h0
    refine ⟨rfl, [⟨2, n', rowsP fun i => gi (row i)⟩], ⟨⟨rfl, rfl, fun i hi => (isPI_row (h0 i hi)).1⟩, trivial⟩, ?_⟩
    exact checkS_vc (s := ⟨k, r, w, hh⟩) hs hn fun i hi => (isPI_row (h0 i hi)).2
  · rename_i k r w hh
    cases h
    exact ⟨rfl, [], trivial, checkS0_vc (s := ⟨k, r, w, hh⟩) (hp _ rfl)⟩
end Go.Proofs.Ytlcfnlhognegcaa
end
section
namespace Go.Proofs.Ytlcfnlhognegcaa
open Go.SE Go.RowKit
def zSh : ShB := ⟨0, 0, 0, 0⟩
def keepS (b : Bool) (s : ShB) : ShB := bif b then s else zSh
def zP : Nat → Int × Int := fun _ => (0, 0)
def okB (b : Blk) : Bool := !b.rw && !b.dead && Nat.beq b.size 2 && b.flat
def rowG (b : Blk) : Nat → Int × Int := fun i => gi (b.row i)
def spPre (n : Nat) (b : Blk) : Prop := okAll isPI (rowsOf b.n b.row) ∧ b.n = n ∧ n < 1099511627776
def spB (n c : Nat) (g : Nat → Int × Int) : Blk := { elem := 32, size := 2, rw := true, lock := false, lit := false, flat := true, n := n, row := rowsP g, ext := c }
def rdB (b : Blk) (n : Nat) (g : Nat → Int × Int) : Blk := roS b.elem b.lock b.lit true b.whole n b.ext (rowsP g)
def nilV : SV := .v (.slice none 0 0)
def sSound0 : List SV → Option (Option Prop × SV)
  | [.agg [.v (.int .i64 k), .v (.int .i64 r), .v (.int .i64 w), .v (.int .i64 h), .v (.slice none 0 0)]] => some (some (shOk ⟨k, r, w, h⟩), .tup [shS (keepS (chkS ⟨k, r, w, h⟩ 0 zP == 0) ⟨k, r, w, h⟩) nilV, .v (.int .i64 (chkS ⟨k, r, w, h⟩ 0 zP))])
  | _ => none
def sSoundY (args : List SV) (bs : List Blk) : Option Eff := match args, bs with
  | [.agg [.v (.int .i64 k), .v (.int .i64 r), .v (.int .i64 w), .v (.int .i64 h), .sl 0 2 0 n c]], [b] => bif okB b then some (.det (some ((shOk ⟨k, r, w, h⟩ ∧ spPre n b) ∧ chkS ⟨k, r, w, h⟩ n (rowG b) = 0)) (.tup [shS ⟨k, r, w, h⟩ (.sl 0 2 0 n c), .v (.int .i64 0)]) []) else none
  | _, _ => none
def sSoundN (args : List SV) (bs : List Blk) : Option Eff := match args, bs with
  | [.agg [.v (.int .i64 k), .v (.int .i64 r), .v (.int .i64 w), .v (.int .i64 h), .sl 0 2 0 n c]], [b] => bif okB b then some (.det (some ((shOk ⟨k, r, w, h⟩ ∧ spPre n b) ∧ chkS ⟨k, r, w, h⟩ n (rowG b) ≠ 0)) (.tup [shS zSh nilV, .v (.int .i64 (chkS ⟨k, r, w, h⟩ n (rowG b)))]) []) else none
  | _, _ => none
def ΓI0 : Ctrs := addCtr noCtrs 20 (roCtr sCheckS)
theorem vcSound0 (s : ShB) (R : SV→Prop) : (vcPure Try.prog ΓI0 noΛ Try.f12 [shS s nilV] R) = ((shOk s)∧(sel ((chkS s 0 fun x => (0,0)) != 0) (R (SV.tup [(SV.agg [(SV.v (.int .i64 0)),(SV.v (.int .i64 0)),(SV.v (.int .i64 0)),(SV.v (.int .i64 0)),(SV.v (Value.slice none 0 0))]),(SV.v (.int .i64 (chkS s 0 fun x => (0,0))))])) (R (SV.tup [(SV.agg [(SV.v (.int .i64 (ShB.k s))),(SV.v (.int .i64 (ShB.r s))),(SV.v (.int .i64 (ShB.w s))),(SV.v (.int .i64 (ShB.h s))),(SV.v (Value.slice none 0 0))]),(SV.v (.int .i64 0))])))):=by kernel_rfl
theorem vcSoundY (s : ShB) (b : Blk) (n c : Nat) (g : Nat→Int × Int) : (vcFn Try.prog ΓI0 noΛ Try.f12 [shS s (.sl 0 2 0 n c)] (heapOf [rdB b n g]) 64 (fun y h' => FinE [rdB b n g] (.det none (.tup [shS s (.sl 0 2 0 n c),.v (.int .i64 0)]) []) y h')) = (((shOk s)∧((okAll isPI (rowsOf n fun y => [SV.v (.int .i64 (Prod.fst (g (0 + y)))),SV.v (.int .i64 (Prod.snd (g (0 + y))))]))∧(((n : Nat) = n)∧((n : Nat) < 1099511627776))))∧(sel ((chkS s n fun i => gi [SV.v (.int .i64 (Prod.fst (g (0 + i)))),SV.v (.int .i64 (Prod.snd (g (0 + i))))]) != 0) (((((SV.v (.int .i64 0)) = (SV.v (.int .i64 (ShB.k s))))∧(((SV.v (.int .i64 0)) = (SV.v (.int .i64 (ShB.r s))))∧(((SV.v (.int .i64 0)) = (SV.v (.int .i64 (ShB.w s))))∧(((SV.v (.int .i64 0)) = (SV.v (.int .i64 (ShB.h s))))∧((SV.v (Value.slice none 0 0)) = (SV.sl 0 2 0 n c))))))∧((SV.v (.int .i64 (chkS s n fun i => gi [SV.v (.int .i64 (Prod.fst (g (0 + i)))),SV.v (.int .i64 (Prod.snd (g (0 + i))))]))) = (SV.v (.int .i64 0))))∧True) (((((SV.v (.int .i64 (ShB.k s))) = (SV.v (.int .i64 (ShB.k s))))∧(((SV.v (.int .i64 (ShB.r s))) = (SV.v (.int .i64 (ShB.r s))))∧(((SV.v (.int .i64 (ShB.w s))) = (SV.v (.int .i64 (ShB.w s))))∧(((SV.v (.int .i64 (ShB.h s))) = (SV.v (.int .i64 (ShB.h s))))∧((SV.sl 0 2 0 n c) = (SV.sl 0 2 0 n c))))))∧((SV.v (.int .i64 0)) = (SV.v (.int .i64 0))))∧True))):=by kernel_rfl
theorem vcSoundN (s : ShB) (b : Blk) (n c : Nat) (g : Nat→Int × Int) (e : Int) : (vcFn Try.prog ΓI0 noΛ Try.f12 [shS s (.sl 0 2 0 n c)] (heapOf [rdB b n g]) 64 (fun y h' => FinE [rdB b n g] (.det none (.tup [shS zSh nilV,.v (.int .i64 e)]) []) y h')) = (((shOk s)∧((okAll isPI (rowsOf n fun y => [SV.v (.int .i64 (Prod.fst (g (0 + y)))),SV.v (.int .i64 (Prod.snd (g (0 + y))))]))∧(((n : Nat) = n)∧((n : Nat) < 1099511627776))))∧(sel ((chkS s n fun i => gi [SV.v (.int .i64 (Prod.fst (g (0 + i)))),SV.v (.int .i64 (Prod.snd (g (0 + i))))]) != 0) (((((SV.v (.int .i64 0)) = (SV.v (.int .i64 0)))∧(((SV.v (.int .i64 0)) = (SV.v (.int .i64 0)))∧(((SV.v (.int .i64 0)) = (SV.v (.int .i64 0)))∧(((SV.v (.int .i64 0)) = (SV.v (.int .i64 0)))∧((SV.v (Value.slice none 0 0)) = (SV.v (Value.slice none 0 0)))))))∧((SV.v (.int .i64 (chkS s n fun i => gi [SV.v (.int .i64 (Prod.fst (g (0 + i)))),SV.v (.int .i64 (Prod.snd (g (0 + i))))]))) = (SV.v (.int .i64 e))))∧True) (((((SV.v (.int .i64 (ShB.k s))) = (SV.v (.int .i64 0)))∧(((SV.v (.int .i64 (ShB.r s))) = (SV.v (.int .i64 0)))∧(((SV.v (.int .i64 (ShB.w s))) = (SV.v (.int .i64 0)))∧(((SV.v (.int .i64 (ShB.h s))) = (SV.v (.int .i64 0)))∧((SV.sl 0 2 0 n c) = (SV.v (Value.slice none 0 0)))))))∧((SV.v (.int .i64 0)) = (SV.v (.int .i64 e))))∧True))):=by kernel_rfl
def boxS (w h : Int) : ShB := ⟨2, 0, w, h⟩
def polyS : ShB := ⟨3, 0, 0, 0⟩
def madeE (s : ShB) : Eff := .det none (.tup [shS (keepS (chkS s 0 zP == 0) s) (.sl 1000 2 0 0 0), .v (.int .i64 (chkS s 0 zP))]) [(1000, spB 0 0 zP)]
def sSquare (args : List SV) (bs : List Blk) : Option Eff := match args, bs with
  | [.v (.int .i64 w), .v (.int .i64 h)], [] => some (.det (some (I64 w ∧ I64 h)) (.tup [shS (keepS (chkS (boxS w h) 0 zP == 0) (boxS w h)) (.sl 1000 2 0 0 0), .v (.int .i64 (chkS (boxS w h) 0 zP))]) [(1000, spB 0 0 zP)])
  | _, _ => none
def ΓI1 : Ctrs := addCtr noCtrs 12 (pureCtr sSound0)
theorem vcSquare (w h : Int) : (vcFn Try.prog ΓI1 noΛ Try.f15 [.v (.int .i64 w),.v (.int .i64 h)] (heapOf []) 64 (fun y h' => FinE [] (madeE (boxS w h)) y h')) = ((shOk {k:=2,r:=0,w:=w,h:=h})∧(((((SV.v (.int .i64 (ShB.k (keepS (chkS {k:=2,r:=0,w:=w,h:=h} 0 zP == 0) {k:=2,r:=0,w:=w,h:=h})))) = (SV.v (.int .i64 (ShB.k (keepS (chkS (boxS w h) 0 zP == 0) (boxS w h))))))∧(((SV.v (.int .i64 (ShB.r (keepS (chkS {k:=2,r:=0,w:=w,h:=h} 0 zP == 0) {k:=2,r:=0,w:=w,h:=h})))) = (SV.v (.int .i64 (ShB.r (keepS (chkS (boxS w h) 0 zP == 0) (boxS w h))))))∧(((SV.v (.int .i64 (ShB.w (keepS (chkS {k:=2,r:=0,w:=w,h:=h} 0 zP == 0) {k:=2,r:=0,w:=w,h:=h})))) = (SV.v (.int .i64 (ShB.w (keepS (chkS (boxS w h) 0 zP == 0) (boxS w h))))))∧(((SV.v (.int .i64 (ShB.h (keepS (chkS {k:=2,r:=0,w:=w,h:=h} 0 zP == 0) {k:=2,r:=0,w:=w,h:=h})))) = (SV.v (.int .i64 (ShB.h (keepS (chkS (boxS w h) 0 zP == 0) (boxS w h))))))∧(((SV.v (Value.slice none 0 0)) = (SV.v (Value.slice none 0 0)))∧(((0 : Nat) = 0)∧(((0 : Nat) = 0)∧((0 : Nat) = 0))))))))∧((SV.v (.int .i64 (chkS {k:=2,r:=0,w:=w,h:=h} 0 zP))) = (SV.v (.int .i64 (chkS (boxS w h) 0 zP)))))∧((((0 : Nat) = 0)∧(((0 : Nat) = 0)∧True))∧True))):=by kernel_rfl
def polyE (m : Nat) (b : Bool) (e : Int) (g : Nat → Int × Int) : Eff := .nd True Nat 0 (fun c => .tup [shS (keepS b polyS) (.sl 1000 2 0 m (m + c)), .v (.int .i64 e)]) fun c => [(1000, spB m (m + c) g)]
def polyN (b : Bool) (n : Nat) : Nat := bif b then n else 0
def sPoly (args : List SV) (bs : List Blk) : Option Eff := match args, bs with
  | [.sl 0 2 0 n _], [b] => bif okB b then some (.nd (spPre n b) Nat 0 (fun c => .tup [shS (keepS (chkS polyS n (rowG b) == 0) polyS) (.sl 1000 2 0 (polyN (chkS polyS n (rowG b) == 0) n) (polyN (chkS polyS n (rowG b) == 0) n + c)), .v (.int .i64 (chkS polyS n (rowG b)))]) fun c => [(1000, spB (polyN (chkS polyS n (rowG b) == 0) n) (polyN (chkS polyS n (rowG b) == 0) n + c) (rowG b))]) else none
  | _, _ => none
def ΓI2 : Ctrs := addCtr noCtrs 12 (hpCtr false sSoundY)
def ΓI3 : Ctrs := addCtr noCtrs 12 (hpCtr false sSoundN)
theorem vcPolyY (b : Blk) (n c : Nat) (g : Nat→Int × Int) : (vcFn Try.prog ΓI2 noΛ Try.f7 [.sl 0 2 0 n c] (heapOf [rdB b n g]) 64 (fun y h' => FinE [rdB b n g] (polyE n true 0 g) y h')) = ((((n * 16) : Nat) ≤ 140737488355328)∧(∀ c_1 : Nat,((((shOk {k:=3,r:=0,w:=0,h:=0})∧(spPre n (winBlk {elem:=32,size:=2,rw:=true,lock:=false,lit:=false,flat:=true,n:=n,row:=fun y => [SV.v (.int .i64 (Prod.fst (g (0 + y)))),SV.v (.int .i64 (Prod.snd (g (0 + y))))],ext:=n + c_1} 2 0 n)))∧(((chkS {k:=3,r:=0,w:=0,h:=0} n (rowG (winBlk {elem:=32,size:=2,rw:=true,lock:=false,lit:=false,flat:=true,n:=n,row:=fun y => [SV.v (.int .i64 (Prod.fst (g (0 + y)))),SV.v (.int .i64 (Prod.snd (g (0 + y))))],ext:=n + c_1} 2 0 n))) : Int) = 0))∧(∃ c_2 : Nat,(((((SV.v (.int .i64 3)) = (SV.v (.int .i64 3)))∧(((SV.v (.int .i64 0)) = (SV.v (.int .i64 0)))∧(((SV.v (.int .i64 0)) = (SV.v (.int .i64 0)))∧(((SV.v (.int .i64 0)) = (SV.v (.int .i64 0)))∧((SV.sl 88 2 0 n (n + c_1)) = (SV.sl 88 2 0 n (n + c_2)))))))∧((SV.v (.int .i64 0)) = (SV.v (.int .i64 0))))∧(((n : Nat) = n)∧((((n + c_2) : Nat) ≤ (n + c_1))∧(∀ i : Nat,(((i : Nat) < n)→([(SV.v (.int .i64 (Prod.fst (g (0 + i))))),(SV.v (.int .i64 (Prod.snd (g (0 + i)))))] = [(SV.v (.int .i64 (Prod.fst (g i)))),(SV.v (.int .i64 (Prod.snd (g i))))])))))))))):=by kernel_rfl
theorem vcPolyN (b : Blk) (n c : Nat) (g : Nat→Int × Int) : (vcFn Try.prog ΓI3 noΛ Try.f7 [.sl 0 2 0 n c] (heapOf [rdB b n g]) 64 (fun y h' => FinE [rdB b n g] (polyE 0 false (chkS polyS n g) g) y h')) = ((((n * 16) : Nat) ≤ 140737488355328)∧(∀ c_1 : Nat,((((shOk {k:=3,r:=0,w:=0,h:=0})∧(spPre n (winBlk {elem:=32,size:=2,rw:=true,lock:=false,lit:=false,flat:=true,n:=n,row:=fun y => [SV.v (.int .i64 (Prod.fst (g (0 + y)))),SV.v (.int .i64 (Prod.snd (g (0 + y))))],ext:=n + c_1} 2 0 n)))∧(((chkS {k:=3,r:=0,w:=0,h:=0} n (rowG (winBlk {elem:=32,size:=2,rw:=true,lock:=false,lit:=false,flat:=true,n:=n,row:=fun y => [SV.v (.int .i64 (Prod.fst (g (0 + y)))),SV.v (.int .i64 (Prod.snd (g (0 + y))))],ext:=n + c_1} 2 0 n))) : Int) ≠ 0))∧(∃ c_2 : Nat,(((((SV.v (.int .i64 0)) = (SV.v (.int .i64 0)))∧(((SV.v (.int .i64 0)) = (SV.v (.int .i64 0)))∧(((SV.v (.int .i64 0)) = (SV.v (.int .i64 0)))∧(((SV.v (.int .i64 0)) = (SV.v (.int .i64 0)))∧(((SV.v (Value.slice none 0 0)) = (SV.v (Value.slice none 0 0)))∧(((0 : Nat) = 0)∧(((0 : Nat) = 0)∧(((0 + c_2) : Nat) = 0))))))))∧((SV.v (.int .i64 (chkS {k:=3,r:=0,w:=0,h:=0} n (rowG (winBlk {elem:=32,size:=2,rw:=true,lock:=false,lit:=false,flat:=true,n:=n,row:=fun y => [SV.v (.int .i64 (Prod.fst (g (0 + y)))),SV.v (.int .i64 (Prod.snd (g (0 + y))))],ext:=n + c_1} 2 0 n))))) = (SV.v (.int .i64 (chkS polyS n g)))))∧((((0 : Nat) = 0)∧((((0 + c_2) : Nat) = 0)∧True))∧True)))))):=by kernel_rfl
theorem ΓI0_ok : ∀ f g, ΓI0 f = some g → g.ok Try.prog f := addCtr_ok noCtrs_ok (ro_ok Try.func20 (by kernel_rfl) (by kernel_rfl) CheckS_spec)
theorem ne_keep {e : Int} {s : ShB} (h : (e != 0) = true) : keepS (e == 0) s = zSh := by
  have : (e == 0) = false := by simpa using h
  rw [this]; rfl
theorem eq_keep {e : Int} {s : ShB} (h : (e != 0) = false) : keepS (e == 0) s = s ∧ e = 0 := by
  have h : e = 0 := by simpa using h
  subst h
  exact ⟨rfl, rfl⟩
theorem gi_rows (g : Nat → Int × Int) : (fun i => gi [SV.v (.int .i64 (g (0 + i)).1), SV.v (.int .i64 (g (0 + i)).2)]) = g := funext fun i => by rw [Nat.zero_add]; rfl
theorem pre_of {n : Nat} {b : Blk} (h : spPre n b) : n < 1099511627776 ∧ ∀ i, i < n → I64 (rowG b i).1 ∧ I64 (rowG b i).2 := by
  obtain ⟨h0, rfl, hn⟩ := h
  exact ⟨hn, fun i hi => (isPI_row (okAll_rows.1 h0 i hi)).2⟩
theorem same_rd {b : Blk} {n : Nat} (h : okB b = true) (hp : spPre n b) : BlkSame b (rdB b n (rowG b)) := by
  simp only [okB, Bool.and_eq_true, Bool.not_eq_true'] at h
  obtain ⟨⟨⟨a1, a2⟩, a3⟩, a4⟩ := h
  obtain ⟨h0, rfl, hn⟩ := hp
  exact ⟨Nat.eq_of_beq_eq_true a3, a1, a4, rfl, rfl, a2, rfl, rfl, fun i hi => (isPI_row (okAll_rows.1 h0 i hi)).1⟩
theorem win_rows {n : Nat} {g : Nat → Int × Int} {B : Blk} (hn : n < 1099511627776) (hg : ∀ i, i < n → I64 (g i).1 ∧ I64 (g i).2) (hr : ∀ y, B.row y = [SV.v (.int .i64 (g (0 + y)).1), SV.v (.int .i64 (g (0 + y)).2)]) : spPre n (winBlk B 2 0 n) ∧ rowG (winBlk B 2 0 n) = g := by
  refine ⟨⟨okAll_rows.2 fun i hi => ?_, rfl, hn⟩, funext fun i => ?_⟩
  · show isPI (B.row (0 + i))
    rw [hr, Nat.zero_add, Nat.zero_add]
    exact hg i hi
  · show gi (B.row (0 + i)) = g i
    rw [hr, Nat.zero_add, Nat.zero_add]; rfl
theorem win_pre {n : Nat} {g : Nat → Int × Int} {B : Blk} (hn : n < 1099511627776) (hg : ∀ i, i < n → I64 (g i).1 ∧ I64 (g i).2) (hr : ∀ y, B.row y = rowsP g y) : spPre n (winBlk B 2 0 n) :=
  (win_rows hn hg fun y => by rw [hr, Nat.zero_add]; rfl).1
theorem win_chk {s : ShB} {n : Nat} {g : Nat → Int × Int} {B : Blk} (hr : ∀ y, B.row y = rowsP g y) : chkS s n (rowG (winBlk B 2 0 n)) = chkS s n g := by
  have : rowG (winBlk B 2 0 n) = g := funext fun i => by
    show gi (B.row (0 + i)) = g i
    rw [hr, Nat.zero_add]; rfl
  rw [this]
theorem hp_split {P : Program} {f : FuncId} {spec : List SV → List Blk → Option Eff} (c : List SV → List Blk → Bool) (h1 : HpSpec P f fun a b => bif c a b then spec a b else none) (h2 : HpSpec P f fun a b => bif !c a b then spec a b else none) : HpSpec P f spec := fun args bs e hs => by
  cases h : c args bs with
  | true => exact h1 args bs e (by simp only [h, cond_true]; exact hs)
  | false => exact h2 args bs e (by simp only [h, Bool.not_false, cond_true]; exact hs)
def cPoly (args : List SV) (bs : List Blk) : Bool := match args, bs with
  | [.sl 0 2 0 n _], [b] => chkS polyS n (rowG b) == 0
  | _, _ => false
theorem shOk_poly : shOk polyS := ⟨⟨⟨by decide, by decide⟩, by decide, by decide⟩, ⟨by decide, by decide⟩, by decide, by decide⟩
theorem Sound0_spec : PureSpec Try.prog 12 sSound0 := vc_spec hm ΓI0_ok Try.func12 (Λ := fun _ => noΛ) fun args p x h hp => by
  unfold sSound0 at h
  split at h <;> try (cases h; done)
  rename_i k r w hh
  cases h
  have hs : shOk ⟨k, r, w, hh⟩ := hp _ rfl
  refine ⟨rfl, rfl, ?_⟩
  refine Eq.mpr (vcSound0 ⟨k, r, w, hh⟩ _) ?_
  refine ⟨hs, sel_of (fun h => ?_) fun h => ?_⟩
  · have h : (chkS ⟨k, r, w, hh⟩ 0 zP != 0) = true := h
    rw [ne_keep h]; rfl
  · have h : (chkS ⟨k, r, w, hh⟩ 0 zP != 0) = false := h
    rw [(eq_keep h).1, show chkS ⟨k, r, w, hh⟩ 0 zP = 0 from (eq_keep (s := zSh) h).2]; rfl
theorem SoundY_spec : HpSpec Try.prog 12 sSoundY := hp_spec hm ΓI0_ok Try.func12 (Λ := fun _ _ => noΛ) fun args bs e hs hp => by
  unfold sSoundY at hs
  split at hs <;> try (cases hs; done)
  rename_i k r w hh n c b
  cases hb : okB b with
  | false => rw [hb] at hs; cases hs
  | true =>
  rw [hb] at hs
  cases hs
  obtain ⟨⟨hs, hpre⟩, he⟩ := hp _ rfl
  obtain ⟨hn, hg⟩ := pre_of hpre
  refine ⟨[rdB b n (rowG b)], ⟨same_rd hb hpre, trivial⟩, ?_⟩
  refine Eq.mpr (vcSoundY ⟨k, r, w, hh⟩ b n c (rowG b)) ?_
  rw [gi_rows]
  refine ⟨⟨hs, okAll_rows.2 fun i hi => ?_, rfl, hn⟩, sel_of (fun h => ?_) fun h => ?_⟩
  · rw [Nat.zero_add]; exact hg i hi
  · rw [he] at h; cases h
  · exact ⟨⟨⟨rfl, rfl, rfl, rfl, rfl⟩, rfl⟩, trivial⟩
theorem SoundN_spec : HpSpec Try.prog 12 sSoundN := hp_spec hm ΓI0_ok Try.func12 (Λ := fun _ _ => noΛ) fun args bs e hs hp => by
  unfold sSoundN at hs
  split at hs <;> try (cases hs; done)
  rename_i k r w hh n c b
  cases hb : okB b with
  | false => rw [hb] at hs; cases hs
  | true =>
  rw [hb] at hs
  cases hs
  obtain ⟨⟨hs, hpre⟩, he⟩ := hp _ rfl
  obtain ⟨hn, hg⟩ := pre_of hpre
  refine ⟨[rdB b n (rowG b)], ⟨same_rd hb hpre, trivial⟩, ?_⟩
  refine Eq.mpr (vcSoundN ⟨k, r, w, hh⟩ b n c (rowG b) (chkS ⟨k, r, w, hh⟩ n (rowG b))) ?_
  rw [gi_rows]
  refine ⟨⟨hs, okAll_rows.2 fun i hi => ?_, rfl, hn⟩, sel_of (fun h => ?_) fun h => ?_⟩
  · rw [Nat.zero_add]; exact hg i hi
  · exact ⟨⟨⟨rfl, rfl, rfl, rfl, rfl⟩, rfl⟩, trivial⟩
  · exact absurd (eq_keep (s := zSh) h).2 he
theorem ΓI1_ok : ∀ f g, ΓI1 f = some g → g.ok Try.prog f := addCtr_ok noCtrs_ok (pure_ok Try.func12 (by kernel_rfl) (by kernel_rfl) Sound0_spec)
theorem ΓI2_ok : ∀ f g, ΓI2 f = some g → g.ok Try.prog f := addCtr_ok noCtrs_ok (hp_ok Try.func12 (by kernel_rfl) (by kernel_rfl) SoundY_spec)
theorem ΓI3_ok : ∀ f g, ΓI3 f = some g → g.ok Try.prog f := addCtr_ok noCtrs_ok (hp_ok Try.func12 (by kernel_rfl) (by kernel_rfl) SoundN_spec)
theorem i0 : I64 0 := ⟨by decide, by decide⟩
theorem shOk_box {w h : Int} (hh : I64 w ∧ I64 h) : shOk (boxS w h) := ⟨⟨(⟨by decide, by decide⟩ : I64 2), i0⟩, hh.1, hh.2⟩
theorem Square_spec : HpSpec Try.prog 15 sSquare := hp_spec hm ΓI1_ok Try.func15 (Λ := fun _ _ => noΛ) fun args bs e hs hp => by
  unfold sSquare at hs
  split at hs <;> try (cases hs; done)
  rename_i w h
  cases hs
  have h0 := hp _ rfl
  refine ⟨[], trivial, ?_⟩
  refine Eq.mpr (vcSquare w h) ?_
  exact ⟨shOk_box h0, ⟨⟨rfl, rfl, rfl, rfl, rfl, rfl, rfl, rfl⟩, rfl⟩, ⟨rfl, rfl, trivial⟩, trivial⟩
theorem PolyY_spec : HpSpec Try.prog 7 fun a b => bif cPoly a b then sPoly a b else none := hp_spec hm ΓI2_ok Try.func7 (Λ := fun _ _ => noΛ) fun args bs e hs hp => by
  cases hc : (cPoly args bs) with
  | false => rw [hc] at hs; cases hs
  | true =>
  rw [hc, cond_true] at hs
  unfold sPoly at hs
  split at hs <;> try (cases hs; done)
  rename_i n c b
  cases hb : okB b with
  | false => rw [hb] at hs; cases hs
  | true =>
  rw [hb] at hs
  cases hs
  have hpre : spPre n b := hp
  obtain ⟨hn, hg⟩ := pre_of hpre
  refine ⟨[rdB b n (rowG b)], ⟨same_rd hb hpre, trivial⟩, ?_⟩
  have e0 : chkS polyS n (rowG b) = 0 := by simpa [cPoly] using hc
  show vcFn _ _ _ _ _ _ _ (fun y h' => FinE _ (polyE (polyN (chkS polyS n (rowG b) == 0) n) (chkS polyS n (rowG b) == 0) (chkS polyS n (rowG b)) (rowG b)) y h')
  rw [e0]
  refine Eq.mpr (vcPolyY b n c (rowG b)) ?_
  exact ⟨by omega, fun c1 => ⟨⟨⟨shOk_poly, win_pre hn hg (fun y => by show [SV.v (.int .i64 (rowG b (0 + y)).1), SV.v (.int .i64 (rowG b (0 + y)).2)] = _; rw [Nat.zero_add]; rfl)⟩, (win_chk (fun y => by show [SV.v (.int .i64 (rowG b (0 + y)).1), SV.v (.int .i64 (rowG b (0 + y)).2)] = _; rw [Nat.zero_add]; rfl)).trans e0⟩, c1, ⟨⟨rfl, rfl, rfl, rfl, rfl⟩, rfl⟩, rfl, Nat.le_refl _, fun i _ => by show [SV.v (.int .i64 (rowG b (0 + i)).1), SV.v (.int .i64 (rowG b (0 + i)).2)] = _; rw [Nat.zero_add]⟩⟩
theorem PolyN_spec : HpSpec Try.prog 7 fun a b => bif !cPoly a b then sPoly a b else none := hp_spec hm ΓI3_ok Try.func7 (Λ := fun _ _ => noΛ) fun args bs e hs hp => by
  cases hc : (!cPoly args bs) with
  | false => rw [hc] at hs; cases hs
  | true =>
  rw [hc, cond_true] at hs
  unfold sPoly at hs
  split at hs <;> try (cases hs; done)
  rename_i n c b
  cases hb : okB b with
  | false => rw [hb] at hs; cases hs
  | true =>
  rw [hb] at hs
  cases hs
  have hpre : spPre n b := hp
  obtain ⟨hn, hg⟩ := pre_of hpre
  refine ⟨[rdB b n (rowG b)], ⟨same_rd hb hpre, trivial⟩, ?_⟩
  have e0 : chkS polyS n (rowG b) ≠ 0 := by simpa [cPoly] using hc
  show vcFn _ _ _ _ _ _ _ (fun y h' => FinE _ (polyE (polyN (chkS polyS n (rowG b) == 0) n) (chkS polyS n (rowG b) == 0) (chkS polyS n (rowG b)) (rowG b)) y h')
  rw [show (chkS polyS n (rowG b) == 0) = false by simpa using e0]
  refine Eq.mpr (vcPolyN b n c (rowG b)) ?_
  exact ⟨by omega, fun c1 => ⟨⟨⟨shOk_poly, win_pre hn hg (fun y => by show [SV.v (.int .i64 (rowG b (0 + y)).1), SV.v (.int .i64 (rowG b (0 + y)).2)] = _; rw [Nat.zero_add]; rfl)⟩, fun h => e0 ((win_chk (fun y => by show [SV.v (.int .i64 (rowG b (0 + y)).1), SV.v (.int .i64 (rowG b (0 + y)).2)] = _; rw [Nat.zero_add]; rfl)).symm.trans h)⟩, 0, ⟨⟨rfl, rfl, rfl, rfl, rfl, rfl, rfl, rfl⟩, int_mk (win_chk (fun y => by show [SV.v (.int .i64 (rowG b (0 + y)).1), SV.v (.int .i64 (rowG b (0 + y)).2)] = _; rw [Nat.zero_add]; rfl))⟩, ⟨rfl, rfl, trivial⟩, trivial⟩⟩
theorem Poly_spec : HpSpec Try.prog 7 sPoly := hp_split cPoly PolyY_spec PolyN_spec
end Go.Proofs.Ytlcfnlhognegcaa
end
section
namespace Go.Proofs.Ytlcfnlhognegcaa
open Go.SE Go.RowKit
def boxC (w h : Int) : Nat → Int × Int
  | 0 => (-w, -h)
  | 1 => (w, -h)
  | 2 => (w, h)
  | _ => (-w, h)
def corN (e : Int) (s : ShB) (n : Nat) : Nat := bif e != 0 then 0 else bif s.k == 2 then 4 else n
def corG (s : ShB) (g : Nat → Int × Int) (i : Nat) : Int × Int := bif s.k == 2 then boxC s.w s.h i else g i
def cornE (e : Int) (s : ShB) (n : Nat) (g : Nat → Int × Int) : Eff := .nd True Nat 0 (fun c => .sl 1000 2 0 (corN e s n) (corN e s n + c)) fun c => [(1000, spB (corN e s n) (corN e s n + c) (corG s g))]
def sCorn (args : List SV) (bs : List Blk) : Option Eff := match args, bs with
  | [.agg [.v (.int .i64 k), .v (.int .i64 r), .v (.int .i64 w), .v (.int .i64 h), .sl 0 2 0 n c]], [b] => bif okB b then some (.nd (shOk ⟨k, r, w, h⟩ ∧ spPre n b) Nat 0 (fun c => .sl 1000 2 0 (corN (chkS ⟨k, r, w, h⟩ n (rowG b)) ⟨k, r, w, h⟩ n) (corN (chkS ⟨k, r, w, h⟩ n (rowG b)) ⟨k, r, w, h⟩ n + c)) fun c => [(1000, spB (corN (chkS ⟨k, r, w, h⟩ n (rowG b)) ⟨k, r, w, h⟩ n) (corN (chkS ⟨k, r, w, h⟩ n (rowG b)) ⟨k, r, w, h⟩ n + c) (corG ⟨k, r, w, h⟩ (rowG b)))]) else none
  | _, _ => none
theorem vcCorn (s : ShB) (b : Blk) (n c : Nat) (g : Nat→Int × Int) (e : Int) : (vcFn Try.prog ΓI0 noΛ Try.f22 [shS s (.sl 0 2 0 n c)] (heapOf [rdB b n g]) 64 (fun y h' => FinE [rdB b n g] (cornE e s n g) y h')) = (((shOk s)∧((okAll isPI (rowsOf n fun y => [SV.v (.int .i64 (Prod.fst (g (0 + y)))),SV.v (.int .i64 (Prod.snd (g (0 + y))))]))∧(((n : Nat) = n)∧((n : Nat) < 1099511627776))))∧(sel ((chkS s n fun i => gi [SV.v (.int .i64 (Prod.fst (g (0 + i)))),SV.v (.int .i64 (Prod.snd (g (0 + i))))]) != 0) (∃ c_1 : Nat,((((SV.v (Value.slice none 0 0)) = (SV.v (Value.slice none 0 0)))∧(((0 : Nat) = 0)∧((((corN e s n) : Nat) = 0)∧(((corN e s n + c_1) : Nat) = 0))))∧(((((corN e s n) : Nat) = 0)∧((((corN e s n + c_1) : Nat) = 0)∧True))∧True))) (sel (ShB.k s == 2) (∃ c_1 : Nat,(((SV.sl 328 2 0 4 4) = (SV.sl 328 2 0 (corN e s n) (corN e s n + c_1)))∧(((4 : Nat) = (corN e s n))∧((((corN e s n + c_1) : Nat) ≤ 4)∧(∀ i : Nat,(((i : Nat) < (corN e s n))→([(SV.v (.int .i64 (bop (Nat.beq i 0) (IntKind.wrap IntKind.i64 (0 - ShB.w s)) (bop (Nat.beq i 1) (ShB.w s) (bop (Nat.beq i 2) (ShB.w s) (IntKind.wrap IntKind.i64 (0 - ShB.w s))))))),(SV.v (.int .i64 (bop (Nat.beq i 0) (IntKind.wrap IntKind.i64 (0 - ShB.h s)) (bop (Nat.beq i 1) (IntKind.wrap IntKind.i64 (0 - ShB.h s)) (bop (Nat.beq i 2) (ShB.h s) (ShB.h s))))))] = [(SV.v (.int .i64 (Prod.fst (corG s g i)))),(SV.v (.int .i64 (Prod.snd (corG s g i))))]))))))) ((((n * 16) : Nat) ≤ 140737488355328)∧(∀ c_1 : Nat,(∃ c_2 : Nat,(((SV.sl 360 2 0 n (n + c_1)) = (SV.sl 360 2 0 (corN e s n) (corN e s n + c_2)))∧(((n : Nat) = (corN e s n))∧((((corN e s n + c_2) : Nat) ≤ (n + c_1))∧(∀ i : Nat,(((i : Nat) < (corN e s n))→([(SV.v (.int .i64 (Prod.fst (g (0 + i))))),(SV.v (.int .i64 (Prod.snd (g (0 + i)))))] = [(SV.v (.int .i64 (Prod.fst (corG s g i)))),(SV.v (.int .i64 (Prod.snd (corG s g i))))])))))))))))):=by kernel_rfl
noncomputable def hid {α : Type} (x : α) : α := Classical.choose (⟨x, rfl⟩ : ∃ y, y = x)
theorem hid_eq {α : Type} (x : α) : hid x = x := Classical.choose_spec (⟨x, rfl⟩ : ∃ y, y = x)
def abvF (n : Int) : Nat → Nat → Nat
  | 0, k => k
  | f + 1, k => if (k : Int) * k < n then abvF n f (k + 1) else k
noncomputable def sqUp (n : Int) : Nat := hid (abvF n 1048576 0)
noncomputable def sAbove : List SV → Option (Option Prop × SV)
  | [.v (.int .i64 n)] => some (some (0 ≤ n ∧ n ≤ 1099511627776), .v (.int .i64 (sqUp n)))
  | _ => none
structure LH where
  l : Nat
  h : Nat
noncomputable def ΛAbove (n : Int) : Nat → Option LoopSpec := addLoop noΛ Try.f23 0 LH (fun x => x.l ≤ x.h ∧ x.h ≤ 1048576 ∧ n ≤ (x.h : Int) * x.h ∧ ∀ j, j < x.l → (j : Int) * j < n) (fun x => x.h - x.l) [(3, fun x => .v (.int .i64 x.l)), (4, fun x => .v (.int .i64 x.h))] []
theorem vcAbove (n : Int) (R : SV→Prop) : (vcPure Try.prog noCtrs (ΛAbove n) Try.f23 [.v (.int .i64 n)] R) = ((∃ x : LH,(((((LH.l x) : Nat) ≤ (LH.h x))∧((((LH.h x) : Nat) ≤ 1048576)∧(((n : Int) ≤ ((↑(LH.h x) : Int) * (↑(LH.h x) : Int)))∧(∀ j : Nat,(((j : Nat) < (LH.l x))→((((↑j : Int) * (↑j : Int)) : Int) < n))))))∧((((SV.v (.int .i64 0)) = (SV.v (.int .i64 ((↑(LH.l x) : Int)))))∧((SV.v (.int .i64 1048576)) = (SV.v (.int .i64 ((↑(LH.h x) : Int))))))∧True)))∧(∀ x : LH,(((((LH.l x) : Nat) ≤ (LH.h x))∧((((LH.h x) : Nat) ≤ 1048576)∧(((n : Int) ≤ ((↑(LH.h x) : Int) * (↑(LH.h x) : Int)))∧(∀ j : Nat,(((j : Nat) < (LH.l x))→((((↑j : Int) * (↑j : Int)) : Int) < n))))))→(sel (decide ((↑(LH.l x) : Int) < (↑(LH.h x) : Int))) (sel (decide (IntKind.wrap IntKind.i64 (IntKind.wrap IntKind.i64 (Int.tdiv (IntKind.wrap IntKind.i64 ((↑(LH.l x) : Int) + (↑(LH.h x) : Int))) 2) * IntKind.wrap IntKind.i64 (Int.tdiv (IntKind.wrap IntKind.i64 ((↑(LH.l x) : Int) + (↑(LH.h x) : Int))) 2)) < n)) (∃ x' : LH,((((((LH.l x') : Nat) ≤ (LH.h x'))∧((((LH.h x') : Nat) ≤ 1048576)∧(((n : Int) ≤ ((↑(LH.h x') : Int) * (↑(LH.h x') : Int)))∧(∀ j : Nat,(((j : Nat) < (LH.l x'))→((((↑j : Int) * (↑j : Int)) : Int) < n))))))∧((((SV.v (.int .i64 (IntKind.wrap IntKind.i64 (IntKind.wrap IntKind.i64 (Int.tdiv (IntKind.wrap IntKind.i64 ((↑(LH.l x) : Int) + (↑(LH.h x) : Int))) 2) + 1)))) = (SV.v (.int .i64 ((↑(LH.l x') : Int)))))∧((SV.v (.int .i64 ((↑(LH.h x) : Int)))) = (SV.v (.int .i64 ((↑(LH.h x') : Int))))))∧True))∧(((LH.h x' - LH.l x') : Nat) < (LH.h x - LH.l x)))) (∃ x' : LH,((((((LH.l x') : Nat) ≤ (LH.h x'))∧((((LH.h x') : Nat) ≤ 1048576)∧(((n : Int) ≤ ((↑(LH.h x') : Int) * (↑(LH.h x') : Int)))∧(∀ j : Nat,(((j : Nat) < (LH.l x'))→((((↑j : Int) * (↑j : Int)) : Int) < n))))))∧((((SV.v (.int .i64 ((↑(LH.l x) : Int)))) = (SV.v (.int .i64 ((↑(LH.l x') : Int)))))∧((SV.v (.int .i64 (IntKind.wrap IntKind.i64 (Int.tdiv (IntKind.wrap IntKind.i64 ((↑(LH.l x) : Int) + (↑(LH.h x) : Int))) 2)))) = (SV.v (.int .i64 ((↑(LH.h x') : Int))))))∧True))∧(((LH.h x' - LH.l x') : Nat) < (LH.h x - LH.l x))))) (R (SV.v (.int .i64 ((↑(LH.l x) : Int))))))))):=by kernel_rfl
theorem sizeI_bd {x : Int} (h : sizeI x = true) : 16 ≤ x ∧ x ≤ 4096 := by
  unfold sizeI at h
  simpa [Bool.and_eq_true, decide_eq_true_eq] using h
theorem chk_box {s : ShB} {n : Nat} {g : Nat → Int × Int} (e : chkS s n g = 0) (hk : (s.k == 2) = true) : (16 ≤ s.w ∧ s.w ≤ 4096) ∧ 16 ≤ s.h ∧ s.h ≤ 4096 := by
  have k1 : (s.k == 1) = false := by have : s.k = 2 := by simpa using hk
                                     rw [this]; rfl
  unfold chkS at e
  rw [k1, hk, cond_false, cond_true] at e
  cases h1 : (s.r != 0 || (n : Int) != 0) with
  | true => rw [h1] at e; cases e
  | false =>
    rw [h1, cond_false] at e
    cases h2 : (sizeI s.w && sizeI s.h) with
    | false => rw [h2] at e; cases e
    | true =>
      rw [Bool.and_eq_true] at h2
      exact ⟨sizeI_bd h2.1, sizeI_bd h2.2⟩
theorem Corn_vc {s : ShB} {b : Blk} {n c : Nat} {g : Nat → Int × Int} (hs : shOk s) (hn : n < 1099511627776) (hg : ∀ i, i < n → I64 (g i).1 ∧ I64 (g i).2) : vcFn Try.prog ΓI0 noΛ Try.f22 [shS s (.sl 0 2 0 n c)] (heapOf [rdB b n g]) 64 (fun y h' => FinE [rdB b n g] (cornE (chkS s n g) s n g) y h') := by
  refine Eq.mpr (vcCorn s b n c g (chkS s n g)) ?_
  rw [gi_rows]
  refine ⟨⟨hs, okAll_rows.2 fun i hi => (by rw [Nat.zero_add]; exact hg i hi), rfl, hn⟩, sel_of (fun h => ?_) fun h => sel_of (fun h2 => ?_) fun h2 => ?_⟩
  · have hN : corN (chkS s n g) s n = 0 := by unfold corN; rw [h]; rfl
    rw [hN]
    exact ⟨0, ⟨rfl, rfl, rfl, rfl⟩, ⟨rfl, rfl, trivial⟩, trivial⟩
  · have e0 := (eq_keep (s := zSh) h).2
    obtain ⟨w1, w2⟩ := chk_box e0 h2
    rw [e0]
    have hN : corN 0 s n = 4 := by unfold corN; rw [h2]; rfl
    have hG : corG s g = boxC s.w s.h := funext fun i => by unfold corG; rw [h2]; rfl
    rw [hN, hG, wrap_i64 ⟨by omega, by omega⟩, wrap_i64 ⟨by omega, by omega⟩, Int.zero_sub, Int.zero_sub]
    refine ⟨0, rfl, rfl, Nat.le_refl _, fun i hi => ?_⟩
    obtain rfl | rfl | rfl | rfl : i = 0 ∨ i = 1 ∨ i = 2 ∨ i = 3 := by omega
    · rfl
    · rfl
    · rfl
    · rfl
  · have e0 := (eq_keep (s := zSh) h).2
    rw [e0]
    have hk : (s.k == 2) = false := h2
    have hN : corN 0 s n = n := by unfold corN; rw [hk]; rfl
    have hG : corG s g = g := funext fun i => by unfold corG; rw [hk]; rfl
    rw [hN, hG]
    exact ⟨by omega, fun c1 => ⟨c1, rfl, rfl, Nat.le_refl _, fun i _ => by rw [Nat.zero_add]⟩⟩
theorem Corn_spec : HpSpec Try.prog 22 sCorn := hp_spec hm ΓI0_ok Try.func22 (Λ := fun _ _ => noΛ) fun args bs e hs hp => by
  unfold sCorn at hs
  split at hs <;> try (cases hs; done)
  rename_i k r w hh n c b
  cases hb : okB b with
  | false => rw [hb] at hs; cases hs
  | true =>
  rw [hb] at hs
  cases hs
  obtain ⟨hs, hpre⟩ := hp
  obtain ⟨hn, hg⟩ := pre_of hpre
  exact ⟨[rdB b n (rowG b)], ⟨same_rd hb hpre, trivial⟩, Corn_vc (s := ⟨k, r, w, hh⟩) hs hn hg⟩
theorem abvF_spec (n : Int) : ∀ f k : Nat, (∀ j : Nat, j < k → (j : Int) * j < n) → n ≤ ((k + f : Nat) : Int) * ((k + f : Nat) : Int) → n ≤ (abvF n f k : Int) * (abvF n f k : Int) ∧ ∀ j : Nat, j < abvF n f k → (j : Int) * j < n
  | 0, k, h1, h2 => ⟨h2, h1⟩
  | f + 1, k, h1, h2 => by
    unfold abvF
    by_cases h : (k : Int) * k < n
    · rw [if_pos h]
      refine abvF_spec n f (k + 1) (fun j hj => ?_) (by rw [show k + 1 + f = k + (f + 1) by omega]; exact h2)
      by_cases e : j = k
      · rw [e]; exact h
      · exact h1 j (by omega)
    · rw [if_neg h]
      exact ⟨by omega, h1⟩
theorem sqUp_spec {n : Int} (h : n ≤ 1099511627776) : n ≤ (sqUp n : Int) * (sqUp n : Int) ∧ ∀ j : Nat, j < sqUp n → (j : Int) * j < n := by
  unfold sqUp
  rw [hid_eq]
  refine abvF_spec n 1048576 0 (fun j hj => absurd hj (Nat.not_lt_zero _)) ?_
  rw [show ((0 + 1048576 : Nat) : Int) * ((0 + 1048576 : Nat) : Int) = 1099511627776 by decide]
  exact h
theorem sqUp_eq {n : Int} (h : n ≤ 1099511627776) {m : Nat} (h1 : n ≤ (m : Int) * m) (h2 : ∀ j : Nat, j < m → (j : Int) * j < n) : m = sqUp n := by
  obtain ⟨g1, g2⟩ := sqUp_spec h
  rcases Nat.lt_trichotomy m (sqUp n) with h' | h' | h'
  · have := g2 m h'; omega
  · exact h'
  · have := h2 _ h'; omega
theorem sq_mono {a b : Nat} (h : a ≤ b) : (a : Int) * a ≤ (b : Int) * b := by
  have := Nat.mul_le_mul h h
  exact_mod_cast this
theorem sqUp_le {n : Int} {m : Nat} (h : n ≤ 1099511627776) (h1 : n ≤ (m : Int) * m) : sqUp n ≤ m := by
  rcases Nat.lt_or_ge m (sqUp n) with h' | h'
  · have := (sqUp_spec h).2 m h'; omega
  · exact h'
theorem Above_spec : PureSpec Try.prog 23 sAbove := vc_spec hm noCtrs_ok Try.func23 (Λ := fun args => match args with | [.v (.int .i64 n)] => ΛAbove n | _ => noΛ) fun args p x h hp => by
  unfold sAbove at h
  split at h <;> try (cases h; done)
  rename_i n
  cases h
  obtain ⟨h0, h1⟩ := hp _ rfl
  refine ⟨rfl, rfl, ?_⟩
  refine Eq.mpr (vcAbove n _) ?_
  refine ⟨⟨⟨0, 1048576⟩, ⟨by simp, by simp, by show n ≤ ((1048576 : Nat) : Int) * ((1048576 : Nat) : Int); omega, fun j hj => absurd hj (Nat.not_lt_zero _)⟩, ⟨rfl, rfl⟩, trivial⟩, fun ⟨l, hh⟩ ⟨x1, x2, x3, x4⟩ => ?_⟩
  simp only at x1 x2 x3 x4 ⊢
  refine sel_of (fun hlt => ?_) fun hge => ?_
  · have hlt := of_decide_eq_true hlt
    have w1 : IntKind.i64.wrap (Int.tdiv (IntKind.i64.wrap ((l : Int) + hh)) 2) = (((l + hh) / 2 : Nat) : Int) := by
      rw [wrap_i64 (n := (l : Int) + hh) ⟨by omega, by omega⟩, Int.tdiv_eq_ediv_of_nonneg (by omega), wrap_i64 ⟨by omega, by omega⟩]; omega
    rw [w1]
    have hm1 : (l + hh) / 2 < hh := by omega
    have hm2 : l ≤ (l + hh) / 2 := by omega
    generalize (l + hh) / 2 = m at *
    have hsq : (m : Int) * m ≤ 1099511627776 := by
      have := sq_mono (show m ≤ 1048576 by omega)
      exact this
    have hsq0 : (0 : Int) ≤ (m : Int) * m := Int.mul_nonneg (by omega) (by omega)
    rw [wrap_i64 (n := (m : Int) * m) ⟨by omega, by omega⟩, wrap_i64 ⟨by omega, by omega⟩]
    refine sel_of (fun h => ?_) fun h => ?_
    · have h := of_decide_eq_true h
      refine ⟨⟨m + 1, hh⟩, ⟨⟨by simp only; omega, x2, x3, fun j hj => ?_⟩, ⟨rfl, rfl⟩, trivial⟩, by simp only; omega⟩
      have := sq_mono (show j ≤ m by simp only at hj; omega)
      omega
    · have h := of_decide_eq_false h
      exact ⟨⟨l, m⟩, ⟨⟨by simp only; omega, by simp only; omega, by simp only; omega, x4⟩, ⟨rfl, rfl⟩, trivial⟩, by simp only; omega⟩
  · have hge := of_decide_eq_false hge
    obtain rfl : l = hh := by omega
    exact int_mk (by rw [sqUp_eq h1 x3 x4])
end Go.Proofs.Ytlcfnlhognegcaa
end
section
namespace Go.Proofs.Ytlcfnlhognegcaa
open Go.SE Go.RowKit
def dotP (p q : Int × Int) : Int := dotI p.1 p.2 q.1 q.2
noncomputable def rchF (r : Int) (g : Nat → Int × Int) : Nat → Int
  | 0 => r
  | k + 1 => max (rchF r g k) (sqUp (dotP (g k) (g k)) : Nat)
noncomputable def rchS (e : Int) (s : ShB) (n : Nat) (g : Nat → Int × Int) : Int := bif e != 0 then 0 else rchF s.r (corG s g) (corN 0 s n)
noncomputable def sReach : List SV → List Ro → Option (Option Prop × SV)
  | [.agg [.v (.int .i64 k), .v (.int .i64 r), .v (.int .i64 w), .v (.int .i64 h), .sl 0 2 0 n _]], [⟨2, n', row⟩] => some (some (shOk ⟨k, r, w, h⟩ ∧ okAll isPI (rowsOf n' row) ∧ n' = n ∧ n < 1099511627776), .v (.int .i64 (rchS (chkS ⟨k, r, w, h⟩ n fun i => gi (row i)) ⟨k, r, w, h⟩ n fun i => gi (row i))))
  | [.agg [.v (.int .i64 k), .v (.int .i64 r), .v (.int .i64 w), .v (.int .i64 h), .v (.slice none 0 0)]], [] => some (some (shOk ⟨k, r, w, h⟩ ∧ chkS ⟨k, r, w, h⟩ 0 zP ≠ 0), .v (.int .i64 0))
  | _, _ => none
noncomputable def sReachL : List SV → List Ro → Option (Option Prop × SV)
  | [.agg [.v (.int .i64 k), .v (.int .i64 r), .v (.int .i64 w), .v (.int .i64 h), .sl 0 2 0 n _]], [⟨2, n', row⟩] => some (some (shOk ⟨k, r, w, h⟩ ∧ okAll isPI (rowsOf n' row) ∧ n' = n ∧ n < 1099511627776), .v (.int .i64 (rchS (chkS ⟨k, r, w, h⟩ n fun i => gi (row i)) ⟨k, r, w, h⟩ n fun i => gi (row i))))
  | _, _ => none
def areaF (n : Nat) (g : Nat → Int × Int) : Nat → Int
  | 0 => 0
  | k + 1 => areaF n g k + crossP (g k) (g ((k + 1) % n))
def momF (n : Nat) (g : Nat → Int × Int) : Nat → Int
  | 0 => 0
  | k + 1 => momF n g k + crossP (g k) (g ((k + 1) % n)) * (dotP (g k) (g k) + dotP (g k) (g ((k + 1) % n)) + dotP (g ((k + 1) % n)) (g ((k + 1) % n)))
def halfN : NB := ⟨13493037704, false⟩
def wDisc (r d : Int) : VB := ⟨divN (divN (ratN 65536 (r * r)) halfN) (intN d), divN (divN (ratN 8589934592 (r * r * r * r)) halfN) (intN d)⟩
def wPoly (a m d : Int) : VB := ⟨divN (ratN 131072 a) (intN d), divN (ratN 51539607552 m) (intN d)⟩
def wghE (e d : Int) : Int := bif e != 0 then e else bif decide (d < 1) || decide (d > 1000) then 3 else 0
def wghV (e : Int) (s : ShB) (n : Nat) (g : Nat → Int × Int) (d : Int) : VB := bif wghE e d != 0 then zeroV else bif s.k == 1 then wDisc s.r d else wPoly (areaF (corN 0 s n) (corG s g) (corN 0 s n)) (momF (corN 0 s n) (corG s g) (corN 0 s n)) d
def sWeigh : List SV → List Ro → Option (Option Prop × SV)
  | [.agg [.v (.int .i64 k), .v (.int .i64 r), .v (.int .i64 w), .v (.int .i64 h), .sl 0 2 0 n _], .v (.int .i64 d)], [⟨2, n', row⟩] => some (some ((shOk ⟨k, r, w, h⟩ ∧ okAll isPI (rowsOf n' row) ∧ n' = n ∧ n < 1099511627776) ∧ I64 d), .tup [vS (wghV (chkS ⟨k, r, w, h⟩ n fun i => gi (row i)) ⟨k, r, w, h⟩ n (fun i => gi (row i)) d), .v (.int .i64 (wghE (chkS ⟨k, r, w, h⟩ n fun i => gi (row i)) d))])
  | _, _ => none
noncomputable def ΓK0 : Ctrs := addCtr (addCtr (addCtr (addCtr (addCtr (addCtr ΓV6 21 (hpCtr false sCorners)) 20 (roCtr sCheckS)) 22 (hpCtr false sCorn)) 35 (pureCtr sCross)) 24 (pureCtr sDotS)) 23 (pureCtr sAbove)
noncomputable def ΛReach (r : Int) (N : Nat) (g : Nat → Int × Int) : Nat → Option LoopSpec := addIter noΛ 0 cornersIt Nat (fun k => k ≤ N) (fun k => k) [(128, fun k => varBlk 2 [.v (.int .i64 (rchF r g k))])]
theorem vcReach (s : ShB) (n n' c : Nat) (g : Nat→Int × Int) (R : SV→Prop) : (vcFn Try.prog ΓK0 (ΛReach s.r (corN 0 s n) (corG s g)) Try.f9 [shS s (.sl 0 2 0 n c)] (roHeap [⟨2,n',rowsP g⟩]) 64 (fun y _ => R y)) = (((shOk s)∧((okAll isPI (rowsOf n fun y => [SV.v (.int .i64 (Prod.fst (g (0 + y)))),SV.v (.int .i64 (Prod.snd (g (0 + y))))]))∧(((n : Nat) = n)∧((n : Nat) < 1099511627776))))∧(sel ((chkS s n fun i => gi [SV.v (.int .i64 (Prod.fst (g (0 + i)))),SV.v (.int .i64 (Prod.snd (g (0 + i))))]) != 0) (R (SV.v (.int .i64 0))) (((shOk s)∧(spPre n (winBlk (Ro.blk {s:=2,n:=n',row:=fun i => [SV.v (.int .i64 (Prod.fst (g i))),SV.v (.int .i64 (Prod.snd (g i)))]}) 2 0 n)))∧(∀ c_1 : Nat,(((It.P cornersIt = Try.prog)∧((((corN (chkS s n (rowG (winBlk (Ro.blk {s:=2,n:=n',row:=fun i => [SV.v (.int .i64 (Prod.fst (g i))),SV.v (.int .i64 (Prod.snd (g i)))]}) 2 0 n))) s n) : Nat) ≤ 1099511627776)∧((((0 + corN (chkS s n (rowG (winBlk (Ro.blk {s:=2,n:=n',row:=fun i => [SV.v (.int .i64 (Prod.fst (g i))),SV.v (.int .i64 (Prod.snd (g i)))]}) 2 0 n))) s n) : Nat) ≤ (corN (chkS s n (rowG (winBlk (Ro.blk {s:=2,n:=n',row:=fun i => [SV.v (.int .i64 (Prod.fst (g i))),SV.v (.int .i64 (Prod.snd (g i)))]}) 2 0 n))) s n))∧(∀ j : Nat,(((j : Nat) < (corN (chkS s n (rowG (winBlk (Ro.blk {s:=2,n:=n',row:=fun i => [SV.v (.int .i64 (Prod.fst (g i))),SV.v (.int .i64 (Prod.snd (g i)))]}) 2 0 n))) s n))→([(SV.v (.int .i64 (Prod.fst (corG s (rowG (winBlk (Ro.blk {s:=2,n:=n',row:=fun i => [SV.v (.int .i64 (Prod.fst (g i))),SV.v (.int .i64 (Prod.snd (g i)))]}) 2 0 n)) (0 + j))))),(SV.v (.int .i64 (Prod.snd (corG s (rowG (winBlk (Ro.blk {s:=2,n:=n',row:=fun i => [SV.v (.int .i64 (Prod.fst (g i))),SV.v (.int .i64 (Prod.snd (g i)))]}) 2 0 n)) (0 + j)))))] = [(SV.v (.int .i64 (Prod.fst (gi [SV.v (.int .i64 (Prod.fst (corG s (rowG (winBlk (Ro.blk {s:=2,n:=n',row:=fun i => [SV.v (.int .i64 (Prod.fst (g i))),SV.v (.int .i64 (Prod.snd (g i)))]}) 2 0 n)) (0 + j)))),SV.v (.int .i64 (Prod.snd (corG s (rowG (winBlk (Ro.blk {s:=2,n:=n',row:=fun i => [SV.v (.int .i64 (Prod.fst (g i))),SV.v (.int .i64 (Prod.snd (g i)))]}) 2 0 n)) (0 + j))))])))),(SV.v (.int .i64 (Prod.snd (gi [SV.v (.int .i64 (Prod.fst (corG s (rowG (winBlk (Ro.blk {s:=2,n:=n',row:=fun i => [SV.v (.int .i64 (Prod.fst (g i))),SV.v (.int .i64 (Prod.snd (g i)))]}) 2 0 n)) (0 + j)))),SV.v (.int .i64 (Prod.snd (corG s (rowG (winBlk (Ro.blk {s:=2,n:=n',row:=fun i => [SV.v (.int .i64 (Prod.fst (g i))),SV.v (.int .i64 (Prod.snd (g i)))]}) 2 0 n)) (0 + j))))]))))]))))))∧((∃ x : Nat,(((x : Nat) = 0)∧((Nat.le x (corN 0 s n))∧(True∧(((1 : Nat) = 1)∧(((1 : Nat) ≤ 1)∧(∀ i : Nat,(((i : Nat) < 1)→([(SV.v (.int .i64 (ShB.r s)))] = [(SV.v (.int .i64 (rchF (ShB.r s) (corG s g) x)))])))))))))∧((∀ x : Nat,((Nat.le x (corN 0 s n))→(((x : Nat) < (corN (chkS s n (rowG (winBlk (Ro.blk {s:=2,n:=n',row:=fun i => [SV.v (.int .i64 (Prod.fst (g i))),SV.v (.int .i64 (Prod.snd (g i)))]}) 2 0 n))) s n))→((((Sp (Prod.fst (gi [SV.v (.int .i64 (Prod.fst (corG s (rowG (winBlk (Ro.blk {s:=2,n:=n',row:=fun i => [SV.v (.int .i64 (Prod.fst (g i))),SV.v (.int .i64 (Prod.snd (g i)))]}) 2 0 n)) (0 + x)))),SV.v (.int .i64 (Prod.snd (corG s (rowG (winBlk (Ro.blk {s:=2,n:=n',row:=fun i => [SV.v (.int .i64 (Prod.fst (g i))),SV.v (.int .i64 (Prod.snd (g i)))]}) 2 0 n)) (0 + x))))])))∧(Sp (Prod.snd (gi [SV.v (.int .i64 (Prod.fst (corG s (rowG (winBlk (Ro.blk {s:=2,n:=n',row:=fun i => [SV.v (.int .i64 (Prod.fst (g i))),SV.v (.int .i64 (Prod.snd (g i)))]}) 2 0 n)) (0 + x)))),SV.v (.int .i64 (Prod.snd (corG s (rowG (winBlk (Ro.blk {s:=2,n:=n',row:=fun i => [SV.v (.int .i64 (Prod.fst (g i))),SV.v (.int .i64 (Prod.snd (g i)))]}) 2 0 n)) (0 + x))))]))))∧((Sp (Prod.fst (gi [SV.v (.int .i64 (Prod.fst (corG s (rowG (winBlk (Ro.blk {s:=2,n:=n',row:=fun i => [SV.v (.int .i64 (Prod.fst (g i))),SV.v (.int .i64 (Prod.snd (g i)))]}) 2 0 n)) (0 + x)))),SV.v (.int .i64 (Prod.snd (corG s (rowG (winBlk (Ro.blk {s:=2,n:=n',row:=fun i => [SV.v (.int .i64 (Prod.fst (g i))),SV.v (.int .i64 (Prod.snd (g i)))]}) 2 0 n)) (0 + x))))])))∧(Sp (Prod.snd (gi [SV.v (.int .i64 (Prod.fst (corG s (rowG (winBlk (Ro.blk {s:=2,n:=n',row:=fun i => [SV.v (.int .i64 (Prod.fst (g i))),SV.v (.int .i64 (Prod.snd (g i)))]}) 2 0 n)) (0 + x)))),SV.v (.int .i64 (Prod.snd (corG s (rowG (winBlk (Ro.blk {s:=2,n:=n',row:=fun i => [SV.v (.int .i64 (Prod.fst (g i))),SV.v (.int .i64 (Prod.snd (g i)))]}) 2 0 n)) (0 + x))))])))))∧((((0 : Int) ≤ (dotI (Prod.fst (gi [SV.v (.int .i64 (Prod.fst (corG s (rowG (winBlk (Ro.blk {s:=2,n:=n',row:=fun i => [SV.v (.int .i64 (Prod.fst (g i))),SV.v (.int .i64 (Prod.snd (g i)))]}) 2 0 n)) (0 + x)))),SV.v (.int .i64 (Prod.snd (corG s (rowG (winBlk (Ro.blk {s:=2,n:=n',row:=fun i => [SV.v (.int .i64 (Prod.fst (g i))),SV.v (.int .i64 (Prod.snd (g i)))]}) 2 0 n)) (0 + x))))])) (Prod.snd (gi [SV.v (.int .i64 (Prod.fst (corG s (rowG (winBlk (Ro.blk {s:=2,n:=n',row:=fun i => [SV.v (.int .i64 (Prod.fst (g i))),SV.v (.int .i64 (Prod.snd (g i)))]}) 2 0 n)) (0 + x)))),SV.v (.int .i64 (Prod.snd (corG s (rowG (winBlk (Ro.blk {s:=2,n:=n',row:=fun i => [SV.v (.int .i64 (Prod.fst (g i))),SV.v (.int .i64 (Prod.snd (g i)))]}) 2 0 n)) (0 + x))))])) (Prod.fst (gi [SV.v (.int .i64 (Prod.fst (corG s (rowG (winBlk (Ro.blk {s:=2,n:=n',row:=fun i => [SV.v (.int .i64 (Prod.fst (g i))),SV.v (.int .i64 (Prod.snd (g i)))]}) 2 0 n)) (0 + x)))),SV.v (.int .i64 (Prod.snd (corG s (rowG (winBlk (Ro.blk {s:=2,n:=n',row:=fun i => [SV.v (.int .i64 (Prod.fst (g i))),SV.v (.int .i64 (Prod.snd (g i)))]}) 2 0 n)) (0 + x))))])) (Prod.snd (gi [SV.v (.int .i64 (Prod.fst (corG s (rowG (winBlk (Ro.blk {s:=2,n:=n',row:=fun i => [SV.v (.int .i64 (Prod.fst (g i))),SV.v (.int .i64 (Prod.snd (g i)))]}) 2 0 n)) (0 + x)))),SV.v (.int .i64 (Prod.snd (corG s (rowG (winBlk (Ro.blk {s:=2,n:=n',row:=fun i => [SV.v (.int .i64 (Prod.fst (g i))),SV.v (.int .i64 (Prod.snd (g i)))]}) 2 0 n)) (0 + x))))]))))∧(((dotI (Prod.fst (gi [SV.v (.int .i64 (Prod.fst (corG s (rowG (winBlk (Ro.blk {s:=2,n:=n',row:=fun i => [SV.v (.int .i64 (Prod.fst (g i))),SV.v (.int .i64 (Prod.snd (g i)))]}) 2 0 n)) (0 + x)))),SV.v (.int .i64 (Prod.snd (corG s (rowG (winBlk (Ro.blk {s:=2,n:=n',row:=fun i => [SV.v (.int .i64 (Prod.fst (g i))),SV.v (.int .i64 (Prod.snd (g i)))]}) 2 0 n)) (0 + x))))])) (Prod.snd (gi [SV.v (.int .i64 (Prod.fst (corG s (rowG (winBlk (Ro.blk {s:=2,n:=n',row:=fun i => [SV.v (.int .i64 (Prod.fst (g i))),SV.v (.int .i64 (Prod.snd (g i)))]}) 2 0 n)) (0 + x)))),SV.v (.int .i64 (Prod.snd (corG s (rowG (winBlk (Ro.blk {s:=2,n:=n',row:=fun i => [SV.v (.int .i64 (Prod.fst (g i))),SV.v (.int .i64 (Prod.snd (g i)))]}) 2 0 n)) (0 + x))))])) (Prod.fst (gi [SV.v (.int .i64 (Prod.fst (corG s (rowG (winBlk (Ro.blk {s:=2,n:=n',row:=fun i => [SV.v (.int .i64 (Prod.fst (g i))),SV.v (.int .i64 (Prod.snd (g i)))]}) 2 0 n)) (0 + x)))),SV.v (.int .i64 (Prod.snd (corG s (rowG (winBlk (Ro.blk {s:=2,n:=n',row:=fun i => [SV.v (.int .i64 (Prod.fst (g i))),SV.v (.int .i64 (Prod.snd (g i)))]}) 2 0 n)) (0 + x))))])) (Prod.snd (gi [SV.v (.int .i64 (Prod.fst (corG s (rowG (winBlk (Ro.blk {s:=2,n:=n',row:=fun i => [SV.v (.int .i64 (Prod.fst (g i))),SV.v (.int .i64 (Prod.snd (g i)))]}) 2 0 n)) (0 + x)))),SV.v (.int .i64 (Prod.snd (corG s (rowG (winBlk (Ro.blk {s:=2,n:=n',row:=fun i => [SV.v (.int .i64 (Prod.fst (g i))),SV.v (.int .i64 (Prod.snd (g i)))]}) 2 0 n)) (0 + x))))]))) : Int) ≤ 1099511627776))∧(∃ x' : Nat,(((x' : Nat) = (x + 1))∧((Nat.le x' (corN 0 s n))∧(True∧(((1 : Nat) = 1)∧(((1 : Nat) ≤ 1)∧(∀ i : Nat,(((i : Nat) < 1)→([(SV.v (.int .i64 (max (rchF (ShB.r s) (corG s g) x) (↑(sqUp (dotI (Prod.fst (gi [SV.v (.int .i64 (Prod.fst (corG s (rowG (winBlk (Ro.blk {s:=2,n:=n',row:=fun i => [SV.v (.int .i64 (Prod.fst (g i))),SV.v (.int .i64 (Prod.snd (g i)))]}) 2 0 n)) (0 + x)))),SV.v (.int .i64 (Prod.snd (corG s (rowG (winBlk (Ro.blk {s:=2,n:=n',row:=fun i => [SV.v (.int .i64 (Prod.fst (g i))),SV.v (.int .i64 (Prod.snd (g i)))]}) 2 0 n)) (0 + x))))])) (Prod.snd (gi [SV.v (.int .i64 (Prod.fst (corG s (rowG (winBlk (Ro.blk {s:=2,n:=n',row:=fun i => [SV.v (.int .i64 (Prod.fst (g i))),SV.v (.int .i64 (Prod.snd (g i)))]}) 2 0 n)) (0 + x)))),SV.v (.int .i64 (Prod.snd (corG s (rowG (winBlk (Ro.blk {s:=2,n:=n',row:=fun i => [SV.v (.int .i64 (Prod.fst (g i))),SV.v (.int .i64 (Prod.snd (g i)))]}) 2 0 n)) (0 + x))))])) (Prod.fst (gi [SV.v (.int .i64 (Prod.fst (corG s (rowG (winBlk (Ro.blk {s:=2,n:=n',row:=fun i => [SV.v (.int .i64 (Prod.fst (g i))),SV.v (.int .i64 (Prod.snd (g i)))]}) 2 0 n)) (0 + x)))),SV.v (.int .i64 (Prod.snd (corG s (rowG (winBlk (Ro.blk {s:=2,n:=n',row:=fun i => [SV.v (.int .i64 (Prod.fst (g i))),SV.v (.int .i64 (Prod.snd (g i)))]}) 2 0 n)) (0 + x))))])) (Prod.snd (gi [SV.v (.int .i64 (Prod.fst (corG s (rowG (winBlk (Ro.blk {s:=2,n:=n',row:=fun i => [SV.v (.int .i64 (Prod.fst (g i))),SV.v (.int .i64 (Prod.snd (g i)))]}) 2 0 n)) (0 + x)))),SV.v (.int .i64 (Prod.snd (corG s (rowG (winBlk (Ro.blk {s:=2,n:=n',row:=fun i => [SV.v (.int .i64 (Prod.fst (g i))),SV.v (.int .i64 (Prod.snd (g i)))]}) 2 0 n)) (0 + x))))])))) : Int))))] = [(SV.v (.int .i64 (rchF (ShB.r s) (corG s g) x')))]))))))))))))))∧(∀ x : Nat,((Nat.le x (corN 0 s n))→(((x : Nat) = (corN (chkS s n (rowG (winBlk (Ro.blk {s:=2,n:=n',row:=fun i => [SV.v (.int .i64 (Prod.fst (g i))),SV.v (.int .i64 (Prod.snd (g i)))]}) 2 0 n))) s n))→(R (SV.v (.int .i64 (rchF (ShB.r s) (corG s g) x)))))))))))))):=by kernel_rfl
theorem vcReach0 (s : ShB) (R : SV→Prop) : (vcFn Try.prog ΓK0 noΛ Try.f9 [shS s nilV] (roHeap []) 64 (fun y _ => R y)) = ((shOk s)∧(sel ((chkS s 0 fun x => (0,0)) != 0) (R (SV.v (.int .i64 0))) False)):=by kernel_rfl
theorem ΓK0_ok : ∀ f g, ΓK0 f = some g → g.ok Try.prog f := addCtr_ok (addCtr_ok (addCtr_ok (addCtr_ok (addCtr_ok (addCtr_ok ΓV6_ok (hp_ok Try.func21 (by kernel_rfl) (by kernel_rfl) Corners1_spec)) (ro_ok Try.func20 (by kernel_rfl) (by kernel_rfl) CheckS_spec)) (hp_ok Try.func22 (by kernel_rfl) (by kernel_rfl) Corn_spec)) (pure_ok Try.func35 (by kernel_rfl) (by kernel_rfl) CrossS_spec)) (pure_ok Try.func24 (by kernel_rfl) (by kernel_rfl) DotS_spec)) (pure_ok Try.func23 (by kernel_rfl) (by kernel_rfl) Above_spec)
theorem gi_pt (p : Int × Int) : gi [SV.v (.int .i64 p.1), SV.v (.int .i64 p.2)] = p := rfl
theorem win_g (n' n : Nat) (g : Nat → Int × Int) : rowG (winBlk (Ro.blk { s := 2, n := n', row := fun i => [SV.v (.int .i64 (g i).1), SV.v (.int .i64 (g i).2)] }) 2 0 n) = g := funext fun i => by
  show gi [SV.v (.int .i64 (g (0 + i)).1), SV.v (.int .i64 (g (0 + i)).2)] = g i
  rw [Nat.zero_add]; rfl
theorem win_pre2 {n n' : Nat} {g : Nat → Int × Int} (hn : n < 1099511627776) (hg : ∀ i, i < n → I64 (g i).1 ∧ I64 (g i).2) : spPre n (winBlk (Ro.blk { s := 2, n := n', row := fun i => [SV.v (.int .i64 (g i).1), SV.v (.int .i64 (g i).2)] }) 2 0 n) := win_pre hn hg fun _ => rfl
def Q12 (x : Int) : Prop := -4096 ≤ x ∧ x ≤ 4096
theorem Q12.sp {x : Int} (h : Q12 x) : Sp x := ⟨by have := h.1; omega, by have := h.2; omega⟩
theorem ptOk_q {p : Int × Int} (h : ptOk p = true) : Q12 p.1 ∧ Q12 p.2 := by
  unfold ptOk nearI at h
  simp only [Bool.and_eq_true, decide_eq_true_eq] at h
  exact h
theorem prod12 {x y : Int} (h : Q12 x) (k : Q12 y) : -16777216 ≤ x * y ∧ x * y ≤ 16777216 := by
  obtain ⟨a, b⟩ := h
  obtain ⟨c, d⟩ := k
  have h1 : (x + 4096) * (y + 4096) ≥ 0 := Int.mul_nonneg (by omega) (by omega)
  have h2 : (4096 - x) * (4096 - y) ≥ 0 := Int.mul_nonneg (by omega) (by omega)
  have h3 : (x + 4096) * (4096 - y) ≥ 0 := Int.mul_nonneg (by omega) (by omega)
  have h4 : (4096 - x) * (y + 4096) ≥ 0 := Int.mul_nonneg (by omega) (by omega)
  simp only [Int.add_mul, Int.mul_add, Int.sub_mul, Int.mul_sub] at h1 h2 h3 h4
  omega
theorem chk_cases {s : ShB} {n : Nat} {g : Nat → Int × Int} (e : chkS s n g = 0) : ((s.k == 1) = true ∧ 16 ≤ s.r ∧ s.r ≤ 4096 ∧ n = 0) ∨ ((s.k == 1) = false ∧ (s.k == 2) = true ∧ s.r = 0 ∧ n = 0 ∧ (16 ≤ s.w ∧ s.w ≤ 4096) ∧ 16 ≤ s.h ∧ s.h ≤ 4096) ∨ ((s.k == 1) = false ∧ (s.k == 2) = false ∧ s.r = 0 ∧ 3 ≤ n ∧ n ≤ 8 ∧ (∀ i, i < n → ptOk (g i) = true) ∧ convI n g = true) := by
  have e0 := e
  unfold chkS at e
  cases h1 : (s.k == 1) with
  | true =>
    rw [h1, cond_true] at e
    cases h2 : (s.w != 0 || (s.h != 0 || (n : Int) != 0)) with
    | true => rw [h2] at e; cases e
    | false =>
      rw [h2, cond_false] at e
      simp only [Bool.or_eq_false_iff, bne_eq_false_iff_eq] at h2
      cases h3 : sizeI s.r with
      | false => rw [h3] at e; cases e
      | true => exact .inl ⟨rfl, (sizeI_bd h3).1, (sizeI_bd h3).2, by omega⟩
  | false =>
    cases h2 : (s.k == 2) with
    | true =>
      obtain ⟨w1, w2⟩ := chk_box e0 h2
      rw [h1, h2, cond_false, cond_true] at e
      cases h3 : (s.r != 0 || (n : Int) != 0) with
      | true => rw [h3] at e; cases e
      | false =>
        simp only [Bool.or_eq_false_iff, bne_eq_false_iff_eq] at h3
        exact .inr (.inl ⟨rfl, rfl, h3.1, by omega, w1, w2⟩)
    | false =>
      rw [h1, h2, cond_false, cond_false] at e
      cases h3 : (s.k == 3) with
      | false => rw [h3] at e; cases e
      | true =>
        rw [h3, cond_true] at e
        cases h4 : (s.r != 0 || (s.w != 0 || (s.h != 0 || (decide ((n : Int) < 3) || decide ((n : Int) > 8))))) with
        | true => rw [h4] at e; cases e
        | false =>
          rw [h4, cond_false] at e
          simp only [Bool.or_eq_false_iff, bne_eq_false_iff_eq, decide_eq_false_iff_not] at h4
          cases h5 : (List.range n).all (fun i => ptOk (g i)) with
          | false => rw [h5] at e; cases e
          | true =>
            rw [h5, cond_true] at e
            cases h6 : convI n g with
            | false => rw [h6] at e; cases e
            | true => exact .inr (.inr ⟨rfl, rfl, h4.1, by omega, by omega, fun i hi => List.all_eq_true.1 h5 i (List.mem_range.2 hi), rfl⟩)
theorem chk_r {s : ShB} {n : Nat} {g : Nat → Int × Int} (e : chkS s n g = 0) : 0 ≤ s.r ∧ s.r ≤ 4096 := by
  rcases chk_cases e with h | h | h
  · exact ⟨by omega, h.2.2.1⟩
  · omega
  · omega
theorem corN_le {s : ShB} {n : Nat} {g : Nat → Int × Int} (e : chkS s n g = 0) : corN 0 s n ≤ 8 := by
  unfold corN
  rcases chk_cases e with ⟨h1, _, _, h4⟩ | ⟨h1, h2, _⟩ | ⟨h1, h2, h3, h4, h5, _⟩
  · have : (s.k == 2) = false := by have : s.k = 1 := by simpa using h1
                                    rw [this]; rfl
    rw [this]
    show n ≤ 8
    omega
  · rw [h2]; show 4 ≤ 8; omega
  · rw [h2]; exact h5
theorem corG_q {s : ShB} {n : Nat} {g : Nat → Int × Int} (e : chkS s n g = 0) : ∀ i, i < corN 0 s n → Q12 (corG s g i).1 ∧ Q12 (corG s g i).2 := by
  unfold corN corG
  rcases chk_cases e with ⟨h1, _, _, h4⟩ | ⟨h1, h2, h3, h4, ⟨w1, w2⟩, w3, w4⟩ | ⟨h1, h2, h3, h4, h5, h6, _⟩
  · have : (s.k == 2) = false := by have : s.k = 1 := by simpa using h1
                                    rw [this]; rfl
    rw [this]
    intro i hi
    have hi : i < n := hi
    omega
  · rw [h2]
    intro i hi
    have hi : i < 4 := hi
    obtain rfl | rfl | rfl | rfl : i = 0 ∨ i = 1 ∨ i = 2 ∨ i = 3 := by omega
    · exact ⟨⟨by show -4096 ≤ -s.w; omega, by show -s.w ≤ 4096; omega⟩, by show -4096 ≤ -s.h; omega, by show -s.h ≤ 4096; omega⟩
    · exact ⟨⟨by show -4096 ≤ s.w; omega, by show s.w ≤ 4096; omega⟩, by show -4096 ≤ -s.h; omega, by show -s.h ≤ 4096; omega⟩
    · exact ⟨⟨by show -4096 ≤ s.w; omega, by show s.w ≤ 4096; omega⟩, by show -4096 ≤ s.h; omega, by show s.h ≤ 4096; omega⟩
    · exact ⟨⟨by show -4096 ≤ -s.w; omega, by show -s.w ≤ 4096; omega⟩, by show -4096 ≤ s.h; omega, by show s.h ≤ 4096; omega⟩
  · rw [h2]
    intro i hi
    exact ptOk_q (h6 i hi)
theorem dot_bd {p q : Int × Int} (h : Q12 p.1 ∧ Q12 p.2) (k : Q12 q.1 ∧ Q12 q.2) : -33554432 ≤ dotP p q ∧ dotP p q ≤ 33554432 := by
  have h1 := prod12 h.1 k.1
  have h2 := prod12 h.2 k.2
  unfold dotP dotI
  omega
theorem dot_nn (p : Int × Int) : 0 ≤ dotP p p := by
  have h1 := sq_nonneg p.1
  have h2 := sq_nonneg p.2
  unfold dotP dotI
  omega
theorem cross_bd {p q : Int × Int} (h : Q12 p.1 ∧ Q12 p.2) (k : Q12 q.1 ∧ Q12 q.2) : -33554432 ≤ crossP p q ∧ crossP p q ≤ 33554432 := by
  have h1 := prod12 h.1 k.2
  have h2 := prod12 h.2 k.1
  unfold crossP crossI
  omega
theorem reach_vc {s : ShB} {n c : Nat} {g : Nat → Int × Int} (hs : shOk s) (hn : n < 1099511627776) (hg : ∀ i, i < n → I64 (g i).1 ∧ I64 (g i).2) : vcFn Try.prog ΓK0 (ΛReach s.r (corN 0 s n) (corG s g)) Try.f9 [shS s (.sl 0 2 0 n c)] (roHeap [⟨2, n, rowsP g⟩]) 64 (fun y _ => y = .v (.int .i64 (rchS (chkS s n g) s n g))) := by
  refine Eq.mpr (vcReach s n n c g _) ?_
  have hpre := win_pre2 (n' := n) hn hg
  rw [gi_rows]
  simp only [win_g, gi_pt, Nat.zero_add]
  refine ⟨⟨hs, okAll_rows.2 fun i hi => hg i hi, by trivial, hn⟩, sel_of (fun h => ?_) fun h => ⟨⟨hs, hpre⟩, fun c1 => ?_⟩⟩
  · refine int_mk ?_; unfold rchS; rw [h]; rfl
  · have e0 := (eq_keep (s := zSh) h).2
    have hN := corN_le e0
    have hq := corG_q e0
    have hr := chk_r e0
    have hfin : rchS 0 s n g = rchF s.r (corG s g) (corN 0 s n) := rfl
    rw [e0, hfin]
    generalize corN 0 s n = N at *
    refine ⟨⟨rfl, by omega, Nat.le_refl _, fun _ _ => by trivial⟩, ⟨0, by trivial, Nat.zero_le _, by trivial, by trivial, by trivial, fun _ _ => rfl⟩, fun x hx hlt => ?_, fun x hx he => ?_⟩
    · obtain ⟨a1, a2⟩ := hq x hlt
      have b1 := dot_bd (hq x hlt) (hq x hlt)
      have b2 := dot_nn (corG s g x)
      unfold dotP at b1 b2
      refine ⟨⟨⟨a1.sp, a2.sp⟩, a1.sp, a2.sp⟩, ⟨b2, by omega⟩, x + 1, by trivial, hlt, by trivial, by trivial, by trivial, fun _ _ => ?_⟩
      have : rchF s.r (corG s g) (x + 1) = max (rchF s.r (corG s g) x) (sqUp (dotP (corG s g x) (corG s g x)) : Nat) := rfl
      rw [this]; rfl
    · have he : x = N := he
      rw [he]
theorem reach0_vc {s : ShB} (hs : shOk s) (hc : chkS s 0 zP ≠ 0) : vcFn Try.prog ΓK0 noΛ Try.f9 [shS s nilV] (roHeap []) 64 (fun y _ => y = .v (.int .i64 0)) := by
  refine Eq.mpr (vcReach0 s _) ?_
  exact ⟨hs, sel_of (fun _ => rfl) fun h => hc (eq_keep (s := zSh) h).2⟩
theorem Reach_spec : RoSpec Try.prog 9 sReach := ro_spec hm ΓK0_ok Try.func9 (Λ := fun args bs => match args, bs with | [.agg [.v (.int .i64 k), .v (.int .i64 r), .v (.int .i64 w), .v (.int .i64 h), .sl 0 2 0 n _]], [⟨2, _, row⟩] => ΛReach r (corN 0 ⟨k, r, w, h⟩ n) (corG ⟨k, r, w, h⟩ (fun i => gi (row i))) | _, _ => noΛ) fun args bs p x h hp => by
  unfold sReach at h
  split at h <;> try (cases h; done)
  · rename_i k r w hh n c n' row
    cases h
    obtain ⟨hs, h0, rfl, hn⟩ := hp _ rfl
    have h0 := okAll_rows.1 h0
    refine ⟨rfl, [⟨2, n', rowsP fun i => gi (row i)⟩], ⟨⟨rfl, rfl, fun i hi => (isPI_row (h0 i hi)).1⟩, trivial⟩, ?_⟩
    exact reach_vc (s := ⟨k, r, w, hh⟩) hs hn fun i hi => (isPI_row (h0 i hi)).2
  · rename_i k r w hh
    cases h
    obtain ⟨hs, hc⟩ := hp _ rfl
    exact ⟨rfl, [], trivial, reach0_vc (s := ⟨k, r, w, hh⟩) hs hc⟩
end Go.Proofs.Ytlcfnlhognegcaa
end
section
namespace Go.Proofs.Ytlcfnlhognegcaa
open Go.SE Go.RowKit
noncomputable def ΛWeigh (N : Nat) (g : Nat → Int × Int) : Nat → Option LoopSpec := addIter noΛ 0 cornersIt Nat (fun k => k ≤ N) (fun k => k) [(592, fun k => varBlk 2 [.v (.int .i64 (areaF N g k))]), (600, fun k => varBlk 2 [.v (.int .i64 (momF N g k))])]
theorem vcWeigh (s : ShB) (n n' c : Nat) (g : Nat→Int × Int) (d : Int) (R : SV→Prop) : (vcFn Try.prog ΓK0 (ΛWeigh (corN 0 s n) (corG s g)) Try.f16 [shS s (.sl 0 2 0 n c),.v (.int .i64 d)] (roHeap [⟨2,n',rowsP g⟩]) 64 (fun y _ => R y)) = (((shOk s)∧((okAll isPI (rowsOf n fun y => [SV.v (.int .i64 (Prod.fst (g (0 + y)))),SV.v (.int .i64 (Prod.snd (g (0 + y))))]))∧(((n : Nat) = n)∧((n : Nat) < 1099511627776))))∧(sel ((chkS s n fun i => gi [SV.v (.int .i64 (Prod.fst (g (0 + i)))),SV.v (.int .i64 (Prod.snd (g (0 + i))))]) != 0) (R (SV.tup [(SV.agg [(SV.v (.int .i64 0)),(SV.v (.bool false)),(SV.v (.int .i64 0)),(SV.v (.bool false))]),(SV.v (.int .i64 (chkS s n fun i => gi [SV.v (.int .i64 (Prod.fst (g (0 + i)))),SV.v (.int .i64 (Prod.snd (g (0 + i))))])))])) (sel (decide (d < 1)) (R (SV.tup [(SV.agg [(SV.v (.int .i64 0)),(SV.v (.bool false)),(SV.v (.int .i64 0)),(SV.v (.bool false))]),(SV.v (.int .i64 3))])) (sel (decide (d > 1000)) (R (SV.tup [(SV.agg [(SV.v (.int .i64 0)),(SV.v (.bool false)),(SV.v (.int .i64 0)),(SV.v (.bool false))]),(SV.v (.int .i64 3))])) ((I64 d)∧(sel (ShB.k s == 1) (((I64 65536)∧(I64 (IntKind.wrap IntKind.i64 (ShB.r s * ShB.r s))))∧(((I64 (NB.v (ratN 65536 (IntKind.wrap IntKind.i64 (ShB.r s * ShB.r s)))))∧(I64 13493037704))∧(((I64 8589934592)∧(I64 (IntKind.wrap IntKind.i64 (IntKind.wrap IntKind.i64 (IntKind.wrap IntKind.i64 (ShB.r s * ShB.r s) * ShB.r s) * ShB.r s))))∧(((I64 (NB.v (ratN 8589934592 (IntKind.wrap IntKind.i64 (IntKind.wrap IntKind.i64 (IntKind.wrap IntKind.i64 (ShB.r s * ShB.r s) * ShB.r s) * ShB.r s)))))∧(I64 13493037704))∧(((I64 (NB.v (divN (ratN 65536 (IntKind.wrap IntKind.i64 (ShB.r s * ShB.r s))) {v:=13493037704,f:=false})))∧(I64 (NB.v (intN d))))∧(((I64 (NB.v (divN (ratN 8589934592 (IntKind.wrap IntKind.i64 (IntKind.wrap IntKind.i64 (IntKind.wrap IntKind.i64 (ShB.r s * ShB.r s) * ShB.r s) * ShB.r s))) {v:=13493037704,f:=false})))∧(I64 (NB.v (intN d))))∧(R (SV.tup [(SV.agg [(SV.v (.int .i64 (NB.v (divN (divN (ratN 65536 (IntKind.wrap IntKind.i64 (ShB.r s * ShB.r s))) {v:=13493037704,f:=false}) (intN d))))),(SV.v (.bool (NB.f (divN (divN (ratN 65536 (IntKind.wrap IntKind.i64 (ShB.r s * ShB.r s))) {v:=13493037704,f:=false}) (intN d))))),(SV.v (.int .i64 (NB.v (divN (divN (ratN 8589934592 (IntKind.wrap IntKind.i64 (IntKind.wrap IntKind.i64 (IntKind.wrap IntKind.i64 (ShB.r s * ShB.r s) * ShB.r s) * ShB.r s))) {v:=13493037704,f:=false}) (intN d))))),(SV.v (.bool (NB.f (divN (divN (ratN 8589934592 (IntKind.wrap IntKind.i64 (IntKind.wrap IntKind.i64 (IntKind.wrap IntKind.i64 (ShB.r s * ShB.r s) * ShB.r s) * ShB.r s))) {v:=13493037704,f:=false}) (intN d)))))]),(SV.v (.int .i64 0))])))))))) (((shOk s)∧(spPre n (winBlk (Ro.blk {s:=2,n:=n',row:=fun i => [SV.v (.int .i64 (Prod.fst (g i))),SV.v (.int .i64 (Prod.snd (g i)))]}) 2 0 n)))∧(∀ c_1 : Nat,(((It.P cornersIt = Try.prog)∧((((corN (chkS s n (rowG (winBlk (Ro.blk {s:=2,n:=n',row:=fun i => [SV.v (.int .i64 (Prod.fst (g i))),SV.v (.int .i64 (Prod.snd (g i)))]}) 2 0 n))) s n) : Nat) ≤ 1099511627776)∧((((0 + corN (chkS s n (rowG (winBlk (Ro.blk {s:=2,n:=n',row:=fun i => [SV.v (.int .i64 (Prod.fst (g i))),SV.v (.int .i64 (Prod.snd (g i)))]}) 2 0 n))) s n) : Nat) ≤ (corN (chkS s n (rowG (winBlk (Ro.blk {s:=2,n:=n',row:=fun i => [SV.v (.int .i64 (Prod.fst (g i))),SV.v (.int .i64 (Prod.snd (g i)))]}) 2 0 n))) s n))∧(∀ j : Nat,(((j : Nat) < (corN (chkS s n (rowG (winBlk (Ro.blk {s:=2,n:=n',row:=fun i => [SV.v (.int .i64 (Prod.fst (g i))),SV.v (.int .i64 (Prod.snd (g i)))]}) 2 0 n))) s n))→([(SV.v (.int .i64 (Prod.fst (corG s (rowG (winBlk (Ro.blk {s:=2,n:=n',row:=fun i => [SV.v (.int .i64 (Prod.fst (g i))),SV.v (.int .i64 (Prod.snd (g i)))]}) 2 0 n)) (0 + j))))),(SV.v (.int .i64 (Prod.snd (corG s (rowG (winBlk (Ro.blk {s:=2,n:=n',row:=fun i => [SV.v (.int .i64 (Prod.fst (g i))),SV.v (.int .i64 (Prod.snd (g i)))]}) 2 0 n)) (0 + j)))))] = [(SV.v (.int .i64 (Prod.fst (gi [SV.v (.int .i64 (Prod.fst (corG s (rowG (winBlk (Ro.blk {s:=2,n:=n',row:=fun i => [SV.v (.int .i64 (Prod.fst (g i))),SV.v (.int .i64 (Prod.snd (g i)))]}) 2 0 n)) (0 + j)))),SV.v (.int .i64 (Prod.snd (corG s (rowG (winBlk (Ro.blk {s:=2,n:=n',row:=fun i => [SV.v (.int .i64 (Prod.fst (g i))),SV.v (.int .i64 (Prod.snd (g i)))]}) 2 0 n)) (0 + j))))])))),(SV.v (.int .i64 (Prod.snd (gi [SV.v (.int .i64 (Prod.fst (corG s (rowG (winBlk (Ro.blk {s:=2,n:=n',row:=fun i => [SV.v (.int .i64 (Prod.fst (g i))),SV.v (.int .i64 (Prod.snd (g i)))]}) 2 0 n)) (0 + j)))),SV.v (.int .i64 (Prod.snd (corG s (rowG (winBlk (Ro.blk {s:=2,n:=n',row:=fun i => [SV.v (.int .i64 (Prod.fst (g i))),SV.v (.int .i64 (Prod.snd (g i)))]}) 2 0 n)) (0 + j))))]))))]))))))∧((∃ x : Nat,(((x : Nat) = 0)∧((Nat.le x (corN 0 s n))∧(True∧((((1 : Nat) = 1)∧(((1 : Nat) ≤ 1)∧(∀ i : Nat,(((i : Nat) < 1)→([(SV.v (.int .i64 0))] = [(SV.v (.int .i64 (areaF (corN 0 s n) (corG s g) x)))])))))∧(((1 : Nat) = 1)∧(((1 : Nat) ≤ 1)∧(∀ i : Nat,(((i : Nat) < 1)→([(SV.v (.int .i64 0))] = [(SV.v (.int .i64 (momF (corN 0 s n) (corG s g) x)))]))))))))))∧((∀ x : Nat,((Nat.le x (corN 0 s n))→(((x : Nat) < (corN (chkS s n (rowG (winBlk (Ro.blk {s:=2,n:=n',row:=fun i => [SV.v (.int .i64 (Prod.fst (g i))),SV.v (.int .i64 (Prod.snd (g i)))]}) 2 0 n))) s n))→((((Sp (Prod.fst (gi [SV.v (.int .i64 (Prod.fst (corG s (rowG (winBlk (Ro.blk {s:=2,n:=n',row:=fun i => [SV.v (.int .i64 (Prod.fst (g i))),SV.v (.int .i64 (Prod.snd (g i)))]}) 2 0 n)) (0 + x)))),SV.v (.int .i64 (Prod.snd (corG s (rowG (winBlk (Ro.blk {s:=2,n:=n',row:=fun i => [SV.v (.int .i64 (Prod.fst (g i))),SV.v (.int .i64 (Prod.snd (g i)))]}) 2 0 n)) (0 + x))))])))∧(Sp (Prod.snd (gi [SV.v (.int .i64 (Prod.fst (corG s (rowG (winBlk (Ro.blk {s:=2,n:=n',row:=fun i => [SV.v (.int .i64 (Prod.fst (g i))),SV.v (.int .i64 (Prod.snd (g i)))]}) 2 0 n)) (0 + x)))),SV.v (.int .i64 (Prod.snd (corG s (rowG (winBlk (Ro.blk {s:=2,n:=n',row:=fun i => [SV.v (.int .i64 (Prod.fst (g i))),SV.v (.int .i64 (Prod.snd (g i)))]}) 2 0 n)) (0 + x))))]))))∧((Sp (Prod.fst (gi [SV.v (.int .i64 (Prod.fst (corG s (rowG (winBlk (Ro.blk {s:=2,n:=n',row:=fun i => [SV.v (.int .i64 (Prod.fst (g i))),SV.v (.int .i64 (Prod.snd (g i)))]}) 2 0 n)) (0 + (x + 1) % corN (chkS s n (rowG (winBlk (Ro.blk {s:=2,n:=n',row:=fun i => [SV.v (.int .i64 (Prod.fst (g i))),SV.v (.int .i64 (Prod.snd (g i)))]}) 2 0 n))) s n)))),SV.v (.int .i64 (Prod.snd (corG s (rowG (winBlk (Ro.blk {s:=2,n:=n',row:=fun i => [SV.v (.int .i64 (Prod.fst (g i))),SV.v (.int .i64 (Prod.snd (g i)))]}) 2 0 n)) (0 + (x + 1) % corN (chkS s n (rowG (winBlk (Ro.blk {s:=2,n:=n',row:=fun i => [SV.v (.int .i64 (Prod.fst (g i))),SV.v (.int .i64 (Prod.snd (g i)))]}) 2 0 n))) s n))))])))∧(Sp (Prod.snd (gi [SV.v (.int .i64 (Prod.fst (corG s (rowG (winBlk (Ro.blk {s:=2,n:=n',row:=fun i => [SV.v (.int .i64 (Prod.fst (g i))),SV.v (.int .i64 (Prod.snd (g i)))]}) 2 0 n)) (0 + (x + 1) % corN (chkS s n (rowG (winBlk (Ro.blk {s:=2,n:=n',row:=fun i => [SV.v (.int .i64 (Prod.fst (g i))),SV.v (.int .i64 (Prod.snd (g i)))]}) 2 0 n))) s n)))),SV.v (.int .i64 (Prod.snd (corG s (rowG (winBlk (Ro.blk {s:=2,n:=n',row:=fun i => [SV.v (.int .i64 (Prod.fst (g i))),SV.v (.int .i64 (Prod.snd (g i)))]}) 2 0 n)) (0 + (x + 1) % corN (chkS s n (rowG (winBlk (Ro.blk {s:=2,n:=n',row:=fun i => [SV.v (.int .i64 (Prod.fst (g i))),SV.v (.int .i64 (Prod.snd (g i)))]}) 2 0 n))) s n))))])))))∧((((Sp (Prod.fst (gi [SV.v (.int .i64 (Prod.fst (corG s (rowG (winBlk (Ro.blk {s:=2,n:=n',row:=fun i => [SV.v (.int .i64 (Prod.fst (g i))),SV.v (.int .i64 (Prod.snd (g i)))]}) 2 0 n)) (0 + x)))),SV.v (.int .i64 (Prod.snd (corG s (rowG (winBlk (Ro.blk {s:=2,n:=n',row:=fun i => [SV.v (.int .i64 (Prod.fst (g i))),SV.v (.int .i64 (Prod.snd (g i)))]}) 2 0 n)) (0 + x))))])))∧(Sp (Prod.snd (gi [SV.v (.int .i64 (Prod.fst (corG s (rowG (winBlk (Ro.blk {s:=2,n:=n',row:=fun i => [SV.v (.int .i64 (Prod.fst (g i))),SV.v (.int .i64 (Prod.snd (g i)))]}) 2 0 n)) (0 + x)))),SV.v (.int .i64 (Prod.snd (corG s (rowG (winBlk (Ro.blk {s:=2,n:=n',row:=fun i => [SV.v (.int .i64 (Prod.fst (g i))),SV.v (.int .i64 (Prod.snd (g i)))]}) 2 0 n)) (0 + x))))]))))∧((Sp (Prod.fst (gi [SV.v (.int .i64 (Prod.fst (corG s (rowG (winBlk (Ro.blk {s:=2,n:=n',row:=fun i => [SV.v (.int .i64 (Prod.fst (g i))),SV.v (.int .i64 (Prod.snd (g i)))]}) 2 0 n)) (0 + x)))),SV.v (.int .i64 (Prod.snd (corG s (rowG (winBlk (Ro.blk {s:=2,n:=n',row:=fun i => [SV.v (.int .i64 (Prod.fst (g i))),SV.v (.int .i64 (Prod.snd (g i)))]}) 2 0 n)) (0 + x))))])))∧(Sp (Prod.snd (gi [SV.v (.int .i64 (Prod.fst (corG s (rowG (winBlk (Ro.blk {s:=2,n:=n',row:=fun i => [SV.v (.int .i64 (Prod.fst (g i))),SV.v (.int .i64 (Prod.snd (g i)))]}) 2 0 n)) (0 + x)))),SV.v (.int .i64 (Prod.snd (corG s (rowG (winBlk (Ro.blk {s:=2,n:=n',row:=fun i => [SV.v (.int .i64 (Prod.fst (g i))),SV.v (.int .i64 (Prod.snd (g i)))]}) 2 0 n)) (0 + x))))])))))∧((((Sp (Prod.fst (gi [SV.v (.int .i64 (Prod.fst (corG s (rowG (winBlk (Ro.blk {s:=2,n:=n',row:=fun i => [SV.v (.int .i64 (Prod.fst (g i))),SV.v (.int .i64 (Prod.snd (g i)))]}) 2 0 n)) (0 + x)))),SV.v (.int .i64 (Prod.snd (corG s (rowG (winBlk (Ro.blk {s:=2,n:=n',row:=fun i => [SV.v (.int .i64 (Prod.fst (g i))),SV.v (.int .i64 (Prod.snd (g i)))]}) 2 0 n)) (0 + x))))])))∧(Sp (Prod.snd (gi [SV.v (.int .i64 (Prod.fst (corG s (rowG (winBlk (Ro.blk {s:=2,n:=n',row:=fun i => [SV.v (.int .i64 (Prod.fst (g i))),SV.v (.int .i64 (Prod.snd (g i)))]}) 2 0 n)) (0 + x)))),SV.v (.int .i64 (Prod.snd (corG s (rowG (winBlk (Ro.blk {s:=2,n:=n',row:=fun i => [SV.v (.int .i64 (Prod.fst (g i))),SV.v (.int .i64 (Prod.snd (g i)))]}) 2 0 n)) (0 + x))))]))))∧((Sp (Prod.fst (gi [SV.v (.int .i64 (Prod.fst (corG s (rowG (winBlk (Ro.blk {s:=2,n:=n',row:=fun i => [SV.v (.int .i64 (Prod.fst (g i))),SV.v (.int .i64 (Prod.snd (g i)))]}) 2 0 n)) (0 + (x + 1) % corN (chkS s n (rowG (winBlk (Ro.blk {s:=2,n:=n',row:=fun i => [SV.v (.int .i64 (Prod.fst (g i))),SV.v (.int .i64 (Prod.snd (g i)))]}) 2 0 n))) s n)))),SV.v (.int .i64 (Prod.snd (corG s (rowG (winBlk (Ro.blk {s:=2,n:=n',row:=fun i => [SV.v (.int .i64 (Prod.fst (g i))),SV.v (.int .i64 (Prod.snd (g i)))]}) 2 0 n)) (0 + (x + 1) % corN (chkS s n (rowG (winBlk (Ro.blk {s:=2,n:=n',row:=fun i => [SV.v (.int .i64 (Prod.fst (g i))),SV.v (.int .i64 (Prod.snd (g i)))]}) 2 0 n))) s n))))])))∧(Sp (Prod.snd (gi [SV.v (.int .i64 (Prod.fst (corG s (rowG (winBlk (Ro.blk {s:=2,n:=n',row:=fun i => [SV.v (.int .i64 (Prod.fst (g i))),SV.v (.int .i64 (Prod.snd (g i)))]}) 2 0 n)) (0 + (x + 1) % corN (chkS s n (rowG (winBlk (Ro.blk {s:=2,n:=n',row:=fun i => [SV.v (.int .i64 (Prod.fst (g i))),SV.v (.int .i64 (Prod.snd (g i)))]}) 2 0 n))) s n)))),SV.v (.int .i64 (Prod.snd (corG s (rowG (winBlk (Ro.blk {s:=2,n:=n',row:=fun i => [SV.v (.int .i64 (Prod.fst (g i))),SV.v (.int .i64 (Prod.snd (g i)))]}) 2 0 n)) (0 + (x + 1) % corN (chkS s n (rowG (winBlk (Ro.blk {s:=2,n:=n',row:=fun i => [SV.v (.int .i64 (Prod.fst (g i))),SV.v (.int .i64 (Prod.snd (g i)))]}) 2 0 n))) s n))))])))))∧((((Sp (Prod.fst (gi [SV.v (.int .i64 (Prod.fst (corG s (rowG (winBlk (Ro.blk {s:=2,n:=n',row:=fun i => [SV.v (.int .i64 (Prod.fst (g i))),SV.v (.int .i64 (Prod.snd (g i)))]}) 2 0 n)) (0 + (x + 1) % corN (chkS s n (rowG (winBlk (Ro.blk {s:=2,n:=n',row:=fun i => [SV.v (.int .i64 (Prod.fst (g i))),SV.v (.int .i64 (Prod.snd (g i)))]}) 2 0 n))) s n)))),SV.v (.int .i64 (Prod.snd (corG s (rowG (winBlk (Ro.blk {s:=2,n:=n',row:=fun i => [SV.v (.int .i64 (Prod.fst (g i))),SV.v (.int .i64 (Prod.snd (g i)))]}) 2 0 n)) (0 + (x + 1) % corN (chkS s n (rowG (winBlk (Ro.blk {s:=2,n:=n',row:=fun i => [SV.v (.int .i64 (Prod.fst (g i))),SV.v (.int .i64 (Prod.snd (g i)))]}) 2 0 n))) s n))))])))∧(Sp (Prod.snd (gi [SV.v (.int .i64 (Prod.fst (corG s (rowG (winBlk (Ro.blk {s:=2,n:=n',row:=fun i => [SV.v (.int .i64 (Prod.fst (g i))),SV.v (.int .i64 (Prod.snd (g i)))]}) 2 0 n)) (0 + (x + 1) % corN (chkS s n (rowG (winBlk (Ro.blk {s:=2,n:=n',row:=fun i => [SV.v (.int .i64 (Prod.fst (g i))),SV.v (.int .i64 (Prod.snd (g i)))]}) 2 0 n))) s n)))),SV.v (.int .i64 (Prod.snd (corG s (rowG (winBlk (Ro.blk {s:=2,n:=n',row:=fun i => [SV.v (.int .i64 (Prod.fst (g i))),SV.v (.int .i64 (Prod.snd (g i)))]}) 2 0 n)) (0 + (x + 1) % corN (chkS s n (rowG (winBlk (Ro.blk {s:=2,n:=n',row:=fun i => [SV.v (.int .i64 (Prod.fst (g i))),SV.v (.int .i64 (Prod.snd (g i)))]}) 2 0 n))) s n))))]))))∧((Sp (Prod.fst (gi [SV.v (.int .i64 (Prod.fst (corG s (rowG (winBlk (Ro.blk {s:=2,n:=n',row:=fun i => [SV.v (.int .i64 (Prod.fst (g i))),SV.v (.int .i64 (Prod.snd (g i)))]}) 2 0 n)) (0 + (x + 1) % corN (chkS s n (rowG (winBlk (Ro.blk {s:=2,n:=n',row:=fun i => [SV.v (.int .i64 (Prod.fst (g i))),SV.v (.int .i64 (Prod.snd (g i)))]}) 2 0 n))) s n)))),SV.v (.int .i64 (Prod.snd (corG s (rowG (winBlk (Ro.blk {s:=2,n:=n',row:=fun i => [SV.v (.int .i64 (Prod.fst (g i))),SV.v (.int .i64 (Prod.snd (g i)))]}) 2 0 n)) (0 + (x + 1) % corN (chkS s n (rowG (winBlk (Ro.blk {s:=2,n:=n',row:=fun i => [SV.v (.int .i64 (Prod.fst (g i))),SV.v (.int .i64 (Prod.snd (g i)))]}) 2 0 n))) s n))))])))∧(Sp (Prod.snd (gi [SV.v (.int .i64 (Prod.fst (corG s (rowG (winBlk (Ro.blk {s:=2,n:=n',row:=fun i => [SV.v (.int .i64 (Prod.fst (g i))),SV.v (.int .i64 (Prod.snd (g i)))]}) 2 0 n)) (0 + (x + 1) % corN (chkS s n (rowG (winBlk (Ro.blk {s:=2,n:=n',row:=fun i => [SV.v (.int .i64 (Prod.fst (g i))),SV.v (.int .i64 (Prod.snd (g i)))]}) 2 0 n))) s n)))),SV.v (.int .i64 (Prod.snd (corG s (rowG (winBlk (Ro.blk {s:=2,n:=n',row:=fun i => [SV.v (.int .i64 (Prod.fst (g i))),SV.v (.int .i64 (Prod.snd (g i)))]}) 2 0 n)) (0 + (x + 1) % corN (chkS s n (rowG (winBlk (Ro.blk {s:=2,n:=n',row:=fun i => [SV.v (.int .i64 (Prod.fst (g i))),SV.v (.int .i64 (Prod.snd (g i)))]}) 2 0 n))) s n))))])))))∧(∃ x' : Nat,(((x' : Nat) = (x + 1))∧((Nat.le x' (corN 0 s n))∧(True∧((((1 : Nat) = 1)∧(((1 : Nat) ≤ 1)∧(∀ i : Nat,(((i : Nat) < 1)→([(SV.v (.int .i64 (IntKind.wrap IntKind.i64 (areaF (corN 0 s n) (corG s g) x + crossI (Prod.fst (gi [SV.v (.int .i64 (Prod.fst (corG s (rowG (winBlk (Ro.blk {s:=2,n:=n',row:=fun i => [SV.v (.int .i64 (Prod.fst (g i))),SV.v (.int .i64 (Prod.snd (g i)))]}) 2 0 n)) (0 + x)))),SV.v (.int .i64 (Prod.snd (corG s (rowG (winBlk (Ro.blk {s:=2,n:=n',row:=fun i => [SV.v (.int .i64 (Prod.fst (g i))),SV.v (.int .i64 (Prod.snd (g i)))]}) 2 0 n)) (0 + x))))])) (Prod.snd (gi [SV.v (.int .i64 (Prod.fst (corG s (rowG (winBlk (Ro.blk {s:=2,n:=n',row:=fun i => [SV.v (.int .i64 (Prod.fst (g i))),SV.v (.int .i64 (Prod.snd (g i)))]}) 2 0 n)) (0 + x)))),SV.v (.int .i64 (Prod.snd (corG s (rowG (winBlk (Ro.blk {s:=2,n:=n',row:=fun i => [SV.v (.int .i64 (Prod.fst (g i))),SV.v (.int .i64 (Prod.snd (g i)))]}) 2 0 n)) (0 + x))))])) (Prod.fst (gi [SV.v (.int .i64 (Prod.fst (corG s (rowG (winBlk (Ro.blk {s:=2,n:=n',row:=fun i => [SV.v (.int .i64 (Prod.fst (g i))),SV.v (.int .i64 (Prod.snd (g i)))]}) 2 0 n)) (0 + (x + 1) % corN (chkS s n (rowG (winBlk (Ro.blk {s:=2,n:=n',row:=fun i => [SV.v (.int .i64 (Prod.fst (g i))),SV.v (.int .i64 (Prod.snd (g i)))]}) 2 0 n))) s n)))),SV.v (.int .i64 (Prod.snd (corG s (rowG (winBlk (Ro.blk {s:=2,n:=n',row:=fun i => [SV.v (.int .i64 (Prod.fst (g i))),SV.v (.int .i64 (Prod.snd (g i)))]}) 2 0 n)) (0 + (x + 1) % corN (chkS s n (rowG (winBlk (Ro.blk {s:=2,n:=n',row:=fun i => [SV.v (.int .i64 (Prod.fst (g i))),SV.v (.int .i64 (Prod.snd (g i)))]}) 2 0 n))) s n))))])) (Prod.snd (gi [SV.v (.int .i64 (Prod.fst (corG s (rowG (winBlk (Ro.blk {s:=2,n:=n',row:=fun i => [SV.v (.int .i64 (Prod.fst (g i))),SV.v (.int .i64 (Prod.snd (g i)))]}) 2 0 n)) (0 + (x + 1) % corN (chkS s n (rowG (winBlk (Ro.blk {s:=2,n:=n',row:=fun i => [SV.v (.int .i64 (Prod.fst (g i))),SV.v (.int .i64 (Prod.snd (g i)))]}) 2 0 n))) s n)))),SV.v (.int .i64 (Prod.snd (corG s (rowG (winBlk (Ro.blk {s:=2,n:=n',row:=fun i => [SV.v (.int .i64 (Prod.fst (g i))),SV.v (.int .i64 (Prod.snd (g i)))]}) 2 0 n)) (0 + (x + 1) % corN (chkS s n (rowG (winBlk (Ro.blk {s:=2,n:=n',row:=fun i => [SV.v (.int .i64 (Prod.fst (g i))),SV.v (.int .i64 (Prod.snd (g i)))]}) 2 0 n))) s n))))]))))))] = [(SV.v (.int .i64 (areaF (corN 0 s n) (corG s g) x')))])))))∧(((1 : Nat) = 1)∧(((1 : Nat) ≤ 1)∧(∀ i : Nat,(((i : Nat) < 1)→([(SV.v (.int .i64 (IntKind.wrap IntKind.i64 (momF (corN 0 s n) (corG s g) x + IntKind.wrap IntKind.i64 (crossI (Prod.fst (gi [SV.v (.int .i64 (Prod.fst (corG s (rowG (winBlk (Ro.blk {s:=2,n:=n',row:=fun i => [SV.v (.int .i64 (Prod.fst (g i))),SV.v (.int .i64 (Prod.snd (g i)))]}) 2 0 n)) (0 + x)))),SV.v (.int .i64 (Prod.snd (corG s (rowG (winBlk (Ro.blk {s:=2,n:=n',row:=fun i => [SV.v (.int .i64 (Prod.fst (g i))),SV.v (.int .i64 (Prod.snd (g i)))]}) 2 0 n)) (0 + x))))])) (Prod.snd (gi [SV.v (.int .i64 (Prod.fst (corG s (rowG (winBlk (Ro.blk {s:=2,n:=n',row:=fun i => [SV.v (.int .i64 (Prod.fst (g i))),SV.v (.int .i64 (Prod.snd (g i)))]}) 2 0 n)) (0 + x)))),SV.v (.int .i64 (Prod.snd (corG s (rowG (winBlk (Ro.blk {s:=2,n:=n',row:=fun i => [SV.v (.int .i64 (Prod.fst (g i))),SV.v (.int .i64 (Prod.snd (g i)))]}) 2 0 n)) (0 + x))))])) (Prod.fst (gi [SV.v (.int .i64 (Prod.fst (corG s (rowG (winBlk (Ro.blk {s:=2,n:=n',row:=fun i => [SV.v (.int .i64 (Prod.fst (g i))),SV.v (.int .i64 (Prod.snd (g i)))]}) 2 0 n)) (0 + (x + 1) % corN (chkS s n (rowG (winBlk (Ro.blk {s:=2,n:=n',row:=fun i => [SV.v (.int .i64 (Prod.fst (g i))),SV.v (.int .i64 (Prod.snd (g i)))]}) 2 0 n))) s n)))),SV.v (.int .i64 (Prod.snd (corG s (rowG (winBlk (Ro.blk {s:=2,n:=n',row:=fun i => [SV.v (.int .i64 (Prod.fst (g i))),SV.v (.int .i64 (Prod.snd (g i)))]}) 2 0 n)) (0 + (x + 1) % corN (chkS s n (rowG (winBlk (Ro.blk {s:=2,n:=n',row:=fun i => [SV.v (.int .i64 (Prod.fst (g i))),SV.v (.int .i64 (Prod.snd (g i)))]}) 2 0 n))) s n))))])) (Prod.snd (gi [SV.v (.int .i64 (Prod.fst (corG s (rowG (winBlk (Ro.blk {s:=2,n:=n',row:=fun i => [SV.v (.int .i64 (Prod.fst (g i))),SV.v (.int .i64 (Prod.snd (g i)))]}) 2 0 n)) (0 + (x + 1) % corN (chkS s n (rowG (winBlk (Ro.blk {s:=2,n:=n',row:=fun i => [SV.v (.int .i64 (Prod.fst (g i))),SV.v (.int .i64 (Prod.snd (g i)))]}) 2 0 n))) s n)))),SV.v (.int .i64 (Prod.snd (corG s (rowG (winBlk (Ro.blk {s:=2,n:=n',row:=fun i => [SV.v (.int .i64 (Prod.fst (g i))),SV.v (.int .i64 (Prod.snd (g i)))]}) 2 0 n)) (0 + (x + 1) % corN (chkS s n (rowG (winBlk (Ro.blk {s:=2,n:=n',row:=fun i => [SV.v (.int .i64 (Prod.fst (g i))),SV.v (.int .i64 (Prod.snd (g i)))]}) 2 0 n))) s n))))])) * IntKind.wrap IntKind.i64 (IntKind.wrap IntKind.i64 (dotI (Prod.fst (gi [SV.v (.int .i64 (Prod.fst (corG s (rowG (winBlk (Ro.blk {s:=2,n:=n',row:=fun i => [SV.v (.int .i64 (Prod.fst (g i))),SV.v (.int .i64 (Prod.snd (g i)))]}) 2 0 n)) (0 + x)))),SV.v (.int .i64 (Prod.snd (corG s (rowG (winBlk (Ro.blk {s:=2,n:=n',row:=fun i => [SV.v (.int .i64 (Prod.fst (g i))),SV.v (.int .i64 (Prod.snd (g i)))]}) 2 0 n)) (0 + x))))])) (Prod.snd (gi [SV.v (.int .i64 (Prod.fst (corG s (rowG (winBlk (Ro.blk {s:=2,n:=n',row:=fun i => [SV.v (.int .i64 (Prod.fst (g i))),SV.v (.int .i64 (Prod.snd (g i)))]}) 2 0 n)) (0 + x)))),SV.v (.int .i64 (Prod.snd (corG s (rowG (winBlk (Ro.blk {s:=2,n:=n',row:=fun i => [SV.v (.int .i64 (Prod.fst (g i))),SV.v (.int .i64 (Prod.snd (g i)))]}) 2 0 n)) (0 + x))))])) (Prod.fst (gi [SV.v (.int .i64 (Prod.fst (corG s (rowG (winBlk (Ro.blk {s:=2,n:=n',row:=fun i => [SV.v (.int .i64 (Prod.fst (g i))),SV.v (.int .i64 (Prod.snd (g i)))]}) 2 0 n)) (0 + x)))),SV.v (.int .i64 (Prod.snd (corG s (rowG (winBlk (Ro.blk {s:=2,n:=n',row:=fun i => [SV.v (.int .i64 (Prod.fst (g i))),SV.v (.int .i64 (Prod.snd (g i)))]}) 2 0 n)) (0 + x))))])) (Prod.snd (gi [SV.v (.int .i64 (Prod.fst (corG s (rowG (winBlk (Ro.blk {s:=2,n:=n',row:=fun i => [SV.v (.int .i64 (Prod.fst (g i))),SV.v (.int .i64 (Prod.snd (g i)))]}) 2 0 n)) (0 + x)))),SV.v (.int .i64 (Prod.snd (corG s (rowG (winBlk (Ro.blk {s:=2,n:=n',row:=fun i => [SV.v (.int .i64 (Prod.fst (g i))),SV.v (.int .i64 (Prod.snd (g i)))]}) 2 0 n)) (0 + x))))])) + dotI (Prod.fst (gi [SV.v (.int .i64 (Prod.fst (corG s (rowG (winBlk (Ro.blk {s:=2,n:=n',row:=fun i => [SV.v (.int .i64 (Prod.fst (g i))),SV.v (.int .i64 (Prod.snd (g i)))]}) 2 0 n)) (0 + x)))),SV.v (.int .i64 (Prod.snd (corG s (rowG (winBlk (Ro.blk {s:=2,n:=n',row:=fun i => [SV.v (.int .i64 (Prod.fst (g i))),SV.v (.int .i64 (Prod.snd (g i)))]}) 2 0 n)) (0 + x))))])) (Prod.snd (gi [SV.v (.int .i64 (Prod.fst (corG s (rowG (winBlk (Ro.blk {s:=2,n:=n',row:=fun i => [SV.v (.int .i64 (Prod.fst (g i))),SV.v (.int .i64 (Prod.snd (g i)))]}) 2 0 n)) (0 + x)))),SV.v (.int .i64 (Prod.snd (corG s (rowG (winBlk (Ro.blk {s:=2,n:=n',row:=fun i => [SV.v (.int .i64 (Prod.fst (g i))),SV.v (.int .i64 (Prod.snd (g i)))]}) 2 0 n)) (0 + x))))])) (Prod.fst (gi [SV.v (.int .i64 (Prod.fst (corG s (rowG (winBlk (Ro.blk {s:=2,n:=n',row:=fun i => [SV.v (.int .i64 (Prod.fst (g i))),SV.v (.int .i64 (Prod.snd (g i)))]}) 2 0 n)) (0 + (x + 1) % corN (chkS s n (rowG (winBlk (Ro.blk {s:=2,n:=n',row:=fun i => [SV.v (.int .i64 (Prod.fst (g i))),SV.v (.int .i64 (Prod.snd (g i)))]}) 2 0 n))) s n)))),SV.v (.int .i64 (Prod.snd (corG s (rowG (winBlk (Ro.blk {s:=2,n:=n',row:=fun i => [SV.v (.int .i64 (Prod.fst (g i))),SV.v (.int .i64 (Prod.snd (g i)))]}) 2 0 n)) (0 + (x + 1) % corN (chkS s n (rowG (winBlk (Ro.blk {s:=2,n:=n',row:=fun i => [SV.v (.int .i64 (Prod.fst (g i))),SV.v (.int .i64 (Prod.snd (g i)))]}) 2 0 n))) s n))))])) (Prod.snd (gi [SV.v (.int .i64 (Prod.fst (corG s (rowG (winBlk (Ro.blk {s:=2,n:=n',row:=fun i => [SV.v (.int .i64 (Prod.fst (g i))),SV.v (.int .i64 (Prod.snd (g i)))]}) 2 0 n)) (0 + (x + 1) % corN (chkS s n (rowG (winBlk (Ro.blk {s:=2,n:=n',row:=fun i => [SV.v (.int .i64 (Prod.fst (g i))),SV.v (.int .i64 (Prod.snd (g i)))]}) 2 0 n))) s n)))),SV.v (.int .i64 (Prod.snd (corG s (rowG (winBlk (Ro.blk {s:=2,n:=n',row:=fun i => [SV.v (.int .i64 (Prod.fst (g i))),SV.v (.int .i64 (Prod.snd (g i)))]}) 2 0 n)) (0 + (x + 1) % corN (chkS s n (rowG (winBlk (Ro.blk {s:=2,n:=n',row:=fun i => [SV.v (.int .i64 (Prod.fst (g i))),SV.v (.int .i64 (Prod.snd (g i)))]}) 2 0 n))) s n))))]))) + dotI (Prod.fst (gi [SV.v (.int .i64 (Prod.fst (corG s (rowG (winBlk (Ro.blk {s:=2,n:=n',row:=fun i => [SV.v (.int .i64 (Prod.fst (g i))),SV.v (.int .i64 (Prod.snd (g i)))]}) 2 0 n)) (0 + (x + 1) % corN (chkS s n (rowG (winBlk (Ro.blk {s:=2,n:=n',row:=fun i => [SV.v (.int .i64 (Prod.fst (g i))),SV.v (.int .i64 (Prod.snd (g i)))]}) 2 0 n))) s n)))),SV.v (.int .i64 (Prod.snd (corG s (rowG (winBlk (Ro.blk {s:=2,n:=n',row:=fun i => [SV.v (.int .i64 (Prod.fst (g i))),SV.v (.int .i64 (Prod.snd (g i)))]}) 2 0 n)) (0 + (x + 1) % corN (chkS s n (rowG (winBlk (Ro.blk {s:=2,n:=n',row:=fun i => [SV.v (.int .i64 (Prod.fst (g i))),SV.v (.int .i64 (Prod.snd (g i)))]}) 2 0 n))) s n))))])) (Prod.snd (gi [SV.v (.int .i64 (Prod.fst (corG s (rowG (winBlk (Ro.blk {s:=2,n:=n',row:=fun i => [SV.v (.int .i64 (Prod.fst (g i))),SV.v (.int .i64 (Prod.snd (g i)))]}) 2 0 n)) (0 + (x + 1) % corN (chkS s n (rowG (winBlk (Ro.blk {s:=2,n:=n',row:=fun i => [SV.v (.int .i64 (Prod.fst (g i))),SV.v (.int .i64 (Prod.snd (g i)))]}) 2 0 n))) s n)))),SV.v (.int .i64 (Prod.snd (corG s (rowG (winBlk (Ro.blk {s:=2,n:=n',row:=fun i => [SV.v (.int .i64 (Prod.fst (g i))),SV.v (.int .i64 (Prod.snd (g i)))]}) 2 0 n)) (0 + (x + 1) % corN (chkS s n (rowG (winBlk (Ro.blk {s:=2,n:=n',row:=fun i => [SV.v (.int .i64 (Prod.fst (g i))),SV.v (.int .i64 (Prod.snd (g i)))]}) 2 0 n))) s n))))])) (Prod.fst (gi [SV.v (.int .i64 (Prod.fst (corG s (rowG (winBlk (Ro.blk {s:=2,n:=n',row:=fun i => [SV.v (.int .i64 (Prod.fst (g i))),SV.v (.int .i64 (Prod.snd (g i)))]}) 2 0 n)) (0 + (x + 1) % corN (chkS s n (rowG (winBlk (Ro.blk {s:=2,n:=n',row:=fun i => [SV.v (.int .i64 (Prod.fst (g i))),SV.v (.int .i64 (Prod.snd (g i)))]}) 2 0 n))) s n)))),SV.v (.int .i64 (Prod.snd (corG s (rowG (winBlk (Ro.blk {s:=2,n:=n',row:=fun i => [SV.v (.int .i64 (Prod.fst (g i))),SV.v (.int .i64 (Prod.snd (g i)))]}) 2 0 n)) (0 + (x + 1) % corN (chkS s n (rowG (winBlk (Ro.blk {s:=2,n:=n',row:=fun i => [SV.v (.int .i64 (Prod.fst (g i))),SV.v (.int .i64 (Prod.snd (g i)))]}) 2 0 n))) s n))))])) (Prod.snd (gi [SV.v (.int .i64 (Prod.fst (corG s (rowG (winBlk (Ro.blk {s:=2,n:=n',row:=fun i => [SV.v (.int .i64 (Prod.fst (g i))),SV.v (.int .i64 (Prod.snd (g i)))]}) 2 0 n)) (0 + (x + 1) % corN (chkS s n (rowG (winBlk (Ro.blk {s:=2,n:=n',row:=fun i => [SV.v (.int .i64 (Prod.fst (g i))),SV.v (.int .i64 (Prod.snd (g i)))]}) 2 0 n))) s n)))),SV.v (.int .i64 (Prod.snd (corG s (rowG (winBlk (Ro.blk {s:=2,n:=n',row:=fun i => [SV.v (.int .i64 (Prod.fst (g i))),SV.v (.int .i64 (Prod.snd (g i)))]}) 2 0 n)) (0 + (x + 1) % corN (chkS s n (rowG (winBlk (Ro.blk {s:=2,n:=n',row:=fun i => [SV.v (.int .i64 (Prod.fst (g i))),SV.v (.int .i64 (Prod.snd (g i)))]}) 2 0 n))) s n))))]))))))))] = [(SV.v (.int .i64 (momF (corN 0 s n) (corG s g) x')))])))))))))))))))))∧(∀ x : Nat,((Nat.le x (corN 0 s n))→(((x : Nat) = (corN (chkS s n (rowG (winBlk (Ro.blk {s:=2,n:=n',row:=fun i => [SV.v (.int .i64 (Prod.fst (g i))),SV.v (.int .i64 (Prod.snd (g i)))]}) 2 0 n))) s n))→(((I64 131072)∧(I64 (areaF (corN 0 s n) (corG s g) x)))∧(((I64 (NB.v (ratN 131072 (areaF (corN 0 s n) (corG s g) x))))∧(I64 (NB.v (intN d))))∧(((I64 51539607552)∧(I64 (momF (corN 0 s n) (corG s g) x)))∧(((I64 (NB.v (ratN 51539607552 (momF (corN 0 s n) (corG s g) x))))∧(I64 (NB.v (intN d))))∧(R (SV.tup [(SV.agg [(SV.v (.int .i64 (NB.v (divN (ratN 131072 (areaF (corN 0 s n) (corG s g) x)) (intN d))))),(SV.v (.bool (NB.f (divN (ratN 131072 (areaF (corN 0 s n) (corG s g) x)) (intN d))))),(SV.v (.int .i64 (NB.v (divN (ratN 51539607552 (momF (corN 0 s n) (corG s g) x)) (intN d))))),(SV.v (.bool (NB.f (divN (ratN 51539607552 (momF (corN 0 s n) (corG s g) x)) (intN d)))))]),(SV.v (.int .i64 0))])))))))))))))))))))):=by kernel_rfl
theorem prod_gen {a b : Int} {A B C : Int} (ha : -A ≤ a ∧ a ≤ A) (hb : -B ≤ b ∧ b ≤ B) (hC : A * B = C) : -C ≤ a * b ∧ a * b ≤ C := by
  obtain ⟨a1, a2⟩ := ha
  obtain ⟨b1, b2⟩ := hb
  have h1 : (a + A) * (b + B) ≥ 0 := Int.mul_nonneg (by omega) (by omega)
  have h2 : (A - a) * (B - b) ≥ 0 := Int.mul_nonneg (by omega) (by omega)
  have h3 : (a + A) * (B - b) ≥ 0 := Int.mul_nonneg (by omega) (by omega)
  have h4 : (A - a) * (b + B) ≥ 0 := Int.mul_nonneg (by omega) (by omega)
  simp only [Int.add_mul, Int.mul_add, Int.sub_mul, Int.mul_sub] at h1 h2 h3 h4
  omega
theorem pow_bd {r : Int} (h : 0 ≤ r ∧ r ≤ 4096) : (0 ≤ r * r ∧ r * r ≤ 16777216) ∧ (0 ≤ r * r * r ∧ r * r * r ≤ 68719476736) ∧ 0 ≤ r * r * r * r ∧ r * r * r * r ≤ 281474976710656 := by
  have p1 := prod_gen (a := r) (b := r) (A := 4096) (B := 4096) ⟨by omega, by omega⟩ ⟨by omega, by omega⟩ rfl
  have n1 : 0 ≤ r * r := Int.mul_nonneg h.1 h.1
  have p2 := prod_gen (a := r * r) (b := r) (A := 16777216) (B := 4096) ⟨by omega, by omega⟩ ⟨by omega, by omega⟩ rfl
  have n2 : 0 ≤ r * r * r := Int.mul_nonneg n1 h.1
  have p3 := prod_gen (a := r * r * r) (b := r) (A := 68719476736) (B := 4096) ⟨by omega, by omega⟩ ⟨by omega, by omega⟩ rfl
  have n3 : 0 ≤ r * r * r * r := Int.mul_nonneg n2 h.1
  exact ⟨⟨n1, by omega⟩, ⟨n2, by omega⟩, n3, by omega⟩
theorem dots_bd {p q : Int × Int} (h : Q12 p.1 ∧ Q12 p.2) (k : Q12 q.1 ∧ Q12 q.2) : -100663296 ≤ dotP p p + dotP p q + dotP q q ∧ dotP p p + dotP p q + dotP q q ≤ 100663296 := by
  have a := dot_bd h h
  have b := dot_bd h k
  have c := dot_bd k k
  omega
theorem mom1_bd {p q : Int × Int} (h : Q12 p.1 ∧ Q12 p.2) (k : Q12 q.1 ∧ Q12 q.2) : -3377699720527872 ≤ crossP p q * (dotP p p + dotP p q + dotP q q) ∧ crossP p q * (dotP p p + dotP p q + dotP q q) ≤ 3377699720527872 :=
  prod_gen (A := 33554432) (B := 100663296) (cross_bd h k) (dots_bd h k) rfl
theorem area_bd {N : Nat} {g : Nat → Int × Int} (hg : ∀ i, i < N → Q12 (g i).1 ∧ Q12 (g i).2) : ∀ k, k ≤ N → (-33554432 * (k : Int) ≤ areaF N g k ∧ areaF N g k ≤ 33554432 * (k : Int)) ∧ -3377699720527872 * (k : Int) ≤ momF N g k ∧ momF N g k ≤ 3377699720527872 * (k : Int)
  | 0, _ => by unfold areaF momF; omega
  | k + 1, hk => by
    have ih := area_bd hg k (by omega)
    have hl : (k + 1) % N < N := Nat.mod_lt _ (by omega)
    have h1 := cross_bd (hg k (by omega)) (hg _ hl)
    have h2 := mom1_bd (hg k (by omega)) (hg _ hl)
    unfold areaF momF
    omega
theorem ni (a : Int) (b : Int) : I64 (ratN a b).v := (ratV_sd a b).i64
theorem nd (a b : NB) : I64 (divN a b).v := (ratV_sd _ _).i64
theorem nint (d : Int) : I64 (intN d).v := (fitE_sd _).i64
theorem ihalf : I64 13493037704 := ⟨by decide, by decide⟩
theorem wgh_ok {d : Int} (h1 : decide (d < 1) = false) (h2 : decide (d > 1000) = false) : wghE 0 d = 0 := by unfold wghE; rw [h1, h2]; rfl
theorem wgh_e {e d : Int} (h : (e != 0) = true) : wghE e d = e := by unfold wghE; rw [h]; rfl
theorem wgh_lo {e d : Int} (h : (e != 0) = false) (h1 : decide (d < 1) = true) : wghE e d = 3 := by unfold wghE; rw [h, h1]; rfl
theorem wgh_hi {e d : Int} (h : (e != 0) = false) (h1 : decide (d > 1000) = true) : wghE e d = 3 := by unfold wghE; rw [h, h1, Bool.or_true]; rfl
theorem wghV_no {e d : Int} {s : ShB} {n : Nat} {g : Nat → Int × Int} (h : (wghE e d != 0) = true) : wghV e s n g d = zeroV := by unfold wghV; rw [h]; rfl
theorem wghV_disc {d : Int} {s : ShB} {n : Nat} {g : Nat → Int × Int} (h : wghE 0 d = 0) (hk : (s.k == 1) = true) : wghV 0 s n g d = wDisc s.r d := by unfold wghV; rw [h, hk]; rfl
theorem wghV_poly {d : Int} {s : ShB} {n : Nat} {g : Nat → Int × Int} (h : wghE 0 d = 0) (hk : (s.k == 1) = false) : wghV 0 s n g d = wPoly (areaF (corN 0 s n) (corG s g) (corN 0 s n)) (momF (corN 0 s n) (corG s g) (corN 0 s n)) d := by unfold wghV; rw [h, hk]; rfl
theorem step_mom {p q : Int × Int} (h : Q12 p.1 ∧ Q12 p.2) (k : Q12 q.1 ∧ Q12 q.2) {m : Int} (hm : -36028797018963968 ≤ m ∧ m ≤ 36028797018963968) :
    IntKind.i64.wrap (m + IntKind.i64.wrap (crossI p.1 p.2 q.1 q.2 * IntKind.i64.wrap (IntKind.i64.wrap (dotI p.1 p.2 p.1 p.2 + dotI p.1 p.2 q.1 q.2) + dotI q.1 q.2 q.1 q.2))) = m + crossP p q * (dotP p p + dotP p q + dotP q q) := by
  have a := dot_bd h h
  have b := dot_bd h k
  have c := dot_bd k k
  have e := mom1_bd h k
  have e1 : dotP p p = dotI p.1 p.2 p.1 p.2 := rfl
  have e2 : dotP p q = dotI p.1 p.2 q.1 q.2 := rfl
  have e3 : dotP q q = dotI q.1 q.2 q.1 q.2 := rfl
  have e4 : crossP p q = crossI p.1 p.2 q.1 q.2 := rfl
  rw [← e1, ← e2, ← e3, ← e4]
  rw [wrap_i64 (n := dotP p p + dotP p q) ⟨by omega, by omega⟩, wrap_i64 (n := dotP p p + dotP p q + dotP q q) ⟨by omega, by omega⟩, wrap_i64 (n := crossP p q * _) ⟨by omega, by omega⟩, wrap_i64 ⟨by omega, by omega⟩]
theorem step_area {p q : Int × Int} (h : Q12 p.1 ∧ Q12 p.2) (k : Q12 q.1 ∧ Q12 q.2) {m : Int} (hm : -36028797018963968 ≤ m ∧ m ≤ 36028797018963968) : IntKind.i64.wrap (m + crossI p.1 p.2 q.1 q.2) = m + crossP p q := by
  have e := cross_bd h k
  have e4 : crossP p q = crossI p.1 p.2 q.1 q.2 := rfl
  rw [← e4, wrap_i64 ⟨by omega, by omega⟩]
theorem weigh_vc {s : ShB} {n c : Nat} {g : Nat → Int × Int} {d : Int} (hs : shOk s) (hd : I64 d) (hn : n < 1099511627776) (hg : ∀ i, i < n → I64 (g i).1 ∧ I64 (g i).2) : vcFn Try.prog ΓK0 (ΛWeigh (corN 0 s n) (corG s g)) Try.f16 [shS s (.sl 0 2 0 n c), .v (.int .i64 d)] (roHeap [⟨2, n, rowsP g⟩]) 64 (fun y _ => y = .tup [vS (wghV (chkS s n g) s n g d), .v (.int .i64 (wghE (chkS s n g) d))]) := by
  refine Eq.mpr (vcWeigh s n n c g d _) ?_
  have hpre := win_pre2 (n' := n) hn hg
  rw [gi_rows]
  simp only [win_g, gi_pt, Nat.zero_add]
  refine ⟨⟨hs, okAll_rows.2 fun i hi => hg i hi, by trivial, hn⟩, sel_of (fun h => ?_) fun h => ?_⟩
  · rw [wgh_e h, wghV_no (by rw [wgh_e h]; exact h)]; rfl
  have e0 := (eq_keep (s := zSh) h).2
  refine sel_of (fun h1 => ?_) fun h1 => sel_of (fun h2 => ?_) fun h2 => ⟨hd, sel_of (fun hk => ?_) fun hk => ⟨⟨hs, hpre⟩, fun c1 => ?_⟩⟩
  · rw [wghV_no (by rw [wgh_lo h h1]; rfl), wgh_lo h h1]; rfl
  · rw [wghV_no (by rw [wgh_hi h h2]; rfl), wgh_hi h h2]; rfl
  · have hw := wgh_ok h1 h2
    rw [e0, hw, wghV_disc hw hk]
    obtain ⟨⟨p1, p2⟩, ⟨p3, p4⟩, p5, p6⟩ := pow_bd (chk_r e0)
    rw [wrap_i64 (n := s.r * s.r) ⟨by omega, by omega⟩, wrap_i64 (n := s.r * s.r * s.r) ⟨by omega, by omega⟩, wrap_i64 ⟨by omega, by omega⟩]
    exact ⟨⟨⟨by decide, by decide⟩, by omega, by omega⟩, ⟨ni _ _, ihalf⟩, ⟨⟨by decide, by decide⟩, by omega, by omega⟩, ⟨ni _ _, ihalf⟩, ⟨nd _ _, nint _⟩, ⟨nd _ _, nint _⟩, rfl⟩
  · have hw := wgh_ok h1 h2
    rw [e0, hw, wghV_poly hw hk]
    have hN := corN_le e0
    have hq := corG_q e0
    have hb := area_bd hq
    generalize corN 0 s n = N at *
    refine ⟨⟨rfl, by omega, Nat.le_refl _, fun _ _ => by trivial⟩, ⟨0, by trivial, Nat.zero_le _, by trivial, ⟨by trivial, by trivial, fun _ _ => rfl⟩, by trivial, by trivial, fun _ _ => rfl⟩, fun x hx hlt => ?_, fun x hx he => ?_⟩
    · have hl : (x + 1) % N < N := Nat.mod_lt _ (by omega)
      obtain ⟨a1, a2⟩ := hq x hlt
      obtain ⟨b1, b2⟩ := hq _ hl
      have hbx := hb x (by omega)
      refine ⟨⟨⟨a1.sp, a2.sp⟩, b1.sp, b2.sp⟩, ⟨⟨a1.sp, a2.sp⟩, a1.sp, a2.sp⟩, ⟨⟨a1.sp, a2.sp⟩, b1.sp, b2.sp⟩, ⟨⟨b1.sp, b2.sp⟩, b1.sp, b2.sp⟩, x + 1, by trivial, hlt, by trivial, ⟨by trivial, by trivial, fun _ _ => ?_⟩, by trivial, by trivial, fun _ _ => ?_⟩
      · rw [step_area (hq x hlt) (hq _ hl) ⟨by omega, by omega⟩]; rfl
      · rw [step_mom (hq x hlt) (hq _ hl) ⟨by omega, by omega⟩]; rfl
    · have he : x = N := he
      subst he
      have hbx := hb x (Nat.le_refl _)
      exact ⟨⟨⟨by decide, by decide⟩, by omega, by omega⟩, ⟨ni _ _, nint _⟩, ⟨⟨by decide, by decide⟩, by omega, by omega⟩, ⟨ni _ _, nint _⟩, rfl⟩
theorem Weigh_spec : RoSpec Try.prog 16 sWeigh := ro_spec hm ΓK0_ok Try.func16 (Λ := fun args bs => match args, bs with | [.agg [.v (.int .i64 k), .v (.int .i64 r), .v (.int .i64 w), .v (.int .i64 h), .sl 0 2 0 n _], _], [⟨2, _, row⟩] => ΛWeigh (corN 0 ⟨k, r, w, h⟩ n) (corG ⟨k, r, w, h⟩ (fun i => gi (row i))) | _, _ => noΛ) fun args bs p x h hp => by
  unfold sWeigh at h
  split at h <;> try (cases h; done)
  rename_i k r w hh n c d n' row
  cases h
  obtain ⟨⟨hs, h0, rfl, hn⟩, hd⟩ := hp _ rfl
  have h0 := okAll_rows.1 h0
  refine ⟨rfl, [⟨2, n', rowsP fun i => gi (row i)⟩], ⟨⟨rfl, rfl, fun i hi => (isPI_row (h0 i hi)).1⟩, trivial⟩, ?_⟩
  exact weigh_vc (s := ⟨k, r, w, hh⟩) hs hd hn fun i hi => (isPI_row (h0 i hi)).2
end Go.Proofs.Ytlcfnlhognegcaa
end
section
namespace Go.Proofs.Ytlcfnlhognegcaa
open Go.SE Go.RowKit
end Go.Proofs.Ytlcfnlhognegcaa
end
section
namespace Go.Proofs.Ytlcfnlhognegcaa
open Go.SE Go.RowKit
def numK (n : Int) : NB := ⟨IntKind.i64.wrap (n * 4294967296), false⟩
def kitK (n s : Int) : NB := ⟨Int.tmod n (IntKind.i64.wrap (s * 4294967296)), false⟩
def sNumK : List SV → Option (Option Prop × SV)
  | [.v (.int .i64 n)] => some (none, nS (numK n))
  | _ => none
def sVecK : List SV → Option (Option Prop × SV)
  | [.v (.int .i64 x), .v (.int .i64 y)] => some (none, vS ⟨numK x, numK y⟩)
  | _ => none
def sKitNum : List SV → Option (Option Prop × SV)
  | [.v (.int .i64 n), .v (.int .i64 s)] => some (some (0 < s ∧ s < 1073741824), nS (kitK n s))
  | _ => none
def sModK : List SV → Option (Option Prop × SV)
  | [.v (.int .i64 n), .v (.int .i64 m)] => some (some (I64 n ∧ 0 < m ∧ I64 m), .v (.int .i64 (n % m)))
  | _ => none
theorem vcNumK (n : Int) (R : SV→Prop) : (vcPure Try.prog noCtrs noΛ Try.f19 [.v (.int .i64 n)] R) = (R (SV.agg [(SV.v (.int .i64 (IntKind.wrap IntKind.i64 (n * 4294967296)))),(SV.v (.bool false))])):=by kernel_rfl
theorem vcKitNum (n s : Int) (R : SV→Prop) : (vcPure Try.prog noCtrs noΛ Try.f6 [.v (.int .i64 n),.v (.int .i64 s)] R) = ((((IntKind.wrap IntKind.i64 (s * 4294967296)) : Int) ≠ 0)∧(R (SV.agg [(SV.v (.int .i64 (Int.tmod n (IntKind.wrap IntKind.i64 (s * 4294967296))))),(SV.v (.bool false))]))):=by kernel_rfl
theorem vcModK (n m : Int) (R : SV→Prop) : (vcPure Try.prog noCtrs noΛ Try.f4 [.v (.int .i64 n),.v (.int .i64 m)] R) = (((m : Int) ≠ 0)∧(sel (decide (Int.tmod n m < 0)) (R (SV.v (.int .i64 (IntKind.wrap IntKind.i64 (Int.tmod n m + m))))) (R (SV.v (.int .i64 (Int.tmod n m)))))):=by kernel_rfl
def ΓG0 : Ctrs := addCtr (addCtr noCtrs 19 (pureCtr sNumK)) 6 (pureCtr sKitNum)
theorem vcVecK (x y : Int) (R : SV→Prop) : (vcPure Try.prog ΓG0 noΛ Try.f14 [.v (.int .i64 x),.v (.int .i64 y)] R) = (R (SV.agg [(SV.v (.int .i64 (NB.v (numK x)))),(SV.v (.bool false)),(SV.v (.int .i64 (NB.v (numK y)))),(SV.v (.bool false))])):=by kernel_rfl
noncomputable def ΓG1 : Ctrs := addCtr (addCtr ΓK0 13 (pureCtr sUnit)) 9 (roCtr sReach)
noncomputable def ΓG2 : Ctrs := addCtr (ΓG1) 16 (roCtr sWeigh)
noncomputable def ΓG3 : Ctrs := addCtr (addCtr (addCtr (addCtr (addCtr (addCtr ΓG2 15 (hpCtr false sSquare)) 7 (hpCtr false sPoly)) 19 (pureCtr sNumK)) 14 (pureCtr sVecK)) 6 (pureCtr sKitNum)) 4 (pureCtr sModK)
def sAwake2 : List SV → Option (Option Prop × SV)
  | [] => some (none, .v (.bool true))
  | _ => none
theorem vcAwake2 (R : SV→Prop) : (vcPure Try.prog ΓG3 noΛ Try.f8 [] R) = (((I64 12884901888)∧(I64 (-17179869184)))∧(((I64 256)∧(I64 256))∧((((shOk {k:=2,r:=0,w:=256,h:=256})∧(True∧(((0 : Nat) = 0)∧((0 : Nat) < 1099511627776))))∧(I64 1))∧(((I64 3)∧(I64 (-4)))∧(((I64 12884901888)∧(I64 (-17179869184)))∧(R (SV.v (.bool true)))))))):=by kernel_rfl
noncomputable def ΓG : Ctrs := addCtr ΓG3 8 (pureCtr sAwake2)
theorem NumK_spec : PureSpec Try.prog 19 sNumK := vc_spec hm noCtrs_ok Try.func19 (Λ := fun _ => noΛ) fun args p x h hp => by
  unfold sNumK at h
  split at h <;> try (cases h; done)
  rename_i n
  cases h
  exact ⟨rfl, rfl, Eq.mpr (vcNumK n _) rfl⟩
theorem KitNum_spec : PureSpec Try.prog 6 sKitNum := vc_spec hm noCtrs_ok Try.func6 (Λ := fun _ => noΛ) fun args p x h hp => by
  unfold sKitNum at h
  split at h <;> try (cases h; done)
  rename_i n s
  cases h
  obtain ⟨h0, h1⟩ := hp _ rfl
  refine ⟨rfl, rfl, Eq.mpr (vcKitNum n s _) ?_⟩
  refine ⟨?_, rfl⟩
  rw [wrap_i64 ⟨by omega, by omega⟩]; omega
theorem ModK_spec : PureSpec Try.prog 4 sModK := vc_spec hm noCtrs_ok Try.func4 (Λ := fun _ => noΛ) fun args p x h hp => by
  unfold sModK at h
  split at h <;> try (cases h; done)
  rename_i n m
  cases h
  obtain ⟨⟨n0, n1⟩, h0, m0, m1⟩ := hp _ rfl
  refine ⟨rfl, rfl, Eq.mpr (vcModK n m _) ?_⟩
  have hb := Int.tmod_lt_of_pos n h0
  have ha : -m < Int.tmod n m := by
    have := Int.tmod_lt_of_pos (-n) h0
    rw [Int.neg_tmod] at this; omega
  refine ⟨by omega, sel_of (fun h => int_mk ?_) fun h => int_mk ?_⟩
  · have h := of_decide_eq_true h
    rw [wrap_i64 ⟨by omega, by omega⟩]
    have e := Int.tmod_add_tdiv_mul n m
    have : n = (Int.tmod n m + m) + (Int.tdiv n m - 1) * m := by rw [Int.sub_mul, Int.one_mul]; omega
    conv => rhs; rw [this]
    rw [Int.add_mul_emod_self_right, Int.emod_eq_of_lt (by omega) (by omega)]
  · have h := of_decide_eq_false h
    have e := Int.tmod_add_tdiv_mul n m
    conv => rhs; rw [← e]
    rw [Int.add_mul_emod_self_right, Int.emod_eq_of_lt (by omega) (by omega)]
theorem ΓG0_ok : ∀ f g, ΓG0 f = some g → g.ok Try.prog f := addCtr_ok (addCtr_ok (noCtrs_ok) (pure_ok Try.func19 (by kernel_rfl) (by kernel_rfl) NumK_spec)) (pure_ok Try.func6 (by kernel_rfl) (by kernel_rfl) KitNum_spec)
theorem VecK_spec : PureSpec Try.prog 14 sVecK := vc_spec hm ΓG0_ok Try.func14 (Λ := fun _ => noΛ) fun args p x h hp => by
  unfold sVecK at h
  split at h <;> try (cases h; done)
  rename_i x y
  cases h
  exact ⟨rfl, rfl, Eq.mpr (vcVecK x y _) rfl⟩
theorem ΓG1_ok : ∀ f g, ΓG1 f = some g → g.ok Try.prog f := addCtr_ok (addCtr_ok (ΓK0_ok) (pure_ok Try.func13 (by kernel_rfl) (by kernel_rfl) Unit_spec)) (ro_ok Try.func9 (by kernel_rfl) (by kernel_rfl) Reach_spec)
theorem ΓG2_ok : ∀ f g, ΓG2 f = some g → g.ok Try.prog f := addCtr_ok (ΓG1_ok) (ro_ok Try.func16 (by kernel_rfl) (by kernel_rfl) Weigh_spec)
theorem ΓG3_ok : ∀ f g, ΓG3 f = some g → g.ok Try.prog f := addCtr_ok (addCtr_ok (addCtr_ok (addCtr_ok (addCtr_ok (addCtr_ok (ΓG2_ok) (hp_ok Try.func15 (by kernel_rfl) (by kernel_rfl) Square_spec)) (hp_ok Try.func7 (by kernel_rfl) (by kernel_rfl) Poly_spec)) (pure_ok Try.func19 (by kernel_rfl) (by kernel_rfl) NumK_spec)) (pure_ok Try.func14 (by kernel_rfl) (by kernel_rfl) VecK_spec)) (pure_ok Try.func6 (by kernel_rfl) (by kernel_rfl) KitNum_spec)) (pure_ok Try.func4 (by kernel_rfl) (by kernel_rfl) ModK_spec)
theorem Awake2_spec : PureSpec Try.prog 8 sAwake2 := vc_spec hm ΓG3_ok Try.func8 (Λ := fun _ => noΛ) fun args p x h hp => by
  unfold sAwake2 at h
  split at h <;> try (cases h; done)
  cases h
  refine ⟨rfl, rfl, Eq.mpr (vcAwake2 _) ?_⟩
  exact ⟨⟨⟨by decide, by decide⟩, by decide, by decide⟩, ⟨⟨by decide, by decide⟩, by decide, by decide⟩, ⟨⟨⟨⟨⟨by decide, by decide⟩, by decide, by decide⟩, ⟨by decide, by decide⟩, by decide, by decide⟩, trivial, rfl, by decide⟩, by decide, by decide⟩, ⟨⟨by decide, by decide⟩, by decide, by decide⟩, ⟨⟨by decide, by decide⟩, by decide, by decide⟩, rfl⟩
theorem ΓG_ok : ∀ f g, ΓG f = some g → g.ok Try.prog f := addCtr_ok ΓG3_ok (pure_ok Try.func8 (by kernel_rfl) (by kernel_rfl) Awake2_spec)
end Go.Proofs.Ytlcfnlhognegcaa
end
end
