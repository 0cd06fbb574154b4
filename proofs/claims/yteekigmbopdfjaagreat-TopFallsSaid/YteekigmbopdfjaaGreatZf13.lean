/-
 What the proof uses, part 13.
-/
import Derived.RangeFuncNested
import Derived.RangeFuncBound
import Derived.Shelf.Abstract
import Derived.Shelf.RegionOpen
import Derived.OwnWalkIn
import Derived.TacticsInMore
import Derived.LoopNIn
import Derived.LoopIn
import Derived.BigRegionIn
import Derived.Stop.RegionWithIn
import Derived.Test.YteekigmbopdfjaaGreatZf12
set_option maxRecDepth 100000
set_option linter.unusedSimpArgs false
set_option linter.unusedVariables false

section
set_option maxHeartbeats 2000000
namespace Go.Proofs.YteekigmbopdfjaaGreat
open Go.RowKit Go.Shelf Go.SE
attribute [local go_sem] Oper.semAt_some
theorem Qb3 {a : Act} {t : Nat} {v : Value} (h : a.tmps[t]? = some v) : a.eval (.tmp t) = v := by
 simp [Act.eval, Array.getD_eq_getD_getElem?, h]
theorem Qu2 (l Bs b off len cap : Nat) (g : Nat → Int × Int) (hlen : len ≤ 1099511627776) (J : Nat → World → Prop) (Jx : World → Prop)
   (hC : ∀ k W, J k W → (∃ a, W.cell? ⟨Bs, 0, none⟩ = some (.slice a len cap) ∧ (0 < len → a = some ⟨b, off, none⟩)) ∧ ∀ j, j < len → W.cell? ⟨b, off + j * 2, none⟩ = some (.int .i64 (g j).1) ∧ W.cell? ⟨b, off + j * 2 + 1, none⟩ = some (.int .i64 (g j).2))
   (hY : ∀ k W, J k W → k < len → YieldAt Fence.wide 0 Tryz.prog l #[.agg #[.int .i64 k, .int .i64 (g k).1, .int .i64 (g k).2, .int .i64 (g ((k + 1) % len)).1, .int .i64 (g ((k + 1) % len)).2, .int .i64 (g ((k + 2) % len)).1, .int .i64 (g ((k + 2) % len)).2]] W fun e W' =>
     (e = .returned (.bool true) ∧ J (k + 1) W') ∨ (e = .returned (.bool false) ∧ Jx W'))
   (hB : ∀ k W W', J k W → Below W.heap.size W W' → J k W') (W : World) (h0 : J 0 W) :
   CallsIn Fence.wide 1 Tryz.prog 167 #[.func (.yield l) #[] #[], .pointer (some ⟨Bs, 0, none⟩)] W fun e W' => (∃ v, e = .returned v) ∧ (J len W' ∨ Jx W') := by
 refine callsIn_of_wp Tryz.func167 rfl trivial ?_ rfl
 simp only [Tryz.ntmps167, List.size_toArray, List.length_cons, List.length_nil, Nat.reduceAdd, Nat.reduceSub, Array.replicate_succ, Array.replicate_zero, List.push_toArray, List.append_toArray, List.nil_append, List.cons_append]
 obtain ⟨a, hc0, ha⟩ := (hC 0 W h0).1
 gi_wp2
 gi_loopw [8] (fun i wr => ∃ k : Nat, k ≤ len ∧ i = .int .i64 k ∧ J k wr) (fun i _ => len - (intOf i).toNat)
 case atStart => exact ⟨0, Nat.zero_le _, rfl, h0⟩
 case round =>
   obtain ⟨k, hk, rfl, hJs⟩ := hrel
   obtain ⟨⟨a', hcb, ha'⟩, hcs⟩ := hC k wr hJs
   by_cases hlt : k < len
   · obtain rfl := ha (by omega)
     obtain rfl := ha' (by omega)
     clear ha ha'
     obtain ⟨fn, tmps, assign, body, hy, hR⟩ := hY k wr.drew (hB k wr _ hJs ((Below.refl _ wr).drew)) hlt
     have hR' := hR.mono (R' := fun e W' => ∃ t : Bool, e = .returned (.bool t) ∧ ((t = true ∧ J (k + 1) W') ∨ (t = false ∧ Jx W'))) (fun e W' h => by
       rcases h with ⟨rfl, h⟩ | ⟨rfl, h⟩
       · exact ⟨true, rfl, .inl ⟨rfl, h⟩⟩
       · exact ⟨false, rfl, .inr ⟨rfl, h⟩⟩)
     clear hR
     obtain ⟨c0, c0'⟩ := hcs k hlt
     have l1 : (k + 1) % len < len := Nat.mod_lt _ (by omega)
     have l2 : (k + 2) % len < len := Nat.mod_lt _ (by omega)
     have e1 : ((k : Int) + 1) % (len : Int) = (((k + 1) % len : Nat) : Int) := by rw [Int.natCast_emod]; rfl
     have e2 : ((k : Int) + 2) % (len : Int) = (((k + 2) % len : Nat) : Int) := by rw [Int.natCast_emod]; rfl
     have e1' : ((k + 1 : Nat) : Int) % (len : Int) = (((k + 1) % len : Nat) : Int) := by rw [Int.natCast_emod]
     have e2' : ((k + 2 : Nat) : Int) % (len : Int) = (((k + 2) % len : Nat) : Int) := by rw [Int.natCast_emod]
     have b1 : ((k : Int) + 1) % (len : Int) < (len : Int) := Int.emod_lt_of_pos _ (by omega)
     have b1' : 0 ≤ ((k : Int) + 1) % (len : Int) := Int.emod_nonneg _ (by omega)
     have t1 : Int.tmod ((k : Int) + 1) (len : Int) = (((k + 1) % len : Nat) : Int) := by rw [Int.tmod_eq_emod_of_nonneg (by omega), Int.natCast_emod]; rfl
     have t2 : Int.tmod ((k : Int) + 2) (len : Int) = (((k + 2) % len : Nat) : Int) := by rw [Int.tmod_eq_emod_of_nonneg (by omega), Int.natCast_emod]; rfl
     have w1 : (IntKind.i64.wrap ((k : Int) + 1)).tmod (len : Int) = (((k + 1) % len : Nat) : Int) := by rw [Qaf ⟨by omega, by omega⟩]; exact t1
     have w2 : (IntKind.i64.wrap ((k : Int) + 2)).tmod (len : Int) = (((k + 2) % len : Nat) : Int) := by rw [Qaf ⟨by omega, by omega⟩]; exact t2
     generalize (k + 1) % len = j1 at *
     generalize (k + 2) % len = j2 at *
     obtain ⟨c1, c1'⟩ := hcs _ l1
     obtain ⟨c2, c2'⟩ := hcs _ l2
     clear hC hY hcs
     have f0 : (len : Int) ≠ 0 := by omega
     have f0' : ¬ len = 0 := by omega
     have fk : (k : Int) < (len : Int) := by omega
     have f1 : (j1 : Int) < (len : Int) := by omega
     have f2 : (j2 : Int) < (len : Int) := by omega
     have fk' : ¬ (len : Int) ≤ (k : Int) := by omega
     have f1' : ¬ (len : Int) ≤ (j1 : Int) := by omega
     have f2' : ¬ (len : Int) ≤ (j2 : Int) := by omega
     have gk : ¬ len ≤ k := by omega
     have g1 : ¬ len ≤ j1 := by omega
     have g2 : ¬ len ≤ j2 := by omega
     gi_wp2
     refine Qyd (ro := none) (m := 21) (T := #[.func (.yield l) #[] #[], .pointer (some ⟨Bs, 0, none⟩), undef, .int .i64 (len), .int .i64 (k), .slice (some ⟨b, off, none⟩) len cap, .int .i64 (len), .int .i64 (len), .int .i64 (k), .bool true, .int .i64 (k), .func (.yield l) #[] #[], .int .i64 (k), .slice (some ⟨b, off, none⟩) len cap, .int .i64 (k), .pointer (some ⟨b, off + k * 2, none⟩), .agg #[.int .i64 (g k).1, .int .i64 (g k).2], .slice (some ⟨b, off, none⟩) len cap, .int .i64 (k), .int .i64 (IntKind.i64.wrap ((k : Int) + 1)), .int .i64 (len), .int .i64 (j1), .pointer (some ⟨b, off + j1 * 2, none⟩), .agg #[.int .i64 (g j1).1, .int .i64 (g j1).2], .slice (some ⟨b, off, none⟩) len cap, .int .i64 (k), .int .i64 (IntKind.i64.wrap ((k : Int) + 2)), .int .i64 (len), .int .i64 (j2), .pointer (some ⟨b, off + j2 * 2, none⟩), .agg #[.int .i64 (g j2).1, .int .i64 (g j2).2], .agg #[.int .i64 k, .int .i64 (g k).1, .int .i64 (g k).2, .int .i64 (g j1).1, .int .i64 (g j1).2, .int .i64 (g j2).1, .int .i64 (g j2).2], u32, u33, u34]) (dst := fun i => i + 11) (vals := fun i => ([.func (.yield l) #[] #[], .int .i64 (k), .slice (some ⟨b, off, none⟩) len cap, .int .i64 (k), .pointer (some ⟨b, off + k * 2, none⟩), .agg #[.int .i64 (g k).1, .int .i64 (g k).2], .slice (some ⟨b, off, none⟩) len cap, .int .i64 (k), .int .i64 (IntKind.i64.wrap ((k : Int) + 1)), .int .i64 (len), .int .i64 (j1), .pointer (some ⟨b, off + j1 * 2, none⟩), .agg #[.int .i64 (g j1).1, .int .i64 (g j1).2], .slice (some ⟨b, off, none⟩) len cap, .int .i64 (k), .int .i64 (IntKind.i64.wrap ((k : Int) + 2)), .int .i64 (len), .int .i64 (j2), .pointer (some ⟨b, off + j2 * 2, none⟩), .agg #[.int .i64 (g j2).1, .int .i64 (g j2).2], .agg #[.int .i64 k, .int .i64 (g k).1, .int .i64 (g k).2, .int .i64 (g j1).1, .int .i64 (g j1).2, .int .i64 (g j2).1, .int .i64 (g j2).2]] : List Value).getD i undef) rfl (fun i j _ _ h => by simpa using h) (fun i hi => by simp; omega) (by simp) (fun j o ho e he hb => by have := Qd7 (k := 0) rfl j o (by simpa using ho) e (by simpa using he) hb; omega) ?_ ?_ (by kernel_rfl) ?_
     · intro i hi o ho j hj
       have hi' := (Array.getElem?_eq_some_iff.1 ho).1
       simp only [List.size_toArray, List.length_cons, List.length_nil] at hi'
       obtain rfl | rfl : i = 21 ∨ i = 22 := by omega
       · exact (by decide : ∀ j, j < 21 → Nat.testBit 2097151 j = true) j hj
       · exact (by decide : ∀ j, j < 21 → Nat.testBit 4194303 j = true) j hj
     · intro i hi o ho
       obtain rfl | rfl | rfl | rfl | rfl | rfl | rfl | rfl | rfl | rfl | rfl | rfl | rfl | rfl | rfl | rfl | rfl | rfl | rfl | rfl | rfl : i = 0 ∨ i = 1 ∨ i = 2 ∨ i = 3 ∨ i = 4 ∨ i = 5 ∨ i = 6 ∨ i = 7 ∨ i = 8 ∨ i = 9 ∨ i = 10 ∨ i = 11 ∨ i = 12 ∨ i = 13 ∨ i = 14 ∨ i = 15 ∨ i = 16 ∨ i = 17 ∨ i = 18 ∨ i = 19 ∨ i = 20 := by omega
       · have ho := (Option.some.inj ho).symm; subst ho
         refine ⟨rfl, rfl, fun c h => (by simp at h), fun b' _ hE hm => ?_⟩
         have y0 : b'.eval (.tmp 0) = .func (.yield l) #[] #[] := Qb3 (hm 0 (fun j _ => by omega))
         clear hE hm
         generalize b'.eval = E at *
         show Sem.run _ _ _ = Result.ok (Next.value (.func (.yield l) #[] #[])) _
         go_simp
       · have ho := (Option.some.inj ho).symm; subst ho
         refine ⟨rfl, rfl, fun c h => (by simp at h), fun b' _ hE hm => ?_⟩
         have y4 : b'.eval (.tmp 4) = .int .i64 (k) := Qb3 (hm 4 (fun j _ => by omega))
         clear hE hm
         generalize b'.eval = E at *
         show Sem.run _ _ _ = Result.ok (Next.value (.int .i64 (k))) _
         go_simp
       · have ho := (Option.some.inj ho).symm; subst ho
         refine ⟨rfl, rfl, fun c h => (by simp at h), fun b' _ hE hm => ?_⟩
         have y1 : b'.eval (.tmp 1) = .pointer (some ⟨Bs, 0, none⟩) := Qb3 (hm 1 (fun j _ => by omega))
         clear hE hm
         generalize b'.eval = E at *
         show Sem.run _ _ _ = Result.ok (Next.value (.slice (some ⟨b, off, none⟩) len cap)) _
         go_simp
       · have ho := (Option.some.inj ho).symm; subst ho
         refine ⟨rfl, rfl, fun c h => (by simp at h), fun b' _ hE hm => ?_⟩
         have y4 : b'.eval (.tmp 4) = .int .i64 (k) := Qb3 (hm 4 (fun j _ => by omega))
         clear hE hm
         generalize b'.eval = E at *
         show Sem.run _ _ _ = Result.ok (Next.value (.int .i64 (k))) _
         go_simp
       · have ho := (Option.some.inj ho).symm; subst ho
         refine ⟨rfl, rfl, fun c h => (by simp at h), fun b' _ hE hm => ?_⟩
         have x2 : b'.eval (.tmp 13) = .slice (some ⟨b, off, none⟩) len cap := Qb3 (hE ⟨2, .data⟩ (by simp) (by decide) rfl)
         have x3 : b'.eval (.tmp 14) = .int .i64 (k) := Qb3 (hE ⟨3, .data⟩ (by simp) (by decide) rfl)
         clear hE hm
         generalize b'.eval = E at *
         show Sem.run _ _ _ = Result.ok (Next.value (.pointer (some ⟨b, off + k * 2, none⟩))) _
         go_simp
       · have ho := (Option.some.inj ho).symm; subst ho
         refine ⟨rfl, rfl, fun c h => (by simp at h), fun b' _ hE hm => ?_⟩
         have x4 : b'.eval (.tmp 15) = .pointer (some ⟨b, off + k * 2, none⟩) := Qb3 (hE ⟨4, .data⟩ (by simp) (by decide) rfl)
         clear hE hm
         generalize b'.eval = E at *
         show Sem.run _ _ _ = Result.ok (Next.value (.agg #[.int .i64 (g k).1, .int .i64 (g k).2])) _
         go_simp
       · have ho := (Option.some.inj ho).symm; subst ho
         refine ⟨rfl, rfl, fun c h => (by simp at h), fun b' _ hE hm => ?_⟩
         have y1 : b'.eval (.tmp 1) = .pointer (some ⟨Bs, 0, none⟩) := Qb3 (hm 1 (fun j _ => by omega))
         clear hE hm
         generalize b'.eval = E at *
         show Sem.run _ _ _ = Result.ok (Next.value (.slice (some ⟨b, off, none⟩) len cap)) _
         go_simp
       · have ho := (Option.some.inj ho).symm; subst ho
         refine ⟨rfl, rfl, fun c h => (by simp at h), fun b' _ hE hm => ?_⟩
         have y4 : b'.eval (.tmp 4) = .int .i64 (k) := Qb3 (hm 4 (fun j _ => by omega))
         clear hE hm
         generalize b'.eval = E at *
         show Sem.run _ _ _ = Result.ok (Next.value (.int .i64 (k))) _
         go_simp
       · have ho := (Option.some.inj ho).symm; subst ho
         refine ⟨rfl, rfl, fun c h => (by simp at h), fun b' _ hE hm => ?_⟩
         have x7 : b'.eval (.tmp 18) = .int .i64 (k) := Qb3 (hE ⟨7, .data⟩ (by simp) (by decide) rfl)
         clear hE hm
         have z : b'.eval (.const (.int .i64 1)) = .int .i64 1 := rfl
         generalize b'.eval = E at *
         show Sem.run _ _ _ = Result.ok (Next.value (.int .i64 (IntKind.i64.wrap ((k : Int) + 1)))) _
         go_simp
       · have ho := (Option.some.inj ho).symm; subst ho
         refine ⟨rfl, rfl, fun c h => (by simp at h), fun b' _ hE hm => ?_⟩
         have y3 : b'.eval (.tmp 3) = .int .i64 (len) := Qb3 (hm 3 (fun j _ => by omega))
         clear hE hm
         generalize b'.eval = E at *
         show Sem.run _ _ _ = Result.ok (Next.value (.int .i64 (len))) _
         go_simp
       · have ho := (Option.some.inj ho).symm; subst ho
         refine ⟨rfl, rfl, fun c h => (by simp at h), fun b' _ hE hm => ?_⟩
         have x8 : b'.eval (.tmp 19) = .int .i64 (IntKind.i64.wrap ((k : Int) + 1)) := Qb3 (hE ⟨8, .data⟩ (by simp) (by decide) rfl)
         have x9 : b'.eval (.tmp 20) = .int .i64 (len) := Qb3 (hE ⟨9, .data⟩ (by simp) (by decide) rfl)
         clear hE hm
         generalize b'.eval = E at *
         show Sem.run _ _ _ = Result.ok (Next.value (.int .i64 (j1))) _
         go_simp
       · have ho := (Option.some.inj ho).symm; subst ho
         refine ⟨rfl, rfl, fun c h => (by simp at h), fun b' _ hE hm => ?_⟩
         have x6 : b'.eval (.tmp 17) = .slice (some ⟨b, off, none⟩) len cap := Qb3 (hE ⟨6, .data⟩ (by simp) (by decide) rfl)
         have x10 : b'.eval (.tmp 21) = .int .i64 (j1) := Qb3 (hE ⟨10, .data⟩ (by simp) (by decide) rfl)
         clear hE hm
         generalize b'.eval = E at *
         show Sem.run _ _ _ = Result.ok (Next.value (.pointer (some ⟨b, off + j1 * 2, none⟩))) _
         go_simp
       · have ho := (Option.some.inj ho).symm; subst ho
         refine ⟨rfl, rfl, fun c h => (by simp at h), fun b' _ hE hm => ?_⟩
         have x11 : b'.eval (.tmp 22) = .pointer (some ⟨b, off + j1 * 2, none⟩) := Qb3 (hE ⟨11, .data⟩ (by simp) (by decide) rfl)
         clear hE hm
         generalize b'.eval = E at *
         show Sem.run _ _ _ = Result.ok (Next.value (.agg #[.int .i64 (g j1).1, .int .i64 (g j1).2])) _
         go_simp
       · have ho := (Option.some.inj ho).symm; subst ho
         refine ⟨rfl, rfl, fun c h => (by simp at h), fun b' _ hE hm => ?_⟩
         have y1 : b'.eval (.tmp 1) = .pointer (some ⟨Bs, 0, none⟩) := Qb3 (hm 1 (fun j _ => by omega))
         clear hE hm
         generalize b'.eval = E at *
         show Sem.run _ _ _ = Result.ok (Next.value (.slice (some ⟨b, off, none⟩) len cap)) _
         go_simp
       · have ho := (Option.some.inj ho).symm; subst ho
         refine ⟨rfl, rfl, fun c h => (by simp at h), fun b' _ hE hm => ?_⟩
         have y4 : b'.eval (.tmp 4) = .int .i64 (k) := Qb3 (hm 4 (fun j _ => by omega))
         clear hE hm
         generalize b'.eval = E at *
         show Sem.run _ _ _ = Result.ok (Next.value (.int .i64 (k))) _
         go_simp
       · have ho := (Option.some.inj ho).symm; subst ho
         refine ⟨rfl, rfl, fun c h => (by simp at h), fun b' _ hE hm => ?_⟩
         have x14 : b'.eval (.tmp 25) = .int .i64 (k) := Qb3 (hE ⟨14, .data⟩ (by simp) (by decide) rfl)
         clear hE hm
         have z : b'.eval (.const (.int .i64 2)) = .int .i64 2 := rfl
         generalize b'.eval = E at *
         show Sem.run _ _ _ = Result.ok (Next.value (.int .i64 (IntKind.i64.wrap ((k : Int) + 2)))) _
         go_simp
       · have ho := (Option.some.inj ho).symm; subst ho
         refine ⟨rfl, rfl, fun c h => (by simp at h), fun b' _ hE hm => ?_⟩
         have y3 : b'.eval (.tmp 3) = .int .i64 (len) := Qb3 (hm 3 (fun j _ => by omega))
         clear hE hm
         generalize b'.eval = E at *
         show Sem.run _ _ _ = Result.ok (Next.value (.int .i64 (len))) _
         go_simp
       · have ho := (Option.some.inj ho).symm; subst ho
         refine ⟨rfl, rfl, fun c h => (by simp at h), fun b' _ hE hm => ?_⟩
         have x15 : b'.eval (.tmp 26) = .int .i64 (IntKind.i64.wrap ((k : Int) + 2)) := Qb3 (hE ⟨15, .data⟩ (by simp) (by decide) rfl)
         have x16 : b'.eval (.tmp 27) = .int .i64 (len) := Qb3 (hE ⟨16, .data⟩ (by simp) (by decide) rfl)
         clear hE hm
         generalize b'.eval = E at *
         show Sem.run _ _ _ = Result.ok (Next.value (.int .i64 (j2))) _
         go_simp
       · have ho := (Option.some.inj ho).symm; subst ho
         refine ⟨rfl, rfl, fun c h => (by simp at h), fun b' _ hE hm => ?_⟩
         have x13 : b'.eval (.tmp 24) = .slice (some ⟨b, off, none⟩) len cap := Qb3 (hE ⟨13, .data⟩ (by simp) (by decide) rfl)
         have x17 : b'.eval (.tmp 28) = .int .i64 (j2) := Qb3 (hE ⟨17, .data⟩ (by simp) (by decide) rfl)
         clear hE hm
         generalize b'.eval = E at *
         show Sem.run _ _ _ = Result.ok (Next.value (.pointer (some ⟨b, off + j2 * 2, none⟩))) _
         go_simp
       · have ho := (Option.some.inj ho).symm; subst ho
         refine ⟨rfl, rfl, fun c h => (by simp at h), fun b' _ hE hm => ?_⟩
         have x18 : b'.eval (.tmp 29) = .pointer (some ⟨b, off + j2 * 2, none⟩) := Qb3 (hE ⟨18, .data⟩ (by simp) (by decide) rfl)
         clear hE hm
         generalize b'.eval = E at *
         show Sem.run _ _ _ = Result.ok (Next.value (.agg #[.int .i64 (g j2).1, .int .i64 (g j2).2])) _
         go_simp
       · have ho := (Option.some.inj ho).symm; subst ho
         refine ⟨rfl, rfl, fun c h => (by simp at h), fun b' _ hE hm => ?_⟩
         have x1 : b'.eval (.tmp 12) = .int .i64 (k) := Qb3 (hE ⟨1, .data⟩ (by simp) (by decide) rfl)
         have x5 : b'.eval (.tmp 16) = .agg #[.int .i64 (g k).1, .int .i64 (g k).2] := Qb3 (hE ⟨5, .data⟩ (by simp) (by decide) rfl)
         have x12 : b'.eval (.tmp 23) = .agg #[.int .i64 (g j1).1, .int .i64 (g j1).2] := Qb3 (hE ⟨12, .data⟩ (by simp) (by decide) rfl)
         have x19 : b'.eval (.tmp 30) = .agg #[.int .i64 (g j2).1, .int .i64 (g j2).2] := Qb3 (hE ⟨19, .data⟩ (by simp) (by decide) rfl)
         clear hE hm
         generalize b'.eval = E at *
         show Sem.run _ _ _ = Result.ok (Next.value (.agg #[.int .i64 k, .int .i64 (g k).1, .int .i64 (g k).2, .int .i64 (g j1).1, .int .i64 (g j1).2, .int .i64 (g j2).1, .int .i64 (g j2).2])) _
         go_simp
     · intro li hs hc h1 h0
       refine Qwo (fuel := 1) (m := 21) (o := { dst := some 32, op := Op.call { callee := Callee.value (Operand.tmp 11), args := #[Operand.tmp 31], argTypes := #[187] }, type := 4, pos := "plane.go:157", after := #[{ on := 0, ground := Ground.data }, { on := 20, ground := Ground.data }], guard := none }) hs hc h1 h0 (fun j o ho e he hb => by have := Qd7 (k := 0) rfl j o (by simpa using ho) e (by simpa using he) hb; omega) rfl rfl ?_ ?_
       · intro i hi o ho
         have hi' := (Array.getElem?_eq_some_iff.1 ho).1
         simp only [List.size_toArray, List.length_cons, List.length_nil] at hi'
         obtain rfl : i = 22 := by omega
         rfl
       · intro li hs hc h1 h0
         refine ⟨fun _ _ => trivial, ?_⟩
         rw [show (Oper.semAt _ _ _).run Tryz.prog wr.drew = .ok (.round l fn tmps assign body) wr.drew from by
           rw [Oper.semAt_eq _ _ _ (fun c h => (by simp at h))]
           go_simp]
         rw [Oper.uponIn_round]
         refine ⟨fun h => (by cases h), hR'.mono ?_⟩
         rintro e W3 ⟨t, rfl, ht⟩
         refine Qwo (fuel := 0) (m := 22) (o := { dst := some 33, op := Op.unOp UnOp.not 4 (Operand.tmp 32), type := 4, pos := "plane.go:157", after := #[{ on := 21, ground := Ground.data }], guard := none }) hs hc h1 h0 (fun j o ho e he hb => by have := Qd7 (k := 0) rfl j o (by simpa using ho) e (by simpa using he) hb; omega) rfl rfl (fun i hi o ho => absurd (Array.getElem?_eq_some_iff.1 ho).1 (by simp; omega)) ?_
         intro li hs hc h1 h0
         change Oper.wpIn (WF none) 1 Tryz.prog _ { tmps := #[.func (.yield l) #[] #[], .pointer (some ⟨Bs, 0, none⟩), undef, .int .i64 (len), .int .i64 (k), .slice (some ⟨b, off, none⟩) len cap, .int .i64 (len), .int .i64 (len), .int .i64 (k), .bool true, .int .i64 (k), .func (.yield l) #[] #[], .int .i64 (k), .slice (some ⟨b, off, none⟩) len cap, .int .i64 (k), .pointer (some ⟨b, off + k * 2, none⟩), .agg #[.int .i64 (g k).1, .int .i64 (g k).2], .slice (some ⟨b, off, none⟩) len cap, .int .i64 (k), .int .i64 (IntKind.i64.wrap ((k : Int) + 1)), .int .i64 (len), .int .i64 (j1), .pointer (some ⟨b, off + j1 * 2, none⟩), .agg #[.int .i64 (g j1).1, .int .i64 (g j1).2], .slice (some ⟨b, off, none⟩) len cap, .int .i64 (k), .int .i64 (IntKind.i64.wrap ((k : Int) + 2)), .int .i64 (len), .int .i64 (j2), .pointer (some ⟨b, off + j2 * 2, none⟩), .agg #[.int .i64 (g j2).1, .int .i64 (g j2).2], .agg #[.int .i64 k, .int .i64 (g k).1, .int .i64 (g k).2, .int .i64 (g j1).1, .int .i64 (g j1).2, .int .i64 (g j2).1, .int .i64 (g j2).2], .bool t, u33, u34], defers := [] } W3 _ _
         refine ⟨fun _ _ => trivial, ?_⟩
         rw [show (Oper.semAt _ _ _).run Tryz.prog W3 = .ok (.value (.bool (!t))) W3 from by
           rw [Oper.semAt_eq _ _ _ (fun c h => (by simp at h))]
           go_simp]
         rw [Oper.uponIn_value]
         refine Q7c hs h1 ?_
         change Exit.then _ _ Exit.normal { tmps := #[.func (.yield l) #[] #[], .pointer (some ⟨Bs, 0, none⟩), undef, .int .i64 (len), .int .i64 (k), .slice (some ⟨b, off, none⟩) len cap, .int .i64 (len), .int .i64 (len), .int .i64 (k), .bool true, .int .i64 (k), .func (.yield l) #[] #[], .int .i64 (k), .slice (some ⟨b, off, none⟩) len cap, .int .i64 (k), .pointer (some ⟨b, off + k * 2, none⟩), .agg #[.int .i64 (g k).1, .int .i64 (g k).2], .slice (some ⟨b, off, none⟩) len cap, .int .i64 (k), .int .i64 (IntKind.i64.wrap ((k : Int) + 1)), .int .i64 (len), .int .i64 (j1), .pointer (some ⟨b, off + j1 * 2, none⟩), .agg #[.int .i64 (g j1).1, .int .i64 (g j1).2], .slice (some ⟨b, off, none⟩) len cap, .int .i64 (k), .int .i64 (IntKind.i64.wrap ((k : Int) + 2)), .int .i64 (len), .int .i64 (j2), .pointer (some ⟨b, off + j2 * 2, none⟩), .agg #[.int .i64 (g j2).1, .int .i64 (g j2).2], .agg #[.int .i64 k, .int .i64 (g k).1, .int .i64 (g k).2, .int .i64 (g j1).1, .int .i64 (g j1).2, .int .i64 (g j2).1, .int .i64 (g j2).2], .bool t, .bool (!t), u34], defers := [] } W3
         clear hy hR' hcb c0 c0' c1 c1' c2 c2' hs hc h1 h0
         rcases ht with ⟨rfl, hJ⟩ | ⟨rfl, hX⟩
         · gi_wp2
           exact ⟨⟨k + 1, by omega, by simp, hJ⟩, by simp only [RowKit.intOf]; omega⟩
         · gi_wp2
           refine bodyPost_ret (results_none rfl _ _ _) rfl ?_
           exact ⟨⟨_, rfl⟩, .inr hX⟩
   · obtain rfl : k = len := by omega
     gi_wp2
     go_end0
     exact ⟨⟨_, rfl⟩, .inl hJs⟩
def gi : List SV → Int × Int
 | [.v (.int _ x), .v (.int _ y)] => (x, y)
 | _ => (0, 0)
def Qlf (caps : List SV) (h : Qbw) : Option (Prop × Nat × Nat × (Nat → List SV) × List Nat) :=
 match caps with
 | [.vp kb 0] => match h kb with
   | some bb => match bb.row 0 with
     | [.sl k s i n cap] => match h k with
       | some b => bif !bb.dead && !b.dead && bb.whole && Nat.beq bb.size 1 && Nat.beq bb.n 1 && Nat.beq b.size 2 && Nat.beq s 2 then
           some ((n ≤ 1099511627776 ∧ i + n ≤ b.n ∧ ∀ j, j < n → b.row (i + j) = [.v (.int .i64 (gi (b.row (i + j))).1), .v (.int .i64 (gi (b.row (i + j))).2)]), n, 1,
             fun j => [.agg [.v (.int .i64 j), .v (.int .i64 (gi (b.row (i + j))).1), .v (.int .i64 (gi (b.row (i + j))).2), .v (.int .i64 (gi (b.row (i + (j + 1) % n))).1), .v (.int .i64 (gi (b.row (i + (j + 1) % n))).2), .v (.int .i64 (gi (b.row (i + (j + 2) % n))).1), .v (.int .i64 (gi (b.row (i + (j + 2) % n))).2)]], [kb, k])
         else none
       | none => none
     | _ => none
   | none => none
 | _ => none
theorem Qre : Zmg Tryz.prog 167 Qlf := by
 intro caps h p N m item ks hr hp δ w lb hl hh
 unfold Qlf at hr
 split at hr
 case h_2 => cases hr
 rename_i kb
 split at hr
 case h_2 => cases hr
 rename_i bb hbb
 split at hr
 case h_2 => cases hr
 rename_i k s i n cap hrow
 split at hr
 case h_2 => cases hr
 rename_i b hb
 cases hc : (!bb.dead && !b.dead && bb.whole && Nat.beq bb.size 1 && Nat.beq bb.n 1 && Nat.beq b.size 2 && Nat.beq s 2) with
 | false => rw [hc] at hr; cases hr
 | true =>
   rw [hc] at hr
   simp only [cond_true, Option.some.injEq, Prod.mk.injEq] at hr
   obtain ⟨rfl, rfl, rfl, rfl, rfl⟩ := hr
   simp only [Bool.and_eq_true, Bool.not_eq_true', Nat.beq_eq] at hc
   obtain ⟨⟨⟨⟨⟨⟨d1, d2⟩, hw⟩, z1⟩, z2⟩, z3⟩, rfl⟩ := hc
   obtain ⟨hn, hin, hrows⟩ := hp
   refine ⟨fun args w => rfl, fun j => #[.agg #[.int .i64 j, .int .i64 (gi (b.row (i + j))).1, .int .i64 (gi (b.row (i + j))).2, .int .i64 (gi (b.row (i + (j + 1) % n))).1, .int .i64 (gi (b.row (i + (j + 1) % n))).2, .int .i64 (gi (b.row (i + (j + 2) % n))).1, .int .i64 (gi (b.row (i + (j + 2) % n))).2]], fun j hj => ⟨?_, rfl⟩, ?_⟩
   · simp [Qa9, Qay]
   · obtain ⟨q, hq, hqn, rfl⟩ : ∃ q, δ kb = some q ∧ 0 < q.n ∧ lb = [.pointer (some ⟨q.r, q.o + 0, none⟩)] := by
       match lb, hl with
       | [r], hl =>
         simp only [Qa9, Qay, and_true] at hl
         obtain ⟨q, h1, h2, rfl⟩ := hl
         exact ⟨q, h1, h2, rfl⟩
       | [], hl => simp [Qa9] at hl
       | _ :: _ :: _, hl => simp [Qa9] at hl
     obtain ⟨q2, hq2, hlive2⟩ := hh.blk k b hb
     obtain ⟨q1, hq1, hlive1⟩ := hh.blk kb bb hbb
     rw [hq] at hq1; cases hq1
     have hno : q.no = false := by
       cases e : q.no with
       | false => rfl
       | true => have := ((hlive1 d1).no e).1; omega
     have ho : q.o = 0 := by
       obtain ⟨c, e, fz, _, _, _, _, _, h7, _⟩ := (hlive1 d1).rep hno
       exact (h7 hw).1
     have hCk : ∀ W, Zi8 δ h [kb, k] W → (∃ a, W.cell? ⟨q.r, 0, none⟩ = some (.slice a n cap) ∧ (0 < n → a = some ⟨q2.r, q2.o + i * 2, none⟩)) ∧ ∀ j, j < n → W.cell? ⟨q2.r, q2.o + i * 2 + j * 2, none⟩ = some (.int .i64 (gi (b.row (i + j))).1) ∧ W.cell? ⟨q2.r, q2.o + i * 2 + j * 2 + 1, none⟩ = some (.int .i64 (gi (b.row (i + j))).2) := by
       rintro W ⟨δ', hδ, hK⟩
       have L1 := hK kb (by simp) bb q hbb hq d1
       have L2 := hK k (by simp) b q2 hb hq2 d2
       constructor
       · obtain ⟨c, e, fz, hc, _, _, _, _, _, h8⟩ := L1.rep hno
         obtain ⟨_, h9⟩ := h8 0 (by omega)
         obtain ⟨r, hr, hv⟩ := h9 0 (.sl k 2 i n cap) (by rw [hrow]; rfl)
         rw [ho] at hr
         simp only [Nat.zero_mul, Nat.add_zero] at hr
         simp only [Qay] at hv
         obtain ⟨p', hp', _, _, hv⟩ := hv
         have := hδ _ _ hq2
         rw [hp'] at this; cases this
         rcases hv with ⟨_, rfl⟩ | ⟨e0, e1, a, rfl⟩
         · exact ⟨_, by rw [Qic hc, hr], fun _ => rfl⟩
         · subst e0 e1
           exact ⟨a, by rw [Qic hc, hr], fun h => absurd h (by omega)⟩
       · intro j hj
         have hno2 : q2.no = false := by
           cases e : q2.no with
           | false => rfl
           | true => have := (L2.no e).1; omega
         obtain ⟨c, e, fz, hc, _, _, _, _, _, h8⟩ := L2.rep hno2
         obtain ⟨_, h9⟩ := h8 (i + j) (by omega)
         obtain ⟨r0, hr0, hv0⟩ := h9 0 _ (by rw [hrows j hj]; rfl)
         obtain ⟨r1, hr1, hv1⟩ := h9 1 _ (by rw [hrows j hj]; rfl)
         simp only [Qay] at hv0 hv1
         rw [z3] at hr0 hr1
         constructor
         · rw [Qic hc, show q2.o + i * 2 + j * 2 = q2.o + (i + j) * 2 + 0 by omega, hr0, hv0]
         · rw [Qic hc, show q2.o + i * 2 + j * 2 + 1 = q2.o + (i + j) * 2 + 1 by omega, hr1, hv1]
     intro l J Jx W hbW hJB hJxB hJK hY h0 n'
     have hh := callsIn_wide.1 (Qu2 l q.r q2.r (q2.o + i * 2) n cap (fun j => gi (b.row (i + j))) hn J Jx (fun k W hk => hCk W (hJK k W hk)) (fun k W hk hlt => hY k W 0 hk hlt) (fun k W W' hk hB => hJB k W W' hk hB) W h0)
     rw [ho]
     exact callsIn_wide.2 hh
noncomputable def Qke : It := ⟨Tryz.prog, 167, Qlf, Qre⟩
end Go.Proofs.YteekigmbopdfjaaGreat
end
section
namespace Go.Proofs.YteekigmbopdfjaaGreat
open Go.SE Go.RowKit
def roS (el : Nat) (lo li fl wh : Bool) (n ext : Nat) (row : Nat → List SV) : Blk := { elem := el, size := 2, rw := false, lock := lo, lit := li, flat := fl, n := n, row := row, ext := ext, dead := false, whole := wh }
def Qw1 (n cap : Nat) : Eff := .det none (.fn 167 [.vp 1000 0]) [(1000, Qdz 26 [.sl 0 2 0 n cap])]
def Qmg (args : List SV) (bs : List Blk) : Option Eff := match args, bs with
 | [.sl 0 2 0 n cap], [b] => bif !b.rw && !b.dead && Nat.beq b.size 2 then some (Qw1 n cap) else none
 | _, _ => none
def Zj6 : Qb8 := Qah (Qah (Qah (Qah Qbr 92 (Qen false Qmg)) 164 (Qaj Qo0)) 165 (Qaj Qlm)) 166 (Qaj Qxx)
theorem Q0g (el n cap n' ext : Nat) (lo li fl wh : Bool) (row : Nat→List SV) : (Qcu Tryz.prog Qbr Qax Tryz.f92 [.sl 0 2 0 n cap] (Qaw [roS el lo li fl wh n' ext row]) 64 (fun y h' => Qhf [roS el lo li fl wh n' ext row] (Qw1 n cap) y h')) = (((167 = 167)∧((SV.vp 64 0) = (SV.vp 64 0)))∧(((1 : Nat) = 1)∧(((1 : Nat) ≤ 1)∧((SV.sl 0 2 0 n cap) = (SV.sl 0 2 0 n cap))))):=by kernel_rfl
theorem Qkm : Qdl Tryz.prog 92 Qmg := Qc0 hm Qa0 Tryz.func92 (Λ := fun _ _ => Qax) fun args bs e hs hp => by
 unfold Qmg at hs
 split at hs <;> try (cases hs; done)
 rename_i n cap b
 obtain ⟨el, sz, rw, lo, li, fl, n', row, ext, de, wh⟩ := b
 cases hc : (!rw && !de && Nat.beq sz 2) with
 | false => simp only [hc, cond_false] at hs; cases hs
 | true =>
   simp only [hc, cond_true, Option.some.injEq] at hs
   subst hs
   simp only [Bool.and_eq_true, Bool.not_eq_true', Nat.beq_eq] at hc
   obtain ⟨⟨rfl, rfl⟩, rfl⟩ := hc
   refine ⟨[roS el lo li fl wh n' ext row], ⟨BlkSame.refl _, trivial⟩, ?_⟩
   refine Eq.mpr (Q0g el n cap n' ext lo li fl wh row) ?_
   exact ⟨⟨rfl, rfl⟩, rfl, Nat.le_refl _, rfl⟩
end Go.Proofs.YteekigmbopdfjaaGreat
end
section
section
namespace Go.Proofs.YteekigmbopdfjaaGreat
open Go.SE Go.RowKit
def Qa5 (p q : Int × Int) : Int × Int := (p.1 - q.1, p.2 - q.2)
def Qac (p q : Int × Int) : Int := Qaq p.1 p.2 q.1 q.2
def Qub (p : Int × Int) : Int := Qiu p.1 p.2
def Qey (g : Nat → Int × Int) : Nat → List SV := fun i => [.v (.int .i64 (g i).1), .v (.int .i64 (g i).2)]
def okR (n : Nat) (g : Nat → Int × Int) (k i : Nat) : Bool := Nat.beq i k || Nat.beq i ((k + 1) % n) || !decide (Qac (Qa5 (g ((k + 1) % n)) (g k)) (Qa5 (g i) (g k)) ≤ 0)
def okE (n : Nat) (g : Nat → Int × Int) (k : Nat) : Bool :=
 !decide (Qac (g k) (g ((k + 1) % n)) ≤ 0) && !decide (Qac (Qa5 (g ((k + 1) % n)) (g k)) (Qa5 (g ((k + 2) % n)) (g ((k + 1) % n))) < 4 * (Qub (Qa5 (g ((k + 1) % n)) (g k)) + Qub (Qa5 (g ((k + 2) % n)) (g ((k + 1) % n)))))
def okC (n : Nat) (g : Nat → Int × Int) (k : Nat) : Bool := okE n g k && (List.range n).all (okR n g k)
def Qdt (n : Nat) (g : Nat → Int × Int) : Bool := (List.range n).all (okC n g)
def Ze4 : SV → Int
 | .agg (.v (.int _ k) :: _) => k
 | _ => -1
def Q9o : Blk := Qdz 4 [.v (.bool false)]
noncomputable def Qpz (n : Nat) (g : Nat → Int × Int) : Nat → Option LoopSpec :=
 Qxb (Q3s Qax 0 Qke Nat (fun k => k ≤ n ∧ ∀ j, j < k → okC n g j = true) (fun k => k) [(72, fun _ => Q9o)])
   Tryz.f91 2 (Nat × Nat) (fun x => x.1 < n ∧ x.2 ≤ n ∧ ∀ j, j < x.2 → okR n g x.1 j = true) (fun s x => Ze4 (s.tmps.getD 10 .unk) = (x.1 : Int)) (fun x => n - x.2) [(41, fun x => .v (.int .i64 x.2))] [(72, fun _ => Q9o)]
def Sq (x : Int) : Prop := -1048576 ≤ x ∧ x ≤ 1048576
def Qqe (n : Nat) (row : Nat → List SV) : Prop := ∀ i, i < n → row i = [.v (.int .i64 (gi (row i)).1), .v (.int .i64 (gi (row i)).2)] ∧ Sq (gi (row i)).1 ∧ Sq (gi (row i)).2
def Qku : List SV → List Ro → Option (Option Prop × SV)
 | [.sl 0 2 0 n _], [⟨2, n', row⟩] => some (some (n' = n ∧ n ≤ 1099511627776 ∧ Qqe n row), .v (.bool (Qdt n fun i => gi (row i))))
 | _, _ => none
theorem Q51 (n n' cap : Nat) (g : Nat→Int × Int) : (Qcu Tryz.prog Zj6 (Qpz n g) Tryz.f91 [.sl 0 2 0 n cap] (Qbm [⟨2,n',Qey g⟩]) 64 (fun y _ => y = .v (.bool (Qdt n g)))) = (((It.P Qke = Tryz.prog)∧(((n : Nat) ≤ 1099511627776)∧((((0 + n) : Nat) ≤ (Ro.n {s:=2,n:=n',row:=fun i => [SV.v (.int .i64 (Prod.fst (g i))),SV.v (.int .i64 (Prod.snd (g i)))]}))∧(∀ j : Nat,(((j : Nat) < n)→([(SV.v (.int .i64 (Prod.fst (g (0 + j))))),(SV.v (.int .i64 (Prod.snd (g (0 + j)))))] = [(SV.v (.int .i64 (Prod.fst (gi [SV.v (.int .i64 (Prod.fst (g (0 + j)))),SV.v (.int .i64 (Prod.snd (g (0 + j))))])))),(SV.v (.int .i64 (Prod.snd (gi [SV.v (.int .i64 (Prod.fst (g (0 + j)))),SV.v (.int .i64 (Prod.snd (g (0 + j))))]))))]))))))∧((∃ x : Nat,(((x : Nat) = 0)∧((((x : Nat) ≤ n)∧(∀ j : Nat,(((j : Nat) < x)→(okC n g j = true))))∧(True∧(((1 : Nat) = 1)∧(((1 : Nat) ≤ 1)∧(∀ i : Nat,(((i : Nat) < 1)→([(SV.v (.bool false))] = [(SV.v (.bool false))])))))))))∧((∀ x : Nat,((((x : Nat) ≤ n)∧(∀ j : Nat,(((j : Nat) < x)→(okC n g j = true))))→(((x : Nat) < n)→((((Sp (Prod.fst (gi [SV.v (.int .i64 (Prod.fst (g (0 + (x + 1) % n)))),SV.v (.int .i64 (Prod.snd (g (0 + (x + 1) % n))))])))∧(Sp (Prod.snd (gi [SV.v (.int .i64 (Prod.fst (g (0 + (x + 1) % n)))),SV.v (.int .i64 (Prod.snd (g (0 + (x + 1) % n))))]))))∧((Sp (Prod.fst (gi [SV.v (.int .i64 (Prod.fst (g (0 + x)))),SV.v (.int .i64 (Prod.snd (g (0 + x))))])))∧(Sp (Prod.snd (gi [SV.v (.int .i64 (Prod.fst (g (0 + x)))),SV.v (.int .i64 (Prod.snd (g (0 + x))))])))))∧((((Sp (Prod.fst (gi [SV.v (.int .i64 (Prod.fst (g (0 + (x + 2) % n)))),SV.v (.int .i64 (Prod.snd (g (0 + (x + 2) % n))))])))∧(Sp (Prod.snd (gi [SV.v (.int .i64 (Prod.fst (g (0 + (x + 2) % n)))),SV.v (.int .i64 (Prod.snd (g (0 + (x + 2) % n))))]))))∧((Sp (Prod.fst (gi [SV.v (.int .i64 (Prod.fst (g (0 + (x + 1) % n)))),SV.v (.int .i64 (Prod.snd (g (0 + (x + 1) % n))))])))∧(Sp (Prod.snd (gi [SV.v (.int .i64 (Prod.fst (g (0 + (x + 1) % n)))),SV.v (.int .i64 (Prod.snd (g (0 + (x + 1) % n))))])))))∧((((Sp (Prod.fst (gi [SV.v (.int .i64 (Prod.fst (g (0 + x)))),SV.v (.int .i64 (Prod.snd (g (0 + x))))])))∧(Sp (Prod.snd (gi [SV.v (.int .i64 (Prod.fst (g (0 + x)))),SV.v (.int .i64 (Prod.snd (g (0 + x))))]))))∧((Sp (Prod.fst (gi [SV.v (.int .i64 (Prod.fst (g (0 + (x + 1) % n)))),SV.v (.int .i64 (Prod.snd (g (0 + (x + 1) % n))))])))∧(Sp (Prod.snd (gi [SV.v (.int .i64 (Prod.fst (g (0 + (x + 1) % n)))),SV.v (.int .i64 (Prod.snd (g (0 + (x + 1) % n))))])))))∧(sel (decide (Qaq (Prod.fst (gi [SV.v (.int .i64 (Prod.fst (g (0 + x)))),SV.v (.int .i64 (Prod.snd (g (0 + x))))])) (Prod.snd (gi [SV.v (.int .i64 (Prod.fst (g (0 + x)))),SV.v (.int .i64 (Prod.snd (g (0 + x))))])) (Prod.fst (gi [SV.v (.int .i64 (Prod.fst (g (0 + (x + 1) % n)))),SV.v (.int .i64 (Prod.snd (g (0 + (x + 1) % n))))])) (Prod.snd (gi [SV.v (.int .i64 (Prod.fst (g (0 + (x + 1) % n)))),SV.v (.int .i64 (Prod.snd (g (0 + (x + 1) % n))))])) ≤ 0)) ((SV.v (.bool false)) = (SV.v (.bool (Qdt n g)))) ((((Sp (Prod.fst (gi [SV.v (.int .i64 (Prod.fst (g (0 + (x + 1) % n)))),SV.v (.int .i64 (Prod.snd (g (0 + (x + 1) % n))))]) - Prod.fst (gi [SV.v (.int .i64 (Prod.fst (g (0 + x)))),SV.v (.int .i64 (Prod.snd (g (0 + x))))])))∧(Sp (Prod.snd (gi [SV.v (.int .i64 (Prod.fst (g (0 + (x + 1) % n)))),SV.v (.int .i64 (Prod.snd (g (0 + (x + 1) % n))))]) - Prod.snd (gi [SV.v (.int .i64 (Prod.fst (g (0 + x)))),SV.v (.int .i64 (Prod.snd (g (0 + x))))]))))∧((Sp (Prod.fst (gi [SV.v (.int .i64 (Prod.fst (g (0 + (x + 2) % n)))),SV.v (.int .i64 (Prod.snd (g (0 + (x + 2) % n))))]) - Prod.fst (gi [SV.v (.int .i64 (Prod.fst (g (0 + (x + 1) % n)))),SV.v (.int .i64 (Prod.snd (g (0 + (x + 1) % n))))])))∧(Sp (Prod.snd (gi [SV.v (.int .i64 (Prod.fst (g (0 + (x + 2) % n)))),SV.v (.int .i64 (Prod.snd (g (0 + (x + 2) % n))))]) - Prod.snd (gi [SV.v (.int .i64 (Prod.fst (g (0 + (x + 1) % n)))),SV.v (.int .i64 (Prod.snd (g (0 + (x + 1) % n))))])))))∧(((Sp (Prod.fst (gi [SV.v (.int .i64 (Prod.fst (g (0 + (x + 1) % n)))),SV.v (.int .i64 (Prod.snd (g (0 + (x + 1) % n))))]) - Prod.fst (gi [SV.v (.int .i64 (Prod.fst (g (0 + x)))),SV.v (.int .i64 (Prod.snd (g (0 + x))))])))∧(Sp (Prod.snd (gi [SV.v (.int .i64 (Prod.fst (g (0 + (x + 1) % n)))),SV.v (.int .i64 (Prod.snd (g (0 + (x + 1) % n))))]) - Prod.snd (gi [SV.v (.int .i64 (Prod.fst (g (0 + x)))),SV.v (.int .i64 (Prod.snd (g (0 + x))))]))))∧(((Sp (Prod.fst (gi [SV.v (.int .i64 (Prod.fst (g (0 + (x + 2) % n)))),SV.v (.int .i64 (Prod.snd (g (0 + (x + 2) % n))))]) - Prod.fst (gi [SV.v (.int .i64 (Prod.fst (g (0 + (x + 1) % n)))),SV.v (.int .i64 (Prod.snd (g (0 + (x + 1) % n))))])))∧(Sp (Prod.snd (gi [SV.v (.int .i64 (Prod.fst (g (0 + (x + 2) % n)))),SV.v (.int .i64 (Prod.snd (g (0 + (x + 2) % n))))]) - Prod.snd (gi [SV.v (.int .i64 (Prod.fst (g (0 + (x + 1) % n)))),SV.v (.int .i64 (Prod.snd (g (0 + (x + 1) % n))))]))))∧(sel (decide (Qaq (Prod.fst (gi [SV.v (.int .i64 (Prod.fst (g (0 + (x + 1) % n)))),SV.v (.int .i64 (Prod.snd (g (0 + (x + 1) % n))))]) - Prod.fst (gi [SV.v (.int .i64 (Prod.fst (g (0 + x)))),SV.v (.int .i64 (Prod.snd (g (0 + x))))])) (Prod.snd (gi [SV.v (.int .i64 (Prod.fst (g (0 + (x + 1) % n)))),SV.v (.int .i64 (Prod.snd (g (0 + (x + 1) % n))))]) - Prod.snd (gi [SV.v (.int .i64 (Prod.fst (g (0 + x)))),SV.v (.int .i64 (Prod.snd (g (0 + x))))])) (Prod.fst (gi [SV.v (.int .i64 (Prod.fst (g (0 + (x + 2) % n)))),SV.v (.int .i64 (Prod.snd (g (0 + (x + 2) % n))))]) - Prod.fst (gi [SV.v (.int .i64 (Prod.fst (g (0 + (x + 1) % n)))),SV.v (.int .i64 (Prod.snd (g (0 + (x + 1) % n))))])) (Prod.snd (gi [SV.v (.int .i64 (Prod.fst (g (0 + (x + 2) % n)))),SV.v (.int .i64 (Prod.snd (g (0 + (x + 2) % n))))]) - Prod.snd (gi [SV.v (.int .i64 (Prod.fst (g (0 + (x + 1) % n)))),SV.v (.int .i64 (Prod.snd (g (0 + (x + 1) % n))))])) < IntKind.wrap IntKind.i64 (4 * IntKind.wrap IntKind.i64 (Qiu (Prod.fst (gi [SV.v (.int .i64 (Prod.fst (g (0 + (x + 1) % n)))),SV.v (.int .i64 (Prod.snd (g (0 + (x + 1) % n))))]) - Prod.fst (gi [SV.v (.int .i64 (Prod.fst (g (0 + x)))),SV.v (.int .i64 (Prod.snd (g (0 + x))))])) (Prod.snd (gi [SV.v (.int .i64 (Prod.fst (g (0 + (x + 1) % n)))),SV.v (.int .i64 (Prod.snd (g (0 + (x + 1) % n))))]) - Prod.snd (gi [SV.v (.int .i64 (Prod.fst (g (0 + x)))),SV.v (.int .i64 (Prod.snd (g (0 + x))))])) + Qiu (Prod.fst (gi [SV.v (.int .i64 (Prod.fst (g (0 + (x + 2) % n)))),SV.v (.int .i64 (Prod.snd (g (0 + (x + 2) % n))))]) - Prod.fst (gi [SV.v (.int .i64 (Prod.fst (g (0 + (x + 1) % n)))),SV.v (.int .i64 (Prod.snd (g (0 + (x + 1) % n))))])) (Prod.snd (gi [SV.v (.int .i64 (Prod.fst (g (0 + (x + 2) % n)))),SV.v (.int .i64 (Prod.snd (g (0 + (x + 2) % n))))]) - Prod.snd (gi [SV.v (.int .i64 (Prod.fst (g (0 + (x + 1) % n)))),SV.v (.int .i64 (Prod.snd (g (0 + (x + 1) % n))))])))))) ((SV.v (.bool false)) = (SV.v (.bool (Qdt n g)))) ((∃ x_1 : (Nat × Nat),((((((Prod.fst x_1) : Nat) < n)∧((((Prod.snd x_1) : Nat) ≤ n)∧(∀ j : Nat,(((j : Nat) < (Prod.snd x_1))→(okR n g (Prod.fst x_1) j = true)))))∧(((Ze4 (SV.agg [SV.v (.int .i64 (↑x : Int)),SV.v (.int .i64 (Prod.fst (gi [SV.v (.int .i64 (Prod.fst (g (0 + x)))),SV.v (.int .i64 (Prod.snd (g (0 + x))))]))),SV.v (.int .i64 (Prod.snd (gi [SV.v (.int .i64 (Prod.fst (g (0 + x)))),SV.v (.int .i64 (Prod.snd (g (0 + x))))]))),SV.v (.int .i64 (Prod.fst (gi [SV.v (.int .i64 (Prod.fst (g (0 + (x + 1) % n)))),SV.v (.int .i64 (Prod.snd (g (0 + (x + 1) % n))))]))),SV.v (.int .i64 (Prod.snd (gi [SV.v (.int .i64 (Prod.fst (g (0 + (x + 1) % n)))),SV.v (.int .i64 (Prod.snd (g (0 + (x + 1) % n))))]))),SV.v (.int .i64 (Prod.fst (gi [SV.v (.int .i64 (Prod.fst (g (0 + (x + 2) % n)))),SV.v (.int .i64 (Prod.snd (g (0 + (x + 2) % n))))]))),SV.v (.int .i64 (Prod.snd (gi [SV.v (.int .i64 (Prod.fst (g (0 + (x + 2) % n)))),SV.v (.int .i64 (Prod.snd (g (0 + (x + 2) % n))))])))])) : Int) = ((↑(Prod.fst x_1) : Int))))∧(((SV.v (.int .i64 0)) = (SV.v (.int .i64 ((↑(Prod.snd x_1) : Int)))))∧(((1 : Nat) = 1)∧(((1 : Nat) ≤ 1)∧(∀ i : Nat,(((i : Nat) < 1)→([(SV.v (.bool false))] = [(SV.v (.bool false))]))))))))∧(∀ x_1 : (Nat × Nat),((((((Prod.fst x_1) : Nat) < n)∧((((Prod.snd x_1) : Nat) ≤ n)∧(∀ j : Nat,(((j : Nat) < (Prod.snd x_1))→(okR n g (Prod.fst x_1) j = true)))))∧(((Ze4 (SV.agg [SV.v (.int .i64 (↑x : Int)),SV.v (.int .i64 (Prod.fst (gi [SV.v (.int .i64 (Prod.fst (g (0 + x)))),SV.v (.int .i64 (Prod.snd (g (0 + x))))]))),SV.v (.int .i64 (Prod.snd (gi [SV.v (.int .i64 (Prod.fst (g (0 + x)))),SV.v (.int .i64 (Prod.snd (g (0 + x))))]))),SV.v (.int .i64 (Prod.fst (gi [SV.v (.int .i64 (Prod.fst (g (0 + (x + 1) % n)))),SV.v (.int .i64 (Prod.snd (g (0 + (x + 1) % n))))]))),SV.v (.int .i64 (Prod.snd (gi [SV.v (.int .i64 (Prod.fst (g (0 + (x + 1) % n)))),SV.v (.int .i64 (Prod.snd (g (0 + (x + 1) % n))))]))),SV.v (.int .i64 (Prod.fst (gi [SV.v (.int .i64 (Prod.fst (g (0 + (x + 2) % n)))),SV.v (.int .i64 (Prod.snd (g (0 + (x + 2) % n))))]))),SV.v (.int .i64 (Prod.snd (gi [SV.v (.int .i64 (Prod.fst (g (0 + (x + 2) % n)))),SV.v (.int .i64 (Prod.snd (g (0 + (x + 2) % n))))])))])) : Int) = ((↑(Prod.fst x_1) : Int))))→(sel (decide ((↑(Prod.snd x_1) : Int) < (↑n : Int))) ((((0 : Int) ≤ ((↑(Prod.snd x_1) : Int)))∧((((↑(Prod.snd x_1) : Int)) : Int) < ((↑n : Int))))∧(sel ((↑(Prod.snd x_1) : Int) != (↑x : Int)) (((((↑n : Int)) : Int) ≠ 0)∧(sel ((↑(Prod.snd x_1) : Int) != Int.tmod (IntKind.wrap IntKind.i64 ((↑x : Int) + 1)) (↑n : Int)) ((((Sp (Prod.fst (g (0 + Int.toNat (↑(Prod.snd x_1) : Int)))))∧(Sp (Prod.snd (g (0 + Int.toNat (↑(Prod.snd x_1) : Int))))))∧((Sp (Prod.fst (gi [SV.v (.int .i64 (Prod.fst (g (0 + x)))),SV.v (.int .i64 (Prod.snd (g (0 + x))))])))∧(Sp (Prod.snd (gi [SV.v (.int .i64 (Prod.fst (g (0 + x)))),SV.v (.int .i64 (Prod.snd (g (0 + x))))])))))∧((((Sp (Prod.fst (gi [SV.v (.int .i64 (Prod.fst (g (0 + (x + 1) % n)))),SV.v (.int .i64 (Prod.snd (g (0 + (x + 1) % n))))]) - Prod.fst (gi [SV.v (.int .i64 (Prod.fst (g (0 + x)))),SV.v (.int .i64 (Prod.snd (g (0 + x))))])))∧(Sp (Prod.snd (gi [SV.v (.int .i64 (Prod.fst (g (0 + (x + 1) % n)))),SV.v (.int .i64 (Prod.snd (g (0 + (x + 1) % n))))]) - Prod.snd (gi [SV.v (.int .i64 (Prod.fst (g (0 + x)))),SV.v (.int .i64 (Prod.snd (g (0 + x))))]))))∧((Sp (Prod.fst (g (0 + Int.toNat (↑(Prod.snd x_1) : Int))) - Prod.fst (gi [SV.v (.int .i64 (Prod.fst (g (0 + x)))),SV.v (.int .i64 (Prod.snd (g (0 + x))))])))∧(Sp (Prod.snd (g (0 + Int.toNat (↑(Prod.snd x_1) : Int))) - Prod.snd (gi [SV.v (.int .i64 (Prod.fst (g (0 + x)))),SV.v (.int .i64 (Prod.snd (g (0 + x))))])))))∧(sel (decide (Qaq (Prod.fst (gi [SV.v (.int .i64 (Prod.fst (g (0 + (x + 1) % n)))),SV.v (.int .i64 (Prod.snd (g (0 + (x + 1) % n))))]) - Prod.fst (gi [SV.v (.int .i64 (Prod.fst (g (0 + x)))),SV.v (.int .i64 (Prod.snd (g (0 + x))))])) (Prod.snd (gi [SV.v (.int .i64 (Prod.fst (g (0 + (x + 1) % n)))),SV.v (.int .i64 (Prod.snd (g (0 + (x + 1) % n))))]) - Prod.snd (gi [SV.v (.int .i64 (Prod.fst (g (0 + x)))),SV.v (.int .i64 (Prod.snd (g (0 + x))))])) (Prod.fst (g (0 + Int.toNat (↑(Prod.snd x_1) : Int))) - Prod.fst (gi [SV.v (.int .i64 (Prod.fst (g (0 + x)))),SV.v (.int .i64 (Prod.snd (g (0 + x))))])) (Prod.snd (g (0 + Int.toNat (↑(Prod.snd x_1) : Int))) - Prod.snd (gi [SV.v (.int .i64 (Prod.fst (g (0 + x)))),SV.v (.int .i64 (Prod.snd (g (0 + x))))])) ≤ 0)) ((SV.v (.bool false)) = (SV.v (.bool (Qdt n g)))) (∃ x' : (Nat × Nat),(((((((Prod.fst x') : Nat) < n)∧((((Prod.snd x') : Nat) ≤ n)∧(∀ j : Nat,(((j : Nat) < (Prod.snd x'))→(okR n g (Prod.fst x') j = true)))))∧(((Ze4 (SV.agg [SV.v (.int .i64 (↑x : Int)),SV.v (.int .i64 (Prod.fst (gi [SV.v (.int .i64 (Prod.fst (g (0 + x)))),SV.v (.int .i64 (Prod.snd (g (0 + x))))]))),SV.v (.int .i64 (Prod.snd (gi [SV.v (.int .i64 (Prod.fst (g (0 + x)))),SV.v (.int .i64 (Prod.snd (g (0 + x))))]))),SV.v (.int .i64 (Prod.fst (gi [SV.v (.int .i64 (Prod.fst (g (0 + (x + 1) % n)))),SV.v (.int .i64 (Prod.snd (g (0 + (x + 1) % n))))]))),SV.v (.int .i64 (Prod.snd (gi [SV.v (.int .i64 (Prod.fst (g (0 + (x + 1) % n)))),SV.v (.int .i64 (Prod.snd (g (0 + (x + 1) % n))))]))),SV.v (.int .i64 (Prod.fst (gi [SV.v (.int .i64 (Prod.fst (g (0 + (x + 2) % n)))),SV.v (.int .i64 (Prod.snd (g (0 + (x + 2) % n))))]))),SV.v (.int .i64 (Prod.snd (gi [SV.v (.int .i64 (Prod.fst (g (0 + (x + 2) % n)))),SV.v (.int .i64 (Prod.snd (g (0 + (x + 2) % n))))])))])) : Int) = ((↑(Prod.fst x') : Int))))∧(((SV.v (.int .i64 (IntKind.wrap IntKind.i64 ((↑(Prod.snd x_1) : Int) + 1)))) = (SV.v (.int .i64 ((↑(Prod.snd x') : Int)))))∧(((1 : Nat) = 1)∧(((1 : Nat) ≤ 1)∧(∀ i : Nat,(((i : Nat) < 1)→([(SV.v (.bool false))] = [(SV.v (.bool false))])))))))∧(((n - Prod.snd x') : Nat) < (n - Prod.snd x_1))))))) (∃ x' : (Nat × Nat),(((((((Prod.fst x') : Nat) < n)∧((((Prod.snd x') : Nat) ≤ n)∧(∀ j : Nat,(((j : Nat) < (Prod.snd x'))→(okR n g (Prod.fst x') j = true)))))∧(((Ze4 (SV.agg [SV.v (.int .i64 (↑x : Int)),SV.v (.int .i64 (Prod.fst (gi [SV.v (.int .i64 (Prod.fst (g (0 + x)))),SV.v (.int .i64 (Prod.snd (g (0 + x))))]))),SV.v (.int .i64 (Prod.snd (gi [SV.v (.int .i64 (Prod.fst (g (0 + x)))),SV.v (.int .i64 (Prod.snd (g (0 + x))))]))),SV.v (.int .i64 (Prod.fst (gi [SV.v (.int .i64 (Prod.fst (g (0 + (x + 1) % n)))),SV.v (.int .i64 (Prod.snd (g (0 + (x + 1) % n))))]))),SV.v (.int .i64 (Prod.snd (gi [SV.v (.int .i64 (Prod.fst (g (0 + (x + 1) % n)))),SV.v (.int .i64 (Prod.snd (g (0 + (x + 1) % n))))]))),SV.v (.int .i64 (Prod.fst (gi [SV.v (.int .i64 (Prod.fst (g (0 + (x + 2) % n)))),SV.v (.int .i64 (Prod.snd (g (0 + (x + 2) % n))))]))),SV.v (.int .i64 (Prod.snd (gi [SV.v (.int .i64 (Prod.fst (g (0 + (x + 2) % n)))),SV.v (.int .i64 (Prod.snd (g (0 + (x + 2) % n))))])))])) : Int) = ((↑(Prod.fst x') : Int))))∧(((SV.v (.int .i64 (IntKind.wrap IntKind.i64 ((↑(Prod.snd x_1) : Int) + 1)))) = (SV.v (.int .i64 ((↑(Prod.snd x') : Int)))))∧(((1 : Nat) = 1)∧(((1 : Nat) ≤ 1)∧(∀ i : Nat,(((i : Nat) < 1)→([(SV.v (.bool false))] = [(SV.v (.bool false))])))))))∧(((n - Prod.snd x') : Nat) < (n - Prod.snd x_1)))))) (∃ x' : (Nat × Nat),(((((((Prod.fst x') : Nat) < n)∧((((Prod.snd x') : Nat) ≤ n)∧(∀ j : Nat,(((j : Nat) < (Prod.snd x'))→(okR n g (Prod.fst x') j = true)))))∧(((Ze4 (SV.agg [SV.v (.int .i64 (↑x : Int)),SV.v (.int .i64 (Prod.fst (gi [SV.v (.int .i64 (Prod.fst (g (0 + x)))),SV.v (.int .i64 (Prod.snd (g (0 + x))))]))),SV.v (.int .i64 (Prod.snd (gi [SV.v (.int .i64 (Prod.fst (g (0 + x)))),SV.v (.int .i64 (Prod.snd (g (0 + x))))]))),SV.v (.int .i64 (Prod.fst (gi [SV.v (.int .i64 (Prod.fst (g (0 + (x + 1) % n)))),SV.v (.int .i64 (Prod.snd (g (0 + (x + 1) % n))))]))),SV.v (.int .i64 (Prod.snd (gi [SV.v (.int .i64 (Prod.fst (g (0 + (x + 1) % n)))),SV.v (.int .i64 (Prod.snd (g (0 + (x + 1) % n))))]))),SV.v (.int .i64 (Prod.fst (gi [SV.v (.int .i64 (Prod.fst (g (0 + (x + 2) % n)))),SV.v (.int .i64 (Prod.snd (g (0 + (x + 2) % n))))]))),SV.v (.int .i64 (Prod.snd (gi [SV.v (.int .i64 (Prod.fst (g (0 + (x + 2) % n)))),SV.v (.int .i64 (Prod.snd (g (0 + (x + 2) % n))))])))])) : Int) = ((↑(Prod.fst x') : Int))))∧(((SV.v (.int .i64 (IntKind.wrap IntKind.i64 ((↑(Prod.snd x_1) : Int) + 1)))) = (SV.v (.int .i64 ((↑(Prod.snd x') : Int)))))∧(((1 : Nat) = 1)∧(((1 : Nat) ≤ 1)∧(∀ i : Nat,(((i : Nat) < 1)→([(SV.v (.bool false))] = [(SV.v (.bool false))])))))))∧(((n - Prod.snd x') : Nat) < (n - Prod.snd x_1)))))) (∃ x' : Nat,(((x' : Nat) = (x + 1))∧((((x' : Nat) ≤ n)∧(∀ j : Nat,(((j : Nat) < x')→(okC n g j = true))))∧(True∧(((1 : Nat) = 1)∧(((1 : Nat) ≤ 1)∧(∀ i : Nat,(((i : Nat) < 1)→([(SV.v (.bool false))] = [(SV.v (.bool false))]))))))))))))))))))))))))∧(∀ x : Nat,((((x : Nat) ≤ n)∧(∀ j : Nat,(((j : Nat) < x)→(okC n g j = true))))→(((x : Nat) = n)→((SV.v (.bool true)) = (SV.v (.bool (Qdt n g)))))))))):=by kernel_rfl
theorem Zao : ∀ f g, Zj6 f = some g → g.ok Tryz.prog f := Qab (Qab (Qab (Qab Qa0 (Qfa Tryz.func92 (by kernel_rfl) (by kernel_rfl) Qkm)) (Qal Tryz.func164 (by kernel_rfl) (by kernel_rfl) Qy7)) (Qal Tryz.func165 (by kernel_rfl) (by kernel_rfl) Qoe)) (Qal Tryz.func166 (by kernel_rfl) (by kernel_rfl) Q32)
theorem Sq.sp {x : Int} (h : Sq x) : Sp x := ⟨by have := h.1; omega, by have := h.2; omega⟩
theorem Sq.sub {x y : Int} (h : Sq x) (k : Sq y) : Sp (x - y) := ⟨by have := h.1; have := k.2; omega, by have := h.2; have := k.1; omega⟩
theorem Qqg {x y z w : Int} (h : Sq x) (k : Sq y) (h' : Sq z) (k' : Sq w) : 0 ≤ Qiu (x - y) (z - w) ∧ Qiu (x - y) (z - w) ≤ 4194304 := by
 obtain ⟨a, b⟩ := h
 obtain ⟨c, d⟩ := k
 obtain ⟨a', b'⟩ := h'
 obtain ⟨c', d'⟩ := k'
 unfold Qiu
 omega
theorem Qhe {n : Nat} {f : Nat → Bool} (h : ∀ j, j < n → f j = true) : (List.range n).all f = true := by
 rw [List.all_eq_true]
 intro i hi
 exact h i (List.mem_range.1 hi)
theorem Qk3 {n : Nat} {f : Nat → Bool} {k : Nat} (hk : k < n) (h : f k = false) : (List.range n).all f = false := by
 rw [List.all_eq_false]
 exact ⟨k, List.mem_range.2 hk, by simp [h]⟩
theorem Qw2 {n : Nat} {g : Nat → Int × Int} {k : Nat} (hk : k < n) (h : okC n g k = false) : Qdt n g = false := Qk3 hk h
theorem Qqu {n : Nat} {g : Nat → Int × Int} {k : Nat} (h : okE n g k = false) : okC n g k = false := by unfold okC; rw [h]; rfl
theorem Qwn {n : Nat} {g : Nat → Int × Int} {k i : Nat} (hi : i < n) (h : okR n g k i = false) : okC n g k = false := by unfold okC; rw [Qk3 hi h]; simp
theorem Q3c {n cap : Nat} {g : Nat → Int × Int} (hn : n ≤ 1099511627776) (hg : ∀ i, i < n → Sq (g i).1 ∧ Sq (g i).2) : Qcu Tryz.prog Zj6 (Qpz n g) Tryz.f91 [.sl 0 2 0 n cap] (Qbm [⟨2, n, Qey g⟩]) 64 (fun y _ => y = .v (.bool (Qdt n g))) := by
 refine Eq.mpr (Q51 n n cap g) ?_
 simp only [gi, Nat.zero_add]
 refine ⟨⟨rfl, hn, Nat.le_refl _, fun _ _ => trivial⟩, ⟨0, rfl, ⟨Nat.zero_le _, fun j hj => absurd hj (Nat.not_lt_zero _)⟩, trivial, trivial, Nat.le_refl _, fun _ _ => trivial⟩, fun k ⟨_, hdone⟩ hk => ?_, fun k ⟨_, hdone⟩ e => ?_⟩
 · have l1 : (k + 1) % n < n := Nat.mod_lt _ (by omega)
   have l2 : (k + 2) % n < n := Nat.mod_lt _ (by omega)
   obtain ⟨a1, a2⟩ := hg k hk
   obtain ⟨b1, b2⟩ := hg _ l1
   obtain ⟨c1, c2⟩ := hg _ l2
   refine ⟨⟨⟨b1.sp, b2.sp⟩, a1.sp, a2.sp⟩, ⟨⟨c1.sp, c2.sp⟩, b1.sp, b2.sp⟩, ⟨⟨a1.sp, a2.sp⟩, b1.sp, b2.sp⟩, ?_⟩
   have bad : ∀ {b : Bool}, okC n g k = false → SV.v (Value.bool false) = SV.v (Value.bool (Qdt n g)) := fun {b} h => by rw [Qw2 hk h]
   refine Qad (fun h => bad (b := true) (Qqu (by unfold okE Qac; rw [h]; rfl))) fun h1 => ?_
   have s1 := Qqg b1 a1 b2 a2
   have s2 := Qqg c1 b1 c2 b2
   refine ⟨⟨⟨b1.sub a1, b2.sub a2⟩, c1.sub b1, c2.sub b2⟩, ⟨b1.sub a1, b2.sub a2⟩, ⟨c1.sub b1, c2.sub b2⟩, ?_⟩
   rw [Qaf (n := Qiu _ _ + Qiu _ _) ⟨by omega, by omega⟩, Qaf ⟨by omega, by omega⟩]
   refine Qad (fun h => bad (b := true) (Qqu (by unfold okE Qac Qub Qa5; simp only; rw [h]; simp))) fun h2 => ?_
   have hE : okE n g k = true := by unfold okE Qac Qub Qa5; simp only; rw [h1, h2]; rfl
   refine ⟨⟨(k, 0), ⟨⟨hk, Nat.zero_le _, fun j hj => absurd hj (Nat.not_lt_zero _)⟩, rfl⟩, rfl, trivial, Nat.le_refl _, fun _ _ => trivial⟩, ?_⟩
   rintro ⟨k', i⟩ ⟨⟨_, hi, hok⟩, hat⟩
   have hk' : k' = k := by
     have : (k : Int) = (k' : Int) := hat
     omega
   subst hk'
   simp only at hi hok ⊢
   have ew : i < n → IntKind.i64.wrap ((i : Int) + 1) = ((i + 1 : Nat) : Int) := fun h => by rw [Qaf ⟨by omega, by omega⟩]; rfl
   have em : (IntKind.i64.wrap ((k' : Int) + 1)).tmod (n : Int) = (((k' + 1) % n : Nat) : Int) := by
     rw [Qaf ⟨by omega, by omega⟩, Int.tmod_eq_emod_of_nonneg (by omega), Int.natCast_emod]; rfl
   have more : okR n g k' i = true → ∀ j, j < i + 1 → okR n g k' j = true := fun h j hj => by
     by_cases e : j = i
     · rw [e]; exact h
     · exact hok j (by omega)
   refine Qad (fun hlt => ?_) fun hge => ?_
   · have hlt : i < n := by simpa using hlt
     refine ⟨⟨by omega, by omega⟩, Qad (fun h3 => ⟨by omega, Qad (fun h4 => ?_) fun h4 => ?_⟩) fun h3 => ?_⟩
     · obtain ⟨d1, d2⟩ := hg i hlt
       rw [Int.toNat_natCast]
       refine ⟨⟨⟨d1.sp, d2.sp⟩, a1.sp, a2.sp⟩, ⟨⟨b1.sub a1, b2.sub a2⟩, d1.sub a1, d2.sub a2⟩, Qad (fun h5 => bad (b := true) (Qwn hlt ?_)) fun h5 => ?_⟩
       · rw [em] at h4
         have n1 : Nat.beq i k' = false := by
           cases e : Nat.beq i k' with
           | false => rfl
           | true => rw [Nat.eq_of_beq_eq_true e] at h3; simp at h3
         have n2 : Nat.beq i ((k' + 1) % n) = false := by
           cases e : Nat.beq i ((k' + 1) % n) with
           | false => rfl
           | true => rw [← Nat.eq_of_beq_eq_true e] at h4; simp at h4
         unfold okR Qac Qa5
         simp only
         rw [n1, n2, h5]; rfl
       · have : okR n g k' i = true := by unfold okR Qac Qa5; simp only; rw [h5]; simp
         exact ⟨(k', i + 1), ⟨⟨⟨hk, hlt, more this⟩, rfl⟩, by rw [ew hlt], trivial, Nat.le_refl _, fun _ _ => trivial⟩, by simp only; omega⟩
     · have : okR n g k' i = true := by
         rw [em] at h4
         have e : i = (k' + 1) % n := by
           have : (i : Int) = (((k' + 1) % n : Nat) : Int) := by simpa using h4
           omega
         unfold okR
         rw [← e, Nat.beq_refl]; simp
       exact ⟨(k', i + 1), ⟨⟨⟨hk, hlt, more this⟩, rfl⟩, by rw [ew hlt], trivial, Nat.le_refl _, fun _ _ => trivial⟩, by simp only; omega⟩
     · have : okR n g k' i = true := by
         have e : i = k' := by
           have : (i : Int) = (k' : Int) := by simpa using h3
           omega
         unfold okR
         rw [e, Nat.beq_refl]; simp
       exact ⟨(k', i + 1), ⟨⟨⟨hk, hlt, more this⟩, rfl⟩, by rw [ew hlt], trivial, Nat.le_refl _, fun _ _ => trivial⟩, by simp only; omega⟩
   · have e : i = n := by
       have : ¬ (i : Int) < (n : Int) := by simpa using hge
       omega
     subst e
     refine ⟨k' + 1, rfl, ⟨hk, fun j hj => ?_⟩, trivial, trivial, Nat.le_refl _, fun _ _ => trivial⟩
     by_cases e : j = k'
     · rw [e]; unfold okC; rw [hE, Qhe hok]; rfl
     · exact hdone j (by omega)
 · subst e
   have : Qdt k g = true := Qhe hdone
   rw [this]
theorem Qvo : Qcg Tryz.prog 91 Qku := Qb4 hm Zao Tryz.func91 (Λ := fun args bs => match args, bs with | [.sl 0 2 0 n _], [⟨2, _, row⟩] => Qpz n (fun i => gi (row i)) | _, _ => Qax) fun args bs p x h hp => by
 unfold Qku at h
 split at h <;> try (cases h; done)
 rename_i n c n' row
 cases h
 obtain ⟨rfl, hn, h0⟩ := hp _ rfl
 refine ⟨rfl, [⟨2, n', Qey fun i => gi (row i)⟩], ⟨⟨rfl, rfl, fun i hi => (h0 i hi).1⟩, trivial⟩, ?_⟩
 exact Q3c hn fun i hi => (h0 i hi).2
def Zjy : SV → Int
 | .v (.int _ n) => n
 | _ => -1
def okS (n : Nat) (g : Nat → Int × Int) (i k : Nat) : Bool := !decide (Qac (Qa5 (g ((i + 1) % n)) (g i)) (Qa5 (g ((i + k) % n)) (g i)) ≤ 0)
noncomputable def Qmr (n : Nat) (g : Nat → Int × Int) : Nat → Option LoopSpec :=
 Qyi (Qxb (Qcp Qax Tryz.f217 0 Nat (fun i => i ≤ n ∧ ∀ j, j < i → okC n g j = true) (fun i => n - i) [(4, fun i => .v (.int .i64 i))] [])
   Tryz.f217 2 (Nat × Nat) (fun x => x.1 < n ∧ 2 ≤ x.2 ∧ x.2 ≤ n + 2 ∧ ∀ j, 2 ≤ j → j < x.2 → j < n → okS n g x.1 j = true) (fun s x => Zjy (s.tmps.getD 4 .unk) = (x.1 : Int)) (fun x => n + 2 - x.2) [(8, fun x => .v (.int .i64 x.2))] []) 5 [(21, fun nx => nx + 144), (22, fun nx => nx + 152), (23, fun nx => nx + 160)]
def Zj5 : Qb8 := Qah (Qah (Qah Qbr 292 (Qaj Qo0)) 221 (Qaj Qlm)) 293 (Qaj Qxx)
theorem Qz8 (n n' cap : Nat) (g : Nat→Int × Int) : (Qcu Tryz.prog Zj5 (Qmr n g) Tryz.f217 [.sl 0 2 0 n cap] (Qbm [⟨2,n',Qey g⟩]) 64 (fun y _ => y = .v (.bool (Qdt n g)))) =
((∃ x : Nat,((((x : Nat) ≤ n)∧(∀ j : Nat,(((j : Nat) < x)→(okC n g j = true))))∧(((SV.v (.int .i64 0)) = (SV.v (.int .i64 ((↑x : Int)))))∧True)))∧(∀ x : Nat,((((x : Nat) ≤ n)∧(∀ j : Nat,(((j : Nat) < x)→(okC n g j = true))))→(sel (decide ((↑x : Int) < (↑n : Int))) ((((0 : Int) ≤ ((↑x : Int)))∧((((↑x : Int)) : Int) < ((↑n : Int))))∧(((((↑n : Int)) : Int) ≠ 0)∧((((0 : Int) ≤ (Int.tmod (IntKind.wrap IntKind.i64 ((↑x : Int) + 1)) (↑n : Int)))∧(((Int.tmod (IntKind.wrap IntKind.i64 ((↑x : Int) + 1)) (↑n : Int)) : Int) < ((↑n : Int))))∧(((((↑n : Int)) : Int) ≠ 0)∧((((0 : Int) ≤ (Int.tmod (IntKind.wrap IntKind.i64 ((↑x : Int) + 2)) (↑n : Int)))∧(((Int.tmod (IntKind.wrap IntKind.i64 ((↑x : Int) + 2)) (↑n : Int)) : Int) < ((↑n : Int))))∧((((Sp (Prod.fst (g (0 + Int.toNat (↑x : Int)))))∧(Sp (Prod.snd (g (0 + Int.toNat (↑x : Int))))))∧((Sp (Prod.fst (g (0 + Int.toNat (Int.tmod (IntKind.wrap IntKind.i64 ((↑x : Int) + 1)) (↑n : Int))))))∧(Sp (Prod.snd (g (0 + Int.toNat (Int.tmod (IntKind.wrap IntKind.i64 ((↑x : Int) + 1)) (↑n : Int))))))))∧(sel (decide (Qaq (Prod.fst (g (0 + Int.toNat (↑x : Int)))) (Prod.snd (g (0 + Int.toNat (↑x : Int)))) (Prod.fst (g (0 + Int.toNat (Int.tmod (IntKind.wrap IntKind.i64 ((↑x : Int) + 1)) (↑n : Int))))) (Prod.snd (g (0 + Int.toNat (Int.tmod (IntKind.wrap IntKind.i64 ((↑x : Int) + 1)) (↑n : Int))))) ≤ 0)) ((SV.v (.bool false)) = (SV.v (.bool (Qdt n g)))) ((((Sp (Prod.fst (g (0 + Int.toNat (Int.tmod (IntKind.wrap IntKind.i64 ((↑x : Int) + 1)) (↑n : Int))))))∧(Sp (Prod.snd (g (0 + Int.toNat (Int.tmod (IntKind.wrap IntKind.i64 ((↑x : Int) + 1)) (↑n : Int)))))))∧((Sp (Prod.fst (g (0 + Int.toNat (↑x : Int)))))∧(Sp (Prod.snd (g (0 + Int.toNat (↑x : Int)))))))∧((((Sp (Prod.fst (g (0 + Int.toNat (Int.tmod (IntKind.wrap IntKind.i64 ((↑x : Int) + 2)) (↑n : Int))))))∧(Sp (Prod.snd (g (0 + Int.toNat (Int.tmod (IntKind.wrap IntKind.i64 ((↑x : Int) + 2)) (↑n : Int)))))))∧((Sp (Prod.fst (g (0 + Int.toNat (Int.tmod (IntKind.wrap IntKind.i64 ((↑x : Int) + 1)) (↑n : Int))))))∧(Sp (Prod.snd (g (0 + Int.toNat (Int.tmod (IntKind.wrap IntKind.i64 ((↑x : Int) + 1)) (↑n : Int))))))))∧((((Sp (Prod.fst (g (0 + Int.toNat (Int.tmod (IntKind.wrap IntKind.i64 ((↑x : Int) + 1)) (↑n : Int)))) - Prod.fst (g (0 + Int.toNat (↑x : Int)))))∧(Sp (Prod.snd (g (0 + Int.toNat (Int.tmod (IntKind.wrap IntKind.i64 ((↑x : Int) + 1)) (↑n : Int)))) - Prod.snd (g (0 + Int.toNat (↑x : Int))))))∧((Sp (Prod.fst (g (0 + Int.toNat (Int.tmod (IntKind.wrap IntKind.i64 ((↑x : Int) + 2)) (↑n : Int)))) - Prod.fst (g (0 + Int.toNat (Int.tmod (IntKind.wrap IntKind.i64 ((↑x : Int) + 1)) (↑n : Int))))))∧(Sp (Prod.snd (g (0 + Int.toNat (Int.tmod (IntKind.wrap IntKind.i64 ((↑x : Int) + 2)) (↑n : Int)))) - Prod.snd (g (0 + Int.toNat (Int.tmod (IntKind.wrap IntKind.i64 ((↑x : Int) + 1)) (↑n : Int))))))))∧((((Sp (Prod.fst (g (0 + Int.toNat (Int.tmod (IntKind.wrap IntKind.i64 ((↑x : Int) + 1)) (↑n : Int))))))∧(Sp (Prod.snd (g (0 + Int.toNat (Int.tmod (IntKind.wrap IntKind.i64 ((↑x : Int) + 1)) (↑n : Int)))))))∧((Sp (Prod.fst (g (0 + Int.toNat (↑x : Int)))))∧(Sp (Prod.snd (g (0 + Int.toNat (↑x : Int)))))))∧(((Sp (Prod.fst (g (0 + Int.toNat (Int.tmod (IntKind.wrap IntKind.i64 ((↑x : Int) + 1)) (↑n : Int)))) - Prod.fst (g (0 + Int.toNat (↑x : Int)))))∧(Sp (Prod.snd (g (0 + Int.toNat (Int.tmod (IntKind.wrap IntKind.i64 ((↑x : Int) + 1)) (↑n : Int)))) - Prod.snd (g (0 + Int.toNat (↑x : Int))))))∧((((Sp (Prod.fst (g (0 + Int.toNat (Int.tmod (IntKind.wrap IntKind.i64 ((↑x : Int) + 2)) (↑n : Int))))))∧(Sp (Prod.snd (g (0 + Int.toNat (Int.tmod (IntKind.wrap IntKind.i64 ((↑x : Int) + 2)) (↑n : Int)))))))∧((Sp (Prod.fst (g (0 + Int.toNat (Int.tmod (IntKind.wrap IntKind.i64 ((↑x : Int) + 1)) (↑n : Int))))))∧(Sp (Prod.snd (g (0 + Int.toNat (Int.tmod (IntKind.wrap IntKind.i64 ((↑x : Int) + 1)) (↑n : Int))))))))∧(((Sp (Prod.fst (g (0 + Int.toNat (Int.tmod (IntKind.wrap IntKind.i64 ((↑x : Int) + 2)) (↑n : Int)))) - Prod.fst (g (0 + Int.toNat (Int.tmod (IntKind.wrap IntKind.i64 ((↑x : Int) + 1)) (↑n : Int))))))∧(Sp (Prod.snd (g (0 + Int.toNat (Int.tmod (IntKind.wrap IntKind.i64 ((↑x : Int) + 2)) (↑n : Int)))) - Prod.snd (g (0 + Int.toNat (Int.tmod (IntKind.wrap IntKind.i64 ((↑x : Int) + 1)) (↑n : Int)))))))∧(sel (decide (Qaq (Prod.fst (g (0 + Int.toNat (Int.tmod (IntKind.wrap IntKind.i64 ((↑x : Int) + 1)) (↑n : Int)))) - Prod.fst (g (0 + Int.toNat (↑x : Int)))) (Prod.snd (g (0 + Int.toNat (Int.tmod (IntKind.wrap IntKind.i64 ((↑x : Int) + 1)) (↑n : Int)))) - Prod.snd (g (0 + Int.toNat (↑x : Int)))) (Prod.fst (g (0 + Int.toNat (Int.tmod (IntKind.wrap IntKind.i64 ((↑x : Int) + 2)) (↑n : Int)))) - Prod.fst (g (0 + Int.toNat (Int.tmod (IntKind.wrap IntKind.i64 ((↑x : Int) + 1)) (↑n : Int))))) (Prod.snd (g (0 + Int.toNat (Int.tmod (IntKind.wrap IntKind.i64 ((↑x : Int) + 2)) (↑n : Int)))) - Prod.snd (g (0 + Int.toNat (Int.tmod (IntKind.wrap IntKind.i64 ((↑x : Int) + 1)) (↑n : Int))))) < IntKind.wrap IntKind.i64 (4 * IntKind.wrap IntKind.i64 (Qiu (Prod.fst (g (0 + Int.toNat (Int.tmod (IntKind.wrap IntKind.i64 ((↑x : Int) + 1)) (↑n : Int)))) - Prod.fst (g (0 + Int.toNat (↑x : Int)))) (Prod.snd (g (0 + Int.toNat (Int.tmod (IntKind.wrap IntKind.i64 ((↑x : Int) + 1)) (↑n : Int)))) - Prod.snd (g (0 + Int.toNat (↑x : Int)))) + Qiu (Prod.fst (g (0 + Int.toNat (Int.tmod (IntKind.wrap IntKind.i64 ((↑x : Int) + 2)) (↑n : Int)))) - Prod.fst (g (0 + Int.toNat (Int.tmod (IntKind.wrap IntKind.i64 ((↑x : Int) + 1)) (↑n : Int))))) (Prod.snd (g (0 + Int.toNat (Int.tmod (IntKind.wrap IntKind.i64 ((↑x : Int) + 2)) (↑n : Int)))) - Prod.snd (g (0 + Int.toNat (Int.tmod (IntKind.wrap IntKind.i64 ((↑x : Int) + 1)) (↑n : Int))))))))) ((SV.v (.bool false)) = (SV.v (.bool (Qdt n g)))) ((∃ x_1 : (Nat × Nat),((((((Prod.fst x_1) : Nat) < n)∧(((2 : Nat) ≤ (Prod.snd x_1))∧((((Prod.snd x_1) : Nat) ≤ (n + 2))∧(∀ j : Nat,(((2 : Nat) ≤ j)→(((j : Nat) < (Prod.snd x_1))→(((j : Nat) < n)→(okS n g (Prod.fst x_1) j = true))))))))∧(((Zjy (SV.v (.int .i64 (↑x : Int)))) : Int) = ((↑(Prod.fst x_1) : Int))))∧(((SV.v (.int .i64 2)) = (SV.v (.int .i64 ((↑(Prod.snd x_1) : Int)))))∧True)))∧(∀ x_1 : (Nat × Nat),((((((Prod.fst x_1) : Nat) < n)∧(((2 : Nat) ≤ (Prod.snd x_1))∧((((Prod.snd x_1) : Nat) ≤ (n + 2))∧(∀ j : Nat,(((2 : Nat) ≤ j)→(((j : Nat) < (Prod.snd x_1))→(((j : Nat) < n)→(okS n g (Prod.fst x_1) j = true))))))))∧(((Zjy (SV.v (.int .i64 (↑x : Int)))) : Int) = ((↑(Prod.fst x_1) : Int))))→(sel (decide ((↑(Prod.snd x_1) : Int) < (↑n : Int))) ((((Sp (Prod.fst (g (0 + Int.toNat (Int.tmod (IntKind.wrap IntKind.i64 ((↑x : Int) + 1)) (↑n : Int))))))∧(Sp (Prod.snd (g (0 + Int.toNat (Int.tmod (IntKind.wrap IntKind.i64 ((↑x : Int) + 1)) (↑n : Int)))))))∧((Sp (Prod.fst (g (0 + Int.toNat (↑x : Int)))))∧(Sp (Prod.snd (g (0 + Int.toNat (↑x : Int)))))))∧(((((↑n : Int)) : Int) ≠ 0)∧((((0 : Int) ≤ (Int.tmod (IntKind.wrap IntKind.i64 ((↑x : Int) + (↑(Prod.snd x_1) : Int))) (↑n : Int)))∧(((Int.tmod (IntKind.wrap IntKind.i64 ((↑x : Int) + (↑(Prod.snd x_1) : Int))) (↑n : Int)) : Int) < ((↑n : Int))))∧((((Sp (Prod.fst (g (0 + Int.toNat (Int.tmod (IntKind.wrap IntKind.i64 ((↑x : Int) + (↑(Prod.snd x_1) : Int))) (↑n : Int))))))∧(Sp (Prod.snd (g (0 + Int.toNat (Int.tmod (IntKind.wrap IntKind.i64 ((↑x : Int) + (↑(Prod.snd x_1) : Int))) (↑n : Int)))))))∧((Sp (Prod.fst (g (0 + Int.toNat (↑x : Int)))))∧(Sp (Prod.snd (g (0 + Int.toNat (↑x : Int)))))))∧((((Sp (Prod.fst (g (0 + Int.toNat (Int.tmod (IntKind.wrap IntKind.i64 ((↑x : Int) + 1)) (↑n : Int)))) - Prod.fst (g (0 + Int.toNat (↑x : Int)))))∧(Sp (Prod.snd (g (0 + Int.toNat (Int.tmod (IntKind.wrap IntKind.i64 ((↑x : Int) + 1)) (↑n : Int)))) - Prod.snd (g (0 + Int.toNat (↑x : Int))))))∧((Sp (Prod.fst (g (0 + Int.toNat (Int.tmod (IntKind.wrap IntKind.i64 ((↑x : Int) + (↑(Prod.snd x_1) : Int))) (↑n : Int)))) - Prod.fst (g (0 + Int.toNat (↑x : Int)))))∧(Sp (Prod.snd (g (0 + Int.toNat (Int.tmod (IntKind.wrap IntKind.i64 ((↑x : Int) + (↑(Prod.snd x_1) : Int))) (↑n : Int)))) - Prod.snd (g (0 + Int.toNat (↑x : Int)))))))∧(sel (decide (Qaq (Prod.fst (g (0 + Int.toNat (Int.tmod (IntKind.wrap IntKind.i64 ((↑x : Int) + 1)) (↑n : Int)))) - Prod.fst (g (0 + Int.toNat (↑x : Int)))) (Prod.snd (g (0 + Int.toNat (Int.tmod (IntKind.wrap IntKind.i64 ((↑x : Int) + 1)) (↑n : Int)))) - Prod.snd (g (0 + Int.toNat (↑x : Int)))) (Prod.fst (g (0 + Int.toNat (Int.tmod (IntKind.wrap IntKind.i64 ((↑x : Int) + (↑(Prod.snd x_1) : Int))) (↑n : Int)))) - Prod.fst (g (0 + Int.toNat (↑x : Int)))) (Prod.snd (g (0 + Int.toNat (Int.tmod (IntKind.wrap IntKind.i64 ((↑x : Int) + (↑(Prod.snd x_1) : Int))) (↑n : Int)))) - Prod.snd (g (0 + Int.toNat (↑x : Int)))) ≤ 0)) ((SV.v (.bool false)) = (SV.v (.bool (Qdt n g)))) (∃ x' : (Nat × Nat),(((((((Prod.fst x') : Nat) < n)∧(((2 : Nat) ≤ (Prod.snd x'))∧((((Prod.snd x') : Nat) ≤ (n + 2))∧(∀ j : Nat,(((2 : Nat) ≤ j)→(((j : Nat) < (Prod.snd x'))→(((j : Nat) < n)→(okS n g (Prod.fst x') j = true))))))))∧(((Zjy (SV.v (.int .i64 (↑x : Int)))) : Int) = ((↑(Prod.fst x') : Int))))∧(((SV.v (.int .i64 (IntKind.wrap IntKind.i64 ((↑(Prod.snd x_1) : Int) + 1)))) = (SV.v (.int .i64 ((↑(Prod.snd x') : Int)))))∧True))∧(((n + 2 - Prod.snd x') : Nat) < (n + 2 - Prod.snd x_1)))))))))) (∃ x' : Nat,(((((x' : Nat) ≤ n)∧(∀ j : Nat,(((j : Nat) < x')→(okC n g j = true))))∧(((SV.v (.int .i64 (IntKind.wrap IntKind.i64 ((↑x : Int) + 1)))) = (SV.v (.int .i64 ((↑x' : Int)))))∧True))∧(((n - x') : Nat) < (n - x))))))))))))))))))))))) ((SV.v (.bool true)) = (SV.v (.bool (Qdt n g)))))))) := by kernel_rfl
structure ShB where
 k : Int
 r : Int
 w : Int
 h : Int
def shS (s : ShB) (x : SV) : SV := .agg [.v (.int .i64 s.k), .v (.int .i64 s.r), .v (.int .i64 s.w), .v (.int .i64 s.h), x]
def Qhi (s : ShB) : Prop := (I64 s.k ∧ I64 s.r) ∧ I64 s.w ∧ I64 s.h
def Qgk (p : Int × Int) : Bool := Qj4 p.1 && Qj4 p.2
def Qca (s : ShB) (n : Nat) (g : Nat → Int × Int) : Int :=
 bif s.k == 1 then (bif s.w != 0 || (s.h != 0 || ((n : Int)) != 0) then 4 else bif Qeh s.r then 0 else 3)
 else bif s.k == 2 then (bif s.r != 0 || (n : Int) != 0 then 4 else bif Qeh s.w && Qeh s.h then 0 else 3)
 else bif s.k == 3 then (bif s.r != 0 || (s.w != 0 || (s.h != 0 || (decide ((n : Int) < 3) || decide ((n : Int) > 8)))) then 4 else bif (List.range n).all (fun i => Qgk (g i)) then (bif Qdt n g then 0 else 5) else 3)
 else 8
def Qon : List SV → Prop
 | [.v (.int .i64 a), .v (.int .i64 b)] => I64 a ∧ I64 b
 | _ => False
def Qht : List SV → List Ro → Option (Option Prop × SV)
 | [.agg [.v (.int .i64 k), .v (.int .i64 r), .v (.int .i64 w), .v (.int .i64 h), .sl 0 2 0 n _]], [⟨2, n', row⟩] => some (some (Qhi ⟨k, r, w, h⟩ ∧ Qb5 Qon (Qak n' row) ∧ n' = n ∧ n < 1099511627776), .v (.int .i64 (Qca ⟨k, r, w, h⟩ n fun i => gi (row i))))
 | [.agg [.v (.int .i64 k), .v (.int .i64 r), .v (.int .i64 w), .v (.int .i64 h), .v (.slice none 0 0)]], [] => some (some (Qhi ⟨k, r, w, h⟩), .v (.int .i64 (Qca ⟨k, r, w, h⟩ 0 fun _ => (0, 0))))
 | _, _ => none
noncomputable def Qif (n : Nat) (g : Nat → Int × Int) : Nat → Option LoopSpec := Qcp Qax Tryz.f25 1 Nat (fun i => i ≤ n ∧ ∀ j, j < i → Qgk (g j) = true) (fun i => n - i) [(78, fun i => .v (.int .i64 i))] []
noncomputable def Qgd (n : Nat) (g : Nat → Int × Int) : Nat → Option LoopSpec := Qcp Qax Tryz.f144 1 Nat (fun i => i ≤ n ∧ ∀ j, j < i → Qgk (g j) = true) (fun i => n - i) [(3, fun i => .v (.int .i64 i))] []
def Q45 : Qb8 := Qah (Qah (Qah (Qah (Qah Qbr 91 (Qc7 Qku)) 90 (Qaj Qox)) 217 (Qc7 Qku)) 215 (Qaj Qox)) 216 (Qaj Zcj)
theorem Q52 (s : ShB) (n n' cap : Nat) (g : Nat→Int × Int) (R : SV→Prop) : (Qcu Tryz.prog Q45 (Qif n g) Tryz.f25 [shS s (.sl 0 2 0 n cap)] (Qbm [⟨2,n',Qey g⟩]) 64 (fun y _ => R y)) =
(sel (ShB.k s == 1) (sel (ShB.w s != 0) (R (SV.v (.int .i64 4))) (sel (ShB.h s != 0) (R (SV.v (.int .i64 4))) (sel ((↑n : Int) != 0) (R (SV.v (.int .i64 4))) ((I64 (ShB.r s))∧(sel (!Qeh (ShB.r s)) (R (SV.v (.int .i64 3))) (R (SV.v (.int .i64 0)))))))) (sel (ShB.k s == 2) (sel (ShB.r s != 0) (R (SV.v (.int .i64 4))) (sel ((↑n : Int) != 0) (R (SV.v (.int .i64 4))) ((I64 (ShB.w s))∧(sel (!Qeh (ShB.w s)) (R (SV.v (.int .i64 3))) ((I64 (ShB.h s))∧(sel (!Qeh (ShB.h s)) (R (SV.v (.int .i64 3))) (R (SV.v (.int .i64 0))))))))) (sel (ShB.k s == 3) (sel (ShB.r s != 0) (R (SV.v (.int .i64 4))) (sel (ShB.w s != 0) (R (SV.v (.int .i64 4))) (sel (ShB.h s != 0) (R (SV.v (.int .i64 4))) (sel (decide ((↑n : Int) < 3)) (R (SV.v (.int .i64 4))) (sel (decide ((↑n : Int) > 8)) (R (SV.v (.int .i64 4))) ((∃ x : Nat,((((x : Nat) ≤ n)∧(∀ j : Nat,(((j : Nat) < x)→(Qgk (g j) = true))))∧(((SV.v (.int .i64 0)) = (SV.v (.int .i64 ((↑x : Int)))))∧True)))∧(∀ x : Nat,((((x : Nat) ≤ n)∧(∀ j : Nat,(((j : Nat) < x)→(Qgk (g j) = true))))→(sel (decide ((↑x : Int) < (↑n : Int))) ((((0 : Int) ≤ ((↑x : Int)))∧((((↑x : Int)) : Int) < ((↑n : Int))))∧(sel (decide (max (Prod.fst (g (0 + Int.toNat (↑x : Int)))) (Prod.snd (g (0 + Int.toNat (↑x : Int)))) > 4096)) (R (SV.v (.int .i64 3))) (sel (decide (min (Prod.fst (g (0 + Int.toNat (↑x : Int)))) (Prod.snd (g (0 + Int.toNat (↑x : Int)))) < -4096)) (R (SV.v (.int .i64 3))) (∃ x' : Nat,(((((x' : Nat) ≤ n)∧(∀ j : Nat,(((j : Nat) < x')→(Qgk (g j) = true))))∧(((SV.v (.int .i64 (IntKind.wrap IntKind.i64 ((↑x : Int) + 1)))) = (SV.v (.int .i64 ((↑x' : Int)))))∧True))∧(((n - x') : Nat) < (n - x))))))) ((((n : Nat) = n)∧(((n : Nat) ≤ 1099511627776)∧(Qqe n fun y => [SV.v (.int .i64 (Prod.fst (g (0 + y)))),SV.v (.int .i64 (Prod.snd (g (0 + y))))])))∧(sel (!Qdt n fun i => gi [SV.v (.int .i64 (Prod.fst (g (0 + i)))),SV.v (.int .i64 (Prod.snd (g (0 + i))))]) (R (SV.v (.int .i64 5))) (R (SV.v (.int .i64 0)))))))))))))) (R (SV.v (.int .i64 8)))))) := by kernel_rfl
theorem Q0h (s : ShB) (g : Nat→Int × Int) (R : SV→Prop) : (Qcu Tryz.prog Q45 (Qif 0 g) Tryz.f25 [shS s (.v (.slice none 0 0))] (Qbm []) 64 (fun y _ => R y)) = (sel (ShB.k s == 1) (sel (ShB.w s != 0) (R (SV.v (.int .i64 4))) (sel (ShB.h s != 0) (R (SV.v (.int .i64 4))) ((I64 (ShB.r s))∧(sel (!Qeh (ShB.r s)) (R (SV.v (.int .i64 3))) (R (SV.v (.int .i64 0))))))) (sel (ShB.k s == 2) (sel (ShB.r s != 0) (R (SV.v (.int .i64 4))) ((I64 (ShB.w s))∧(sel (!Qeh (ShB.w s)) (R (SV.v (.int .i64 3))) ((I64 (ShB.h s))∧(sel (!Qeh (ShB.h s)) (R (SV.v (.int .i64 3))) (R (SV.v (.int .i64 0)))))))) (sel (ShB.k s == 3) (sel (ShB.r s != 0) (R (SV.v (.int .i64 4))) (sel (ShB.w s != 0) (R (SV.v (.int .i64 4))) (sel (ShB.h s != 0) (R (SV.v (.int .i64 4))) (R (SV.v (.int .i64 4)))))) (R (SV.v (.int .i64 8)))))):=by kernel_rfl
theorem Qz9 (s : ShB) (n n' cap : Nat) (g : Nat→Int × Int) (R : SV→Prop) : (Qcu Tryz.prog Q45 (Qgd n g) Tryz.f144 [shS s (.sl 0 2 0 n cap)] (Qbm [⟨2,n',Qey g⟩]) 64 (fun y _ => R y)) =
(sel (ShB.k s == 1) (sel (ShB.w s != 0) (R (SV.v (.int .i64 4))) (sel (ShB.h s != 0) (R (SV.v (.int .i64 4))) (sel (decide ((↑n : Int) > 0)) (R (SV.v (.int .i64 4))) ((I64 (ShB.r s))∧(sel (!Qeh (ShB.r s)) (R (SV.v (.int .i64 3))) (R (SV.v (.int .i64 0)))))))) (sel (ShB.k s == 2) (sel (ShB.r s != 0) (R (SV.v (.int .i64 4))) (sel (decide ((↑n : Int) > 0)) (R (SV.v (.int .i64 4))) ((I64 (ShB.w s))∧(sel (!Qeh (ShB.w s)) (R (SV.v (.int .i64 3))) ((I64 (ShB.h s))∧(sel (!Qeh (ShB.h s)) (R (SV.v (.int .i64 3))) (R (SV.v (.int .i64 0))))))))) (sel (ShB.k s == 3) (sel (ShB.r s != 0) (R (SV.v (.int .i64 4))) (sel (ShB.w s != 0) (R (SV.v (.int .i64 4))) (sel (ShB.h s != 0) (R (SV.v (.int .i64 4))) (sel (decide ((↑n : Int) < 3)) (R (SV.v (.int .i64 4))) (sel (decide ((↑n : Int) > 8)) (R (SV.v (.int .i64 4))) ((∃ x : Nat,((((x : Nat) ≤ n)∧(∀ j : Nat,(((j : Nat) < x)→(Qgk (g j) = true))))∧(((SV.v (.int .i64 0)) = (SV.v (.int .i64 ((↑x : Int)))))∧True)))∧(∀ x : Nat,((((x : Nat) ≤ n)∧(∀ j : Nat,(((j : Nat) < x)→(Qgk (g j) = true))))→(sel (decide ((↑x : Int) < (↑n : Int))) ((((0 : Int) ≤ ((↑x : Int)))∧((((↑x : Int)) : Int) < ((↑n : Int))))∧((I64 (Prod.fst (g (0 + Int.toNat (↑x : Int)))))∧(sel (!Qj4 (Prod.fst (g (0 + Int.toNat (↑x : Int))))) (R (SV.v (.int .i64 3))) ((((0 : Int) ≤ ((↑x : Int)))∧((((↑x : Int)) : Int) < ((↑n : Int))))∧((I64 (Prod.snd (g (0 + Int.toNat (↑x : Int)))))∧(sel (!Qj4 (Prod.snd (g (0 + Int.toNat (↑x : Int))))) (R (SV.v (.int .i64 3))) (∃ x' : Nat,(((((x' : Nat) ≤ n)∧(∀ j : Nat,(((j : Nat) < x')→(Qgk (g j) = true))))∧(((SV.v (.int .i64 (IntKind.wrap IntKind.i64 ((↑x : Int) + 1)))) = (SV.v (.int .i64 ((↑x' : Int)))))∧True))∧(((n - x') : Nat) < (n - x)))))))))) ((((n : Nat) = n)∧(((n : Nat) ≤ 1099511627776)∧(Qqe n fun y => [SV.v (.int .i64 (Prod.fst (g (0 + y)))),SV.v (.int .i64 (Prod.snd (g (0 + y))))])))∧(sel (!Qdt n fun i => gi [SV.v (.int .i64 (Prod.fst (g (0 + i)))),SV.v (.int .i64 (Prod.snd (g (0 + i))))]) (R (SV.v (.int .i64 5))) (R (SV.v (.int .i64 0)))))))))))))) (R (SV.v (.int .i64 8)))))) := by kernel_rfl
theorem Qxn (s : ShB) (g : Nat→Int × Int) (R : SV→Prop) : (Qcu Tryz.prog Q45 (Qgd 0 g) Tryz.f144 [shS s (.v (.slice none 0 0))] (Qbm []) 64 (fun y _ => R y)) = (sel (ShB.k s == 1) (sel (ShB.w s != 0) (R (SV.v (.int .i64 4))) (sel (ShB.h s != 0) (R (SV.v (.int .i64 4))) ((I64 (ShB.r s))∧(sel (!Qeh (ShB.r s)) (R (SV.v (.int .i64 3))) (R (SV.v (.int .i64 0))))))) (sel (ShB.k s == 2) (sel (ShB.r s != 0) (R (SV.v (.int .i64 4))) ((I64 (ShB.w s))∧(sel (!Qeh (ShB.w s)) (R (SV.v (.int .i64 3))) ((I64 (ShB.h s))∧(sel (!Qeh (ShB.h s)) (R (SV.v (.int .i64 3))) (R (SV.v (.int .i64 0)))))))) (sel (ShB.k s == 3) (sel (ShB.r s != 0) (R (SV.v (.int .i64 4))) (sel (ShB.w s != 0) (R (SV.v (.int .i64 4))) (sel (ShB.h s != 0) (R (SV.v (.int .i64 4))) (R (SV.v (.int .i64 4)))))) (R (SV.v (.int .i64 8)))))):=by kernel_rfl
theorem Zh3 {a n : Nat} (h : a < 2 * n) : a % n = if a < n then a else a - n := by
 by_cases h' : a < n
 · rw [if_pos h', Nat.mod_eq_of_lt h']
 · rw [if_neg h', Nat.mod_eq_sub_mod (by omega), Nat.mod_eq_of_lt (by omega)]
theorem Q9d {n : Nat} {g : Nat → Int × Int} {i : Nat} (hi : i < n) (h : ∀ k, 2 ≤ k → k < n → okS n g i k = true) : (List.range n).all (okR n g i) = true := Qhe fun j hj => by
 by_cases e : j = i
 · unfold okR; rw [e, Nat.beq_refl]; rfl
 · by_cases e' : j = (i + 1) % n
   · unfold okR; rw [← e', Nat.beq_refl]; simp
   · by_cases hl : i < j
     · have hk : j - i ≠ 1 := fun e'' => e' (by rw [Zh3 (by omega), if_pos (by omega)]; omega)
       have := h (j - i) (by omega) (by omega)
       unfold okS at this
       rw [show i + (j - i) = j by omega, Nat.mod_eq_of_lt hj] at this
       unfold okR; rw [this]; simp
     · have hk : j + n - i ≠ 1 := fun e'' => e' (by rw [Zh3 (by omega), if_neg (by omega)]; omega)
       have := h (j + n - i) (by omega) (by omega)
       unfold okS at this
       rw [show i + (j + n - i) = j + n by omega, Nat.add_mod_right, Nat.mod_eq_of_lt hj] at this
       unfold okR; rw [this]; simp
theorem Zh0 {n : Nat} {g : Nat → Int × Int} {i k : Nat} (hi : i < n) (h2 : 2 ≤ k) (hk : k < n) (h : okS n g i k = false) : okC n g i = false := by
 refine Qwn (i := (i + k) % n) (Nat.mod_lt _ (by omega)) ?_
 have n1 : Nat.beq ((i + k) % n) i = false := Go.SE.Qb6 (by rw [Zh3 (by omega)]; split <;> omega)
 have n2 : Nat.beq ((i + k) % n) ((i + 1) % n) = false := Go.SE.Qb6 (by rw [Zh3 (by omega), Zh3 (by omega)]; split <;> split <;> omega)
 unfold okS at h
 unfold okR
 rw [n1, n2, h]; rfl
theorem Zan : ∀ f g, Zj5 f = some g → g.ok Tryz.prog f := Qab (Qab (Qab Qa0 (Qal Tryz.func292 (by kernel_rfl) (by kernel_rfl) Qvg)) (Qal Tryz.func221 (by kernel_rfl) (by kernel_rfl) Qly)) (Qal Tryz.func293 (by kernel_rfl) (by kernel_rfl) Qyx)
theorem Qx1 {n cap : Nat} {g : Nat → Int × Int} (hn : n ≤ 1099511627776) (hg : ∀ i, i < n → Sq (g i).1 ∧ Sq (g i).2) : Qcu Tryz.prog Zj5 (Qmr n g) Tryz.f217 [.sl 0 2 0 n cap] (Qbm [⟨2, n, Qey g⟩]) 64 (fun y _ => y = .v (.bool (Qdt n g))) := by
 refine Eq.mpr (Qz8 n n cap g) ?_
 simp only [Nat.zero_add, Int.toNat_natCast]
 refine ⟨⟨0, ⟨Nat.zero_le _, fun j hj => absurd hj (Nat.not_lt_zero _)⟩, rfl, trivial⟩, fun i ⟨hi, hdone⟩ => Qad (fun hlt => ?_) fun hge => ?_⟩
 · have hlt : i < n := by simpa using hlt
   have em : ∀ k : Nat, k ≤ n + 2 → (IntKind.i64.wrap ((i : Int) + (k : Int))).tmod (n : Int) = (((i + k) % n : Nat) : Int) := fun k hk => by
     rw [Qaf ⟨by omega, by omega⟩, Int.tmod_eq_emod_of_nonneg (by omega), Int.natCast_emod]; rfl
   have em1 : (IntKind.i64.wrap ((i : Int) + 1)).tmod (n : Int) = (((i + 1) % n : Nat) : Int) := em 1 (by omega)
   have em2 : (IntKind.i64.wrap ((i : Int) + 2)).tmod (n : Int) = (((i + 2) % n : Nat) : Int) := em 2 (by omega)
   simp only [em1, em2, Int.toNat_natCast]
   have l1 : (i + 1) % n < n := Nat.mod_lt _ (by omega)
   have l2 : (i + 2) % n < n := Nat.mod_lt _ (by omega)
   obtain ⟨a1, a2⟩ := hg i hlt
   obtain ⟨b1, b2⟩ := hg _ l1
   obtain ⟨c1, c2⟩ := hg _ l2
   have bad : ∀ {b : Bool}, okC n g i = false → SV.v (Value.bool false) = SV.v (Value.bool (Qdt n g)) := fun {b} h => by rw [Qw2 hlt h]
   refine ⟨⟨by omega, by omega⟩, by omega, ⟨Int.natCast_nonneg _, Int.ofNat_lt.2 l1⟩, by omega, ⟨Int.natCast_nonneg _, Int.ofNat_lt.2 l2⟩, ⟨⟨a1.sp, a2.sp⟩, b1.sp, b2.sp⟩, Qad (fun h => bad (b := true) (Qqu (by unfold okE Qac; rw [h]; rfl))) fun h1 => ?_⟩
   have s1 := Qqg b1 a1 b2 a2
   have s2 := Qqg c1 b1 c2 b2
   refine ⟨⟨⟨b1.sp, b2.sp⟩, a1.sp, a2.sp⟩, ⟨⟨c1.sp, c2.sp⟩, b1.sp, b2.sp⟩, ⟨⟨b1.sub a1, b2.sub a2⟩, c1.sub b1, c2.sub b2⟩, ⟨⟨b1.sp, b2.sp⟩, a1.sp, a2.sp⟩, ⟨b1.sub a1, b2.sub a2⟩, ⟨⟨c1.sp, c2.sp⟩, b1.sp, b2.sp⟩, ⟨c1.sub b1, c2.sub b2⟩, ?_⟩
   rw [Qaf (n := Qiu _ _ + Qiu _ _) ⟨by omega, by omega⟩, Qaf ⟨by omega, by omega⟩]
   refine Qad (fun h => bad (b := true) (Qqu (by unfold okE Qac Qub Qa5; simp only; rw [h]; simp))) fun h2 => ?_
   have hE : okE n g i = true := by unfold okE Qac Qub Qa5; simp only; rw [h1, h2]; rfl
   refine ⟨⟨(i, 2), ⟨⟨hlt, Nat.le_refl _, by simp only; omega, fun j hj hj' => by simp only at hj'; omega⟩, rfl⟩, rfl, trivial⟩, ?_⟩
   rintro ⟨i', k⟩ ⟨⟨_, hk2, hk, hok⟩, hat⟩
   have hat : (i : Int) = (i' : Int) := hat
   obtain rfl : i = i' := by omega
   simp only at hk2 hk hok ⊢
   refine Qad (fun hlt' => ?_) fun hge' => ?_
   · have hlt' : k < n := by simpa using hlt'
     have l3 : (i + k) % n < n := Nat.mod_lt _ (by omega)
     obtain ⟨d1, d2⟩ := hg _ l3
     simp only [em k (by omega), Int.toNat_natCast]
     refine ⟨⟨⟨b1.sp, b2.sp⟩, a1.sp, a2.sp⟩, by omega, ⟨Int.natCast_nonneg _, Int.ofNat_lt.2 l3⟩, ⟨⟨d1.sp, d2.sp⟩, a1.sp, a2.sp⟩, ⟨⟨b1.sub a1, b2.sub a2⟩, d1.sub a1, d2.sub a2⟩, Qad (fun h5 => bad (b := true) (Zh0 hlt hk2 hlt' (by unfold okS Qac Qa5; simp only; rw [h5]; rfl))) fun h5 => ?_⟩
     refine ⟨(i, k + 1), ⟨⟨⟨hlt, by simp only; omega, by simp only; omega, fun j hj hj' hj'' => ?_⟩, rfl⟩, Qbh (by rw [Qaf ⟨by omega, by omega⟩]; rfl), trivial⟩, by simp only; omega⟩
     by_cases e : j = k
     · rw [e]; unfold okS Qac Qa5; simp only; rw [h5]; rfl
     · exact hok j hj (by simp only at hj'; omega) hj''
   · have hge' : ¬ k < n := by simpa using hge'
     refine ⟨i + 1, ⟨⟨hlt, fun j hj => ?_⟩, Qbh (by rw [Qaf ⟨by omega, by omega⟩]; rfl), trivial⟩, by omega⟩
     by_cases e : j = i
     · rw [e]; unfold okC; rw [hE, Q9d hlt fun k' h1 h2 => hok k' h1 (by omega) h2]; rfl
     · exact hdone j (by omega)
 · have hge : ¬ i < n := by simpa using hge
   obtain rfl : i = n := by omega
   have : Qdt i g = true := Qhe hdone
   rw [this]
theorem Qs8 : Qcg Tryz.prog 217 Qku := Qb4 hm Zan Tryz.func217 (Λ := fun args bs => match args, bs with | [.sl 0 2 0 n _], [⟨2, _, row⟩] => Qmr n (fun i => gi (row i)) | _, _ => Qax) fun args bs p x h hp => by
 unfold Qku at h
 split at h <;> try (cases h; done)
 rename_i n c n' row
 cases h
 obtain ⟨rfl, hn, h0⟩ := hp _ rfl
 refine ⟨rfl, [⟨2, n', Qey fun i => gi (row i)⟩], ⟨⟨rfl, rfl, fun i hi => (h0 i hi).1⟩, trivial⟩, ?_⟩
 exact Qx1 hn fun i hi => (h0 i hi).2
theorem Qzn : ∀ f g, Q45 f = some g → g.ok Tryz.prog f := Qab (Qab (Qab (Qab (Qab Qa0 (Qdc Tryz.func91 (by kernel_rfl) (by kernel_rfl) Qvo)) (Qal Tryz.func90 (by kernel_rfl) (by kernel_rfl) Qys)) (Qdc Tryz.func217 (by kernel_rfl) (by kernel_rfl) Qs8)) (Qal Tryz.func215 (by kernel_rfl) (by kernel_rfl) Qvd)) (Qal Tryz.func216 (by kernel_rfl) (by kernel_rfl) Qy0)
theorem Qdj {r : List SV} (h : Qon r) : r = [.v (.int .i64 (gi r).1), .v (.int .i64 (gi r).2)] ∧ I64 (gi r).1 ∧ I64 (gi r).2 := by
 unfold Qon at h
 split at h
 · exact ⟨rfl, h.1, h.2⟩
 · exact h.elim
theorem Q13 {p : Int × Int} (h : Qgk p = true) : Sq p.1 ∧ Sq p.2 := by
 unfold Qgk Qj4 at h
 simp only [Bool.and_eq_true, decide_eq_true_eq] at h
 exact ⟨⟨by omega, by omega⟩, by omega, by omega⟩
theorem Qov {n : Nat} {g : Nat → Int × Int} (h : ∀ i, i < n → Qgk (g i) = true) : Qqe n fun y => [SV.v (.int .i64 (g y).1), SV.v (.int .i64 (g y).2)] := fun i hi => ⟨rfl, (Q13 (h i hi)).1, (Q13 (h i hi)).2⟩
theorem Zl5 (n : Nat) : ((n : Int) != 0) = decide ((n : Int) > 0) := by
 cases n with
 | zero => rfl
 | succ n => rw [decide_eq_true (by omega)]; simp; omega
theorem Qg5 {s : ShB} {n : Nat} {g : Nat → Int × Int} (h1 : (s.k == 1) = false) (h2 : (s.k == 2) = false) (h3 : (s.k == 3) = true) (h4 : (s.r != 0) = false) (h5 : (s.w != 0) = false) (h6 : (s.h != 0) = false) (h7 : decide ((n : Int) < 3) = false) (h8 : decide ((n : Int) > 8) = false) :
   Qca s n g = bif (List.range n).all (fun i => Qgk (g i)) then (bif Qdt n g then 0 else 5) else 3 := by
 unfold Qca; rw [h1, h2, h3, h4, h5, h6, h7, h8]; rfl
theorem Q2p {x y : Int} : Qgk (x, y) = (!decide (max x y > 4096) && !decide (min x y < -4096)) := by
 unfold Qgk Qj4
 refine Bool.eq_iff_iff.2 ?_
 simp only [Bool.and_eq_true, Bool.not_eq_true', decide_eq_true_eq, decide_eq_false_iff_not]
 omega
theorem Q3h {s : ShB} {n cap : Nat} {g : Nat → Int × Int} (hs : Qhi s) (hn : n < 1099511627776) (hg : ∀ i, i < n → I64 (g i).1 ∧ I64 (g i).2) : Qcu Tryz.prog Q45 (Qif n g) Tryz.f25 [shS s (.sl 0 2 0 n cap)] (Qbm [⟨2, n, Qey g⟩]) 64 (fun y _ => y = .v (.int .i64 (Qca s n g))) := by
 refine Eq.mpr (Q52 s n n cap g _) ?_
 simp only [Nat.zero_add, Int.toNat_natCast]
 obtain ⟨⟨k1, k2⟩, k3, k4⟩ := hs
 refine Qad (fun e1 => Qad (fun e2 => ?_) fun e2 => Qad (fun e3 => ?_) fun e3 => Qad (fun e4 => ?_) fun e4 => ⟨k2, Qad (fun e5 => ?_) fun e5 => ?_⟩) fun e1 => Qad (fun e2 => Qad (fun e3 => ?_) fun e3 => Qad (fun e4 => ?_) fun e4 => ⟨k3, Qad (fun e5 => ?_) fun e5 => ⟨k4, Qad (fun e6 => ?_) fun e6 => ?_⟩⟩) fun e2 => Qad (fun e3 => Qad (fun e4 => ?_) fun e4 => Qad (fun e5 => ?_) fun e5 => Qad (fun e6 => ?_) fun e6 => Qad (fun e7 => ?_) fun e7 => Qad (fun e8 => ?_) fun e8 => ⟨⟨0, ⟨Nat.zero_le _, fun j hj => absurd hj (Nat.not_lt_zero _)⟩, rfl, trivial⟩, fun i ⟨hi, hok⟩ => Qad (fun hlt => ?_) fun hge => ?_⟩) fun e3 => ?_
 all_goals try ((try simp only [Bool.not_eq_true', Bool.not_eq_false'] at *); refine Qbh ?_; unfold Qca; simp only [*, cond_true, cond_false, Bool.true_or, Bool.or_true, Bool.false_or, Bool.or_false, Bool.and_true, Bool.true_and, Bool.and_false, Bool.false_and, Bool.and_self, Bool.or_self, Int.natCast_zero, bne_self_eq_false, Int.ofNat_eq_natCast]; done)
 · have hlt : i < n := by simpa using hlt
   have et := Qg5 (g := g) e1 e2 e3 e4 e5 e6 e7 e8
   have bad : Qgk (g i) = false → SV.v (.int .i64 3) = SV.v (.int .i64 (Qca s n g)) := fun h => by rw [et, Qk3 (f := fun i => Qgk (g i)) hlt h]; rfl
   refine ⟨⟨by omega, by omega⟩, Qad (fun h => bad ?_) fun h => Qad (fun h' => bad ?_) fun h' => ⟨i + 1, ⟨⟨hlt, fun j hj => ?_⟩, Qbh (by rw [Qaf ⟨by omega, by omega⟩]; rfl), trivial⟩, by omega⟩⟩
   · show Qgk ((g i).1, (g i).2) = false
     rw [Q2p, h]; rfl
   · show Qgk ((g i).1, (g i).2) = false
     rw [Q2p, h', Bool.not_true, Bool.and_false]
   · by_cases e : j = i
     · rw [e]
       show Qgk ((g i).1, (g i).2) = true
       rw [Q2p, h, h']; rfl
     · exact hok j (by omega)
 · have hge : ¬ i < n := by simpa using hge
   obtain rfl : i = n := by omega
   have et := Qg5 (g := g) e1 e2 e3 e4 e5 e6 e7 e8
   rw [Qhe (f := fun i => Qgk (g i)) hok, cond_true] at et
   refine ⟨⟨trivial, by omega, Qov hok⟩, ?_⟩
   show sel (!Qdt i g) _ _
   rw [et]
   cases Qdt i g <;> rfl
theorem Qyf {s : ShB} (hs : Qhi s) : Qcu Tryz.prog Q45 (Qif 0 fun _ => (0, 0)) Tryz.f25 [shS s (.v (.slice none 0 0))] (Qbm []) 64 (fun y _ => y = .v (.int .i64 (Qca s 0 fun _ => (0, 0)))) := by
 refine Eq.mpr (Q0h s (fun _ => (0, 0)) _) ?_
 obtain ⟨⟨k1, k2⟩, k3, k4⟩ := hs
 refine Qad (fun e1 => Qad (fun e2 => ?_) fun e2 => Qad (fun e3 => ?_) fun e3 => ⟨k2, Qad (fun e5 => ?_) fun e5 => ?_⟩) fun e1 => Qad (fun e2 => Qad (fun e3 => ?_) fun e3 => ⟨k3, Qad (fun e5 => ?_) fun e5 => ⟨k4, Qad (fun e6 => ?_) fun e6 => ?_⟩⟩) fun e2 => Qad (fun e3 => Qad (fun e4 => ?_) fun e4 => Qad (fun e5 => ?_) fun e5 => Qad (fun e6 => ?_) fun e6 => ?_) fun e3 => ?_
 all_goals ((try simp only [Bool.not_eq_true', Bool.not_eq_false'] at *); refine Qbh ?_; unfold Qca; simp only [*, cond_true, cond_false, Bool.true_or, Bool.or_true, Bool.false_or, Bool.or_false, Bool.and_true, Bool.true_and, Bool.and_false, Bool.false_and, Bool.and_self, Bool.or_self, Int.natCast_zero, bne_self_eq_false, Int.ofNat_eq_natCast]; try rfl)
theorem Qof : Qcg Tryz.prog 25 Qht := Qb4 hm Qzn Tryz.func25 (Λ := fun args bs => match args, bs with | [.agg [_, _, _, _, .sl 0 2 0 n _]], [⟨2, _, row⟩] => Qif n (fun i => gi (row i)) | _, _ => Qif 0 (fun _ => (0, 0))) fun args bs p x h hp => by
 unfold Qht at h
 split at h <;> try (cases h; done)
 · rename_i k r w hh n c n' row
   cases h
   obtain ⟨hs, h0, rfl, hn⟩ := hp _ rfl
   have h0 := okAll_rows.1 h0
   refine ⟨rfl, [⟨2, n', Qey fun i => gi (row i)⟩], ⟨⟨rfl, rfl, fun i hi => (Qdj (h0 i hi)).1⟩, trivial⟩, ?_⟩
   exact Q3h (s := ⟨k, r, w, hh⟩) hs hn fun i hi => (Qdj (h0 i hi)).2
 · rename_i k r w hh
   cases h
   exact ⟨rfl, [], trivial, Qyf (s := ⟨k, r, w, hh⟩) (hp _ rfl)⟩
theorem Qx2 {s : ShB} {n cap : Nat} {g : Nat → Int × Int} (hs : Qhi s) (hn : n < 1099511627776) (hg : ∀ i, i < n → I64 (g i).1 ∧ I64 (g i).2) : Qcu Tryz.prog Q45 (Qgd n g) Tryz.f144 [shS s (.sl 0 2 0 n cap)] (Qbm [⟨2, n, Qey g⟩]) 64 (fun y _ => y = .v (.int .i64 (Qca s n g))) := by
 refine Eq.mpr (Qz9 s n n cap g _) ?_
 simp only [Nat.zero_add, Int.toNat_natCast, ← Zl5]
 obtain ⟨⟨k1, k2⟩, k3, k4⟩ := hs
 refine Qad (fun e1 => Qad (fun e2 => ?_) fun e2 => Qad (fun e3 => ?_) fun e3 => Qad (fun e4 => ?_) fun e4 => ⟨k2, Qad (fun e5 => ?_) fun e5 => ?_⟩) fun e1 => Qad (fun e2 => Qad (fun e3 => ?_) fun e3 => Qad (fun e4 => ?_) fun e4 => ⟨k3, Qad (fun e5 => ?_) fun e5 => ⟨k4, Qad (fun e6 => ?_) fun e6 => ?_⟩⟩) fun e2 => Qad (fun e3 => Qad (fun e4 => ?_) fun e4 => Qad (fun e5 => ?_) fun e5 => Qad (fun e6 => ?_) fun e6 => Qad (fun e7 => ?_) fun e7 => Qad (fun e8 => ?_) fun e8 => ⟨⟨0, ⟨Nat.zero_le _, fun j hj => absurd hj (Nat.not_lt_zero _)⟩, rfl, trivial⟩, fun i ⟨hi, hok⟩ => Qad (fun hlt => ?_) fun hge => ?_⟩) fun e3 => ?_
 all_goals try ((try simp only [Bool.not_eq_true', Bool.not_eq_false'] at *); refine Qbh ?_; unfold Qca; simp only [*, cond_true, cond_false, Bool.true_or, Bool.or_true, Bool.false_or, Bool.or_false, Bool.and_true, Bool.true_and, Bool.and_false, Bool.false_and, Bool.and_self, Bool.or_self, Int.natCast_zero, bne_self_eq_false, Int.ofNat_eq_natCast]; done)
 · have hlt : i < n := by simpa using hlt
   have et := Qg5 (g := g) e1 e2 e3 e4 e5 e6 e7 e8
   have bad : Qgk (g i) = false → SV.v (.int .i64 3) = SV.v (.int .i64 (Qca s n g)) := fun h => by rw [et, Qk3 (f := fun i => Qgk (g i)) hlt h]; rfl
   obtain ⟨d1, d2⟩ := hg i hlt
   refine ⟨⟨by omega, by omega⟩, d1, Qad (fun h => bad ?_) fun h => ⟨⟨by omega, by omega⟩, d2, Qad (fun h' => bad ?_) fun h' => ⟨i + 1, ⟨⟨hlt, fun j hj => ?_⟩, Qbh (by rw [Qaf ⟨by omega, by omega⟩]; rfl), trivial⟩, by omega⟩⟩⟩
   · have h : Qj4 (g i).1 = false := by simpa using h
     unfold Qgk; rw [h]; rfl
   · have h' : Qj4 (g i).2 = false := by simpa using h'
     unfold Qgk; rw [h', Bool.and_false]
   · by_cases e : j = i
     · have h : Qj4 (g i).1 = true := by simpa using h
       have h' : Qj4 (g i).2 = true := by simpa using h'
       rw [e]; unfold Qgk; rw [h, h']; rfl
     · exact hok j (by omega)
 · have hge : ¬ i < n := by simpa using hge
   obtain rfl : i = n := by omega
   have et := Qg5 (g := g) e1 e2 e3 e4 e5 e6 e7 e8
   rw [Qhe (f := fun i => Qgk (g i)) hok, cond_true] at et
   refine ⟨⟨trivial, by omega, Qov hok⟩, ?_⟩
   show sel (!Qdt i g) _ _
   rw [et]
   cases Qdt i g <;> rfl
theorem Qun {s : ShB} (hs : Qhi s) : Qcu Tryz.prog Q45 (Qgd 0 fun _ => (0, 0)) Tryz.f144 [shS s (.v (.slice none 0 0))] (Qbm []) 64 (fun y _ => y = .v (.int .i64 (Qca s 0 fun _ => (0, 0)))) := by
 refine Eq.mpr (Qxn s (fun _ => (0, 0)) _) ?_
 obtain ⟨⟨k1, k2⟩, k3, k4⟩ := hs
 refine Qad (fun e1 => Qad (fun e2 => ?_) fun e2 => Qad (fun e3 => ?_) fun e3 => ⟨k2, Qad (fun e5 => ?_) fun e5 => ?_⟩) fun e1 => Qad (fun e2 => Qad (fun e3 => ?_) fun e3 => ⟨k3, Qad (fun e5 => ?_) fun e5 => ⟨k4, Qad (fun e6 => ?_) fun e6 => ?_⟩⟩) fun e2 => Qad (fun e3 => Qad (fun e4 => ?_) fun e4 => Qad (fun e5 => ?_) fun e5 => Qad (fun e6 => ?_) fun e6 => ?_) fun e3 => ?_
 all_goals ((try simp only [Bool.not_eq_true', Bool.not_eq_false'] at *); refine Qbh ?_; unfold Qca; simp only [*, cond_true, cond_false, Bool.true_or, Bool.or_true, Bool.false_or, Bool.or_false, Bool.and_true, Bool.true_and, Bool.and_false, Bool.false_and, Bool.and_self, Bool.or_self, Int.natCast_zero, bne_self_eq_false, Int.ofNat_eq_natCast]; try rfl)
theorem Qlz : Qcg Tryz.prog 144 Qht := Qb4 hm Qzn Tryz.func144 (Λ := fun args bs => match args, bs with | [.agg [_, _, _, _, .sl 0 2 0 n _]], [⟨2, _, row⟩] => Qgd n (fun i => gi (row i)) | _, _ => Qgd 0 (fun _ => (0, 0))) fun args bs p x h hp => by
 unfold Qht at h
 split at h <;> try (cases h; done)
 · rename_i k r w hh n c n' row
   cases h
   obtain ⟨hs, h0, rfl, hn⟩ := hp _ rfl
   have h0 := okAll_rows.1 h0
   refine ⟨rfl, [⟨2, n', Qey fun i => gi (row i)⟩], ⟨⟨rfl, rfl, fun i hi => (Qdj (h0 i hi)).1⟩, trivial⟩, ?_⟩
   exact Qx2 (s := ⟨k, r, w, hh⟩) hs hn fun i hi => (Qdj (h0 i hi)).2
 · rename_i k r w hh
   cases h
   exact ⟨rfl, [], trivial, Qun (s := ⟨k, r, w, hh⟩) (hp _ rfl)⟩
def zSh : ShB := ⟨0, 0, 0, 0⟩
def Zl8 (b : Bool) (s : ShB) : ShB := bif b then s else zSh
def zP : Nat → Int × Int := fun _ => (0, 0)
def okB (b : Blk) : Bool := !b.rw && !b.dead && Nat.beq b.size 2 && b.flat
def Qbv (b : Blk) : Nat → Int × Int := fun i => gi (b.row i)
def Qcs (n : Nat) (b : Blk) : Prop := Qb5 Qon (Qak b.n b.row) ∧ b.n = n ∧ n < 1099511627776
def spB (n c : Nat) (g : Nat → Int × Int) : Blk := { elem := 53, size := 2, rw := true, lock := false, lit := false, flat := true, n := n, row := Qey g, ext := c }
def rdB (b : Blk) (n : Nat) (g : Nat → Int × Int) : Blk := roS b.elem b.lock b.lit true b.whole n b.ext (Qey g)
def nilV : SV := .v (.slice none 0 0)
def Zln (args : List SV) (bs : List Blk) : Option Eff := match args, bs with
 | [.agg [.v (.int .i64 k), .v (.int .i64 r), .v (.int .i64 w), .v (.int .i64 h), .sl 0 2 0 n c]], [b] => bif okB b then some (.det (some ((Qhi ⟨k, r, w, h⟩ ∧ Qcs n b) ∧ Qca ⟨k, r, w, h⟩ n (Qbv b) = 0)) (.tup [shS ⟨k, r, w, h⟩ (.sl 0 2 0 n c), .v (.int .i64 0)]) []) else none
 | _, _ => none
def Zfk : Qb8 := Qah (Qah Qbr 25 (Qc7 Qht)) 144 (Qc7 Qht)
def Zin (r : Int) : ShB := ⟨1, r, 0, 0⟩
def boxS (w h : Int) : ShB := ⟨2, 0, w, h⟩
def Qx4 : ShB := ⟨3, 0, 0, 0⟩
theorem Qzu : ∀ f g, Zfk f = some g → g.ok Tryz.prog f := Qab (Qab Qa0 (Qdc Tryz.func25 (by kernel_rfl) (by kernel_rfl) Qof)) (Qdc Tryz.func144 (by kernel_rfl) (by kernel_rfl) Qlz)
theorem Qjk {e : Int} {s : ShB} (h : (e != 0) = false) : Zl8 (e == 0) s = s ∧ e = 0 := by
 have h : e = 0 := by simpa using h
 subst h
 exact ⟨rfl, rfl⟩
theorem Qg1 (g : Nat → Int × Int) : (fun i => gi [SV.v (.int .i64 (g (0 + i)).1), SV.v (.int .i64 (g (0 + i)).2)]) = g := funext fun i => by rw [Nat.zero_add]; rfl
theorem Qg9 {n : Nat} {b : Blk} (h : Qcs n b) : n < 1099511627776 ∧ ∀ i, i < n → I64 (Qbv b i).1 ∧ I64 (Qbv b i).2 := by
 obtain ⟨h0, rfl, hn⟩ := h
 exact ⟨hn, fun i hi => (Qdj (okAll_rows.1 h0 i hi)).2⟩
theorem Qe6 {b : Blk} {n : Nat} (h : okB b = true) (hp : Qcs n b) : BlkSame b (rdB b n (Qbv b)) := by
 simp only [okB, Bool.and_eq_true, Bool.not_eq_true'] at h
 obtain ⟨⟨⟨a1, a2⟩, a3⟩, a4⟩ := h
 obtain ⟨h0, rfl, hn⟩ := hp
 exact ⟨Nat.eq_of_beq_eq_true a3, a1, a4, rfl, rfl, a2, rfl, rfl, fun i hi => (Qdj (okAll_rows.1 h0 i hi)).1⟩
theorem Q5e {n : Nat} {g : Nat → Int × Int} {B : Blk} (hn : n < 1099511627776) (hg : ∀ i, i < n → I64 (g i).1 ∧ I64 (g i).2) (hr : ∀ y, B.row y = [SV.v (.int .i64 (g (0 + y)).1), SV.v (.int .i64 (g (0 + y)).2)]) : Qcs n (Qap B 2 0 n) ∧ Qbv (Qap B 2 0 n) = g := by
 refine ⟨⟨okAll_rows.2 fun i hi => ?_, rfl, hn⟩, funext fun i => ?_⟩
 · show Qon (B.row (0 + i))
   rw [hr, Nat.zero_add, Nat.zero_add]
   exact hg i hi
 · show gi (B.row (0 + i)) = g i
   rw [hr, Nat.zero_add, Nat.zero_add]; rfl
theorem Qp4 {n : Nat} {g : Nat → Int × Int} {B : Blk} (hn : n < 1099511627776) (hg : ∀ i, i < n → I64 (g i).1 ∧ I64 (g i).2) (hr : ∀ y, B.row y = Qey g y) : Qcs n (Qap B 2 0 n) :=
 (Q5e hn hg fun y => by rw [hr, Nat.zero_add]; rfl).1
def Q91 (w h : Int) : Nat → Int × Int
 | 0 => (-w, -h)
 | 1 => (w, -h)
 | 2 => (w, h)
 | _ => (-w, h)
def Qa7 (e : Int) (s : ShB) (n : Nat) : Nat := bif e != 0 then 0 else bif s.k == 2 then 4 else n
def Qbl (s : ShB) (g : Nat → Int × Int) (i : Nat) : Int × Int := bif s.k == 2 then Q91 s.w s.h i else g i
def Q7i (e : Int) (s : ShB) (n : Nat) (g : Nat → Int × Int) : Eff := .nd True Nat 0 (fun c => .sl 1000 2 0 (Qa7 e s n) (Qa7 e s n + c)) fun c => [(1000, spB (Qa7 e s n) (Qa7 e s n + c) (Qbl s g))]
def Qxz (args : List SV) (bs : List Blk) : Option Eff := match args, bs with
 | [.agg [.v (.int .i64 k), .v (.int .i64 r), .v (.int .i64 w), .v (.int .i64 h), .sl 0 2 0 n c]], [b] => bif okB b then some (.nd (Qhi ⟨k, r, w, h⟩ ∧ Qcs n b) Nat 0 (fun c => .sl 1000 2 0 (Qa7 (Qca ⟨k, r, w, h⟩ n (Qbv b)) ⟨k, r, w, h⟩ n) (Qa7 (Qca ⟨k, r, w, h⟩ n (Qbv b)) ⟨k, r, w, h⟩ n + c)) fun c => [(1000, spB (Qa7 (Qca ⟨k, r, w, h⟩ n (Qbv b)) ⟨k, r, w, h⟩ n) (Qa7 (Qca ⟨k, r, w, h⟩ n (Qbv b)) ⟨k, r, w, h⟩ n + c) (Qbl ⟨k, r, w, h⟩ (Qbv b)))]) else none
 | _, _ => none
theorem Zgs (s : ShB) (b : Blk) (n c : Nat) (g : Nat→Int × Int) (e : Int) : (Qcu Tryz.prog Zfk Qax Tryz.f19 [shS s (.sl 0 2 0 n c)] (Qaw [rdB b n g]) 64 (fun y h' => Qhf [rdB b n g] (Q7i e s n g) y h')) =
(((Qhi s)∧((Qb5 Qon (Qak n fun y => [SV.v (.int .i64 (Prod.fst (g (0 + y)))),SV.v (.int .i64 (Prod.snd (g (0 + y))))]))∧(((n : Nat) = n)∧((n : Nat) < 1099511627776))))∧(sel ((Qca s n fun i => gi [SV.v (.int .i64 (Prod.fst (g (0 + i)))),SV.v (.int .i64 (Prod.snd (g (0 + i))))]) != 0) (∃ c_1 : Nat,((((SV.v (Value.slice none 0 0)) = (SV.v (Value.slice none 0 0)))∧(((0 : Nat) = 0)∧((((Qa7 e s n) : Nat) = 0)∧(((Qa7 e s n + c_1) : Nat) = 0))))∧(((((Qa7 e s n) : Nat) = 0)∧((((Qa7 e s n + c_1) : Nat) = 0)∧True))∧True))) (sel (ShB.k s == 2) (∃ c_1 : Nat,(((SV.sl 328 2 0 4 4) = (SV.sl 328 2 0 (Qa7 e s n) (Qa7 e s n + c_1)))∧(((4 : Nat) = (Qa7 e s n))∧((((Qa7 e s n + c_1) : Nat) ≤ 4)∧(∀ i : Nat,(((i : Nat) < (Qa7 e s n))→([(SV.v (.int .i64 (bop (Nat.beq i 0) (IntKind.wrap IntKind.i64 (0 - ShB.w s)) (bop (Nat.beq i 1) (ShB.w s) (bop (Nat.beq i 2) (ShB.w s) (IntKind.wrap IntKind.i64 (0 - ShB.w s))))))),(SV.v (.int .i64 (bop (Nat.beq i 0) (IntKind.wrap IntKind.i64 (0 - ShB.h s)) (bop (Nat.beq i 1) (IntKind.wrap IntKind.i64 (0 - ShB.h s)) (bop (Nat.beq i 2) (ShB.h s) (ShB.h s))))))] = [(SV.v (.int .i64 (Prod.fst (Qbl s g i)))),(SV.v (.int .i64 (Prod.snd (Qbl s g i))))]))))))) ((((n * 16) : Nat) ≤ 140737488355328)∧(∀ c_1 : Nat,(∃ c_2 : Nat,(((SV.sl 360 2 0 n (n + c_1)) = (SV.sl 360 2 0 (Qa7 e s n) (Qa7 e s n + c_2)))∧(((n : Nat) = (Qa7 e s n))∧((((Qa7 e s n + c_2) : Nat) ≤ (n + c_1))∧(∀ i : Nat,(((i : Nat) < (Qa7 e s n))→([(SV.v (.int .i64 (Prod.fst (g (0 + i))))),(SV.v (.int .i64 (Prod.snd (g (0 + i)))))] = [(SV.v (.int .i64 (Prod.fst (Qbl s g i)))),(SV.v (.int .i64 (Prod.snd (Qbl s g i))))])))))))))))) := by kernel_rfl
theorem Zbl (s : ShB) (b : Blk) (n c : Nat) (g : Nat→Int × Int) (e : Int) : (Qcu Tryz.prog Zfk Qax Tryz.f173 [shS s (.sl 0 2 0 n c)] (Qaw [rdB b n g]) 64 (fun y h' => Qhf [rdB b n g] (Q7i e s n g) y h')) =
(((Qhi s)∧((Qb5 Qon (Qak n fun y => [SV.v (.int .i64 (Prod.fst (g (0 + y)))),SV.v (.int .i64 (Prod.snd (g (0 + y))))]))∧(((n : Nat) = n)∧((n : Nat) < 1099511627776))))∧(sel ((Qca s n fun i => gi [SV.v (.int .i64 (Prod.fst (g (0 + i)))),SV.v (.int .i64 (Prod.snd (g (0 + i))))]) != 0) (∃ c_1 : Nat,((((SV.v (Value.slice none 0 0)) = (SV.v (Value.slice none 0 0)))∧(((0 : Nat) = 0)∧((((Qa7 e s n) : Nat) = 0)∧(((Qa7 e s n + c_1) : Nat) = 0))))∧(((((Qa7 e s n) : Nat) = 0)∧((((Qa7 e s n + c_1) : Nat) = 0)∧True))∧True))) (sel (ShB.k s == 2) (∃ c_1 : Nat,(((SV.sl 328 2 0 4 4) = (SV.sl 328 2 0 (Qa7 e s n) (Qa7 e s n + c_1)))∧(((4 : Nat) = (Qa7 e s n))∧((((Qa7 e s n + c_1) : Nat) ≤ 4)∧(∀ i : Nat,(((i : Nat) < (Qa7 e s n))→([(SV.v (.int .i64 (bop (Nat.beq i 0) (IntKind.wrap IntKind.i64 (0 - ShB.w s)) (bop (Nat.beq i 1) (ShB.w s) (bop (Nat.beq i 2) (ShB.w s) (IntKind.wrap IntKind.i64 (0 - ShB.w s))))))),(SV.v (.int .i64 (bop (Nat.beq i 0) (IntKind.wrap IntKind.i64 (0 - ShB.h s)) (bop (Nat.beq i 1) (IntKind.wrap IntKind.i64 (0 - ShB.h s)) (bop (Nat.beq i 2) (ShB.h s) (ShB.h s))))))] = [(SV.v (.int .i64 (Prod.fst (Qbl s g i)))),(SV.v (.int .i64 (Prod.snd (Qbl s g i))))]))))))) ((((((0 + n) * 16) : Nat) ≤ 140737488355328)∧(((0 : Nat) ≤ 0)∧(∀ y : Nat,(((y : Nat) < n)→True))))∧(∀ c_1 : Nat,(∃ c_2 : Nat,(((SV.sl 368 2 0 (0 + n) (0 + n + c_1)) = (SV.sl 368 2 0 (Qa7 e s n) (Qa7 e s n + c_2)))∧((((0 + n) : Nat) = (Qa7 e s n))∧((((Qa7 e s n + c_2) : Nat) ≤ (0 + n + c_1))∧(∀ i : Nat,(((i : Nat) < (Qa7 e s n))→([(SV.v (.int .i64 (Prod.fst (g (0 + (i - 0)))))),(SV.v (.int .i64 (Prod.snd (g (0 + (i - 0))))))] = [(SV.v (.int .i64 (Prod.fst (Qbl s g i)))),(SV.v (.int .i64 (Prod.snd (Qbl s g i))))])))))))))))) := by kernel_rfl
noncomputable def hid {α : Type} (x : α) : α := Classical.choose (⟨x, rfl⟩ : ∃ y, y = x)
theorem Qnt {α : Type} (x : α) : hid x = x := Classical.choose_spec (⟨x, rfl⟩ : ∃ y, y = x)
def Ze5 (n : Int) : Nat → Nat → Nat
 | 0, k => k
 | f + 1, k => if (k : Int) * k < n then Ze5 n f (k + 1) else k
noncomputable def Q41 (n : Int) : Nat := hid (Ze5 n 1048576 0)
noncomputable def Q1r : List SV → Option (Option Prop × SV)
 | [.v (.int .i64 n)] => some (some (0 ≤ n ∧ n ≤ 1099511627776), .v (.int .i64 (Q41 n)))
 | _ => none
structure LH where
 l : Nat
 h : Nat
noncomputable def Qzl (n : Int) : Nat → Option LoopSpec := Qcp Qax Tryz.f93 0 LH (fun x => x.l ≤ x.h ∧ x.h ≤ 1048576 ∧ n ≤ (x.h : Int) * x.h ∧ ∀ j, j < x.l → (j : Int) * j < n) (fun x => x.h - x.l) [(3, fun x => .v (.int .i64 x.l)), (4, fun x => .v (.int .i64 x.h))] []
theorem Zbz (n : Int) (R : SV→Prop) : (Qav Tryz.prog Qbr (Qzl n) Tryz.f93 [.v (.int .i64 n)] R) =
((∃ x : LH,(((((LH.l x) : Nat) ≤ (LH.h x))∧((((LH.h x) : Nat) ≤ 1048576)∧(((n : Int) ≤ ((↑(LH.h x) : Int) * (↑(LH.h x) : Int)))∧(∀ j : Nat,(((j : Nat) < (LH.l x))→((((↑j : Int) * (↑j : Int)) : Int) < n))))))∧((((SV.v (.int .i64 0)) = (SV.v (.int .i64 ((↑(LH.l x) : Int)))))∧((SV.v (.int .i64 1048576)) = (SV.v (.int .i64 ((↑(LH.h x) : Int))))))∧True)))∧(∀ x : LH,(((((LH.l x) : Nat) ≤ (LH.h x))∧((((LH.h x) : Nat) ≤ 1048576)∧(((n : Int) ≤ ((↑(LH.h x) : Int) * (↑(LH.h x) : Int)))∧(∀ j : Nat,(((j : Nat) < (LH.l x))→((((↑j : Int) * (↑j : Int)) : Int) < n))))))→(sel (decide ((↑(LH.l x) : Int) < (↑(LH.h x) : Int))) (sel (decide (IntKind.wrap IntKind.i64 (IntKind.wrap IntKind.i64 (Int.tdiv (IntKind.wrap IntKind.i64 ((↑(LH.l x) : Int) + (↑(LH.h x) : Int))) 2) * IntKind.wrap IntKind.i64 (Int.tdiv (IntKind.wrap IntKind.i64 ((↑(LH.l x) : Int) + (↑(LH.h x) : Int))) 2)) < n)) (∃ x' : LH,((((((LH.l x') : Nat) ≤ (LH.h x'))∧((((LH.h x') : Nat) ≤ 1048576)∧(((n : Int) ≤ ((↑(LH.h x') : Int) * (↑(LH.h x') : Int)))∧(∀ j : Nat,(((j : Nat) < (LH.l x'))→((((↑j : Int) * (↑j : Int)) : Int) < n))))))∧((((SV.v (.int .i64 (IntKind.wrap IntKind.i64 (IntKind.wrap IntKind.i64 (Int.tdiv (IntKind.wrap IntKind.i64 ((↑(LH.l x) : Int) + (↑(LH.h x) : Int))) 2) + 1)))) = (SV.v (.int .i64 ((↑(LH.l x') : Int)))))∧((SV.v (.int .i64 ((↑(LH.h x) : Int)))) = (SV.v (.int .i64 ((↑(LH.h x') : Int))))))∧True))∧(((LH.h x' - LH.l x') : Nat) < (LH.h x - LH.l x)))) (∃ x' : LH,((((((LH.l x') : Nat) ≤ (LH.h x'))∧((((LH.h x') : Nat) ≤ 1048576)∧(((n : Int) ≤ ((↑(LH.h x') : Int) * (↑(LH.h x') : Int)))∧(∀ j : Nat,(((j : Nat) < (LH.l x'))→((((↑j : Int) * (↑j : Int)) : Int) < n))))))∧((((SV.v (.int .i64 ((↑(LH.l x) : Int)))) = (SV.v (.int .i64 ((↑(LH.l x') : Int)))))∧((SV.v (.int .i64 (IntKind.wrap IntKind.i64 (Int.tdiv (IntKind.wrap IntKind.i64 ((↑(LH.l x) : Int) + (↑(LH.h x) : Int))) 2)))) = (SV.v (.int .i64 ((↑(LH.h x') : Int))))))∧True))∧(((LH.h x' - LH.l x') : Nat) < (LH.h x - LH.l x))))) (R (SV.v (.int .i64 ((↑(LH.l x) : Int))))))))) := by kernel_rfl
theorem Qmd {x : Int} (h : Qeh x = true) : 16 ≤ x ∧ x ≤ 4096 := by
 unfold Qeh at h
 simpa [Bool.and_eq_true, decide_eq_true_eq] using h
theorem Qrg {s : ShB} {n : Nat} {g : Nat → Int × Int} (e : Qca s n g = 0) (hk : (s.k == 2) = true) : (16 ≤ s.w ∧ s.w ≤ 4096) ∧ 16 ≤ s.h ∧ s.h ≤ 4096 := by
 have k1 : (s.k == 1) = false := by have : s.k = 2 := by simpa using hk
                                    rw [this]; rfl
 unfold Qca at e
 rw [k1, hk, cond_false, cond_true] at e
 cases h1 : (s.r != 0 || (n : Int) != 0) with
 | true => rw [h1] at e; cases e
 | false =>
   rw [h1, cond_false] at e
   cases h2 : (Qeh s.w && Qeh s.h) with
   | false => rw [h2] at e; cases e
   | true =>
     rw [Bool.and_eq_true] at h2
     exact ⟨Qmd h2.1, Qmd h2.2⟩
theorem Zei {s : ShB} {b : Blk} {n c : Nat} {g : Nat → Int × Int} (hs : Qhi s) (hn : n < 1099511627776) (hg : ∀ i, i < n → I64 (g i).1 ∧ I64 (g i).2) : Qcu Tryz.prog Zfk Qax Tryz.f19 [shS s (.sl 0 2 0 n c)] (Qaw [rdB b n g]) 64 (fun y h' => Qhf [rdB b n g] (Q7i (Qca s n g) s n g) y h') := by
 refine Eq.mpr (Zgs s b n c g (Qca s n g)) ?_
 rw [Qg1]
 refine ⟨⟨hs, okAll_rows.2 fun i hi => (by rw [Nat.zero_add]; exact hg i hi), rfl, hn⟩, Qad (fun h => ?_) fun h => Qad (fun h2 => ?_) fun h2 => ?_⟩
 · have hN : Qa7 (Qca s n g) s n = 0 := by unfold Qa7; rw [h]; rfl
   rw [hN]
   exact ⟨0, ⟨rfl, rfl, rfl, rfl⟩, ⟨rfl, rfl, trivial⟩, trivial⟩
 · have e0 := (Qjk (s := zSh) h).2
   obtain ⟨w1, w2⟩ := Qrg e0 h2
   rw [e0]
   have hN : Qa7 0 s n = 4 := by unfold Qa7; rw [h2]; rfl
   have hG : Qbl s g = Q91 s.w s.h := funext fun i => by unfold Qbl; rw [h2]; rfl
   rw [hN, hG, Qaf ⟨by omega, by omega⟩, Qaf ⟨by omega, by omega⟩, Int.zero_sub, Int.zero_sub]
   refine ⟨0, rfl, rfl, Nat.le_refl _, fun i hi => ?_⟩
   obtain rfl | rfl | rfl | rfl : i = 0 ∨ i = 1 ∨ i = 2 ∨ i = 3 := by omega
   · rfl
   · rfl
   · rfl
   · rfl
 · have e0 := (Qjk (s := zSh) h).2
   rw [e0]
   have hk : (s.k == 2) = false := h2
   have hN : Qa7 0 s n = n := by unfold Qa7; rw [hk]; rfl
   have hG : Qbl s g = g := funext fun i => by unfold Qbl; rw [hk]; rfl
   rw [hN, hG]
   exact ⟨by omega, fun c1 => ⟨c1, rfl, rfl, Nat.le_refl _, fun i _ => by rw [Nat.zero_add]⟩⟩
theorem Q4v : Qdl Tryz.prog 19 Qxz := Qc0 hm Qzu Tryz.func19 (Λ := fun _ _ => Qax) fun args bs e hs hp => by
 unfold Qxz at hs
 split at hs <;> try (cases hs; done)
 rename_i k r w hh n c b
 cases hb : okB b with
 | false => rw [hb] at hs; cases hs
 | true =>
 rw [hb] at hs
 cases hs
 obtain ⟨hs, hpre⟩ := hp
 obtain ⟨hn, hg⟩ := Qg9 hpre
 exact ⟨[rdB b n (Qbv b)], ⟨Qe6 hb hpre, trivial⟩, Zei (s := ⟨k, r, w, hh⟩) hs hn hg⟩
theorem Q71 {s : ShB} {b : Blk} {n c : Nat} {g : Nat → Int × Int} (hs : Qhi s) (hn : n < 1099511627776) (hg : ∀ i, i < n → I64 (g i).1 ∧ I64 (g i).2) : Qcu Tryz.prog Zfk Qax Tryz.f173 [shS s (.sl 0 2 0 n c)] (Qaw [rdB b n g]) 64 (fun y h' => Qhf [rdB b n g] (Q7i (Qca s n g) s n g) y h') := by
 refine Eq.mpr (Zbl s b n c g (Qca s n g)) ?_
 rw [Qg1]
 refine ⟨⟨hs, okAll_rows.2 fun i hi => (by rw [Nat.zero_add]; exact hg i hi), rfl, hn⟩, Qad (fun h => ?_) fun h => Qad (fun h2 => ?_) fun h2 => ?_⟩
 · have hN : Qa7 (Qca s n g) s n = 0 := by unfold Qa7; rw [h]; rfl
   rw [hN]
   exact ⟨0, ⟨rfl, rfl, rfl, rfl⟩, ⟨rfl, rfl, trivial⟩, trivial⟩
 · have e0 := (Qjk (s := zSh) h).2
   obtain ⟨w1, w2⟩ := Qrg e0 h2
   rw [e0]
   have hN : Qa7 0 s n = 4 := by unfold Qa7; rw [h2]; rfl
   have hG : Qbl s g = Q91 s.w s.h := funext fun i => by unfold Qbl; rw [h2]; rfl
   rw [hN, hG, Qaf ⟨by omega, by omega⟩, Qaf ⟨by omega, by omega⟩, Int.zero_sub, Int.zero_sub]
   refine ⟨0, rfl, rfl, Nat.le_refl _, fun i hi => ?_⟩
   obtain rfl | rfl | rfl | rfl : i = 0 ∨ i = 1 ∨ i = 2 ∨ i = 3 := by omega
   · rfl
   · rfl
   · rfl
   · rfl
 · have e0 := (Qjk (s := zSh) h).2
   rw [e0]
   have hk : (s.k == 2) = false := h2
   have hN : Qa7 0 s n = n := by unfold Qa7; rw [hk]; rfl
   have hG : Qbl s g = g := funext fun i => by unfold Qbl; rw [hk]; rfl
   rw [hN, hG]
   rw [Nat.zero_add]
   exact ⟨⟨by omega, Nat.le_refl _, fun _ _ => trivial⟩, fun c1 => ⟨c1, rfl, rfl, Nat.le_refl _, fun i _ => by show [SV.v (.int .i64 (g (0 + i)).1), SV.v (.int .i64 (g (0 + i)).2)] = _; rw [Nat.zero_add]⟩⟩
theorem Qy3 : Qdl Tryz.prog 173 Qxz := Qc0 hm Qzu Tryz.func173 (Λ := fun _ _ => Qax) fun args bs e hs hp => by
 unfold Qxz at hs
 split at hs <;> try (cases hs; done)
 rename_i k r w hh n c b
 cases hb : okB b with
 | false => rw [hb] at hs; cases hs
 | true =>
 rw [hb] at hs
 cases hs
 obtain ⟨hs, hpre⟩ := hp
 obtain ⟨hn, hg⟩ := Qg9 hpre
 exact ⟨[rdB b n (Qbv b)], ⟨Qe6 hb hpre, trivial⟩, Q71 (s := ⟨k, r, w, hh⟩) hs hn hg⟩
theorem Qs1 (n : Int) : ∀ f k : Nat, (∀ j : Nat, j < k → (j : Int) * j < n) → n ≤ ((k + f : Nat) : Int) * ((k + f : Nat) : Int) → n ≤ (Ze5 n f k : Int) * (Ze5 n f k : Int) ∧ ∀ j : Nat, j < Ze5 n f k → (j : Int) * j < n
 | 0, k, h1, h2 => ⟨h2, h1⟩
 | f + 1, k, h1, h2 => by
   unfold Ze5
   by_cases h : (k : Int) * k < n
   · rw [if_pos h]
     refine Qs1 n f (k + 1) (fun j hj => ?_) (by rw [show k + 1 + f = k + (f + 1) by omega]; exact h2)
     by_cases e : j = k
     · rw [e]; exact h
     · exact h1 j (by omega)
   · rw [if_neg h]
     exact ⟨by omega, h1⟩
theorem Q0x {n : Int} (h : n ≤ 1099511627776) : n ≤ (Q41 n : Int) * (Q41 n : Int) ∧ ∀ j : Nat, j < Q41 n → (j : Int) * j < n := by
 unfold Q41
 rw [Qnt]
 refine Qs1 n 1048576 0 (fun j hj => absurd hj (Nat.not_lt_zero _)) ?_
 rw [show ((0 + 1048576 : Nat) : Int) * ((0 + 1048576 : Nat) : Int) = 1099511627776 by decide]
 exact h
theorem Zb4 {n : Int} (h : n ≤ 1099511627776) {m : Nat} (h1 : n ≤ (m : Int) * m) (h2 : ∀ j : Nat, j < m → (j : Int) * j < n) : m = Q41 n := by
 obtain ⟨g1, g2⟩ := Q0x h
 rcases Nat.lt_trichotomy m (Q41 n) with h' | h' | h'
 · have := g2 m h'; omega
 · exact h'
 · have := h2 _ h'; omega
theorem Q0w {a b : Nat} (h : a ≤ b) : (a : Int) * a ≤ (b : Int) * b := by
 have := Nat.mul_le_mul h h
 exact_mod_cast this
theorem Qze : Qai Tryz.prog 93 Q1r := Qao hm Qa0 Tryz.func93 (Λ := fun args => match args with | [.v (.int .i64 n)] => Qzl n | _ => Qax) fun args p x h hp => by
 unfold Q1r at h
 split at h <;> try (cases h; done)
 rename_i n
 cases h
 obtain ⟨h0, h1⟩ := hp _ rfl
 refine ⟨rfl, rfl, ?_⟩
 refine Eq.mpr (Zbz n _) ?_
 refine ⟨⟨⟨0, 1048576⟩, ⟨by simp, by simp, by show n ≤ ((1048576 : Nat) : Int) * ((1048576 : Nat) : Int); omega, fun j hj => absurd hj (Nat.not_lt_zero _)⟩, ⟨rfl, rfl⟩, trivial⟩, fun ⟨l, hh⟩ ⟨x1, x2, x3, x4⟩ => ?_⟩
 simp only at x1 x2 x3 x4 ⊢
 refine Qad (fun hlt => ?_) fun hge => ?_
 · have hlt := of_decide_eq_true hlt
   have w1 : IntKind.i64.wrap (Int.tdiv (IntKind.i64.wrap ((l : Int) + hh)) 2) = (((l + hh) / 2 : Nat) : Int) := by
     rw [Qaf (n := (l : Int) + hh) ⟨by omega, by omega⟩, Int.tdiv_eq_ediv_of_nonneg (by omega), Qaf ⟨by omega, by omega⟩]; omega
   rw [w1]
   have hm1 : (l + hh) / 2 < hh := by omega
   have hm2 : l ≤ (l + hh) / 2 := by omega
   generalize (l + hh) / 2 = m at *
   have hsq : (m : Int) * m ≤ 1099511627776 := by
     have := Q0w (show m ≤ 1048576 by omega)
     exact this
   have hsq0 : (0 : Int) ≤ (m : Int) * m := Int.mul_nonneg (by omega) (by omega)
   rw [Qaf (n := (m : Int) * m) ⟨by omega, by omega⟩, Qaf ⟨by omega, by omega⟩]
   refine Qad (fun h => ?_) fun h => ?_
   · have h := of_decide_eq_true h
     refine ⟨⟨m + 1, hh⟩, ⟨⟨by simp only; omega, x2, x3, fun j hj => ?_⟩, ⟨rfl, rfl⟩, trivial⟩, by simp only; omega⟩
     have := Q0w (show j ≤ m by simp only at hj; omega)
     omega
   · have h := of_decide_eq_false h
     exact ⟨⟨l, m⟩, ⟨⟨by simp only; omega, by simp only; omega, by simp only; omega, x4⟩, ⟨rfl, rfl⟩, trivial⟩, by simp only; omega⟩
 · have hge := of_decide_eq_false hge
   obtain rfl : l = hh := by omega
   exact Qbh (by rw [Zb4 h1 x3 x4])
def Qfn (p q : Int × Int) : Int := Qtn p.1 p.2 q.1 q.2
noncomputable def Q43 (r : Int) (g : Nat → Int × Int) : Nat → Int
 | 0 => r
 | k + 1 => max (Q43 r g k) (Q41 (Qfn (g k) (g k)) : Nat)
noncomputable def Zhl (e : Int) (s : ShB) (n : Nat) (g : Nat → Int × Int) : Int := bif e != 0 then 0 else Q43 s.r (Qbl s g) (Qa7 0 s n)
noncomputable def Q1h : List SV → List Ro → Option (Option Prop × SV)
 | [.agg [.v (.int .i64 k), .v (.int .i64 r), .v (.int .i64 w), .v (.int .i64 h), .sl 0 2 0 n _]], [⟨2, n', row⟩] => some (some (Qhi ⟨k, r, w, h⟩ ∧ Qb5 Qon (Qak n' row) ∧ n' = n ∧ n < 1099511627776), .v (.int .i64 (Zhl (Qca ⟨k, r, w, h⟩ n fun i => gi (row i)) ⟨k, r, w, h⟩ n fun i => gi (row i))))
 | [.agg [.v (.int .i64 k), .v (.int .i64 r), .v (.int .i64 w), .v (.int .i64 h), .v (.slice none 0 0)]], [] => some (some (Qhi ⟨k, r, w, h⟩ ∧ Qca ⟨k, r, w, h⟩ 0 zP ≠ 0), .v (.int .i64 0))
 | _, _ => none
noncomputable def Zlp : List SV → List Ro → Option (Option Prop × SV)
 | [.agg [.v (.int .i64 k), .v (.int .i64 r), .v (.int .i64 w), .v (.int .i64 h), .sl 0 2 0 n _]], [⟨2, n', row⟩] => some (some (Qhi ⟨k, r, w, h⟩ ∧ Qb5 Qon (Qak n' row) ∧ n' = n ∧ n < 1099511627776), .v (.int .i64 (Zhl (Qca ⟨k, r, w, h⟩ n fun i => gi (row i)) ⟨k, r, w, h⟩ n fun i => gi (row i))))
 | _, _ => none
def Qfo (n : Nat) (g : Nat → Int × Int) : Nat → Int
 | 0 => 0
 | k + 1 => Qfo n g k + Qac (g k) (g ((k + 1) % n))
def Qmm (n : Nat) (g : Nat → Int × Int) : Nat → Int
 | 0 => 0
 | k + 1 => Qmm n g k + Qac (g k) (g ((k + 1) % n)) * (Qfn (g k) (g k) + Qfn (g k) (g ((k + 1) % n)) + Qfn (g ((k + 1) % n)) (g ((k + 1) % n)))
def Zdk : NB := ⟨13493037704, false⟩
def Qz5 (r d : Int) : VB := ⟨Qdh (Qdh (Qa2 65536 (r * r)) Zdk) (Qfx d), Qdh (Qdh (Qa2 8589934592 (r * r * r * r)) Zdk) (Qfx d)⟩
def Qr1 (a m d : Int) : VB := ⟨Qdh (Qa2 131072 a) (Qfx d), Qdh (Qa2 51539607552 m) (Qfx d)⟩
def Qp5 (e d : Int) : Int := bif e != 0 then e else bif decide (d < 1) || decide (d > 1000) then 3 else 0
def Qth (e : Int) (s : ShB) (n : Nat) (g : Nat → Int × Int) (d : Int) : VB := bif Qp5 e d != 0 then Qoi else bif s.k == 1 then Qz5 s.r d else Qr1 (Qfo (Qa7 0 s n) (Qbl s g) (Qa7 0 s n)) (Qmm (Qa7 0 s n) (Qbl s g) (Qa7 0 s n)) d
def Q08 : List SV → List Ro → Option (Option Prop × SV)
 | [.agg [.v (.int .i64 k), .v (.int .i64 r), .v (.int .i64 w), .v (.int .i64 h), .sl 0 2 0 n _], .v (.int .i64 d)], [⟨2, n', row⟩] => some (some ((Qhi ⟨k, r, w, h⟩ ∧ Qb5 Qon (Qak n' row) ∧ n' = n ∧ n < 1099511627776) ∧ I64 d), .tup [vS (Qth (Qca ⟨k, r, w, h⟩ n fun i => gi (row i)) ⟨k, r, w, h⟩ n (fun i => gi (row i)) d), .v (.int .i64 (Qp5 (Qca ⟨k, r, w, h⟩ n fun i => gi (row i)) d))])
 | _, _ => none
noncomputable def Q8u : Qb8 := Qah (Qah (Qah (Qah (Qah (Qah (Qah (Qah (Qah (Qah Q8t 92 (Qen false Qmg)) 25 (Qc7 Qht)) 144 (Qc7 Qht)) 19 (Qen false Qxz)) 173 (Qen false Qxz)) 165 (Qaj Qlm)) 94 (Qaj Qxy)) 221 (Qaj Qlm)) 222 (Qaj Qxy)) 93 (Qaj Q1r)
noncomputable def Qtq (r : Int) (N : Nat) (g : Nat → Int × Int) : Nat → Option LoopSpec := Q3s Qax 0 Qke Nat (fun k => k ≤ N) (fun k => k) [(128, fun k => Qdz 2 [.v (.int .i64 (Q43 r g k))])]
@[reducible] noncomputable def Qa4 (s : ShB) (n : Nat) (n' : Nat) (g : Nat→Int × Int) := (Qbv (Qap (Ro.blk {s:=2,n:=n',row:=fun i => [SV.v (.int .i64 (Prod.fst (g i))),SV.v (.int .i64 (Prod.snd (g i)))]}) 2 0 n))
theorem Zbb (s : ShB) (n n' c : Nat) (g : Nat→Int × Int) (R : SV→Prop) : (Qcu Tryz.prog Q8u (Qtq s.r (Qa7 0 s n) (Qbl s g)) Tryz.f26 [shS s (.sl 0 2 0 n c)] (Qbm [⟨2,n',Qey g⟩]) 64 (fun y _ => R y)) =
(((Qhi s)∧((Qb5 Qon (Qak n fun y => [SV.v (.int .i64 (Prod.fst (g (0 + y)))),SV.v (.int .i64 (Prod.snd (g (0 + y))))]))∧(((n : Nat) = n)∧((n : Nat) < 1099511627776))))∧(sel ((Qca s n fun i => gi [SV.v (.int .i64 (Prod.fst (g (0 + i)))),SV.v (.int .i64 (Prod.snd (g (0 + i))))]) != 0) (R (SV.v (.int .i64 0))) (((Qhi s)∧(Qcs n (Qap (Ro.blk {s:=2,n:=n',row:=fun i => [SV.v (.int .i64 (Prod.fst (g i))),SV.v (.int .i64 (Prod.snd (g i)))]}) 2 0 n)))∧(∀ c_1 : Nat,(((It.P Qke = Tryz.prog)∧((((Qa7 (Qca s n (Qa4 s n n' g)) s n) : Nat) ≤ 1099511627776)∧((((0 + Qa7 (Qca s n (Qa4 s n n' g)) s n) : Nat) ≤ (Qa7 (Qca s n (Qa4 s n n' g)) s n))∧(∀ j : Nat,(((j : Nat) < (Qa7 (Qca s n (Qa4 s n n' g)) s n))→([(SV.v (.int .i64 (Prod.fst (Qbl s (Qa4 s n n' g) (0 + j))))),(SV.v (.int .i64 (Prod.snd (Qbl s (Qa4 s n n' g) (0 + j)))))] = [(SV.v (.int .i64 (Prod.fst (gi [SV.v (.int .i64 (Prod.fst (Qbl s (Qa4 s n n' g) (0 + j)))),SV.v (.int .i64 (Prod.snd (Qbl s (Qa4 s n n' g) (0 + j))))])))),(SV.v (.int .i64 (Prod.snd (gi [SV.v (.int .i64 (Prod.fst (Qbl s (Qa4 s n n' g) (0 + j)))),SV.v (.int .i64 (Prod.snd (Qbl s (Qa4 s n n' g) (0 + j))))]))))]))))))∧((∃ x : Nat,(((x : Nat) = 0)∧((Nat.le x (Qa7 0 s n))∧(True∧(((1 : Nat) = 1)∧(((1 : Nat) ≤ 1)∧(∀ i : Nat,(((i : Nat) < 1)→([(SV.v (.int .i64 (ShB.r s)))] = [(SV.v (.int .i64 (Q43 (ShB.r s) (Qbl s g) x)))])))))))))∧((∀ x : Nat,((Nat.le x (Qa7 0 s n))→(((x : Nat) < (Qa7 (Qca s n (Qa4 s n n' g)) s n))→((((Sp (Prod.fst (gi [SV.v (.int .i64 (Prod.fst (Qbl s (Qa4 s n n' g) (0 + x)))),SV.v (.int .i64 (Prod.snd (Qbl s (Qa4 s n n' g) (0 + x))))])))∧(Sp (Prod.snd (gi [SV.v (.int .i64 (Prod.fst (Qbl s (Qa4 s n n' g) (0 + x)))),SV.v (.int .i64 (Prod.snd (Qbl s (Qa4 s n n' g) (0 + x))))]))))∧((Sp (Prod.fst (gi [SV.v (.int .i64 (Prod.fst (Qbl s (Qa4 s n n' g) (0 + x)))),SV.v (.int .i64 (Prod.snd (Qbl s (Qa4 s n n' g) (0 + x))))])))∧(Sp (Prod.snd (gi [SV.v (.int .i64 (Prod.fst (Qbl s (Qa4 s n n' g) (0 + x)))),SV.v (.int .i64 (Prod.snd (Qbl s (Qa4 s n n' g) (0 + x))))])))))∧((((0 : Int) ≤ (Qtn (Prod.fst (gi [SV.v (.int .i64 (Prod.fst (Qbl s (Qa4 s n n' g) (0 + x)))),SV.v (.int .i64 (Prod.snd (Qbl s (Qa4 s n n' g) (0 + x))))])) (Prod.snd (gi [SV.v (.int .i64 (Prod.fst (Qbl s (Qa4 s n n' g) (0 + x)))),SV.v (.int .i64 (Prod.snd (Qbl s (Qa4 s n n' g) (0 + x))))])) (Prod.fst (gi [SV.v (.int .i64 (Prod.fst (Qbl s (Qa4 s n n' g) (0 + x)))),SV.v (.int .i64 (Prod.snd (Qbl s (Qa4 s n n' g) (0 + x))))])) (Prod.snd (gi [SV.v (.int .i64 (Prod.fst (Qbl s (Qa4 s n n' g) (0 + x)))),SV.v (.int .i64 (Prod.snd (Qbl s (Qa4 s n n' g) (0 + x))))]))))∧(((Qtn (Prod.fst (gi [SV.v (.int .i64 (Prod.fst (Qbl s (Qa4 s n n' g) (0 + x)))),SV.v (.int .i64 (Prod.snd (Qbl s (Qa4 s n n' g) (0 + x))))])) (Prod.snd (gi [SV.v (.int .i64 (Prod.fst (Qbl s (Qa4 s n n' g) (0 + x)))),SV.v (.int .i64 (Prod.snd (Qbl s (Qa4 s n n' g) (0 + x))))])) (Prod.fst (gi [SV.v (.int .i64 (Prod.fst (Qbl s (Qa4 s n n' g) (0 + x)))),SV.v (.int .i64 (Prod.snd (Qbl s (Qa4 s n n' g) (0 + x))))])) (Prod.snd (gi [SV.v (.int .i64 (Prod.fst (Qbl s (Qa4 s n n' g) (0 + x)))),SV.v (.int .i64 (Prod.snd (Qbl s (Qa4 s n n' g) (0 + x))))]))) : Int) ≤ 1099511627776))∧(∃ x' : Nat,(((x' : Nat) = (x + 1))∧((Nat.le x' (Qa7 0 s n))∧(True∧(((1 : Nat) = 1)∧(((1 : Nat) ≤ 1)∧(∀ i : Nat,(((i : Nat) < 1)→([(SV.v (.int .i64 (max (Q43 (ShB.r s) (Qbl s g) x) (↑(Q41 (Qtn (Prod.fst (gi [SV.v (.int .i64 (Prod.fst (Qbl s (Qa4 s n n' g) (0 + x)))),SV.v (.int .i64 (Prod.snd (Qbl s (Qa4 s n n' g) (0 + x))))])) (Prod.snd (gi [SV.v (.int .i64 (Prod.fst (Qbl s (Qa4 s n n' g) (0 + x)))),SV.v (.int .i64 (Prod.snd (Qbl s (Qa4 s n n' g) (0 + x))))])) (Prod.fst (gi [SV.v (.int .i64 (Prod.fst (Qbl s (Qa4 s n n' g) (0 + x)))),SV.v (.int .i64 (Prod.snd (Qbl s (Qa4 s n n' g) (0 + x))))])) (Prod.snd (gi [SV.v (.int .i64 (Prod.fst (Qbl s (Qa4 s n n' g) (0 + x)))),SV.v (.int .i64 (Prod.snd (Qbl s (Qa4 s n n' g) (0 + x))))])))) : Int))))] = [(SV.v (.int .i64 (Q43 (ShB.r s) (Qbl s g) x')))]))))))))))))))∧(∀ x : Nat,((Nat.le x (Qa7 0 s n))→(((x : Nat) = (Qa7 (Qca s n (Qa4 s n n' g)) s n))→(R (SV.v (.int .i64 (Q43 (ShB.r s) (Qbl s g) x)))))))))))))) := by kernel_rfl
theorem Q5m (s : ShB) (R : SV→Prop) : (Qcu Tryz.prog Q8u Qax Tryz.f26 [shS s nilV] (Qbm []) 64 (fun y _ => R y)) = ((Qhi s)∧(sel ((Qca s 0 fun x => (0,0)) != 0) (R (SV.v (.int .i64 0))) False)):=by kernel_rfl
theorem Qty : ∀ f g, Q8u f = some g → g.ok Tryz.prog f := Qab (Qab (Qab (Qab (Qab (Qab (Qab (Qab (Qab (Qab Qi9 (Qfa Tryz.func92 (by kernel_rfl) (by kernel_rfl) Qkm)) (Qdc Tryz.func25 (by kernel_rfl) (by kernel_rfl) Qof)) (Qdc Tryz.func144 (by kernel_rfl) (by kernel_rfl) Qlz)) (Qfa Tryz.func19 (by kernel_rfl) (by kernel_rfl) Q4v)) (Qfa Tryz.func173 (by kernel_rfl) (by kernel_rfl) Qy3)) (Qal Tryz.func165 (by kernel_rfl) (by kernel_rfl) Qoe)) (Qal Tryz.func94 (by kernel_rfl) (by kernel_rfl) Q4u)) (Qal Tryz.func221 (by kernel_rfl) (by kernel_rfl) Qly)) (Qal Tryz.func222 (by kernel_rfl) (by kernel_rfl) Qy2)) (Qal Tryz.func93 (by kernel_rfl) (by kernel_rfl) Qze)
theorem Zma (p : Int × Int) : gi [SV.v (.int .i64 p.1), SV.v (.int .i64 p.2)] = p := rfl
theorem Zfn (n' n : Nat) (g : Nat → Int × Int) : Qbv (Qap (Ro.blk { s := 2, n := n', row := fun i => [SV.v (.int .i64 (g i).1), SV.v (.int .i64 (g i).2)] }) 2 0 n) = g := funext fun i => by
 show gi [SV.v (.int .i64 (g (0 + i)).1), SV.v (.int .i64 (g (0 + i)).2)] = g i
 rw [Nat.zero_add]; rfl
theorem Qvt {n n' : Nat} {g : Nat → Int × Int} (hn : n < 1099511627776) (hg : ∀ i, i < n → I64 (g i).1 ∧ I64 (g i).2) : Qcs n (Qap (Ro.blk { s := 2, n := n', row := fun i => [SV.v (.int .i64 (g i).1), SV.v (.int .i64 (g i).2)] }) 2 0 n) := Qp4 hn hg fun _ => rfl
def Q12 (x : Int) : Prop := -4096 ≤ x ∧ x ≤ 4096
theorem Q12.sp {x : Int} (h : Q12 x) : Sp x := ⟨by have := h.1; omega, by have := h.2; omega⟩
theorem Zhs {p : Int × Int} (h : Qgk p = true) : Q12 p.1 ∧ Q12 p.2 := by
 unfold Qgk Qj4 at h
 simp only [Bool.and_eq_true, decide_eq_true_eq] at h
 exact h
theorem Qwf {x y : Int} (h : Q12 x) (k : Q12 y) : -16777216 ≤ x * y ∧ x * y ≤ 16777216 := by
 obtain ⟨a, b⟩ := h
 obtain ⟨c, d⟩ := k
 have h1 : (x + 4096) * (y + 4096) ≥ 0 := Int.mul_nonneg (by omega) (by omega)
 have h2 : (4096 - x) * (4096 - y) ≥ 0 := Int.mul_nonneg (by omega) (by omega)
 have h3 : (x + 4096) * (4096 - y) ≥ 0 := Int.mul_nonneg (by omega) (by omega)
 have h4 : (4096 - x) * (y + 4096) ≥ 0 := Int.mul_nonneg (by omega) (by omega)
 simp only [Int.add_mul, Int.mul_add, Int.sub_mul, Int.mul_sub] at h1 h2 h3 h4
 omega
theorem Qn4 {s : ShB} {n : Nat} {g : Nat → Int × Int} (e : Qca s n g = 0) : ((s.k == 1) = true ∧ 16 ≤ s.r ∧ s.r ≤ 4096 ∧ n = 0) ∨ ((s.k == 1) = false ∧ (s.k == 2) = true ∧ s.r = 0 ∧ n = 0 ∧ (16 ≤ s.w ∧ s.w ≤ 4096) ∧ 16 ≤ s.h ∧ s.h ≤ 4096) ∨ ((s.k == 1) = false ∧ (s.k == 2) = false ∧ s.r = 0 ∧ 3 ≤ n ∧ n ≤ 8 ∧ (∀ i, i < n → Qgk (g i) = true) ∧ Qdt n g = true) := by
 have e0 := e
 unfold Qca at e
 cases h1 : (s.k == 1) with
 | true =>
   rw [h1, cond_true] at e
   cases h2 : (s.w != 0 || (s.h != 0 || (n : Int) != 0)) with
   | true => rw [h2] at e; cases e
   | false =>
     rw [h2, cond_false] at e
     simp only [Bool.or_eq_false_iff, bne_eq_false_iff_eq] at h2
     cases h3 : Qeh s.r with
     | false => rw [h3] at e; cases e
     | true => exact .inl ⟨rfl, (Qmd h3).1, (Qmd h3).2, by omega⟩
 | false =>
   cases h2 : (s.k == 2) with
   | true =>
     obtain ⟨w1, w2⟩ := Qrg e0 h2
     rw [h1, h2, cond_false, cond_true] at e
     cases h3 : (s.r != 0 || (n : Int) != 0) with
     | true => rw [h3] at e; cases e
     | false =>
       simp only [Bool.or_eq_false_iff, bne_eq_false_iff_eq] at h3
       exact .inr (.inl ⟨rfl, rfl, h3.1, by omega, w1, w2⟩)
   | false =>
     rw [h1, h2, cond_false, cond_false] at e
     cases h3 : (s.k == 3) with
     | false => rw [h3] at e; cases e
     | true =>
       rw [h3, cond_true] at e
       cases h4 : (s.r != 0 || (s.w != 0 || (s.h != 0 || (decide ((n : Int) < 3) || decide ((n : Int) > 8))))) with
       | true => rw [h4] at e; cases e
       | false =>
         rw [h4, cond_false] at e
         simp only [Bool.or_eq_false_iff, bne_eq_false_iff_eq, decide_eq_false_iff_not] at h4
         cases h5 : (List.range n).all (fun i => Qgk (g i)) with
         | false => rw [h5] at e; cases e
         | true =>
           rw [h5, cond_true] at e
           cases h6 : Qdt n g with
           | false => rw [h6] at e; cases e
           | true => exact .inr (.inr ⟨rfl, rfl, h4.1, by omega, by omega, fun i hi => List.all_eq_true.1 h5 i (List.mem_range.2 hi), rfl⟩)
theorem Ziw {s : ShB} {n : Nat} {g : Nat → Int × Int} (e : Qca s n g = 0) : 0 ≤ s.r ∧ s.r ≤ 4096 := by
 rcases Qn4 e with h | h | h
 · exact ⟨by omega, h.2.2.1⟩
 · omega
 · omega
theorem Q3b {s : ShB} {n : Nat} {g : Nat → Int × Int} (e : Qca s n g = 0) : Qa7 0 s n ≤ 8 := by
 unfold Qa7
 rcases Qn4 e with ⟨h1, _, _, h4⟩ | ⟨h1, h2, _⟩ | ⟨h1, h2, h3, h4, h5, _⟩
 · have : (s.k == 2) = false := by have : s.k = 1 := by simpa using h1
                                   rw [this]; rfl
   rw [this]
   show n ≤ 8
   omega
 · rw [h2]; show 4 ≤ 8; omega
 · rw [h2]; exact h5
theorem Q9v {s : ShB} {n : Nat} {g : Nat → Int × Int} (e : Qca s n g = 0) : ∀ i, i < Qa7 0 s n → Q12 (Qbl s g i).1 ∧ Q12 (Qbl s g i).2 := by
 unfold Qa7 Qbl
 rcases Qn4 e with ⟨h1, _, _, h4⟩ | ⟨h1, h2, h3, h4, ⟨w1, w2⟩, w3, w4⟩ | ⟨h1, h2, h3, h4, h5, h6, _⟩
 · have : (s.k == 2) = false := by have : s.k = 1 := by simpa using h1
                                   rw [this]; rfl
   rw [this]
   intro i hi
   have hi : i < n := hi
   omega
 · rw [h2]
   intro i hi
   have hi : i < 4 := hi
   obtain rfl | rfl | rfl | rfl : i = 0 ∨ i = 1 ∨ i = 2 ∨ i = 3 := by omega
   · exact ⟨⟨by show -4096 ≤ -s.w; omega, by show -s.w ≤ 4096; omega⟩, by show -4096 ≤ -s.h; omega, by show -s.h ≤ 4096; omega⟩
   · exact ⟨⟨by show -4096 ≤ s.w; omega, by show s.w ≤ 4096; omega⟩, by show -4096 ≤ -s.h; omega, by show -s.h ≤ 4096; omega⟩
   · exact ⟨⟨by show -4096 ≤ s.w; omega, by show s.w ≤ 4096; omega⟩, by show -4096 ≤ s.h; omega, by show s.h ≤ 4096; omega⟩
   · exact ⟨⟨by show -4096 ≤ -s.w; omega, by show -s.w ≤ 4096; omega⟩, by show -4096 ≤ s.h; omega, by show s.h ≤ 4096; omega⟩
 · rw [h2]
   intro i hi
   exact Zhs (h6 i hi)
theorem Qi5 {p q : Int × Int} (h : Q12 p.1 ∧ Q12 p.2) (k : Q12 q.1 ∧ Q12 q.2) : -33554432 ≤ Qfn p q ∧ Qfn p q ≤ 33554432 := by
 have h1 := Qwf h.1 k.1
 have h2 := Qwf h.2 k.2
 unfold Qfn Qtn
 omega
theorem Zim (p : Int × Int) : 0 ≤ Qfn p p := by
 have h1 := Qbu p.1
 have h2 := Qbu p.2
 unfold Qfn Qtn
 omega
theorem Qkd {p q : Int × Int} (h : Q12 p.1 ∧ Q12 p.2) (k : Q12 q.1 ∧ Q12 q.2) : -33554432 ≤ Qac p q ∧ Qac p q ≤ 33554432 := by
 have h1 := Qwf h.1 k.2
 have h2 := Qwf h.2 k.1
 unfold Qac Qaq
 omega
theorem Q6t {s : ShB} {n c : Nat} {g : Nat → Int × Int} (hs : Qhi s) (hn : n < 1099511627776) (hg : ∀ i, i < n → I64 (g i).1 ∧ I64 (g i).2) : Qcu Tryz.prog Q8u (Qtq s.r (Qa7 0 s n) (Qbl s g)) Tryz.f26 [shS s (.sl 0 2 0 n c)] (Qbm [⟨2, n, Qey g⟩]) 64 (fun y _ => y = .v (.int .i64 (Zhl (Qca s n g) s n g))) := by
 refine Eq.mpr (Zbb s n n c g _) ?_
 repeat (first | unfold Qa4)
 refine ?_
 have hpre := Qvt (n' := n) hn hg
 rw [Qg1]
 simp only [Zfn, Zma, Nat.zero_add]
 refine ⟨⟨hs, okAll_rows.2 fun i hi => hg i hi, by trivial, hn⟩, Qad (fun h => ?_) fun h => ⟨⟨hs, hpre⟩, fun c1 => ?_⟩⟩
 · refine Qbh ?_; unfold Zhl; rw [h]; rfl
 · have e0 := (Qjk (s := zSh) h).2
   have hN := Q3b e0
   have hq := Q9v e0
   have hr := Ziw e0
   have hfin : Zhl 0 s n g = Q43 s.r (Qbl s g) (Qa7 0 s n) := rfl
   rw [e0, hfin]
   generalize Qa7 0 s n = N at *
   refine ⟨⟨rfl, by omega, Nat.le_refl _, fun _ _ => by trivial⟩, ⟨0, by trivial, Nat.zero_le _, by trivial, by trivial, by trivial, fun _ _ => rfl⟩, fun x hx hlt => ?_, fun x hx he => ?_⟩
   · obtain ⟨a1, a2⟩ := hq x hlt
     have b1 := Qi5 (hq x hlt) (hq x hlt)
     have b2 := Zim (Qbl s g x)
     unfold Qfn at b1 b2
     refine ⟨⟨⟨a1.sp, a2.sp⟩, a1.sp, a2.sp⟩, ⟨b2, by omega⟩, x + 1, by trivial, hlt, by trivial, by trivial, by trivial, fun _ _ => ?_⟩
     have : Q43 s.r (Qbl s g) (x + 1) = max (Q43 s.r (Qbl s g) x) (Q41 (Qfn (Qbl s g x) (Qbl s g x)) : Nat) := rfl
     rw [this]; rfl
   · have he : x = N := he
     rw [he]
theorem Q1w {s : ShB} (hs : Qhi s) (hc : Qca s 0 zP ≠ 0) : Qcu Tryz.prog Q8u Qax Tryz.f26 [shS s nilV] (Qbm []) 64 (fun y _ => y = .v (.int .i64 0)) := by
 refine Eq.mpr (Q5m s _) ?_
 exact ⟨hs, Qad (fun _ => rfl) fun h => hc (Qjk (s := zSh) h).2⟩
theorem Qyu : Qcg Tryz.prog 26 Q1h := Qb4 hm Qty Tryz.func26 (Λ := fun args bs => match args, bs with | [.agg [.v (.int .i64 k), .v (.int .i64 r), .v (.int .i64 w), .v (.int .i64 h), .sl 0 2 0 n _]], [⟨2, _, row⟩] => Qtq r (Qa7 0 ⟨k, r, w, h⟩ n) (Qbl ⟨k, r, w, h⟩ (fun i => gi (row i))) | _, _ => Qax) fun args bs p x h hp => by
 unfold Q1h at h
 split at h <;> try (cases h; done)
 · rename_i k r w hh n c n' row
   cases h
   obtain ⟨hs, h0, rfl, hn⟩ := hp _ rfl
   have h0 := okAll_rows.1 h0
   refine ⟨rfl, [⟨2, n', Qey fun i => gi (row i)⟩], ⟨⟨rfl, rfl, fun i hi => (Qdj (h0 i hi)).1⟩, trivial⟩, ?_⟩
   exact Q6t (s := ⟨k, r, w, hh⟩) hs hn fun i hi => (Qdj (h0 i hi)).2
 · rename_i k r w hh
   cases h
   obtain ⟨hs, hc⟩ := hp _ rfl
   exact ⟨rfl, [], trivial, Q1w (s := ⟨k, r, w, hh⟩) hs hc⟩
noncomputable def Qpy (N : Nat) (g : Nat → Int × Int) : Nat → Option LoopSpec := Qyi (Qcp Qax Tryz.f145 0 Nat (fun k => k ≤ N) (fun k => N - k) [(13, fun k => .v (.int .i64 k)), (10, fun k => .v (.int .i64 (Qfo N g k))), (11, fun k => .v (.int .i64 (Qmm N g k)))] []) 15 [(14, fun nx => nx + 96), (15, fun nx => nx + 104)]
@[reducible] noncomputable def Qam (s : ShB) (n : Nat) (n' : Nat) (g : Nat→Int × Int) := (Qbv (Qap (Ro.blk {s:=2,n:=n',row:=fun i => [SV.v (.int .i64 (Prod.fst (g i))),SV.v (.int .i64 (Prod.snd (g i)))]}) 2 0 n))
@[reducible] noncomputable def Qfp (s : ShB) := (IntKind.wrap IntKind.i64 (IntKind.wrap IntKind.i64 (ShB.r s * ShB.r s) * IntKind.wrap IntKind.i64 (ShB.r s * ShB.r s)))
theorem Q5n (s : ShB) (n n' c : Nat) (g : Nat→Int × Int) (d : Int) (R : SV→Prop) : (Qcu Tryz.prog Q8u (Qpy (Qa7 0 s n) (Qbl s g)) Tryz.f145 [shS s (.sl 0 2 0 n c),.v (.int .i64 d)] (Qbm [⟨2,n',Qey g⟩]) 64 (fun y _ => R y)) =
(((Qhi s)∧((Qb5 Qon (Qak n fun y => [SV.v (.int .i64 (Prod.fst (g (0 + y)))),SV.v (.int .i64 (Prod.snd (g (0 + y))))]))∧(((n : Nat) = n)∧((n : Nat) < 1099511627776))))∧(sel ((Qca s n fun i => gi [SV.v (.int .i64 (Prod.fst (g (0 + i)))),SV.v (.int .i64 (Prod.snd (g (0 + i))))]) != 0) (R (SV.tup [(SV.agg [(SV.v (.int .i64 0)),(SV.v (.bool false)),(SV.v (.int .i64 0)),(SV.v (.bool false))]),(SV.v (.int .i64 (Qca s n fun i => gi [SV.v (.int .i64 (Prod.fst (g (0 + i)))),SV.v (.int .i64 (Prod.snd (g (0 + i))))])))])) (sel (decide (d < 1)) (R (SV.tup [(SV.agg [(SV.v (.int .i64 0)),(SV.v (.bool false)),(SV.v (.int .i64 0)),(SV.v (.bool false))]),(SV.v (.int .i64 3))])) (sel (decide (d > 1000)) (R (SV.tup [(SV.agg [(SV.v (.int .i64 0)),(SV.v (.bool false)),(SV.v (.int .i64 0)),(SV.v (.bool false))]),(SV.v (.int .i64 3))])) ((I64 d)∧(sel (ShB.k s == 1) (((I64 65536)∧(I64 (IntKind.wrap IntKind.i64 (ShB.r s * ShB.r s))))∧(((I64 (NB.v (Qa2 65536 (IntKind.wrap IntKind.i64 (ShB.r s * ShB.r s)))))∧(I64 13493037704))∧(((I64 (NB.v (Qdh (Qa2 65536 (IntKind.wrap IntKind.i64 (ShB.r s * ShB.r s))) {v:=13493037704,f:=false})))∧(I64 (NB.v (Qfx d))))∧(((I64 8589934592)∧(I64 (Qfp s)))∧(((I64 (NB.v (Qa2 8589934592 (Qfp s))))∧(I64 13493037704))∧(((I64 (NB.v (Qdh (Qa2 8589934592 (Qfp s)) {v:=13493037704,f:=false})))∧(I64 (NB.v (Qfx d))))∧(R (SV.tup [(SV.agg [(SV.v (.int .i64 (NB.v (Qdh (Qdh (Qa2 65536 (IntKind.wrap IntKind.i64 (ShB.r s * ShB.r s))) {v:=13493037704,f:=false}) (Qfx d))))),(SV.v (.bool (NB.f (Qdh (Qdh (Qa2 65536 (IntKind.wrap IntKind.i64 (ShB.r s * ShB.r s))) {v:=13493037704,f:=false}) (Qfx d))))),(SV.v (.int .i64 (NB.v (Qdh (Qdh (Qa2 8589934592 (Qfp s)) {v:=13493037704,f:=false}) (Qfx d))))),(SV.v (.bool (NB.f (Qdh (Qdh (Qa2 8589934592 (Qfp s)) {v:=13493037704,f:=false}) (Qfx d)))))]),(SV.v (.int .i64 0))])))))))) (((Qhi s)∧(Qcs n (Qap (Ro.blk {s:=2,n:=n',row:=fun i => [SV.v (.int .i64 (Prod.fst (g i))),SV.v (.int .i64 (Prod.snd (g i)))]}) 2 0 n)))∧(∀ c_1 : Nat,((∃ x : Nat,((Nat.le x (Qa7 0 s n))∧((((SV.v (.int .i64 0)) = (SV.v (.int .i64 ((↑x : Int)))))∧(((SV.v (.int .i64 0)) = (SV.v (.int .i64 (Qfo (Qa7 0 s n) (Qbl s g) x))))∧((SV.v (.int .i64 0)) = (SV.v (.int .i64 (Qmm (Qa7 0 s n) (Qbl s g) x))))))∧True)))∧(∀ x : Nat,((Nat.le x (Qa7 0 s n))→(sel (decide ((↑x : Int) < (↑(Qa7 (Qca s n (Qam s n n' g)) s n) : Int))) ((((0 : Int) ≤ ((↑x : Int)))∧((((↑x : Int)) : Int) < ((↑(Qa7 (Qca s n (Qam s n n' g)) s n) : Int))))∧(((((↑(Qa7 (Qca s n (Qam s n n' g)) s n) : Int)) : Int) ≠ 0)∧((((0 : Int) ≤ (Int.tmod (IntKind.wrap IntKind.i64 ((↑x : Int) + 1)) (↑(Qa7 (Qca s n (Qam s n n' g)) s n) : Int)))∧(((Int.tmod (IntKind.wrap IntKind.i64 ((↑x : Int) + 1)) (↑(Qa7 (Qca s n (Qam s n n' g)) s n) : Int)) : Int) < ((↑(Qa7 (Qca s n (Qam s n n' g)) s n) : Int))))∧((((Sp (Prod.fst (Qbl s (Qam s n n' g) (0 + Int.toNat (↑x : Int)))))∧(Sp (Prod.snd (Qbl s (Qam s n n' g) (0 + Int.toNat (↑x : Int))))))∧((Sp (Prod.fst (Qbl s (Qam s n n' g) (0 + Int.toNat (Int.tmod (IntKind.wrap IntKind.i64 ((↑x : Int) + 1)) (↑(Qa7 (Qca s n (Qam s n n' g)) s n) : Int))))))∧(Sp (Prod.snd (Qbl s (Qam s n n' g) (0 + Int.toNat (Int.tmod (IntKind.wrap IntKind.i64 ((↑x : Int) + 1)) (↑(Qa7 (Qca s n (Qam s n n' g)) s n) : Int))))))))∧((((Sp (Prod.fst (Qbl s (Qam s n n' g) (0 + Int.toNat (↑x : Int)))))∧(Sp (Prod.snd (Qbl s (Qam s n n' g) (0 + Int.toNat (↑x : Int))))))∧((Sp (Prod.fst (Qbl s (Qam s n n' g) (0 + Int.toNat (Int.tmod (IntKind.wrap IntKind.i64 ((↑x : Int) + 1)) (↑(Qa7 (Qca s n (Qam s n n' g)) s n) : Int))))))∧(Sp (Prod.snd (Qbl s (Qam s n n' g) (0 + Int.toNat (Int.tmod (IntKind.wrap IntKind.i64 ((↑x : Int) + 1)) (↑(Qa7 (Qca s n (Qam s n n' g)) s n) : Int))))))))∧((((Sp (Prod.fst (Qbl s (Qam s n n' g) (0 + Int.toNat (↑x : Int)))))∧(Sp (Prod.snd (Qbl s (Qam s n n' g) (0 + Int.toNat (↑x : Int))))))∧((Sp (Prod.fst (Qbl s (Qam s n n' g) (0 + Int.toNat (↑x : Int)))))∧(Sp (Prod.snd (Qbl s (Qam s n n' g) (0 + Int.toNat (↑x : Int)))))))∧((((Sp (Prod.fst (Qbl s (Qam s n n' g) (0 + Int.toNat (↑x : Int)))))∧(Sp (Prod.snd (Qbl s (Qam s n n' g) (0 + Int.toNat (↑x : Int))))))∧((Sp (Prod.fst (Qbl s (Qam s n n' g) (0 + Int.toNat (Int.tmod (IntKind.wrap IntKind.i64 ((↑x : Int) + 1)) (↑(Qa7 (Qca s n (Qam s n n' g)) s n) : Int))))))∧(Sp (Prod.snd (Qbl s (Qam s n n' g) (0 + Int.toNat (Int.tmod (IntKind.wrap IntKind.i64 ((↑x : Int) + 1)) (↑(Qa7 (Qca s n (Qam s n n' g)) s n) : Int))))))))∧((((Sp (Prod.fst (Qbl s (Qam s n n' g) (0 + Int.toNat (Int.tmod (IntKind.wrap IntKind.i64 ((↑x : Int) + 1)) (↑(Qa7 (Qca s n (Qam s n n' g)) s n) : Int))))))∧(Sp (Prod.snd (Qbl s (Qam s n n' g) (0 + Int.toNat (Int.tmod (IntKind.wrap IntKind.i64 ((↑x : Int) + 1)) (↑(Qa7 (Qca s n (Qam s n n' g)) s n) : Int)))))))∧((Sp (Prod.fst (Qbl s (Qam s n n' g) (0 + Int.toNat (Int.tmod (IntKind.wrap IntKind.i64 ((↑x : Int) + 1)) (↑(Qa7 (Qca s n (Qam s n n' g)) s n) : Int))))))∧(Sp (Prod.snd (Qbl s (Qam s n n' g) (0 + Int.toNat (Int.tmod (IntKind.wrap IntKind.i64 ((↑x : Int) + 1)) (↑(Qa7 (Qca s n (Qam s n n' g)) s n) : Int))))))))∧(∃ x' : Nat,(((Nat.le x' (Qa7 0 s n))∧((((SV.v (.int .i64 (IntKind.wrap IntKind.i64 ((↑x : Int) + 1)))) = (SV.v (.int .i64 ((↑x' : Int)))))∧(((SV.v (.int .i64 (IntKind.wrap IntKind.i64 (Qfo (Qa7 0 s n) (Qbl s g) x + Qaq (Prod.fst (Qbl s (Qam s n n' g) (0 + Int.toNat (↑x : Int)))) (Prod.snd (Qbl s (Qam s n n' g) (0 + Int.toNat (↑x : Int)))) (Prod.fst (Qbl s (Qam s n n' g) (0 + Int.toNat (Int.tmod (IntKind.wrap IntKind.i64 ((↑x : Int) + 1)) (↑(Qa7 (Qca s n (Qam s n n' g)) s n) : Int))))) (Prod.snd (Qbl s (Qam s n n' g) (0 + Int.toNat (Int.tmod (IntKind.wrap IntKind.i64 ((↑x : Int) + 1)) (↑(Qa7 (Qca s n (Qam s n n' g)) s n) : Int))))))))) = (SV.v (.int .i64 (Qfo (Qa7 0 s n) (Qbl s g) x'))))∧((SV.v (.int .i64 (IntKind.wrap IntKind.i64 (Qmm (Qa7 0 s n) (Qbl s g) x + IntKind.wrap IntKind.i64 (Qaq (Prod.fst (Qbl s (Qam s n n' g) (0 + Int.toNat (↑x : Int)))) (Prod.snd (Qbl s (Qam s n n' g) (0 + Int.toNat (↑x : Int)))) (Prod.fst (Qbl s (Qam s n n' g) (0 + Int.toNat (Int.tmod (IntKind.wrap IntKind.i64 ((↑x : Int) + 1)) (↑(Qa7 (Qca s n (Qam s n n' g)) s n) : Int))))) (Prod.snd (Qbl s (Qam s n n' g) (0 + Int.toNat (Int.tmod (IntKind.wrap IntKind.i64 ((↑x : Int) + 1)) (↑(Qa7 (Qca s n (Qam s n n' g)) s n) : Int))))) * IntKind.wrap IntKind.i64 (IntKind.wrap IntKind.i64 (Qtn (Prod.fst (Qbl s (Qam s n n' g) (0 + Int.toNat (↑x : Int)))) (Prod.snd (Qbl s (Qam s n n' g) (0 + Int.toNat (↑x : Int)))) (Prod.fst (Qbl s (Qam s n n' g) (0 + Int.toNat (↑x : Int)))) (Prod.snd (Qbl s (Qam s n n' g) (0 + Int.toNat (↑x : Int)))) + Qtn (Prod.fst (Qbl s (Qam s n n' g) (0 + Int.toNat (↑x : Int)))) (Prod.snd (Qbl s (Qam s n n' g) (0 + Int.toNat (↑x : Int)))) (Prod.fst (Qbl s (Qam s n n' g) (0 + Int.toNat (Int.tmod (IntKind.wrap IntKind.i64 ((↑x : Int) + 1)) (↑(Qa7 (Qca s n (Qam s n n' g)) s n) : Int))))) (Prod.snd (Qbl s (Qam s n n' g) (0 + Int.toNat (Int.tmod (IntKind.wrap IntKind.i64 ((↑x : Int) + 1)) (↑(Qa7 (Qca s n (Qam s n n' g)) s n) : Int)))))) + Qtn (Prod.fst (Qbl s (Qam s n n' g) (0 + Int.toNat (Int.tmod (IntKind.wrap IntKind.i64 ((↑x : Int) + 1)) (↑(Qa7 (Qca s n (Qam s n n' g)) s n) : Int))))) (Prod.snd (Qbl s (Qam s n n' g) (0 + Int.toNat (Int.tmod (IntKind.wrap IntKind.i64 ((↑x : Int) + 1)) (↑(Qa7 (Qca s n (Qam s n n' g)) s n) : Int))))) (Prod.fst (Qbl s (Qam s n n' g) (0 + Int.toNat (Int.tmod (IntKind.wrap IntKind.i64 ((↑x : Int) + 1)) (↑(Qa7 (Qca s n (Qam s n n' g)) s n) : Int))))) (Prod.snd (Qbl s (Qam s n n' g) (0 + Int.toNat (Int.tmod (IntKind.wrap IntKind.i64 ((↑x : Int) + 1)) (↑(Qa7 (Qca s n (Qam s n n' g)) s n) : Int))))))))))) = (SV.v (.int .i64 (Qmm (Qa7 0 s n) (Qbl s g) x'))))))∧True))∧(((Qa7 0 s n - x') : Nat) < (Qa7 0 s n - x)))))))))))) (((I64 131072)∧(I64 (Qfo (Qa7 0 s n) (Qbl s g) x)))∧(((I64 (NB.v (Qa2 131072 (Qfo (Qa7 0 s n) (Qbl s g) x))))∧(I64 (NB.v (Qfx d))))∧(((I64 51539607552)∧(I64 (Qmm (Qa7 0 s n) (Qbl s g) x)))∧(((I64 (NB.v (Qa2 51539607552 (Qmm (Qa7 0 s n) (Qbl s g) x))))∧(I64 (NB.v (Qfx d))))∧(R (SV.tup [(SV.agg [(SV.v (.int .i64 (NB.v (Qdh (Qa2 131072 (Qfo (Qa7 0 s n) (Qbl s g) x)) (Qfx d))))),(SV.v (.bool (NB.f (Qdh (Qa2 131072 (Qfo (Qa7 0 s n) (Qbl s g) x)) (Qfx d))))),(SV.v (.int .i64 (NB.v (Qdh (Qa2 51539607552 (Qmm (Qa7 0 s n) (Qbl s g) x)) (Qfx d))))),(SV.v (.bool (NB.f (Qdh (Qa2 51539607552 (Qmm (Qa7 0 s n) (Qbl s g) x)) (Qfx d)))))]),(SV.v (.int .i64 0))])))))))))))))))))) := by kernel_rfl
theorem Qmi {a b : Int} {A B C : Int} (ha : -A ≤ a ∧ a ≤ A) (hb : -B ≤ b ∧ b ≤ B) (hC : A * B = C) : -C ≤ a * b ∧ a * b ≤ C := by
 obtain ⟨a1, a2⟩ := ha
 obtain ⟨b1, b2⟩ := hb
 have h1 : (a + A) * (b + B) ≥ 0 := Int.mul_nonneg (by omega) (by omega)
 have h2 : (A - a) * (B - b) ≥ 0 := Int.mul_nonneg (by omega) (by omega)
 have h3 : (a + A) * (B - b) ≥ 0 := Int.mul_nonneg (by omega) (by omega)
 have h4 : (A - a) * (b + B) ≥ 0 := Int.mul_nonneg (by omega) (by omega)
 simp only [Int.add_mul, Int.mul_add, Int.sub_mul, Int.mul_sub] at h1 h2 h3 h4
 omega
theorem Q14 {r : Int} (h : 0 ≤ r ∧ r ≤ 4096) : (0 ≤ r * r ∧ r * r ≤ 16777216) ∧ (0 ≤ r * r * r ∧ r * r * r ≤ 68719476736) ∧ 0 ≤ r * r * r * r ∧ r * r * r * r ≤ 281474976710656 := by
 have p1 := Qmi (a := r) (b := r) (A := 4096) (B := 4096) ⟨by omega, by omega⟩ ⟨by omega, by omega⟩ rfl
 have n1 : 0 ≤ r * r := Int.mul_nonneg h.1 h.1
 have p2 := Qmi (a := r * r) (b := r) (A := 16777216) (B := 4096) ⟨by omega, by omega⟩ ⟨by omega, by omega⟩ rfl
 have n2 : 0 ≤ r * r * r := Int.mul_nonneg n1 h.1
 have p3 := Qmi (a := r * r * r) (b := r) (A := 68719476736) (B := 4096) ⟨by omega, by omega⟩ ⟨by omega, by omega⟩ rfl
 have n3 : 0 ≤ r * r * r * r := Int.mul_nonneg n2 h.1
 exact ⟨⟨n1, by omega⟩, ⟨n2, by omega⟩, n3, by omega⟩
theorem Zds {p q : Int × Int} (h : Q12 p.1 ∧ Q12 p.2) (k : Q12 q.1 ∧ Q12 q.2) : -100663296 ≤ Qfn p p + Qfn p q + Qfn q q ∧ Qfn p p + Qfn p q + Qfn q q ≤ 100663296 := by
 have a := Qi5 h h
 have b := Qi5 h k
 have c := Qi5 k k
 omega
theorem Q2n {p q : Int × Int} (h : Q12 p.1 ∧ Q12 p.2) (k : Q12 q.1 ∧ Q12 q.2) : -3377699720527872 ≤ Qac p q * (Qfn p p + Qfn p q + Qfn q q) ∧ Qac p q * (Qfn p p + Qfn p q + Qfn q q) ≤ 3377699720527872 :=
 Qmi (A := 33554432) (B := 100663296) (Qkd h k) (Zds h k) rfl
theorem Q3l {N : Nat} {g : Nat → Int × Int} (hg : ∀ i, i < N → Q12 (g i).1 ∧ Q12 (g i).2) : ∀ k, k ≤ N → (-33554432 * (k : Int) ≤ Qfo N g k ∧ Qfo N g k ≤ 33554432 * (k : Int)) ∧ -3377699720527872 * (k : Int) ≤ Qmm N g k ∧ Qmm N g k ≤ 3377699720527872 * (k : Int)
 | 0, _ => by unfold Qfo Qmm; omega
 | k + 1, hk => by
   have ih := Q3l hg k (by omega)
   have hl : (k + 1) % N < N := Nat.mod_lt _ (by omega)
   have h1 := Qkd (hg k (by omega)) (hg _ hl)
   have h2 := Q2n (hg k (by omega)) (hg _ hl)
   unfold Qfo Qmm
   omega
theorem ni (a : Int) (b : Int) : I64 (Qa2 a b).v := (Qfv a b).i64
theorem nd (a b : NB) : I64 (Qdh a b).v := (Qfv _ _).i64
theorem Zjv (d : Int) : I64 (Qfx d).v := (Qbk _).i64
theorem Zid : I64 13493037704 := ⟨by decide, by decide⟩
theorem Q8w {d : Int} (h1 : decide (d < 1) = false) (h2 : decide (d > 1000) = false) : Qp5 0 d = 0 := by unfold Qp5; rw [h1, h2]; rfl
theorem Zfo {e d : Int} (h : (e != 0) = true) : Qp5 e d = e := by unfold Qp5; rw [h]; rfl
theorem Q8x {e d : Int} (h : (e != 0) = false) (h1 : decide (d < 1) = true) : Qp5 e d = 3 := by unfold Qp5; rw [h, h1]; rfl
theorem Q8y {e d : Int} (h : (e != 0) = false) (h1 : decide (d > 1000) = true) : Qp5 e d = 3 := by unfold Qp5; rw [h, h1, Bool.or_true]; rfl
theorem Qt1 {e d : Int} {s : ShB} {n : Nat} {g : Nat → Int × Int} (h : (Qp5 e d != 0) = true) : Qth e s n g d = Qoi := by unfold Qth; rw [h]; rfl
theorem Qz3 {d : Int} {s : ShB} {n : Nat} {g : Nat → Int × Int} (h : Qp5 0 d = 0) (hk : (s.k == 1) = true) : Qth 0 s n g d = Qz5 s.r d := by unfold Qth; rw [h, hk]; rfl
theorem Qz2 {d : Int} {s : ShB} {n : Nat} {g : Nat → Int × Int} (h : Qp5 0 d = 0) (hk : (s.k == 1) = false) : Qth 0 s n g d = Qr1 (Qfo (Qa7 0 s n) (Qbl s g) (Qa7 0 s n)) (Qmm (Qa7 0 s n) (Qbl s g) (Qa7 0 s n)) d := by unfold Qth; rw [h, hk]; rfl
theorem Q5c {x N : Nat} (hx : x < N) (hN : N ≤ 8) : (IntKind.i64.wrap ((x : Int) + 1)).tmod (N : Int) = (((x + 1) % N : Nat) : Int) := by
 rw [Qaf ⟨by omega, by omega⟩, Int.tmod_eq_emod_of_nonneg (by omega), Int.natCast_emod]; rfl
theorem Q6h {p q : Int × Int} (h : Q12 p.1 ∧ Q12 p.2) (k : Q12 q.1 ∧ Q12 q.2) {m : Int} (hm : -36028797018963968 ≤ m ∧ m ≤ 36028797018963968) :
   IntKind.i64.wrap (m + IntKind.i64.wrap (Qaq p.1 p.2 q.1 q.2 * IntKind.i64.wrap (IntKind.i64.wrap (Qtn p.1 p.2 p.1 p.2 + Qtn p.1 p.2 q.1 q.2) + Qtn q.1 q.2 q.1 q.2))) = m + Qac p q * (Qfn p p + Qfn p q + Qfn q q) := by
 have a := Qi5 h h
 have b := Qi5 h k
 have c := Qi5 k k
 have e := Q2n h k
 have e1 : Qfn p p = Qtn p.1 p.2 p.1 p.2 := rfl
 have e2 : Qfn p q = Qtn p.1 p.2 q.1 q.2 := rfl
 have e3 : Qfn q q = Qtn q.1 q.2 q.1 q.2 := rfl
 have e4 : Qac p q = Qaq p.1 p.2 q.1 q.2 := rfl
 rw [← e1, ← e2, ← e3, ← e4]
 rw [Qaf (n := Qfn p p + Qfn p q) ⟨by omega, by omega⟩, Qaf (n := Qfn p p + Qfn p q + Qfn q q) ⟨by omega, by omega⟩, Qaf (n := Qac p q * _) ⟨by omega, by omega⟩, Qaf ⟨by omega, by omega⟩]
theorem Q0u {p q : Int × Int} (h : Q12 p.1 ∧ Q12 p.2) (k : Q12 q.1 ∧ Q12 q.2) {m : Int} (hm : -36028797018963968 ≤ m ∧ m ≤ 36028797018963968) : IntKind.i64.wrap (m + Qaq p.1 p.2 q.1 q.2) = m + Qac p q := by
 have e := Qkd h k
 have e4 : Qac p q = Qaq p.1 p.2 q.1 q.2 := rfl
 rw [← e4, Qaf ⟨by omega, by omega⟩]
theorem Q1s {s : ShB} {n c : Nat} {g : Nat → Int × Int} {d : Int} (hs : Qhi s) (hd : I64 d) (hn : n < 1099511627776) (hg : ∀ i, i < n → I64 (g i).1 ∧ I64 (g i).2) : Qcu Tryz.prog Q8u (Qpy (Qa7 0 s n) (Qbl s g)) Tryz.f145 [shS s (.sl 0 2 0 n c), .v (.int .i64 d)] (Qbm [⟨2, n, Qey g⟩]) 64 (fun y _ => y = .tup [vS (Qth (Qca s n g) s n g d), .v (.int .i64 (Qp5 (Qca s n g) d))]) := by
 refine Eq.mpr (Q5n s n n c g d _) ?_
 repeat (first | unfold Qfp | unfold Qam)
 refine ?_
 have hpre := Qvt (n' := n) hn hg
 rw [Qg1]
 simp only [Zfn, Nat.zero_add, Int.toNat_natCast]
 refine ⟨⟨hs, okAll_rows.2 fun i hi => hg i hi, by trivial, hn⟩, Qad (fun h => ?_) fun h => ?_⟩
 · rw [Zfo h, Qt1 (by rw [Zfo h]; exact h)]; rfl
 have e0 := (Qjk (s := zSh) h).2
 refine Qad (fun h1 => ?_) fun h1 => Qad (fun h2 => ?_) fun h2 => ⟨hd, Qad (fun hk => ?_) fun hk => ⟨⟨hs, hpre⟩, fun c1 => ?_⟩⟩
 · rw [Qt1 (by rw [Q8x h h1]; rfl), Q8x h h1]; rfl
 · rw [Qt1 (by rw [Q8y h h2]; rfl), Q8y h h2]; rfl
 · have hw := Q8w h1 h2
   rw [e0, hw, Qz3 hw hk]
   obtain ⟨⟨p1, p2⟩, ⟨p3, p4⟩, p5, p6⟩ := Q14 (Ziw e0)
   have e4 : s.r * s.r * (s.r * s.r) = s.r * s.r * s.r * s.r := by rw [← Int.mul_assoc]
   rw [Qaf (n := s.r * s.r) ⟨by omega, by omega⟩, e4, Qaf ⟨by omega, by omega⟩]
   exact ⟨⟨⟨by decide, by decide⟩, by omega, by omega⟩, ⟨ni _ _, Zid⟩, ⟨nd _ _, Zjv _⟩, ⟨⟨by decide, by decide⟩, by omega, by omega⟩, ⟨ni _ _, Zid⟩, ⟨nd _ _, Zjv _⟩, rfl⟩
 · have hw := Q8w h1 h2
   rw [e0, hw, Qz2 hw hk]
   have hN := Q3b e0
   have hq := Q9v e0
   have hb := Q3l hq
   generalize Qa7 0 s n = N at *
   refine ⟨⟨0, Nat.zero_le _, ⟨rfl, rfl, rfl⟩, trivial⟩, fun x hx => Qad (fun hlt => ?_) fun hge => ?_⟩
   · have hlt : x < N := by simpa using hlt
     have hl : (x + 1) % N < N := Nat.mod_lt _ (by omega)
     obtain ⟨a1, a2⟩ := hq x hlt
     obtain ⟨b1, b2⟩ := hq _ hl
     have hbx := hb x (by omega)
     rw [Q5c hlt hN, Int.toNat_natCast]
     refine ⟨⟨by omega, by omega⟩, by omega, ⟨Int.natCast_nonneg _, Int.ofNat_lt.2 hl⟩, ⟨⟨a1.sp, a2.sp⟩, b1.sp, b2.sp⟩, ⟨⟨a1.sp, a2.sp⟩, b1.sp, b2.sp⟩, ⟨⟨a1.sp, a2.sp⟩, a1.sp, a2.sp⟩, ⟨⟨a1.sp, a2.sp⟩, b1.sp, b2.sp⟩, ⟨⟨b1.sp, b2.sp⟩, b1.sp, b2.sp⟩, x + 1, ⟨by show x + 1 ≤ N; omega, ⟨Qbh (by rw [Qaf ⟨by omega, by omega⟩]; rfl), Qbh ?_, Qbh ?_⟩, trivial⟩, by omega⟩
     · rw [Q0u (hq x hlt) (hq _ hl) ⟨by omega, by omega⟩]; rfl
     · rw [Q6h (hq x hlt) (hq _ hl) ⟨by omega, by omega⟩]; rfl
   · have hge : ¬ x < N := by simpa using hge
     have hx : x ≤ N := hx
     obtain rfl : x = N := by omega
     have hbx := hb x (Nat.le_refl _)
     exact ⟨⟨⟨by decide, by decide⟩, by omega, by omega⟩, ⟨ni _ _, Zjv _⟩, ⟨⟨by decide, by decide⟩, by omega, by omega⟩, ⟨ni _ _, Zjv _⟩, rfl⟩
theorem Qvc : Qcg Tryz.prog 145 Q08 := Qb4 hm Qty Tryz.func145 (Λ := fun args bs => match args, bs with | [.agg [.v (.int .i64 k), .v (.int .i64 r), .v (.int .i64 w), .v (.int .i64 h), .sl 0 2 0 n _], _], [⟨2, _, row⟩] => Qpy (Qa7 0 ⟨k, r, w, h⟩ n) (Qbl ⟨k, r, w, h⟩ (fun i => gi (row i))) | _, _ => Qax) fun args bs p x h hp => by
 unfold Q08 at h
 split at h <;> try (cases h; done)
 rename_i k r w hh n c d n' row
 cases h
 obtain ⟨⟨hs, h0, rfl, hn⟩, hd⟩ := hp _ rfl
 have h0 := okAll_rows.1 h0
 refine ⟨rfl, [⟨2, n', Qey fun i => gi (row i)⟩], ⟨⟨rfl, rfl, fun i hi => (Qdj (h0 i hi)).1⟩, trivial⟩, ?_⟩
 exact Q1s (s := ⟨k, r, w, hh⟩) hs hd hn fun i hi => (Qdj (h0 i hi)).2
def eqP (p q : Int × Int) : Bool := p.1 == q.1 && p.2 == q.2
def Qm5 (n : Nat) (g : Nat → Int × Int) (m : Nat) (h : Nat → Int × Int) : Bool := Nat.beq n m && (List.range n).all (fun i => eqP (g i) (h i))
def Ze3 (a b : ShB) : Bool := a.k == b.k && (a.r == b.r && (a.w == b.w && a.h == b.h))
def Que (a : ShB) (n : Nat) (g : Nat → Int × Int) (b : ShB) (m : Nat) (h : Nat → Int × Int) : Bool := Ze3 a b && Qm5 n g m h
def Q1u (n n' : Nat) (row : Nat → List SV) : Prop := Qb5 Qon (Qak n' row) ∧ n' = n ∧ n < 1099511627776
def Q1g : List SV → List Ro → Option (Option Prop × SV)
 | [.agg [.v (.int .i64 k), .v (.int .i64 r), .v (.int .i64 w), .v (.int .i64 h), .sl 0 2 0 n _], .agg [.v (.int .i64 k2), .v (.int .i64 r2), .v (.int .i64 w2), .v (.int .i64 h2), .sl 1 2 0 m _]], [⟨2, n', row⟩, ⟨2, m', row'⟩] => some (some (Q1u n n' row ∧ Q1u m m' row'), .v (.bool (Que ⟨k, r, w, h⟩ n (fun i => gi (row i)) ⟨k2, r2, w2, h2⟩ m fun i => gi (row' i))))
 | _, _ => none
noncomputable def Qzk (fn : Func) (t : Nat) (n : Nat) (g h : Nat → Int × Int) : Nat → Option LoopSpec := Qcp Qax fn 0 Nat (fun i => i ≤ n ∧ ∀ j, j < i → eqP (g j) (h j) = true) (fun i => n - i) [(t, fun i => .v (.int .i64 i))] []
theorem Q5p (a b : ShB) (n n' c m m' d : Nat) (g h : Nat→Int × Int) (R : SV→Prop) : (Qcu Tryz.prog Qbr (Qzk Tryz.f214 5 n g h) Tryz.f214 [shS a (.sl 0 2 0 n c),shS b (.sl 1 2 0 m d)] (Qbm [⟨2,n',Qey g⟩,⟨2,m',Qey h⟩]) 64 (fun y _ => R y)) =
(sel (ShB.k a != ShB.k b) (R (SV.v (.bool false))) (sel (ShB.r a != ShB.r b) (R (SV.v (.bool false))) (sel (ShB.w a != ShB.w b) (R (SV.v (.bool false))) (sel (ShB.h a != ShB.h b) (R (SV.v (.bool false))) (sel ((↑n : Int) != (↑m : Int)) (R (SV.v (.bool false))) ((∃ x : Nat,((((x : Nat) ≤ n)∧(∀ j : Nat,(((j : Nat) < x)→(eqP (g j) (h j) = true))))∧(((SV.v (.int .i64 0)) = (SV.v (.int .i64 ((↑x : Int)))))∧True)))∧(∀ x : Nat,((((x : Nat) ≤ n)∧(∀ j : Nat,(((j : Nat) < x)→(eqP (g j) (h j) = true))))→(sel (decide ((↑x : Int) < (↑n : Int))) ((((0 : Int) ≤ ((↑x : Int)))∧((((↑x : Int)) : Int) < ((↑n : Int))))∧((((0 : Int) ≤ ((↑x : Int)))∧((((↑x : Int)) : Int) < ((↑m : Int))))∧(sel (!(Prod.fst (g (0 + Int.toNat (↑x : Int))) == Prod.fst (h (0 + Int.toNat (↑x : Int)))&&Prod.snd (g (0 + Int.toNat (↑x : Int))) == Prod.snd (h (0 + Int.toNat (↑x : Int))))) (R (SV.v (.bool false))) (∃ x' : Nat,(((((x' : Nat) ≤ n)∧(∀ j : Nat,(((j : Nat) < x')→(eqP (g j) (h j) = true))))∧(((SV.v (.int .i64 (IntKind.wrap IntKind.i64 ((↑x : Int) + 1)))) = (SV.v (.int .i64 ((↑x' : Int)))))∧True))∧(((n - x') : Nat) < (n - x))))))) (R (SV.v (.bool true)))))))))))) := by kernel_rfl
def Zis (s : ShB) (n : Nat) (g : Nat → Int × Int) : Eff := .nd True Nat 0 (fun c => shS s (.sl 1000 2 0 n (n + c))) fun c => [(1000, spB n (n + c) g)]
def Qo1 (args : List SV) (bs : List Blk) : Option Eff := match args, bs with
 | [.agg [.v (.int .i64 k), .v (.int .i64 r), .v (.int .i64 w), .v (.int .i64 h), .sl 0 2 0 n c]], [b] => bif okB b then some (.nd (Qcs n b) Nat 0 (fun c => shS ⟨k, r, w, h⟩ (.sl 1000 2 0 n (n + c))) fun c => [(1000, spB n (n + c) (Qbv b))]) else none
 | _, _ => none
theorem Zbw (s : ShB) (b : Blk) (n c : Nat) (g : Nat→Int × Int) : (Qcu Tryz.prog Qbr Qax Tryz.f69 [shS s (.sl 0 2 0 n c)] (Qaw [rdB b n g]) 64 (fun y h' => Qhf [rdB b n g] (Zis s n g) y h')) = ((((n * 16) : Nat) ≤ 140737488355328)∧(∀ c_1 : Nat,(∃ c_2 : Nat,((((SV.v (.int .i64 (ShB.k s))) = (SV.v (.int .i64 (ShB.k s))))∧(((SV.v (.int .i64 (ShB.r s))) = (SV.v (.int .i64 (ShB.r s))))∧(((SV.v (.int .i64 (ShB.w s))) = (SV.v (.int .i64 (ShB.w s))))∧(((SV.v (.int .i64 (ShB.h s))) = (SV.v (.int .i64 (ShB.h s))))∧((SV.sl 96 2 0 n (n + c_1)) = (SV.sl 96 2 0 n (n + c_2)))))))∧(((n : Nat) = n)∧((((n + c_2) : Nat) ≤ (n + c_1))∧(∀ i : Nat,(((i : Nat) < n)→([(SV.v (.int .i64 (Prod.fst (g (0 + i))))),(SV.v (.int .i64 (Prod.snd (g (0 + i)))))] = [(SV.v (.int .i64 (Prod.fst (g i)))),(SV.v (.int .i64 (Prod.snd (g i))))]))))))))):=by kernel_rfl
theorem Zij {n m : Nat} {g h : Nat → Int × Int} {i : Nat} (hi : i < n) (e : eqP (g i) (h i) = false) : Qm5 n g m h = false := by
 unfold Qm5
 rw [Qk3 (f := fun i => eqP (g i) (h i)) hi e, Bool.and_false]
theorem Q04 {n m : Nat} {g h : Nat → Int × Int} (e : ((n : Int) != (m : Int)) = true) : Qm5 n g m h = false := by
 have : n ≠ m := fun h => by rw [h] at e; simp at e
 unfold Qm5
 rw [Go.SE.Qb6 this]; rfl
theorem Q05 {n m : Nat} {g h : Nat → Int × Int} (e : ((n : Int) != (m : Int)) = false) (hd : ∀ j, j < n → eqP (g j) (h j) = true) : Qm5 n g m h = true := by
 have e : (n : Int) = (m : Int) := by simpa using e
 obtain rfl : n = m := by omega
 unfold Qm5
 rw [Nat.beq_refl, Qhe hd]; rfl
theorem Qyb {n m : Nat} {g h : Nat → Int × Int} (hn : n < 1099511627776) (hm' : m < 1099511627776) :
   sel ((n : Int) != (m : Int)) (SV.v (.bool false) = .v (.bool (Qm5 n g m h))) ((∃ x : Nat, (x ≤ n ∧ ∀ j : Nat, j < x → eqP (g j) (h j) = true) ∧ SV.v (.int .i64 0) = .v (.int .i64 x) ∧ True) ∧ ∀ x : Nat, (x ≤ n ∧ ∀ j : Nat, j < x → eqP (g j) (h j) = true) →
     sel (decide ((x : Int) < (n : Int))) ((0 ≤ (x : Int) ∧ (x : Int) < (n : Int)) ∧ (0 ≤ (x : Int) ∧ (x : Int) < (m : Int)) ∧ sel (!((g (0 + Int.toNat (x : Int))).1 == (h (0 + Int.toNat (x : Int))).1 && (g (0 + Int.toNat (x : Int))).2 == (h (0 + Int.toNat (x : Int))).2)) (SV.v (.bool false) = .v (.bool (Qm5 n g m h)))
       (∃ x' : Nat, ((x' ≤ n ∧ ∀ j : Nat, j < x' → eqP (g j) (h j) = true) ∧ SV.v (.int .i64 (IntKind.i64.wrap ((x : Int) + 1))) = .v (.int .i64 x') ∧ True) ∧ n - x' < n - x)) (SV.v (.bool true) = .v (.bool (Qm5 n g m h)))) := by
 refine Qad (fun e => by rw [Q04 e]) fun e => ⟨⟨0, ⟨Nat.zero_le _, fun j hj => absurd hj (Nat.not_lt_zero _)⟩, rfl, trivial⟩, fun x ⟨hx, hd⟩ => Qad (fun hlt => ?_) fun hge => ?_⟩
 · have hlt : x < n := by simpa using hlt
   have e' : (n : Int) = (m : Int) := by simpa using e
   rw [Int.toNat_natCast, Nat.zero_add]
   refine ⟨⟨by omega, by omega⟩, ⟨by omega, by omega⟩, Qad (fun hne => ?_) fun heq => ?_⟩
   · have hne : (!eqP (g x) (h x)) = true := hne
     rw [Zij hlt (by simpa using hne)]
   · have heq : (!eqP (g x) (h x)) = false := heq
     refine ⟨x + 1, ⟨⟨hlt, fun j hj => ?_⟩, Qbh (by rw [Qaf ⟨by omega, by omega⟩]; rfl), trivial⟩, by omega⟩
     by_cases e2 : j = x
     · rw [e2]; simpa using heq
     · exact hd j (by omega)
 · have hge : ¬ x < n := by simpa using hge
   obtain rfl : x = n := by omega
   rw [Q05 e hd]
theorem Qve : Qcg Tryz.prog 214 Q1g := Qb4 hm Qa0 Tryz.func214 (Λ := fun args bs => match args, bs with | [.agg [_, _, _, _, .sl 0 2 0 n _], .agg [_, _, _, _, .sl 1 2 0 m _]], [⟨2, _, row⟩, ⟨2, _, row'⟩] => Qzk Tryz.f214 5 n (fun i => gi (row i)) (fun i => gi (row' i)) | _, _ => Qax) fun args bs p x h hp => by
 unfold Q1g at h
 split at h <;> try (cases h; done)
 rename_i k r w hh n c k2 r2 w2 h2 m d n' row m' row'
 cases h
 obtain ⟨⟨h0, rfl, hn⟩, k0, rfl, hm'⟩ := hp _ rfl
 have h0 := okAll_rows.1 h0
 have k0 := okAll_rows.1 k0
 refine ⟨rfl, [⟨2, n', Qey fun i => gi (row i)⟩, ⟨2, m', Qey fun i => gi (row' i)⟩], ⟨⟨rfl, rfl, fun i hi => (Qdj (h0 i hi)).1⟩, ⟨rfl, rfl, fun i hi => (Qdj (k0 i hi)).1⟩, trivial⟩, ?_⟩
 refine Eq.mpr (Q5p ⟨k, r, w, hh⟩ ⟨k2, r2, w2, h2⟩ n' n' c m' m' d (fun i => gi (row i)) (fun i => gi (row' i)) _) ?_
 have bn : ∀ {a b : Int}, (a != b) = true → (a == b) = false := fun {a b} h => by unfold bne at h; simpa using h
 have by' : ∀ {a b : Int}, (a != b) = false → (a == b) = true := fun {a b} h => by unfold bne at h; simpa using h
 refine Qad (fun e => Qdy ?_) fun e1 => Qad (fun e => Qdy ?_) fun e2 => Qad (fun e => Qdy ?_) fun e3 => Qad (fun e => Qdy ?_) fun e4 => ?_
 · unfold Que Ze3; rw [bn e]; rfl
 · unfold Que Ze3; rw [by' e1, bn e]; rfl
 · unfold Que Ze3; rw [by' e1, by' e2, bn e]; rfl
 · unfold Que Ze3; rw [by' e1, by' e2, by' e3, bn e]; rfl
 · have : Que ⟨k, r, w, hh⟩ n' (fun i => gi (row i)) ⟨k2, r2, w2, h2⟩ m' (fun i => gi (row' i)) = Qm5 n' (fun i => gi (row i)) m' (fun i => gi (row' i)) := by unfold Que Ze3; rw [by' e1, by' e2, by' e3, by' e4]; rfl
   rw [this]
   exact Qyb hn hm'
theorem Qzc : Qdl Tryz.prog 69 Qo1 := Qc0 hm Qa0 Tryz.func69 (Λ := fun _ _ => Qax) fun args bs e hs hp => by
 unfold Qo1 at hs
 split at hs <;> try (cases hs; done)
 rename_i k r w hh n c b
 cases hb : okB b with
 | false => rw [hb] at hs; cases hs
 | true =>
 rw [hb] at hs
 cases hs
 have hpre : Qcs n b := hp
 obtain ⟨hn, hg⟩ := Qg9 hpre
 refine ⟨[rdB b n (Qbv b)], ⟨Qe6 hb hpre, trivial⟩, ?_⟩
 refine Eq.mpr (Zbw ⟨k, r, w, hh⟩ b n c (Qbv b)) ?_
 exact ⟨by omega, fun c1 => ⟨c1, ⟨rfl, rfl, rfl, rfl, rfl⟩, rfl, Nat.le_refl _, fun i _ => by rw [Nat.zero_add]⟩⟩
def Qd0 (n s : Int) : NB := ⟨Int.tmod n (IntKind.i64.wrap (s * 4294967296)), false⟩
def kitV (x y s : Int) : VB := ⟨Qd0 x s, Qd0 y s⟩
def Qui : List SV → Option (Option Prop × SV)
 | [.v (.int .i64 n), .v (.int .i64 s)] => some (some (0 < s ∧ s < 1073741824), nS (Qd0 n s))
 | _ => none
def Zcl : List SV → Option (Option Prop × SV)
 | [.v (.int .i64 n), .v (.int .i64 m)] => some (some (I64 n ∧ 0 < m ∧ I64 m), .v (.int .i64 (n % m)))
 | _ => none
theorem Q5x (n s : Int) (R : SV→Prop) : (Qav Tryz.prog Qbr Qax Tryz.f62 [.v (.int .i64 n),.v (.int .i64 s)] R) = ((((IntKind.wrap IntKind.i64 (s * 4294967296)) : Int) ≠ 0)∧(R (SV.agg [(SV.v (.int .i64 (Int.tmod n (IntKind.wrap IntKind.i64 (s * 4294967296))))),(SV.v (.bool false))]))):=by kernel_rfl
theorem Zgi (n m : Int) (R : SV→Prop) : (Qav Tryz.prog Qbr Qax Tryz.f11 [.v (.int .i64 n),.v (.int .i64 m)] R) = (((m : Int) ≠ 0)∧(sel (decide (Int.tmod n m < 0)) (R (SV.v (.int .i64 (IntKind.wrap IntKind.i64 (Int.tmod n m + m))))) (R (SV.v (.int .i64 (Int.tmod n m)))))):=by kernel_rfl
noncomputable def ΓG1 : Qb8 := Qah (Qah (Qah (Qah (Qah (Qah Q8u 271 (Qaj Zb8)) 322 (Qaj Q1f)) 81 (Qaj Zew)) 29 (Qaj sTo)) 174 (Qaj sTo)) 26 (Qc7 Q1h)
noncomputable def ΓG2 : Qb8 := Qah (Qah (Qah (ΓG1) 145 (Qc7 Q08)) 214 (Qc7 Q1g)) 69 (Qen false Qo1)
noncomputable def ΓG3 : Qb8 := Qah (Qah (ΓG2) 62 (Qaj Qui)) 11 (Qaj Zcl)
noncomputable def ΓG : Qb8 := ΓG3
theorem Qvl : Qai Tryz.prog 62 Qui := Qao hm Qa0 Tryz.func62 (Λ := fun _ => Qax) fun args p x h hp => by
 unfold Qui at h
 split at h <;> try (cases h; done)
 rename_i n s
 cases h
 obtain ⟨h0, h1⟩ := hp _ rfl
 refine ⟨rfl, rfl, Eq.mpr (Q5x n s _) ?_⟩
 refine ⟨?_, rfl⟩
 rw [Qaf ⟨by omega, by omega⟩]; omega
theorem Q4l : Qai Tryz.prog 11 Zcl := Qao hm Qa0 Tryz.func11 (Λ := fun _ => Qax) fun args p x h hp => by
 unfold Zcl at h
 split at h <;> try (cases h; done)
 rename_i n m
 cases h
 obtain ⟨⟨n0, n1⟩, h0, m0, m1⟩ := hp _ rfl
 refine ⟨rfl, rfl, Eq.mpr (Zgi n m _) ?_⟩
 have hb := Int.tmod_lt_of_pos n h0
 have ha : -m < Int.tmod n m := by
   have := Int.tmod_lt_of_pos (-n) h0
   rw [Int.neg_tmod] at this; omega
 refine ⟨by omega, Qad (fun h => Qbh ?_) fun h => Qbh ?_⟩
 · have h := of_decide_eq_true h
   rw [Qaf ⟨by omega, by omega⟩]
   have e := Int.tmod_add_tdiv_mul n m
   have : n = (Int.tmod n m + m) + (Int.tdiv n m - 1) * m := by rw [Int.sub_mul, Int.one_mul]; omega
   conv => rhs; rw [this]
   rw [Int.add_mul_emod_self_right, Int.emod_eq_of_lt (by omega) (by omega)]
 · have h := of_decide_eq_false h
   have e := Int.tmod_add_tdiv_mul n m
   conv => rhs; rw [← e]
   rw [Int.add_mul_emod_self_right, Int.emod_eq_of_lt (by omega) (by omega)]
theorem Zax : ∀ f g, ΓG1 f = some g → g.ok Tryz.prog f := Qab (Qab (Qab (Qab (Qab (Qab (Qty) (Qal Tryz.func271 (by kernel_rfl) (by kernel_rfl) Q3x)) (Qal Tryz.func322 (by kernel_rfl) (by kernel_rfl) Qyr)) (Qal Tryz.func81 (by kernel_rfl) (by kernel_rfl) Q8j)) (Qal Tryz.func29 (by kernel_rfl) (by kernel_rfl) Zeb)) (Qal Tryz.func174 (by kernel_rfl) (by kernel_rfl) Q70)) (Qdc Tryz.func26 (by kernel_rfl) (by kernel_rfl) Qyu)
theorem Zaw : ∀ f g, ΓG2 f = some g → g.ok Tryz.prog f := Qab (Qab (Qab (Zax) (Qdc Tryz.func145 (by kernel_rfl) (by kernel_rfl) Qvc)) (Qdc Tryz.func214 (by kernel_rfl) (by kernel_rfl) Qve)) (Qfa Tryz.func69 (by kernel_rfl) (by kernel_rfl) Qzc)
theorem Zav : ∀ f g, ΓG3 f = some g → g.ok Tryz.prog f := Qab (Qab (Zaw) (Qal Tryz.func62 (by kernel_rfl) (by kernel_rfl) Qvl)) (Qal Tryz.func11 (by kernel_rfl) (by kernel_rfl) Q4l)
theorem Qzv : ∀ f g, ΓG f = some g → g.ok Tryz.prog f := Zav
end Go.Proofs.YteekigmbopdfjaaGreat
end
end
section
namespace Go.Proofs.YteekigmbopdfjaaGreat
open Go.SE Go.RowKit
def iV (n : Int) : SV := .v (.int .i64 n)
def bV (b : Bool) : SV := .v (.bool b)
abbrev zI : SV := .v (.int .i64 0)
abbrev zF : SV := .v (.bool false)
abbrev zS : SV := .v (.slice none 0 0)
abbrev yI (n : Int) : SV := .v (.int .i64 n)
abbrev yF (b : Bool) : SV := .v (.bool b)
abbrev yU (n : Int) : SV := .v (.int .u8 n)
def rN (r : List SV) : NB := match r with | [.v (.int _ v), .v (.bool f)] => ⟨v, f⟩ | _ => ⟨0, false⟩
def Q6e (a : NB) : NB := Qvy [nR a]
def Zhb (a b : NB) : NB := Qvy [nR a, nR b]
def Zca : List SV → List Ro → Option (Option Prop × SV)
 | [.sl 0 2 0 1 _], [⟨2, 1, row⟩] => some (some (Qf4 (row 0)), nS (Q6e (rN (row 0))))
 | [.sl 0 2 0 2 _], [⟨2, 2, row⟩] => some (some (Qf4 (row 0) ∧ Qf4 (row 1)), nS (Zhb (rN (row 0)) (rN (row 1))))
 | _, _ => none
def Zcx : List SV → List Ro → Option (Option Prop × SV)
 | [.sl 0 4 0 2 _], [⟨4, 2, row⟩] => some (some (Qj8 (row 0) ∧ Qj8 (row 1)), vS (Qbg (rV (row 0)) (rV (row 1))))
 | _, _ => none
noncomputable def ΓT : Qb8 := Qah (Qah (Qah ΓG 150 (Qaj Qm8)) 74 (Qc7 Zca)) 14 (Qc7 Zcx)
structure BD where
 s : ShB
 pa : VB
 pr : VB
 v : VB
 w : NB
 m : VB
 st : Int
 asl : Bool
 flt : Bool
 ver : Int
def bdL (b : BD) (x : SV) : List SV := [.v (.int .i64 b.s.k), .v (.int .i64 b.s.r), .v (.int .i64 b.s.w), .v (.int .i64 b.s.h), x,
 .v (.int .i64 b.pa.x.v), .v (.bool b.pa.x.f), .v (.int .i64 b.pa.y.v), .v (.bool b.pa.y.f), .v (.int .i64 b.pr.x.v), .v (.bool b.pr.x.f), .v (.int .i64 b.pr.y.v), .v (.bool b.pr.y.f),
 .v (.int .i64 b.v.x.v), .v (.bool b.v.x.f), .v (.int .i64 b.v.y.v), .v (.bool b.v.y.f), .v (.int .i64 b.w.v), .v (.bool b.w.f),
 .v (.int .i64 b.m.x.v), .v (.bool b.m.x.f), .v (.int .i64 b.m.y.v), .v (.bool b.m.y.f), .v (.int .i64 b.st), .v (.bool b.asl), .v (.bool b.flt), .v (.int .i64 b.ver)]
def bdS (b : BD) (x : SV) : SV := .agg (bdL b x)
def Qi6 : List SV → Option (BD × SV)
 | [.v (.int .i64 k), .v (.int .i64 r), .v (.int .i64 w), .v (.int .i64 h), x,
 .v (.int .i64 p0), .v (.bool f0), .v (.int .i64 p1), .v (.bool f1), .v (.int .i64 p2), .v (.bool f2), .v (.int .i64 p3), .v (.bool f3),
 .v (.int .i64 v0), .v (.bool g0), .v (.int .i64 v1), .v (.bool g1), .v (.int .i64 w0), .v (.bool g2),
 .v (.int .i64 m0), .v (.bool g3), .v (.int .i64 m1), .v (.bool g4), .v (.int .i64 st), .v (.bool asl), .v (.bool flt), .v (.int .i64 ver)] =>
   some (⟨⟨k, r, w, h⟩, ⟨⟨p0, f0⟩, ⟨p1, f1⟩⟩, ⟨⟨p2, f2⟩, ⟨p3, f3⟩⟩, ⟨⟨v0, g0⟩, ⟨v1, g1⟩⟩, ⟨w0, g2⟩, ⟨⟨m0, g3⟩, ⟨m1, g4⟩⟩, st, asl, flt, ver⟩, x)
 | _ => none
def bdI (b : BD) : Prop := Qhi b.s ∧ (I64 b.pa.x.v ∧ I64 b.pa.y.v) ∧ (I64 b.pr.x.v ∧ I64 b.pr.y.v) ∧ (I64 b.v.x.v ∧ I64 b.v.y.v) ∧ I64 b.w.v ∧ (I64 b.m.x.v ∧ I64 b.m.y.v) ∧ I64 b.st ∧ I64 b.ver
def Q2m (b : BD) : Bool := b.m.x.v != 0 || b.m.y.v != 0
def Qx9 (b : BD) : Bool := !Q2m b || (b.asl || b.flt)
def Q62 (a : NB) (n : Int) : NB := ⟨(Qpl a (Qfx (-n)) (Qfx n)).v, false⟩
def Ze1 (a : VB) (n : Int) : VB := ⟨Q62 a.x n, Q62 a.y n⟩
def Zcn : List SV → List Ro → Option (Option Prop × SV)
 | [.agg [.v (.int .i64 v), .v (.bool f)], .ptr 0 0 0], [⟨1, 1, row⟩] => match row 0 with
   | [.v (.int .i64 n)] => some (some (I64 v ∧ 0 ≤ n ∧ n ≤ 1000000), nS (Q62 ⟨v, f⟩ n))
   | _ => none
 | _, _ => none
theorem Zgk (a : NB) (n : Int) (R : SV→Prop) : (Qcu Tryz.prog ΓT Qax Tryz.f149 [nS a,.ptr 0 0 0] (Qbm [⟨1,1,fun _ => [.v (.int .i64 n)]⟩]) 64 (fun y _ => R y)) = ((I64 (IntKind.wrap IntKind.i64 (0 - n)))∧((I64 n)∧(((I64 (NB.v a))∧((I64 (NB.v (Qfx (IntKind.wrap IntKind.i64 (0 - n)))))∧(I64 (NB.v (Qfx n)))))∧(R (SV.agg [(yI (Qnm (Qaa (NB.v (Qfx (IntKind.wrap IntKind.i64 (0 - n))))) (Qlr (Qaa (NB.v a)) (Qaa (NB.v (Qfx n)))))),(yF false)]))))):=by kernel_rfl
noncomputable def Zka : Qb8 := Qah ΓT 149 (Qc7 Zcn)
def Zcm : List SV → Option (Option Prop × SV)
 | [.agg [.v (.int .i64 a), .v (.bool f), .v (.int .i64 b), .v (.bool g)], .v (.int .i64 n)] => some (some ((I64 a ∧ I64 b) ∧ 0 ≤ n ∧ n ≤ 1000000), vS (Ze1 ⟨⟨a, f⟩, ⟨b, g⟩⟩ n))
 | _ => none
noncomputable def Ze8 : Nat → Option LoopSpec := Qax
theorem Zgj (a : VB) (n : Int) (R : SV→Prop) : (Qav Tryz.prog Zka Ze8 Tryz.f73 [vS a,.v (.int .i64 n)] R) = (((I64 (NB.v (VB.x a)))∧(((0 : Int) ≤ n)∧((n : Int) ≤ 1000000)))∧(((I64 (NB.v (VB.y a)))∧(((0 : Int) ≤ n)∧((n : Int) ≤ 1000000)))∧(R (SV.agg [(yI (NB.v (Q62 (VB.x a) n))),(yF false),(yI (NB.v (Q62 (VB.y a) n))),(yF false)])))):=by kernel_rfl
def Zi0 (b : BD) (n : Nat) (g : Nat → Int × Int) : Eff := .nd True Nat 0 (fun c => bdS b (.sl 1000 2 0 n (n + c))) fun c => [(1000, spB n (n + c) g)]
def Qv7 (args : List SV) (bs : List Blk) : Option Eff := match args, bs with
 | [.agg l], [D] => match Qi6 l with
   | some (b, .sl 0 2 0 n _) => bif okB D then some (.nd (Qcs n D) Nat 0 (fun c => bdS b (.sl 1000 2 0 n (n + c))) fun c => [(1000, spB n (n + c) (Qbv D))]) else none
   | _ => none
 | _, _ => none
theorem Zbx (b : BD) (B : Blk) (n c : Nat) (g : Nat→Int × Int) : (Qcu Tryz.prog ΓT Qax Tryz.f10 [bdS b (.sl 0 2 0 n c)] (Qaw [rdB B n g]) 64 (fun y h' => Qhf [rdB B n g] (Zi0 b n g) y h')) =
((Qcs n (Qap (rdB B n g) 2 0 n))∧(∀ c_1 : Nat,(∃ c_2 : Nat,((((yI (ShB.k (BD.s b))) = (yI (ShB.k (BD.s b))))∧(((yI (ShB.r (BD.s b))) = (yI (ShB.r (BD.s b))))∧(((yI (ShB.w (BD.s b))) = (yI (ShB.w (BD.s b))))∧(((yI (ShB.h (BD.s b))) = (yI (ShB.h (BD.s b))))∧(((SV.sl 96 2 0 n (n + c_1)) = (SV.sl 96 2 0 n (n + c_2)))∧(((yI (NB.v (VB.x (BD.pa b)))) = (yI (NB.v (VB.x (BD.pa b)))))∧(((yF (NB.f (VB.x (BD.pa b)))) = (yF (NB.f (VB.x (BD.pa b)))))∧(((yI (NB.v (VB.y (BD.pa b)))) = (yI (NB.v (VB.y (BD.pa b)))))∧(((yF (NB.f (VB.y (BD.pa b)))) = (yF (NB.f (VB.y (BD.pa b)))))∧(((yI (NB.v (VB.x (BD.pr b)))) = (yI (NB.v (VB.x (BD.pr b)))))∧(((yF (NB.f (VB.x (BD.pr b)))) = (yF (NB.f (VB.x (BD.pr b)))))∧(((yI (NB.v (VB.y (BD.pr b)))) = (yI (NB.v (VB.y (BD.pr b)))))∧(((yF (NB.f (VB.y (BD.pr b)))) = (yF (NB.f (VB.y (BD.pr b)))))∧(((yI (NB.v (VB.x (BD.v b)))) = (yI (NB.v (VB.x (BD.v b)))))∧(((yF (NB.f (VB.x (BD.v b)))) = (yF (NB.f (VB.x (BD.v b)))))∧(((yI (NB.v (VB.y (BD.v b)))) = (yI (NB.v (VB.y (BD.v b)))))∧(((yF (NB.f (VB.y (BD.v b)))) = (yF (NB.f (VB.y (BD.v b)))))∧(((yI (NB.v (BD.w b))) = (yI (NB.v (BD.w b))))∧(((yF (NB.f (BD.w b))) = (yF (NB.f (BD.w b))))∧(((yI (NB.v (VB.x (BD.m b)))) = (yI (NB.v (VB.x (BD.m b)))))∧(((yF (NB.f (VB.x (BD.m b)))) = (yF (NB.f (VB.x (BD.m b)))))∧(((yI (NB.v (VB.y (BD.m b)))) = (yI (NB.v (VB.y (BD.m b)))))∧(((yF (NB.f (VB.y (BD.m b)))) = (yF (NB.f (VB.y (BD.m b)))))∧(((yI (BD.st b)) = (yI (BD.st b)))∧(((yF (BD.asl b)) = (yF (BD.asl b)))∧(((yF (BD.flt b)) = (yF (BD.flt b)))∧((yI (BD.ver b)) = (yI (BD.ver b)))))))))))))))))))))))))))))∧(((n : Nat) = n)∧((((n + c_2) : Nat) ≤ (n + c_1))∧(∀ i : Nat,(((i : Nat) < n)→([(yI (Prod.fst (Qbv (Qap (rdB B n g) 2 0 n) i))),(yI (Prod.snd (Qbv (Qap (rdB B n g) 2 0 n) i)))] = [(yI (Prod.fst (g i))),(yI (Prod.snd (g i)))]))))))))) := by kernel_rfl
def wkB (b : BD) (x : SV) : Blk := Qdz 154 (bdL b x)
def onE (b : BD) (n : Nat) (g : Nat → Int × Int) : Eff := .nd True Nat 0 (fun _ => .vp 1000 0) fun c => [(1000, wkB b (.sl 1001 2 0 n (n + c))), (1001, spB n (n + c) g)]
def sOn (args : List SV) (bs : List Blk) : Option Eff := match args, bs with
 | [.agg l], [D] => match Qi6 l with
   | some (b, .sl 0 2 0 n _) => bif okB D then some (.nd (Qcs n D) Nat 0 (fun _ => .vp 1000 0) fun c => [(1000, wkB b (.sl 1001 2 0 n (n + c))), (1001, spB n (n + c) (Qbv D))]) else none
   | _ => none
 | _, _ => none
noncomputable def ΓTb : Qb8 := Qah ΓT 10 (Qen false Qv7)
theorem vcOn (b : BD) (B : Blk) (n c : Nat) (g : Nat→Int × Int) : (Qcu Tryz.prog ΓTb Qax Tryz.f70 [bdS b (.sl 0 2 0 n c)] (Qaw [rdB B n g]) 64 (fun y h' => Qhf [rdB B n g] (onE b n g) y h')) =
((Qcs n (Qap (rdB B n g) 2 0 n))∧(∀ c_1 : Nat,(∃ c_2 : Nat,(((SV.vp 104 0) = (SV.vp 104 0))∧((((1 : Nat) = 1)∧(((1 : Nat) ≤ 1)∧(((yI (ShB.k (BD.s b))) = (yI (ShB.k (BD.s b))))∧(((yI (ShB.r (BD.s b))) = (yI (ShB.r (BD.s b))))∧(((yI (ShB.w (BD.s b))) = (yI (ShB.w (BD.s b))))∧(((yI (ShB.h (BD.s b))) = (yI (ShB.h (BD.s b))))∧(((SV.sl 88 2 0 n (n + c_1)) = (SV.sl 88 2 0 n (n + c_2)))∧(((yI (NB.v (VB.x (BD.pa b)))) = (yI (NB.v (VB.x (BD.pa b)))))∧(((yF (NB.f (VB.x (BD.pa b)))) = (yF (NB.f (VB.x (BD.pa b)))))∧(((yI (NB.v (VB.y (BD.pa b)))) = (yI (NB.v (VB.y (BD.pa b)))))∧(((yF (NB.f (VB.y (BD.pa b)))) = (yF (NB.f (VB.y (BD.pa b)))))∧(((yI (NB.v (VB.x (BD.pr b)))) = (yI (NB.v (VB.x (BD.pr b)))))∧(((yF (NB.f (VB.x (BD.pr b)))) = (yF (NB.f (VB.x (BD.pr b)))))∧(((yI (NB.v (VB.y (BD.pr b)))) = (yI (NB.v (VB.y (BD.pr b)))))∧(((yF (NB.f (VB.y (BD.pr b)))) = (yF (NB.f (VB.y (BD.pr b)))))∧(((yI (NB.v (VB.x (BD.v b)))) = (yI (NB.v (VB.x (BD.v b)))))∧(((yF (NB.f (VB.x (BD.v b)))) = (yF (NB.f (VB.x (BD.v b)))))∧(((yI (NB.v (VB.y (BD.v b)))) = (yI (NB.v (VB.y (BD.v b)))))∧(((yF (NB.f (VB.y (BD.v b)))) = (yF (NB.f (VB.y (BD.v b)))))∧(((yI (NB.v (BD.w b))) = (yI (NB.v (BD.w b))))∧(((yF (NB.f (BD.w b))) = (yF (NB.f (BD.w b))))∧(((yI (NB.v (VB.x (BD.m b)))) = (yI (NB.v (VB.x (BD.m b)))))∧(((yF (NB.f (VB.x (BD.m b)))) = (yF (NB.f (VB.x (BD.m b)))))∧(((yI (NB.v (VB.y (BD.m b)))) = (yI (NB.v (VB.y (BD.m b)))))∧(((yF (NB.f (VB.y (BD.m b)))) = (yF (NB.f (VB.y (BD.m b)))))∧(((yI (BD.st b)) = (yI (BD.st b)))∧(((yF (BD.asl b)) = (yF (BD.asl b)))∧(((yF (BD.flt b)) = (yF (BD.flt b)))∧((yI (BD.ver b)) = (yI (BD.ver b)))))))))))))))))))))))))))))))∧(((n : Nat) = n)∧((((n + c_2) : Nat) ≤ (n + c_1))∧(∀ i : Nat,(((i : Nat) < n)→([(yI (Prod.fst (Qbv (Qap (rdB B n g) 2 0 n) i))),(yI (Prod.snd (Qbv (Qap (rdB B n g) 2 0 n) i)))] = [(yI (Prod.fst (g i))),(yI (Prod.snd (g i)))])))))))))) := by kernel_rfl
def Zjp : List SV → List Ro → Option (Option Prop × SV)
 | [.agg l], [⟨2, _, _⟩] => match Qi6 l with
   | some (b, .sl 0 2 0 _ _) => some (none, bV (Q2m b))
   | _ => none
 | _, _ => none
theorem Zkz (b : BD) (n n' c : Nat) (row : Nat→List SV) (R : SV→Prop) : (Qcu Tryz.prog Qbr Qax Tryz.f82 [bdS b (.sl 0 2 0 n c)] (Qbm [⟨2,n',row⟩]) 64 (fun y _ => R y)) = (sel (NB.v (VB.x (BD.m b)) != 0) (R (yF true)) (R (yF (NB.v (VB.y (BD.m b)) != 0)))):=by kernel_rfl
def ΓTc : Qb8 := Qah Qbr 82 (Qc7 Zjp)
def Zlv : List SV → List Ro → Option (Option Prop × SV)
 | [.agg l], [⟨2, _, _⟩] => match Qi6 l with
   | some (b, .sl 0 2 0 _ _) => some (none, bV (Qx9 b))
   | _ => none
 | _, _ => none
theorem Zk5 (b : BD) (n n' c : Nat) (row : Nat→List SV) (R : SV→Prop) : (Qcu Tryz.prog ΓTc Qax Tryz.f52 [bdS b (.sl 0 2 0 n c)] (Qbm [⟨2,n',row⟩]) 64 (fun y _ => R y)) = (sel (!Q2m b) (R (yF true)) (sel (BD.asl b) (R (yF true)) (R (yF (BD.flt b))))):=by kernel_rfl
theorem sT {b : Bool} {x y : Prop} (h : b = true) (hx : x) : sel b x y := by subst h; exact hx
theorem sF {b : Bool} {x y : Prop} (h : b = false) (hy : y) : sel b x y := by subst h; exact hy
theorem Qq1 {a b : Int} {f g : Bool} (h1 : I64 a) (h2 : I64 b) : Qj8 [.v (.int .i64 a), .v (.bool f), .v (.int .i64 b), .v (.bool g)] := ⟨h1, h2⟩
theorem Quw {a : Int} {f : Bool} (h1 : I64 a) : Qf4 [.v (.int .i64 a), .v (.bool f)] := h1
theorem Qum {f : FuncId} {spec spec' : List SV → List Ro → Option (Option Prop × SV)} (h : Qcg Tryz.prog f spec) (w : ∀ args bs p x, spec' args bs = some (p, x) → (∀ q, p = some q → q) → ∃ p', spec args bs = some (p', x) ∧ ∀ q, p' = some q → q) : Qcg Tryz.prog f spec' := fun args bs e hs hp => by
 unfold Qo3 at hs
 split at hs <;> try (cases hs; done)
 rename_i rs hrs
 split at hs <;> try (cases hs; done)
 rename_i p x hsp
 cases hs
 obtain ⟨p', h1, h2⟩ := w args rs p x hsp hp
 have hs' : Qo3 spec args bs = some (.det p' x []) := by unfold Qo3; rw [hrs]; simp only [h1]
 exact h args bs (.det p' x []) hs' h2
theorem Qgy {r : List SV} (h : Qf4 r) : nR (rN r) = r := by
 unfold Qf4 at h
 split at h
 · rfl
 · exact h.elim
theorem Q30 : Qcg Tryz.prog 74 Zca := Qum Qrn fun args bs p x h hp => by
 unfold Zca at h
 split at h <;> try (cases h; done)
 · rename_i c row
   cases h
   have h0 : Qf4 (row 0) := hp _ rfl
   refine ⟨some (Qb5 Qf4 (Qak 1 row) ∧ 1 = 1 ∧ 1 < 1099511627776), ?_, fun q hq => ?_⟩
   · show _ = some (_, Qcy (Qas (Qgc [nR (rN (row 0))])) (Qc9 (Qgc [nR (rN (row 0))]) (Qfb [nR (rN (row 0))])))
     rw [Qgy h0]
     rfl
   · cases hq
     exact ⟨⟨h0, trivial⟩, rfl, by decide⟩
 · rename_i c row
   cases h
   obtain ⟨h0, h1⟩ : Qf4 (row 0) ∧ Qf4 (row 1) := hp _ rfl
   refine ⟨some (Qb5 Qf4 (Qak 2 row) ∧ 2 = 2 ∧ 2 < 1099511627776), ?_, fun q hq => ?_⟩
   rotate_left
   · cases hq
     exact ⟨⟨h0, h1, trivial⟩, rfl, by decide⟩
   · show _ = some (_, Qcy (Qas (Qgc [nR (rN (row 0)), nR (rN (row 1))])) (Qc9 (Qgc [nR (rN (row 0)), nR (rN (row 1))]) (Qfb [nR (rN (row 0)), nR (rN (row 1))])))
     rw [Qgy h0, Qgy h1]
     rfl
theorem Qte : Qcg Tryz.prog 14 Zcx := Qum Qtf fun args bs p x h hp => by
 unfold Zcx at h
 split at h <;> try (cases h; done)
 rename_i c row
 cases h
 obtain ⟨h0, h1⟩ : Qj8 (row 0) ∧ Qj8 (row 1) := hp _ rfl
 refine ⟨some (Qb5 Qj8 (Qak 2 row) ∧ 2 = 2 ∧ 2 < 1099511627776), rfl, fun q hq => ?_⟩
 cases hq
 exact ⟨⟨h0, h1, trivial⟩, rfl, by decide⟩
theorem Qhm : ∀ f g, ΓT f = some g → g.ok Tryz.prog f := Qab (Qab (Qab Qzv (Qal Tryz.func150 (by kernel_rfl) (by kernel_rfl) Qpx)) (Qdc Tryz.func74 (by kernel_rfl) (by kernel_rfl) Q30)) (Qdc Tryz.func14 (by kernel_rfl) (by kernel_rfl) Qte)
theorem Qev {b : Bool} {α : Type _} {x y : α} (h : (bif b then some x else none) = some y) : b = true ∧ x = y := by
 cases b with
 | true => cases h; exact ⟨rfl, rfl⟩
 | false => cases h
theorem Qe0 {l : List SV} {b : BD} {x : SV} (h : Qi6 l = some (b, x)) : SV.agg l = bdS b x := by
 unfold Qi6 at h
 split at h
 · cases h; rfl
 · cases h
theorem Qgs (B : Blk) (n k : Nat) (g : Nat → Int × Int) : Qbv (Qap (rdB B n g) 2 0 k) = g := funext fun i => by
 show gi [SV.v (.int .i64 (g (0 + i)).1), SV.v (.int .i64 (g (0 + i)).2)] = g i
 rw [Nat.zero_add]; rfl
theorem Qj1 {B : Blk} {n : Nat} {g : Nat → Int × Int} (hn : n < 1099511627776) (hg : ∀ i, i < n → I64 (g i).1 ∧ I64 (g i).2) : Qcs n (Qap (rdB B n g) 2 0 n) := Qp4 hn hg fun _ => rfl
theorem wN {n : Int} (h : 0 ≤ n ∧ n ≤ 1000000) : IntKind.i64.wrap (0 - n) = -n := by rw [Qaf ⟨by omega, by omega⟩]; omega
theorem Q4n : Qcg Tryz.prog 149 Zcn := Qb4 hm Qhm Tryz.func149 (Λ := fun _ _ => Qax) fun args bs p x h hp => by
 unfold Zcn at h
 split at h <;> try (cases h; done)
 rename_i v f row
 split at h <;> try (cases h; done)
 rename_i n hr
 cases h
 obtain ⟨h1, h2⟩ := hp _ rfl
 refine ⟨rfl, [⟨1, 1, fun _ => [.v (.int .i64 n)]⟩], ⟨⟨rfl, rfl, fun i hi => ?_⟩, trivial⟩, ?_⟩
 · have : i = 0 := Nat.lt_one_iff.1 hi
   subst this
   exact hr
 · refine Eq.mpr (Zgk ⟨v, f⟩ n _) ?_
   rw [wN h2]
   exact ⟨⟨by omega, by omega⟩, ⟨by omega, by omega⟩, ⟨h1, (Qbk _).i64, (Qbk _).i64⟩, rfl⟩
theorem Qzr : ∀ f g, Zka f = some g → g.ok Tryz.prog f := Qab Qhm (Qdc Tryz.func149 (by kernel_rfl) (by kernel_rfl) Q4n)
theorem Q4m : Qai Tryz.prog 73 Zcm := Qao hm Qzr Tryz.func73 (Λ := fun _ => Ze8) fun args p x h hp => by
 unfold Zcm at h
 split at h <;> try (cases h; done)
 rename_i a f b g n
 cases h
 obtain ⟨⟨h1, h2⟩, h3⟩ := hp _ rfl
 exact ⟨rfl, rfl, Eq.mpr (Zgj ⟨⟨a, f⟩, ⟨b, g⟩⟩ n _) ⟨⟨h1, h3⟩, ⟨h2, h3⟩, rfl⟩⟩
theorem Qpw : Qdl Tryz.prog 10 Qv7 := Qc0 hm Qhm Tryz.func10 (Λ := fun _ _ => Qax) fun args bs e hs hp => by
 unfold Qv7 at hs
 split at hs <;> try (cases hs; done)
 rename_i l D
 split at hs <;> try (cases hs; done)
 rename_i b n cap hl
 obtain ⟨hD, he⟩ := Qev hs
 subst he
 have hpre : Qcs n D := hp
 obtain ⟨hn, hg⟩ := Qg9 hpre
 refine ⟨[rdB D n (Qbv D)], ⟨Qe6 hD hpre, trivial⟩, ?_⟩
 rw [Qe0 hl]
 refine Eq.mpr (Zbx b D n cap (Qbv D)) ⟨Qj1 hn hg, fun c => ⟨c, ?_, rfl, Nat.le_refl _, fun i hi => by rw [Qgs]⟩⟩
 repeat (first | exact rfl | refine ⟨rfl, ?_⟩)
theorem Zaq : ∀ f g, ΓTb f = some g → g.ok Tryz.prog f := Qab Qhm (Qfa Tryz.func10 (by kernel_rfl) (by kernel_rfl) Qpw)
theorem Zee : Qdl Tryz.prog 70 sOn := Qc0 hm Zaq Tryz.func70 (Λ := fun _ _ => Qax) fun args bs e hs hp => by
 unfold sOn at hs
 split at hs <;> try (cases hs; done)
 rename_i l D
 split at hs <;> try (cases hs; done)
 rename_i b n cap hl
 obtain ⟨hD, he⟩ := Qev hs
 subst he
 have hpre : Qcs n D := hp
 obtain ⟨hn, hg⟩ := Qg9 hpre
 refine ⟨[rdB D n (Qbv D)], ⟨Qe6 hD hpre, trivial⟩, ?_⟩
 rw [Qe0 hl]
 refine Eq.mpr (vcOn b D n cap (Qbv D)) ⟨Qj1 hn hg, fun c => ⟨c, rfl, ⟨rfl, Nat.le_refl _, ?_⟩, rfl, Nat.le_refl _, fun i hi => by rw [Qgs]⟩⟩
 repeat (first | exact rfl | refine ⟨rfl, ?_⟩)
theorem Qxi : Qcg Tryz.prog 82 Zjp := Qb4 hm Qa0 Tryz.func82 (Λ := fun _ _ => Qax) fun args bs p x h hp => by
 unfold Zjp at h
 split at h <;> try (cases h; done)
 rename_i l n' row
 split at h <;> try (cases h; done)
 rename_i b n cap hl
 cases h
 refine ⟨rfl, [⟨2, n', row⟩], Qje _, ?_⟩
 rw [Qe0 hl]
 refine Eq.mpr (Zkz b n n' cap row _) (Qad (fun e => ?_) fun e => ?_)
 · show bV true = bV (Q2m b)
   unfold Q2m; rw [e]; rfl
 · show bV _ = bV (Q2m b)
   unfold Q2m; rw [e]; rfl
theorem Zap : ∀ f g, ΓTc f = some g → g.ok Tryz.prog f := Qab Qa0 (Qdc Tryz.func82 (by kernel_rfl) (by kernel_rfl) Qxi)
theorem Q8b : Qcg Tryz.prog 52 Zlv := Qb4 hm Zap Tryz.func52 (Λ := fun _ _ => Qax) fun args bs p x h hp => by
 unfold Zlv at h
 split at h <;> try (cases h; done)
 rename_i l n' row
 split at h <;> try (cases h; done)
 rename_i b n cap hl
 cases h
 refine ⟨rfl, [⟨2, n', row⟩], Qje _, ?_⟩
 rw [Qe0 hl]
 refine Eq.mpr (Zk5 b n n' cap row _) (Qad (fun e => ?_) fun e => Qad (fun e2 => ?_) fun e2 => ?_)
 · show bV true = bV (Qx9 b)
   unfold Qx9; rw [e]; rfl
 · show bV true = bV (Qx9 b)
   unfold Qx9; rw [e, e2]; rfl
 · show bV _ = bV (Qx9 b)
   unfold Qx9; rw [e, e2]; rfl
def okW (n : Int) (a : NB) : Bool := !((Q6e a).f || decide (max (Q6e a).v (IntKind.i64.wrap (0 - (Q6e a).v)) > IntKind.i64.wrap (n * 4294967296)))
def Zjm : List SV → List Ro → Option (Option Prop × SV)
 | [.v (.int .i64 n), .sl 0 2 0 1 _], [⟨2, 1, row⟩] => some (some (Qf4 (row 0)), bV (okW n (rN (row 0))))
 | [.v (.int .i64 n), .sl 0 2 0 2 _], [⟨2, 2, row⟩] => some (some (Qf4 (row 0) ∧ Qf4 (row 1)), bV (okW n (rN (row 0)) && okW n (rN (row 1))))
 | _, _ => none
noncomputable def Zab (n : Int) (m : Nat) (g : Nat → NB) : Nat → Option LoopSpec := Qcp Qax Tryz.f71 0 Nat (fun k => k ≤ m ∧ ∀ j, j < k → okW n (g j) = true) (fun k => m - k) [(9, fun k => .v (.int .i64 k))] []
theorem Zkk (n : Int) (m m' c : Nat) (g : Nat→NB) (R : SV→Prop) : (Qcu Tryz.prog ΓT (Zab n m g) Tryz.f71 [.v (.int .i64 n),.sl 0 2 0 m c] (Qbm [⟨2,m',fun i => nR (g i)⟩]) 64 (fun y _ => R y)) =
((∃ x : Nat,((((x : Nat) ≤ m)∧(∀ j : Nat,(((j : Nat) < x)→(okW n (g j) = true))))∧(((yI 0) = (yI ((↑x : Int))))∧True)))∧(∀ x : Nat,((((x : Nat) ≤ m)∧(∀ j : Nat,(((j : Nat) < x)→(okW n (g j) = true))))→(sel (decide ((↑x : Int) < (↑m : Int))) ((((0 : Int) ≤ ((↑x : Int)))∧((((↑x : Int)) : Int) < ((↑m : Int))))∧((Qf4 [yI (NB.v (g (0 + Int.toNat (↑x : Int)))),yF (NB.f (g (0 + Int.toNat (↑x : Int))))])∧(sel (NB.f (Q6e (rN [yI (NB.v (g (0 + Int.toNat (↑x : Int)))),yF (NB.f (g (0 + Int.toNat (↑x : Int))))]))) (R (yF false)) (sel (decide (max (NB.v (Q6e (rN [yI (NB.v (g (0 + Int.toNat (↑x : Int)))),yF (NB.f (g (0 + Int.toNat (↑x : Int))))]))) (IntKind.wrap IntKind.i64 (0 - NB.v (Q6e (rN [yI (NB.v (g (0 + Int.toNat (↑x : Int)))),yF (NB.f (g (0 + Int.toNat (↑x : Int))))])))) > IntKind.wrap IntKind.i64 (n * 4294967296))) (R (yF false)) (∃ x' : Nat,(((((x' : Nat) ≤ m)∧(∀ j : Nat,(((j : Nat) < x')→(okW n (g j) = true))))∧(((yI (IntKind.wrap IntKind.i64 ((↑x : Int) + 1))) = (yI ((↑x' : Int))))∧True))∧(((m - x') : Nat) < (m - x)))))))) (R (yF true)))))) := by kernel_rfl
def Qby (b : BD) (g : VB) (dt : NB) : BD := ⟨b.s, b.pa, b.pr, Ze1 (Qbg b.v (Qbo g dt)) 256, b.w, b.m, b.st, b.asl, b.flt, b.ver⟩
def Qv1 (r : VB) (w : NB) : VB := bif w.v != 0 then Qqf r w else r
def goB (b : BD) (dt : NB) : BD := ⟨b.s, Qbg b.pa (Qbo b.v dt), Qv1 b.pr (Qdg b.w dt), b.v, b.w, b.m, b.st, b.asl, b.flt, b.ver⟩
noncomputable def Zj9 : Qb8 := Qah (Qah (Qah (Qah Zka 70 (Qen false sOn)) 52 (Qc7 Zlv)) 73 (Qaj Zcm)) 71 (Qc7 Zjm)
def Zj0 (q : Prop) (b : BD) (n : Nat) (g : Nat → Int × Int) : Eff := .nd q Nat 0 (fun c => bdS b (.sl 1000 2 0 n (n + c))) fun c => [(1000, spB n (n + c) g)]
theorem Zks (b : BD) (v : VB) (dt : NB) (q : Prop) (B : Blk) (n c : Nat) (g : Nat→Int × Int) : (Qcu Tryz.prog Zj9 Qax Tryz.f13 [bdS b (.sl 0 2 0 n c),vS v,nS dt] (Qaw [rdB B n g]) 64 (fun y h' => Qhf [rdB B n g] (Zj0 q (Qby b v dt) n g) y h')) = ((Qcs n (Qap (rdB B n g) 2 0 n))∧(∀ c_1 : Nat,(sel (!Qx9 b) ((((I64 (NB.v (VB.x v)))∧(I64 (NB.v (VB.y v))))∧(I64 (NB.v dt)))∧(((Qj8 [yI (NB.v (VB.x (BD.v b))),yF (NB.f (VB.x (BD.v b))),yI (NB.v (VB.y (BD.v b))),yF (NB.f (VB.y (BD.v b)))])∧(Qj8 [yI (NB.v (VB.x (Qbo v dt))),yF (NB.f (VB.x (Qbo v dt))),yI (NB.v (VB.y (Qbo v dt))),yF (NB.f (VB.y (Qbo v dt)))]))∧((((I64 (NB.v (VB.x (Qbg (rV [yI (NB.v (VB.x (BD.v b))),yF (NB.f (VB.x (BD.v b))),yI (NB.v (VB.y (BD.v b))),yF (NB.f (VB.y (BD.v b)))]) (rV [yI (NB.v (VB.x (Qbo v dt))),yF (NB.f (VB.x (Qbo v dt))),yI (NB.v (VB.y (Qbo v dt))),yF (NB.f (VB.y (Qbo v dt)))])))))∧(I64 (NB.v (VB.y (Qbg (rV [yI (NB.v (VB.x (BD.v b))),yF (NB.f (VB.x (BD.v b))),yI (NB.v (VB.y (BD.v b))),yF (NB.f (VB.y (BD.v b)))]) (rV [yI (NB.v (VB.x (Qbo v dt))),yF (NB.f (VB.x (Qbo v dt))),yI (NB.v (VB.y (Qbo v dt))),yF (NB.f (VB.y (Qbo v dt)))]))))))∧(((0 : Int) ≤ 256)∧((256 : Int) ≤ 1000000)))∧(∃ c_2 : Nat,((((yI (ShB.k (BD.s b))) = (yI (ShB.k (BD.s (Qby b v dt)))))∧(((yI (ShB.r (BD.s b))) = (yI (ShB.r (BD.s (Qby b v dt)))))∧(((yI (ShB.w (BD.s b))) = (yI (ShB.w (BD.s (Qby b v dt)))))∧(((yI (ShB.h (BD.s b))) = (yI (ShB.h (BD.s (Qby b v dt)))))∧(((SV.sl 105 2 0 n (n + c_1)) = (SV.sl 105 2 0 n (n + c_2)))∧(((yI (NB.v (VB.x (BD.pa b)))) = (yI (NB.v (VB.x (BD.pa (Qby b v dt))))))∧(((yF (NB.f (VB.x (BD.pa b)))) = (yF (NB.f (VB.x (BD.pa (Qby b v dt))))))∧(((yI (NB.v (VB.y (BD.pa b)))) = (yI (NB.v (VB.y (BD.pa (Qby b v dt))))))∧(((yF (NB.f (VB.y (BD.pa b)))) = (yF (NB.f (VB.y (BD.pa (Qby b v dt))))))∧(((yI (NB.v (VB.x (BD.pr b)))) = (yI (NB.v (VB.x (BD.pr (Qby b v dt))))))∧(((yF (NB.f (VB.x (BD.pr b)))) = (yF (NB.f (VB.x (BD.pr (Qby b v dt))))))∧(((yI (NB.v (VB.y (BD.pr b)))) = (yI (NB.v (VB.y (BD.pr (Qby b v dt))))))∧(((yF (NB.f (VB.y (BD.pr b)))) = (yF (NB.f (VB.y (BD.pr (Qby b v dt))))))∧(((yI (NB.v (VB.x (Ze1 (Qbg (rV [yI (NB.v (VB.x (BD.v b))),yF (NB.f (VB.x (BD.v b))),yI (NB.v (VB.y (BD.v b))),yF (NB.f (VB.y (BD.v b)))]) (rV [yI (NB.v (VB.x (Qbo v dt))),yF (NB.f (VB.x (Qbo v dt))),yI (NB.v (VB.y (Qbo v dt))),yF (NB.f (VB.y (Qbo v dt)))])) 256)))) = (yI (NB.v (VB.x (BD.v (Qby b v dt))))))∧(((yF false) = (yF false))∧(((yI (NB.v (VB.y (Ze1 (Qbg (rV [yI (NB.v (VB.x (BD.v b))),yF (NB.f (VB.x (BD.v b))),yI (NB.v (VB.y (BD.v b))),yF (NB.f (VB.y (BD.v b)))]) (rV [yI (NB.v (VB.x (Qbo v dt))),yF (NB.f (VB.x (Qbo v dt))),yI (NB.v (VB.y (Qbo v dt))),yF (NB.f (VB.y (Qbo v dt)))])) 256)))) = (yI (NB.v (VB.y (BD.v (Qby b v dt))))))∧(((yF false) = (yF false))∧(((yI (NB.v (BD.w b))) = (yI (NB.v (BD.w (Qby b v dt)))))∧(((yF (NB.f (BD.w b))) = (yF (NB.f (BD.w (Qby b v dt)))))∧(((yI (NB.v (VB.x (BD.m b)))) = (yI (NB.v (VB.x (BD.m (Qby b v dt))))))∧(((yF (NB.f (VB.x (BD.m b)))) = (yF (NB.f (VB.x (BD.m (Qby b v dt))))))∧(((yI (NB.v (VB.y (BD.m b)))) = (yI (NB.v (VB.y (BD.m (Qby b v dt))))))∧(((yF (NB.f (VB.y (BD.m b)))) = (yF (NB.f (VB.y (BD.m (Qby b v dt))))))∧(((yI (BD.st b)) = (yI (BD.st (Qby b v dt))))∧(((yF (BD.asl b)) = (yF (BD.asl (Qby b v dt))))∧(((yF (BD.flt b)) = (yF (BD.flt (Qby b v dt))))∧((yI (BD.ver b)) = (yI (BD.ver (Qby b v dt))))))))))))))))))))))))))))))∧(((n : Nat) = n)∧((((n + c_2) : Nat) ≤ (n + c_1))∧(∀ i : Nat,(((i : Nat) < n)→([(yI (Prod.fst (Qbv (Qap (rdB B n g) 2 0 n) i))),(yI (Prod.snd (Qbv (Qap (rdB B n g) 2 0 n) i)))] = [(yI (Prod.fst (g i))),(yI (Prod.snd (g i)))])))))))))) (∃ c_2 : Nat,((((yI (ShB.k (BD.s b))) = (yI (ShB.k (BD.s (Qby b v dt)))))∧(((yI (ShB.r (BD.s b))) = (yI (ShB.r (BD.s (Qby b v dt)))))∧(((yI (ShB.w (BD.s b))) = (yI (ShB.w (BD.s (Qby b v dt)))))∧(((yI (ShB.h (BD.s b))) = (yI (ShB.h (BD.s (Qby b v dt)))))∧(((SV.sl 105 2 0 n (n + c_1)) = (SV.sl 105 2 0 n (n + c_2)))∧(((yI (NB.v (VB.x (BD.pa b)))) = (yI (NB.v (VB.x (BD.pa (Qby b v dt))))))∧(((yF (NB.f (VB.x (BD.pa b)))) = (yF (NB.f (VB.x (BD.pa (Qby b v dt))))))∧(((yI (NB.v (VB.y (BD.pa b)))) = (yI (NB.v (VB.y (BD.pa (Qby b v dt))))))∧(((yF (NB.f (VB.y (BD.pa b)))) = (yF (NB.f (VB.y (BD.pa (Qby b v dt))))))∧(((yI (NB.v (VB.x (BD.pr b)))) = (yI (NB.v (VB.x (BD.pr (Qby b v dt))))))∧(((yF (NB.f (VB.x (BD.pr b)))) = (yF (NB.f (VB.x (BD.pr (Qby b v dt))))))∧(((yI (NB.v (VB.y (BD.pr b)))) = (yI (NB.v (VB.y (BD.pr (Qby b v dt))))))∧(((yF (NB.f (VB.y (BD.pr b)))) = (yF (NB.f (VB.y (BD.pr (Qby b v dt))))))∧(((yI (NB.v (VB.x (BD.v b)))) = (yI (NB.v (VB.x (BD.v (Qby b v dt))))))∧(((yF (NB.f (VB.x (BD.v b)))) = (yF false))∧(((yI (NB.v (VB.y (BD.v b)))) = (yI (NB.v (VB.y (BD.v (Qby b v dt))))))∧(((yF (NB.f (VB.y (BD.v b)))) = (yF false))∧(((yI (NB.v (BD.w b))) = (yI (NB.v (BD.w (Qby b v dt)))))∧(((yF (NB.f (BD.w b))) = (yF (NB.f (BD.w (Qby b v dt)))))∧(((yI (NB.v (VB.x (BD.m b)))) = (yI (NB.v (VB.x (BD.m (Qby b v dt))))))∧(((yF (NB.f (VB.x (BD.m b)))) = (yF (NB.f (VB.x (BD.m (Qby b v dt))))))∧(((yI (NB.v (VB.y (BD.m b)))) = (yI (NB.v (VB.y (BD.m (Qby b v dt))))))∧(((yF (NB.f (VB.y (BD.m b)))) = (yF (NB.f (VB.y (BD.m (Qby b v dt))))))∧(((yI (BD.st b)) = (yI (BD.st (Qby b v dt))))∧(((yF (BD.asl b)) = (yF (BD.asl (Qby b v dt))))∧(((yF (BD.flt b)) = (yF (BD.flt (Qby b v dt))))∧((yI (BD.ver b)) = (yI (BD.ver (Qby b v dt))))))))))))))))))))))))))))))∧(((n : Nat) = n)∧((((n + c_2) : Nat) ≤ (n + c_1))∧(∀ i : Nat,(((i : Nat) < n)→([(yI (Prod.fst (Qbv (Qap (rdB B n g) 2 0 n) i))),(yI (Prod.snd (Qbv (Qap (rdB B n g) 2 0 n) i)))] = [(yI (Prod.fst (g i))),(yI (Prod.snd (g i)))])))))))))):=by kernel_rfl
theorem vcGo (b : BD) (dt : NB) (q : Prop) (B : Blk) (n c : Nat) (g : Nat→Int × Int) : (Qcu Tryz.prog Zj9 Qax Tryz.f12 [bdS b (.sl 0 2 0 n c),nS dt] (Qaw [rdB B n g]) 64 (fun y h' => Qhf [rdB B n g] (Zj0 q (goB b dt) n g) y h')) = ((Qcs n (Qap (rdB B n g) 2 0 n))∧(∀ c_1 : Nat,(sel (Qx9 b) (∃ c_2 : Nat,((((yI (ShB.k (BD.s b))) = (yI (ShB.k (BD.s (goB b dt)))))∧(((yI (ShB.r (BD.s b))) = (yI (ShB.r (BD.s (goB b dt)))))∧(((yI (ShB.w (BD.s b))) = (yI (ShB.w (BD.s (goB b dt)))))∧(((yI (ShB.h (BD.s b))) = (yI (ShB.h (BD.s (goB b dt)))))∧(((SV.sl 97 2 0 n (n + c_1)) = (SV.sl 97 2 0 n (n + c_2)))∧(((yI (NB.v (VB.x (BD.pa b)))) = (yI (NB.v (VB.x (BD.pa (goB b dt))))))∧(((yF (NB.f (VB.x (BD.pa b)))) = (yF (NB.f (VB.x (BD.pa (goB b dt))))))∧(((yI (NB.v (VB.y (BD.pa b)))) = (yI (NB.v (VB.y (BD.pa (goB b dt))))))∧(((yF (NB.f (VB.y (BD.pa b)))) = (yF (NB.f (VB.y (BD.pa (goB b dt))))))∧(((yI (NB.v (VB.x (BD.pr b)))) = (yI (NB.v (VB.x (BD.pr (goB b dt))))))∧(((yF (NB.f (VB.x (BD.pr b)))) = (yF (NB.f (VB.x (BD.pr (goB b dt))))))∧(((yI (NB.v (VB.y (BD.pr b)))) = (yI (NB.v (VB.y (BD.pr (goB b dt))))))∧(((yF (NB.f (VB.y (BD.pr b)))) = (yF (NB.f (VB.y (BD.pr (goB b dt))))))∧(((yI (NB.v (VB.x (BD.v b)))) = (yI (NB.v (VB.x (BD.v (goB b dt))))))∧(((yF (NB.f (VB.x (BD.v b)))) = (yF (NB.f (VB.x (BD.v (goB b dt))))))∧(((yI (NB.v (VB.y (BD.v b)))) = (yI (NB.v (VB.y (BD.v (goB b dt))))))∧(((yF (NB.f (VB.y (BD.v b)))) = (yF (NB.f (VB.y (BD.v (goB b dt))))))∧(((yI (NB.v (BD.w b))) = (yI (NB.v (BD.w (goB b dt)))))∧(((yF (NB.f (BD.w b))) = (yF (NB.f (BD.w (goB b dt)))))∧(((yI (NB.v (VB.x (BD.m b)))) = (yI (NB.v (VB.x (BD.m (goB b dt))))))∧(((yF (NB.f (VB.x (BD.m b)))) = (yF (NB.f (VB.x (BD.m (goB b dt))))))∧(((yI (NB.v (VB.y (BD.m b)))) = (yI (NB.v (VB.y (BD.m (goB b dt))))))∧(((yF (NB.f (VB.y (BD.m b)))) = (yF (NB.f (VB.y (BD.m (goB b dt))))))∧(((yI (BD.st b)) = (yI (BD.st (goB b dt))))∧(((yF (BD.asl b)) = (yF (BD.asl (goB b dt))))∧(((yF (BD.flt b)) = (yF (BD.flt (goB b dt))))∧((yI (BD.ver b)) = (yI (BD.ver (goB b dt))))))))))))))))))))))))))))))∧(((n : Nat) = n)∧((((n + c_2) : Nat) ≤ (n + c_1))∧(∀ i : Nat,(((i : Nat) < n)→([(yI (Prod.fst (Qbv (Qap (rdB B n g) 2 0 n) i))),(yI (Prod.snd (Qbv (Qap (rdB B n g) 2 0 n) i)))] = [(yI (Prod.fst (g i))),(yI (Prod.snd (g i)))]))))))) ((((I64 (NB.v (VB.x (BD.v b))))∧(I64 (NB.v (VB.y (BD.v b)))))∧(I64 (NB.v dt)))∧(((Qj8 [yI (NB.v (VB.x (BD.pa b))),yF (NB.f (VB.x (BD.pa b))),yI (NB.v (VB.y (BD.pa b))),yF (NB.f (VB.y (BD.pa b)))])∧(Qj8 [yI (NB.v (VB.x (Qbo (BD.v b) dt))),yF (NB.f (VB.x (Qbo (BD.v b) dt))),yI (NB.v (VB.y (Qbo (BD.v b) dt))),yF (NB.f (VB.y (Qbo (BD.v b) dt)))]))∧(((Qf4 [yI (NB.v (VB.x (Qbg (rV [yI (NB.v (VB.x (BD.pa b))),yF (NB.f (VB.x (BD.pa b))),yI (NB.v (VB.y (BD.pa b))),yF (NB.f (VB.y (BD.pa b)))]) (rV [yI (NB.v (VB.x (Qbo (BD.v b) dt))),yF (NB.f (VB.x (Qbo (BD.v b) dt))),yI (NB.v (VB.y (Qbo (BD.v b) dt))),yF (NB.f (VB.y (Qbo (BD.v b) dt)))])))),yF (NB.f (VB.x (Qbg (rV [yI (NB.v (VB.x (BD.pa b))),yF (NB.f (VB.x (BD.pa b))),yI (NB.v (VB.y (BD.pa b))),yF (NB.f (VB.y (BD.pa b)))]) (rV [yI (NB.v (VB.x (Qbo (BD.v b) dt))),yF (NB.f (VB.x (Qbo (BD.v b) dt))),yI (NB.v (VB.y (Qbo (BD.v b) dt))),yF (NB.f (VB.y (Qbo (BD.v b) dt)))]))))])∧(Qf4 [yI (NB.v (VB.y (Qbg (rV [yI (NB.v (VB.x (BD.pa b))),yF (NB.f (VB.x (BD.pa b))),yI (NB.v (VB.y (BD.pa b))),yF (NB.f (VB.y (BD.pa b)))]) (rV [yI (NB.v (VB.x (Qbo (BD.v b) dt))),yF (NB.f (VB.x (Qbo (BD.v b) dt))),yI (NB.v (VB.y (Qbo (BD.v b) dt))),yF (NB.f (VB.y (Qbo (BD.v b) dt)))])))),yF (NB.f (VB.y (Qbg (rV [yI (NB.v (VB.x (BD.pa b))),yF (NB.f (VB.x (BD.pa b))),yI (NB.v (VB.y (BD.pa b))),yF (NB.f (VB.y (BD.pa b)))]) (rV [yI (NB.v (VB.x (Qbo (BD.v b) dt))),yF (NB.f (VB.x (Qbo (BD.v b) dt))),yI (NB.v (VB.y (Qbo (BD.v b) dt))),yF (NB.f (VB.y (Qbo (BD.v b) dt)))]))))]))∧(sel (!(okW 4096 (rN [yI (NB.v (VB.x (Qbg (rV [yI (NB.v (VB.x (BD.pa b))),yF (NB.f (VB.x (BD.pa b))),yI (NB.v (VB.y (BD.pa b))),yF (NB.f (VB.y (BD.pa b)))]) (rV [yI (NB.v (VB.x (Qbo (BD.v b) dt))),yF (NB.f (VB.x (Qbo (BD.v b) dt))),yI (NB.v (VB.y (Qbo (BD.v b) dt))),yF (NB.f (VB.y (Qbo (BD.v b) dt)))])))),yF (NB.f (VB.x (Qbg (rV [yI (NB.v (VB.x (BD.pa b))),yF (NB.f (VB.x (BD.pa b))),yI (NB.v (VB.y (BD.pa b))),yF (NB.f (VB.y (BD.pa b)))]) (rV [yI (NB.v (VB.x (Qbo (BD.v b) dt))),yF (NB.f (VB.x (Qbo (BD.v b) dt))),yI (NB.v (VB.y (Qbo (BD.v b) dt))),yF (NB.f (VB.y (Qbo (BD.v b) dt)))]))))])&&okW 4096 (rN [yI (NB.v (VB.y (Qbg (rV [yI (NB.v (VB.x (BD.pa b))),yF (NB.f (VB.x (BD.pa b))),yI (NB.v (VB.y (BD.pa b))),yF (NB.f (VB.y (BD.pa b)))]) (rV [yI (NB.v (VB.x (Qbo (BD.v b) dt))),yF (NB.f (VB.x (Qbo (BD.v b) dt))),yI (NB.v (VB.y (Qbo (BD.v b) dt))),yF (NB.f (VB.y (Qbo (BD.v b) dt)))])))),yF (NB.f (VB.y (Qbg (rV [yI (NB.v (VB.x (BD.pa b))),yF (NB.f (VB.x (BD.pa b))),yI (NB.v (VB.y (BD.pa b))),yF (NB.f (VB.y (BD.pa b)))]) (rV [yI (NB.v (VB.x (Qbo (BD.v b) dt))),yF (NB.f (VB.x (Qbo (BD.v b) dt))),yI (NB.v (VB.y (Qbo (BD.v b) dt))),yF (NB.f (VB.y (Qbo (BD.v b) dt)))]))))]))) False (((I64 (NB.v (BD.w b)))∧(I64 (NB.v dt)))∧(sel (NB.v (Qdg (BD.w b) dt) != 0) ((((I64 (NB.v (VB.x (BD.pr b))))∧(I64 (NB.v (VB.y (BD.pr b)))))∧(I64 (NB.v (Qdg (BD.w b) dt))))∧(∃ c_2 : Nat,((((yI (ShB.k (BD.s b))) = (yI (ShB.k (BD.s (goB b dt)))))∧(((yI (ShB.r (BD.s b))) = (yI (ShB.r (BD.s (goB b dt)))))∧(((yI (ShB.w (BD.s b))) = (yI (ShB.w (BD.s (goB b dt)))))∧(((yI (ShB.h (BD.s b))) = (yI (ShB.h (BD.s (goB b dt)))))∧(((SV.sl 97 2 0 n (n + c_1)) = (SV.sl 97 2 0 n (n + c_2)))∧(((yI (NB.v (VB.x (Qbg (rV [yI (NB.v (VB.x (BD.pa b))),yF (NB.f (VB.x (BD.pa b))),yI (NB.v (VB.y (BD.pa b))),yF (NB.f (VB.y (BD.pa b)))]) (rV [yI (NB.v (VB.x (Qbo (BD.v b) dt))),yF (NB.f (VB.x (Qbo (BD.v b) dt))),yI (NB.v (VB.y (Qbo (BD.v b) dt))),yF (NB.f (VB.y (Qbo (BD.v b) dt)))]))))) = (yI (NB.v (VB.x (BD.pa (goB b dt))))))∧(((yF (NB.f (VB.x (Qbg (rV [yI (NB.v (VB.x (BD.pa b))),yF (NB.f (VB.x (BD.pa b))),yI (NB.v (VB.y (BD.pa b))),yF (NB.f (VB.y (BD.pa b)))]) (rV [yI (NB.v (VB.x (Qbo (BD.v b) dt))),yF (NB.f (VB.x (Qbo (BD.v b) dt))),yI (NB.v (VB.y (Qbo (BD.v b) dt))),yF (NB.f (VB.y (Qbo (BD.v b) dt)))]))))) = (yF (NB.f (VB.x (BD.pa (goB b dt))))))∧(((yI (NB.v (VB.y (Qbg (rV [yI (NB.v (VB.x (BD.pa b))),yF (NB.f (VB.x (BD.pa b))),yI (NB.v (VB.y (BD.pa b))),yF (NB.f (VB.y (BD.pa b)))]) (rV [yI (NB.v (VB.x (Qbo (BD.v b) dt))),yF (NB.f (VB.x (Qbo (BD.v b) dt))),yI (NB.v (VB.y (Qbo (BD.v b) dt))),yF (NB.f (VB.y (Qbo (BD.v b) dt)))]))))) = (yI (NB.v (VB.y (BD.pa (goB b dt))))))∧(((yF (NB.f (VB.y (Qbg (rV [yI (NB.v (VB.x (BD.pa b))),yF (NB.f (VB.x (BD.pa b))),yI (NB.v (VB.y (BD.pa b))),yF (NB.f (VB.y (BD.pa b)))]) (rV [yI (NB.v (VB.x (Qbo (BD.v b) dt))),yF (NB.f (VB.x (Qbo (BD.v b) dt))),yI (NB.v (VB.y (Qbo (BD.v b) dt))),yF (NB.f (VB.y (Qbo (BD.v b) dt)))]))))) = (yF (NB.f (VB.y (BD.pa (goB b dt))))))∧(((yI (NB.v (VB.x (Qqf (BD.pr b) (Qdg (BD.w b) dt))))) = (yI (NB.v (VB.x (BD.pr (goB b dt))))))∧(((yF (NB.f (VB.x (Qqf (BD.pr b) (Qdg (BD.w b) dt))))) = (yF (NB.f (VB.x (BD.pr (goB b dt))))))∧(((yI (NB.v (VB.y (Qqf (BD.pr b) (Qdg (BD.w b) dt))))) = (yI (NB.v (VB.y (BD.pr (goB b dt))))))∧(((yF (NB.f (VB.y (Qqf (BD.pr b) (Qdg (BD.w b) dt))))) = (yF (NB.f (VB.y (BD.pr (goB b dt))))))∧(((yI (NB.v (VB.x (BD.v b)))) = (yI (NB.v (VB.x (BD.v (goB b dt))))))∧(((yF (NB.f (VB.x (BD.v b)))) = (yF (NB.f (VB.x (BD.v (goB b dt))))))∧(((yI (NB.v (VB.y (BD.v b)))) = (yI (NB.v (VB.y (BD.v (goB b dt))))))∧(((yF (NB.f (VB.y (BD.v b)))) = (yF (NB.f (VB.y (BD.v (goB b dt))))))∧(((yI (NB.v (BD.w b))) = (yI (NB.v (BD.w (goB b dt)))))∧(((yF (NB.f (BD.w b))) = (yF (NB.f (BD.w (goB b dt)))))∧(((yI (NB.v (VB.x (BD.m b)))) = (yI (NB.v (VB.x (BD.m (goB b dt))))))∧(((yF (NB.f (VB.x (BD.m b)))) = (yF (NB.f (VB.x (BD.m (goB b dt))))))∧(((yI (NB.v (VB.y (BD.m b)))) = (yI (NB.v (VB.y (BD.m (goB b dt))))))∧(((yF (NB.f (VB.y (BD.m b)))) = (yF (NB.f (VB.y (BD.m (goB b dt))))))∧(((yI (BD.st b)) = (yI (BD.st (goB b dt))))∧(((yF (BD.asl b)) = (yF (BD.asl (goB b dt))))∧(((yF (BD.flt b)) = (yF (BD.flt (goB b dt))))∧((yI (BD.ver b)) = (yI (BD.ver (goB b dt))))))))))))))))))))))))))))))∧(((n : Nat) = n)∧((((n + c_2) : Nat) ≤ (n + c_1))∧(∀ i : Nat,(((i : Nat) < n)→([(yI (Prod.fst (Qbv (Qap (rdB B n g) 2 0 n) i))),(yI (Prod.snd (Qbv (Qap (rdB B n g) 2 0 n) i)))] = [(yI (Prod.fst (g i))),(yI (Prod.snd (g i)))])))))))) (∃ c_2 : Nat,((((yI (ShB.k (BD.s b))) = (yI (ShB.k (BD.s (goB b dt)))))∧(((yI (ShB.r (BD.s b))) = (yI (ShB.r (BD.s (goB b dt)))))∧(((yI (ShB.w (BD.s b))) = (yI (ShB.w (BD.s (goB b dt)))))∧(((yI (ShB.h (BD.s b))) = (yI (ShB.h (BD.s (goB b dt)))))∧(((SV.sl 97 2 0 n (n + c_1)) = (SV.sl 97 2 0 n (n + c_2)))∧(((yI (NB.v (VB.x (Qbg (rV [yI (NB.v (VB.x (BD.pa b))),yF (NB.f (VB.x (BD.pa b))),yI (NB.v (VB.y (BD.pa b))),yF (NB.f (VB.y (BD.pa b)))]) (rV [yI (NB.v (VB.x (Qbo (BD.v b) dt))),yF (NB.f (VB.x (Qbo (BD.v b) dt))),yI (NB.v (VB.y (Qbo (BD.v b) dt))),yF (NB.f (VB.y (Qbo (BD.v b) dt)))]))))) = (yI (NB.v (VB.x (BD.pa (goB b dt))))))∧(((yF (NB.f (VB.x (Qbg (rV [yI (NB.v (VB.x (BD.pa b))),yF (NB.f (VB.x (BD.pa b))),yI (NB.v (VB.y (BD.pa b))),yF (NB.f (VB.y (BD.pa b)))]) (rV [yI (NB.v (VB.x (Qbo (BD.v b) dt))),yF (NB.f (VB.x (Qbo (BD.v b) dt))),yI (NB.v (VB.y (Qbo (BD.v b) dt))),yF (NB.f (VB.y (Qbo (BD.v b) dt)))]))))) = (yF (NB.f (VB.x (BD.pa (goB b dt))))))∧(((yI (NB.v (VB.y (Qbg (rV [yI (NB.v (VB.x (BD.pa b))),yF (NB.f (VB.x (BD.pa b))),yI (NB.v (VB.y (BD.pa b))),yF (NB.f (VB.y (BD.pa b)))]) (rV [yI (NB.v (VB.x (Qbo (BD.v b) dt))),yF (NB.f (VB.x (Qbo (BD.v b) dt))),yI (NB.v (VB.y (Qbo (BD.v b) dt))),yF (NB.f (VB.y (Qbo (BD.v b) dt)))]))))) = (yI (NB.v (VB.y (BD.pa (goB b dt))))))∧(((yF (NB.f (VB.y (Qbg (rV [yI (NB.v (VB.x (BD.pa b))),yF (NB.f (VB.x (BD.pa b))),yI (NB.v (VB.y (BD.pa b))),yF (NB.f (VB.y (BD.pa b)))]) (rV [yI (NB.v (VB.x (Qbo (BD.v b) dt))),yF (NB.f (VB.x (Qbo (BD.v b) dt))),yI (NB.v (VB.y (Qbo (BD.v b) dt))),yF (NB.f (VB.y (Qbo (BD.v b) dt)))]))))) = (yF (NB.f (VB.y (BD.pa (goB b dt))))))∧(((yI (NB.v (VB.x (BD.pr b)))) = (yI (NB.v (VB.x (BD.pr (goB b dt))))))∧(((yF (NB.f (VB.x (BD.pr b)))) = (yF (NB.f (VB.x (BD.pr (goB b dt))))))∧(((yI (NB.v (VB.y (BD.pr b)))) = (yI (NB.v (VB.y (BD.pr (goB b dt))))))∧(((yF (NB.f (VB.y (BD.pr b)))) = (yF (NB.f (VB.y (BD.pr (goB b dt))))))∧(((yI (NB.v (VB.x (BD.v b)))) = (yI (NB.v (VB.x (BD.v (goB b dt))))))∧(((yF (NB.f (VB.x (BD.v b)))) = (yF (NB.f (VB.x (BD.v (goB b dt))))))∧(((yI (NB.v (VB.y (BD.v b)))) = (yI (NB.v (VB.y (BD.v (goB b dt))))))∧(((yF (NB.f (VB.y (BD.v b)))) = (yF (NB.f (VB.y (BD.v (goB b dt))))))∧(((yI (NB.v (BD.w b))) = (yI (NB.v (BD.w (goB b dt)))))∧(((yF (NB.f (BD.w b))) = (yF (NB.f (BD.w (goB b dt)))))∧(((yI (NB.v (VB.x (BD.m b)))) = (yI (NB.v (VB.x (BD.m (goB b dt))))))∧(((yF (NB.f (VB.x (BD.m b)))) = (yF (NB.f (VB.x (BD.m (goB b dt))))))∧(((yI (NB.v (VB.y (BD.m b)))) = (yI (NB.v (VB.y (BD.m (goB b dt))))))∧(((yF (NB.f (VB.y (BD.m b)))) = (yF (NB.f (VB.y (BD.m (goB b dt))))))∧(((yI (BD.st b)) = (yI (BD.st (goB b dt))))∧(((yF (BD.asl b)) = (yF (BD.asl (goB b dt))))∧(((yF (BD.flt b)) = (yF (BD.flt (goB b dt))))∧((yI (BD.ver b)) = (yI (BD.ver (goB b dt))))))))))))))))))))))))))))))∧(((n : Nat) = n)∧((((n + c_2) : Nat) ≤ (n + c_1))∧(∀ i : Nat,(((i : Nat) < n)→([(yI (Prod.fst (Qbv (Qap (rdB B n g) 2 0 n) i))),(yI (Prod.snd (Qbv (Qap (rdB B n g) 2 0 n) i)))] = [(yI (Prod.fst (g i))),(yI (Prod.snd (g i)))])))))))))))))))):=by kernel_rfl
def Zjs (b : BD) (v : VB) (dt : NB) : Prop := Qx9 b = false ∧ bdI b ∧ (I64 v.x.v ∧ I64 v.y.v) ∧ I64 dt.v
def goP (b : BD) (dt : NB) : Prop := Qx9 b = false ∧ bdI b ∧ I64 dt.v ∧ (okW 4096 (Qbg b.pa (Qbo b.v dt)).x && okW 4096 (Qbg b.pa (Qbo b.v dt)).y) = true
def Zlr (args : List SV) (bs : List Blk) : Option Eff := match args, bs with
 | [.agg l, .agg [.v (.int .i64 a), .v (.bool f), .v (.int .i64 c), .v (.bool k)], .agg [.v (.int .i64 t), .v (.bool tf)]], [D] => match Qi6 l with
   | some (b, .sl 0 2 0 n _) => bif okB D then some (Zj0 (Qcs n D ∧ Zjs b ⟨⟨a, f⟩, ⟨c, k⟩⟩ ⟨t, tf⟩) (Qby b ⟨⟨a, f⟩, ⟨c, k⟩⟩ ⟨t, tf⟩) n (Qbv D)) else none
   | _ => none
 | _, _ => none
def sGo (args : List SV) (bs : List Blk) : Option Eff := match args, bs with
 | [.agg l, .agg [.v (.int .i64 t), .v (.bool tf)]], [D] => match Qi6 l with
   | some (b, .sl 0 2 0 n _) => bif okB D then some (Zj0 (Qcs n D ∧ goP b ⟨t, tf⟩) (goB b ⟨t, tf⟩) n (Qbv D)) else none
   | _ => none
 | _, _ => none
theorem Q8v {n : Int} {m c : Nat} {g : Nat → NB} (hm' : m < 1000) (hg : ∀ i, i < m → I64 (g i).v) : Qcu Tryz.prog ΓT (Zab n m g) Tryz.f71 [.v (.int .i64 n), .sl 0 2 0 m c] (Qbm [⟨2, m, fun i => nR (g i)⟩]) 64 (fun y _ => y = bV ((List.range m).all fun i => okW n (g i))) := by
 refine Eq.mpr (Zkk n m m c g _) ?_
 simp only [Int.toNat_natCast, Nat.zero_add]
 refine ⟨⟨0, ⟨Nat.zero_le _, fun j hj => absurd hj (Nat.not_lt_zero _)⟩, rfl, trivial⟩, fun x ⟨hx, hok⟩ => Qad (fun hlt => ?_) fun hge => ?_⟩
 · have hlt : x < m := by have := of_decide_eq_true hlt; omega
   have e : rN [SV.v (Value.int IntKind.i64 (g x).v), SV.v (Value.bool (g x).f)] = g x := rfl
   refine ⟨⟨by omega, by omega⟩, Quw (hg x hlt), ?_⟩
   rw [e]
   have bad : okW n (g x) = false → bV false = bV ((List.range m).all fun i => okW n (g i)) := fun h => by rw [Qk3 hlt h]
   refine Qad (fun h1 => bad (by unfold okW; rw [h1]; rfl)) fun h1 => Qad (fun h2 => bad (by unfold okW; rw [h2, Bool.or_true]; rfl)) fun h2 => ?_
   have ok : okW n (g x) = true := by unfold okW; rw [h1, h2]; rfl
   refine ⟨x + 1, ⟨⟨by omega, fun j hj => ?_⟩, Qbh (by rw [Qaf ⟨by omega, by omega⟩]; rfl), trivial⟩, by omega⟩
   by_cases hjx : j = x
   · rw [hjx]; exact ok
   · exact hok j (by omega)
 · have hge : x = m := by have := of_decide_eq_false hge; omega
   subst hge
   show bV true = _
   rw [Qhe hok]
theorem Qxd : Qcg Tryz.prog 71 Zjm := Qb4 hm Qhm Tryz.func71 (Λ := fun args bs => match args, bs with | [.v (.int .i64 n), .sl 0 2 0 m _], [⟨2, _, row⟩] => Zab n m (fun i => rN (row i)) | _, _ => Qax) fun args bs p x h hp => by
 unfold Zjm at h
 split at h <;> try (cases h; done)
 · rename_i n c row
   cases h
   have h0 : Qf4 (row 0) := hp _ rfl
   refine ⟨rfl, [⟨2, 1, fun i => nR (rN (row i))⟩], ⟨⟨rfl, rfl, fun i hi => ?_⟩, trivial⟩, ?_⟩
   · have : i = 0 := Nat.lt_one_iff.1 hi
     subst this
     exact (Qgy h0).symm
   · have e : (bV (okW n (rN (row 0))) : SV) = bV ((List.range 1).all fun i => okW n (rN (row i))) := by simp [List.range, List.range.loop]
     rw [e]
     refine Q8v (by decide) fun i hi => ?_
     have : i = 0 := Nat.lt_one_iff.1 hi
     subst this
     have := h0
     rw [← Qgy h0] at this
     exact this
 · rename_i n c row
   cases h
   obtain ⟨h0, h1⟩ : Qf4 (row 0) ∧ Qf4 (row 1) := hp _ rfl
   refine ⟨rfl, [⟨2, 2, fun i => nR (rN (row i))⟩], ⟨⟨rfl, rfl, fun i hi => ?_⟩, trivial⟩, ?_⟩
   · have : i = 0 ∨ i = 1 := by have : i < 2 := hi; omega
     rcases this with rfl | rfl
     · exact (Qgy h0).symm
     · exact (Qgy h1).symm
   · have e : (bV (okW n (rN (row 0)) && okW n (rN (row 1))) : SV) = bV ((List.range 2).all fun i => okW n (rN (row i))) := by simp [List.range, List.range.loop]
     rw [e]
     refine Q8v (by decide) fun i hi => ?_
     have : i = 0 ∨ i = 1 := by omega
     rcases this with rfl | rfl
     · have := h0
       rw [← Qgy h0] at this
       exact this
     · have := h1
       rw [← Qgy h1] at this
       exact this
theorem Qzq : ∀ f g, Zj9 f = some g → g.ok Tryz.prog f := Qab (Qab (Qab (Qab Qzr (Qfa Tryz.func70 (by kernel_rfl) (by kernel_rfl) Zee)) (Qdc Tryz.func52 (by kernel_rfl) (by kernel_rfl) Q8b)) (Qal Tryz.func73 (by kernel_rfl) (by kernel_rfl) Q4m)) (Qdc Tryz.func71 (by kernel_rfl) (by kernel_rfl) Qxd)
theorem Q72 : Qdl Tryz.prog 13 Zlr := Qc0 hm Qzq Tryz.func13 (Λ := fun _ _ => Qax) fun args bs e hs hp => by
 unfold Zlr at hs
 split at hs <;> try (cases hs; done)
 rename_i l a f c k t tf D
 split at hs <;> try (cases hs; done)
 rename_i b n cap hl
 obtain ⟨hD, he⟩ := Qev hs
 subst he
 obtain ⟨hpre, hid, hb, hv, ht⟩ : Qcs n D ∧ Zjs b ⟨⟨a, f⟩, ⟨c, k⟩⟩ ⟨t, tf⟩ := hp
 obtain ⟨hn, hg⟩ := Qg9 hpre
 refine ⟨[rdB D n (Qbv D)], ⟨Qe6 hD hpre, trivial⟩, ?_⟩
 rw [Qe0 hl]
 refine Eq.mpr (Zks b ⟨⟨a, f⟩, ⟨c, k⟩⟩ ⟨t, tf⟩ _ D n cap (Qbv D)) ⟨Qj1 hn hg, fun c => sT (by rw [hid]; rfl) ⟨⟨hv, ht⟩, ⟨Qq1 hb.2.2.2.1.1 hb.2.2.2.1.2, Qq1 (Qbk _).i64 (Qbk _).i64⟩, ⟨⟨(Qbk _).i64, (Qbk _).i64⟩, by decide, by decide⟩, c, ?_, rfl, Nat.le_refl _, fun i hi => by rw [Qgs]⟩⟩
 repeat (first | exact rfl | refine ⟨rfl, ?_⟩)
theorem Zeh : Qdl Tryz.prog 12 sGo := Qc0 hm Qzq Tryz.func12 (Λ := fun _ _ => Qax) fun args bs e hs hp => by
 unfold sGo at hs
 split at hs <;> try (cases hs; done)
 rename_i l t tf D
 split at hs <;> try (cases hs; done)
 rename_i b n cap hl
 obtain ⟨hD, he⟩ := Qev hs
 subst he
 obtain ⟨hpre, hid, hb, ht, hw⟩ : Qcs n D ∧ goP b ⟨t, tf⟩ := hp
 obtain ⟨hn, hg⟩ := Qg9 hpre
 refine ⟨[rdB D n (Qbv D)], ⟨Qe6 hD hpre, trivial⟩, ?_⟩
 rw [Qe0 hl]
 have hw2 : (!(okW 4096 (Qbg b.pa (Qbo b.v ⟨t, tf⟩)).x && okW 4096 (Qbg b.pa (Qbo b.v ⟨t, tf⟩)).y)) = false := by rw [hw]; rfl
 refine Eq.mpr (vcGo b ⟨t, tf⟩ _ D n cap (Qbv D)) ⟨Qj1 hn hg, fun c => sF hid ⟨⟨hb.2.2.2.1, ht⟩, ⟨Qq1 hb.2.1.1 hb.2.1.2, Qq1 (Qbk _).i64 (Qbk _).i64⟩, ⟨Quw (Qbk _).i64, Quw (Qbk _).i64⟩, sF hw2 ⟨⟨hb.2.2.2.2.1, ht⟩, Qad (fun hz => ⟨⟨hb.2.2.1, (Qbk _).i64⟩, c, ?_, rfl, Nat.le_refl _, fun i hi => by rw [Qgs]⟩) fun hz => ⟨c, ?_, rfl, Nat.le_refl _, fun i hi => by rw [Qgs]⟩⟩⟩⟩
 · have e : Qv1 b.pr (Qdg b.w ⟨t, tf⟩) = Qqf b.pr (Qdg b.w ⟨t, tf⟩) := by unfold Qv1; rw [hz]; rfl
   have eg : goB b ⟨t, tf⟩ = ⟨b.s, Qbg b.pa (Qbo b.v ⟨t, tf⟩), Qqf b.pr (Qdg b.w ⟨t, tf⟩), b.v, b.w, b.m, b.st, b.asl, b.flt, b.ver⟩ := by unfold goB; rw [e]
   rw [eg]
   repeat (first | exact rfl | refine ⟨rfl, ?_⟩)
 · have e : Qv1 b.pr (Qdg b.w ⟨t, tf⟩) = b.pr := by unfold Qv1; rw [hz]; rfl
   have eg : goB b ⟨t, tf⟩ = ⟨b.s, Qbg b.pa (Qbo b.v ⟨t, tf⟩), b.pr, b.v, b.w, b.m, b.st, b.asl, b.flt, b.ver⟩ := by unfold goB; rw [e]
   rw [eg]
   repeat (first | exact rfl | refine ⟨rfl, ?_⟩)
end Go.Proofs.YteekigmbopdfjaaGreat
end
