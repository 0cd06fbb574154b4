/-
 What the proof uses, part 13.
-/
import Derived.RangeFuncNested
import Derived.RangeFuncBound
import Derived.Shelf.Abstract
import Derived.Shelf.RegionOpen
import Derived.OwnWalkIn
import Derived.TacticsInMore
import Derived.LoopNIn
import Derived.LoopIn
import Derived.BigRegionIn
import Derived.Stop.RegionWithIn
import Derived.Test.YteekigmbopdfjaaGreatZp12
set_option maxRecDepth 100000
set_option linter.unusedSimpArgs false
set_option linter.unusedVariables false

section
set_option maxHeartbeats 2000000
namespace Go.Proofs.YteekigmbopdfjaaGreat
open Go.RowKit Go.Shelf Go.SE
attribute [local go_sem] Oper.semAt_some
theorem Qbx {a : Act} {t : Nat} {v : Value} (h : a.tmps[t]? = some v) : a.eval (.tmp t) = v := by
 simp [Act.eval, Array.getD_eq_getD_getElem?, h]
theorem Qut (l Bs b off len cap : Nat) (g : Nat → Int × Int) (hlen : len ≤ 1099511627776) (J : Nat → World → Prop) (Jx : World → Prop)
   (hC : ∀ k W, J k W → (∃ a, W.cell? ⟨Bs, 0, none⟩ = some (.slice a len cap) ∧ (0 < len → a = some ⟨b, off, none⟩)) ∧ ∀ j, j < len → W.cell? ⟨b, off + j * 2, none⟩ = some (.int .i64 (g j).1) ∧ W.cell? ⟨b, off + j * 2 + 1, none⟩ = some (.int .i64 (g j).2))
   (hY : ∀ k W, J k W → k < len → YieldAt Fence.wide 0 Tryz.prog l #[.agg #[.int .i64 k, .int .i64 (g k).1, .int .i64 (g k).2, .int .i64 (g ((k + 1) % len)).1, .int .i64 (g ((k + 1) % len)).2, .int .i64 (g ((k + 2) % len)).1, .int .i64 (g ((k + 2) % len)).2]] W fun e W' =>
     (e = .returned (.bool true) ∧ J (k + 1) W') ∨ (e = .returned (.bool false) ∧ Jx W'))
   (hB : ∀ k W W', J k W → Below W.heap.size W W' → J k W') (W : World) (h0 : J 0 W) :
   CallsIn Fence.wide 1 Tryz.prog 167 #[.func (.yield l) #[] #[], .pointer (some ⟨Bs, 0, none⟩)] W fun e W' => (∃ v, e = .returned v) ∧ (J len W' ∨ Jx W') := by
 refine callsIn_of_wp Tryz.func167 rfl trivial ?_ rfl
 simp only [Tryz.ntmps167, List.size_toArray, List.length_cons, List.length_nil, Nat.reduceAdd, Nat.reduceSub, Array.replicate_succ, Array.replicate_zero, List.push_toArray, List.append_toArray, List.nil_append, List.cons_append]
 obtain ⟨a, hc0, ha⟩ := (hC 0 W h0).1
 gi_wp2
 gi_loopw [8] (fun i wr => ∃ k : Nat, k ≤ len ∧ i = .int .i64 k ∧ J k wr) (fun i _ => len - (intOf i).toNat)
 case atStart => exact ⟨0, Nat.zero_le _, rfl, h0⟩
 case round =>
   obtain ⟨k, hk, rfl, hJs⟩ := hrel
   obtain ⟨⟨a', hcb, ha'⟩, hcs⟩ := hC k wr hJs
   by_cases hlt : k < len
   · obtain rfl := ha (by omega)
     obtain rfl := ha' (by omega)
     clear ha ha'
     obtain ⟨fn, tmps, assign, body, hy, hR⟩ := hY k wr.drew (hB k wr _ hJs ((Below.refl _ wr).drew)) hlt
     have hR' := hR.mono (R' := fun e W' => ∃ t : Bool, e = .returned (.bool t) ∧ ((t = true ∧ J (k + 1) W') ∨ (t = false ∧ Jx W'))) (fun e W' h => by
       rcases h with ⟨rfl, h⟩ | ⟨rfl, h⟩
       · exact ⟨true, rfl, .inl ⟨rfl, h⟩⟩
       · exact ⟨false, rfl, .inr ⟨rfl, h⟩⟩)
     clear hR
     obtain ⟨c0, c0'⟩ := hcs k hlt
     have l1 : (k + 1) % len < len := Nat.mod_lt _ (by omega)
     have l2 : (k + 2) % len < len := Nat.mod_lt _ (by omega)
     have e1 : ((k : Int) + 1) % (len : Int) = (((k + 1) % len : Nat) : Int) := by rw [Int.natCast_emod]; rfl
     have e2 : ((k : Int) + 2) % (len : Int) = (((k + 2) % len : Nat) : Int) := by rw [Int.natCast_emod]; rfl
     have e1' : ((k + 1 : Nat) : Int) % (len : Int) = (((k + 1) % len : Nat) : Int) := by rw [Int.natCast_emod]
     have e2' : ((k + 2 : Nat) : Int) % (len : Int) = (((k + 2) % len : Nat) : Int) := by rw [Int.natCast_emod]
     have b1 : ((k : Int) + 1) % (len : Int) < (len : Int) := Int.emod_lt_of_pos _ (by omega)
     have b1' : 0 ≤ ((k : Int) + 1) % (len : Int) := Int.emod_nonneg _ (by omega)
     have t1 : Int.tmod ((k : Int) + 1) (len : Int) = (((k + 1) % len : Nat) : Int) := by rw [Int.tmod_eq_emod_of_nonneg (by omega), Int.natCast_emod]; rfl
     have t2 : Int.tmod ((k : Int) + 2) (len : Int) = (((k + 2) % len : Nat) : Int) := by rw [Int.tmod_eq_emod_of_nonneg (by omega), Int.natCast_emod]; rfl
     have w1 : (IntKind.i64.wrap ((k : Int) + 1)).tmod (len : Int) = (((k + 1) % len : Nat) : Int) := by rw [Qag ⟨by omega, by omega⟩]; exact t1
     have w2 : (IntKind.i64.wrap ((k : Int) + 2)).tmod (len : Int) = (((k + 2) % len : Nat) : Int) := by rw [Qag ⟨by omega, by omega⟩]; exact t2
     generalize (k + 1) % len = j1 at *
     generalize (k + 2) % len = j2 at *
     obtain ⟨c1, c1'⟩ := hcs _ l1
     obtain ⟨c2, c2'⟩ := hcs _ l2
     clear hC hY hcs
     have f0 : (len : Int) ≠ 0 := by omega
     have f0' : ¬ len = 0 := by omega
     have fk : (k : Int) < (len : Int) := by omega
     have f1 : (j1 : Int) < (len : Int) := by omega
     have f2 : (j2 : Int) < (len : Int) := by omega
     have fk' : ¬ (len : Int) ≤ (k : Int) := by omega
     have f1' : ¬ (len : Int) ≤ (j1 : Int) := by omega
     have f2' : ¬ (len : Int) ≤ (j2 : Int) := by omega
     have gk : ¬ len ≤ k := by omega
     have g1 : ¬ len ≤ j1 := by omega
     have g2 : ¬ len ≤ j2 := by omega
     gi_wp2
     refine Qx1 (ro := none) (m := 21) (T := #[.func (.yield l) #[] #[], .pointer (some ⟨Bs, 0, none⟩), undef, .int .i64 (len), .int .i64 (k), .slice (some ⟨b, off, none⟩) len cap, .int .i64 (len), .int .i64 (len), .int .i64 (k), .bool true, .int .i64 (k), .func (.yield l) #[] #[], .int .i64 (k), .slice (some ⟨b, off, none⟩) len cap, .int .i64 (k), .pointer (some ⟨b, off + k * 2, none⟩), .agg #[.int .i64 (g k).1, .int .i64 (g k).2], .slice (some ⟨b, off, none⟩) len cap, .int .i64 (k), .int .i64 (IntKind.i64.wrap ((k : Int) + 1)), .int .i64 (len), .int .i64 (j1), .pointer (some ⟨b, off + j1 * 2, none⟩), .agg #[.int .i64 (g j1).1, .int .i64 (g j1).2], .slice (some ⟨b, off, none⟩) len cap, .int .i64 (k), .int .i64 (IntKind.i64.wrap ((k : Int) + 2)), .int .i64 (len), .int .i64 (j2), .pointer (some ⟨b, off + j2 * 2, none⟩), .agg #[.int .i64 (g j2).1, .int .i64 (g j2).2], .agg #[.int .i64 k, .int .i64 (g k).1, .int .i64 (g k).2, .int .i64 (g j1).1, .int .i64 (g j1).2, .int .i64 (g j2).1, .int .i64 (g j2).2], u32, u33, u34]) (dst := fun i => i + 11) (vals := fun i => ([.func (.yield l) #[] #[], .int .i64 (k), .slice (some ⟨b, off, none⟩) len cap, .int .i64 (k), .pointer (some ⟨b, off + k * 2, none⟩), .agg #[.int .i64 (g k).1, .int .i64 (g k).2], .slice (some ⟨b, off, none⟩) len cap, .int .i64 (k), .int .i64 (IntKind.i64.wrap ((k : Int) + 1)), .int .i64 (len), .int .i64 (j1), .pointer (some ⟨b, off + j1 * 2, none⟩), .agg #[.int .i64 (g j1).1, .int .i64 (g j1).2], .slice (some ⟨b, off, none⟩) len cap, .int .i64 (k), .int .i64 (IntKind.i64.wrap ((k : Int) + 2)), .int .i64 (len), .int .i64 (j2), .pointer (some ⟨b, off + j2 * 2, none⟩), .agg #[.int .i64 (g j2).1, .int .i64 (g j2).2], .agg #[.int .i64 k, .int .i64 (g k).1, .int .i64 (g k).2, .int .i64 (g j1).1, .int .i64 (g j1).2, .int .i64 (g j2).1, .int .i64 (g j2).2]] : List Value).getD i undef) rfl (fun i j _ _ h => by simpa using h) (fun i hi => by simp; omega) (by simp) (fun j o ho e he hb => by have := Qdx (k := 0) rfl j o (by simpa using ho) e (by simpa using he) hb; omega) ?_ ?_ (by kernel_rfl) ?_
     · intro i hi o ho j hj
       have hi' := (Array.getElem?_eq_some_iff.1 ho).1
       simp only [List.size_toArray, List.length_cons, List.length_nil] at hi'
       obtain rfl | rfl : i = 21 ∨ i = 22 := by omega
       · exact (by decide : ∀ j, j < 21 → Nat.testBit 2097151 j = true) j hj
       · exact (by decide : ∀ j, j < 21 → Nat.testBit 4194303 j = true) j hj
     · intro i hi o ho
       obtain rfl | rfl | rfl | rfl | rfl | rfl | rfl | rfl | rfl | rfl | rfl | rfl | rfl | rfl | rfl | rfl | rfl | rfl | rfl | rfl | rfl : i = 0 ∨ i = 1 ∨ i = 2 ∨ i = 3 ∨ i = 4 ∨ i = 5 ∨ i = 6 ∨ i = 7 ∨ i = 8 ∨ i = 9 ∨ i = 10 ∨ i = 11 ∨ i = 12 ∨ i = 13 ∨ i = 14 ∨ i = 15 ∨ i = 16 ∨ i = 17 ∨ i = 18 ∨ i = 19 ∨ i = 20 := by omega
       · have ho := (Option.some.inj ho).symm; subst ho
         refine ⟨rfl, rfl, fun c h => (by simp at h), fun b' _ hE hm => ?_⟩
         have y0 : b'.eval (.tmp 0) = .func (.yield l) #[] #[] := Qbx (hm 0 (fun j _ => by omega))
         clear hE hm
         generalize b'.eval = E at *
         show Sem.run _ _ _ = Result.ok (Next.value (.func (.yield l) #[] #[])) _
         go_simp
       · have ho := (Option.some.inj ho).symm; subst ho
         refine ⟨rfl, rfl, fun c h => (by simp at h), fun b' _ hE hm => ?_⟩
         have y4 : b'.eval (.tmp 4) = .int .i64 (k) := Qbx (hm 4 (fun j _ => by omega))
         clear hE hm
         generalize b'.eval = E at *
         show Sem.run _ _ _ = Result.ok (Next.value (.int .i64 (k))) _
         go_simp
       · have ho := (Option.some.inj ho).symm; subst ho
         refine ⟨rfl, rfl, fun c h => (by simp at h), fun b' _ hE hm => ?_⟩
         have y1 : b'.eval (.tmp 1) = .pointer (some ⟨Bs, 0, none⟩) := Qbx (hm 1 (fun j _ => by omega))
         clear hE hm
         generalize b'.eval = E at *
         show Sem.run _ _ _ = Result.ok (Next.value (.slice (some ⟨b, off, none⟩) len cap)) _
         go_simp
       · have ho := (Option.some.inj ho).symm; subst ho
         refine ⟨rfl, rfl, fun c h => (by simp at h), fun b' _ hE hm => ?_⟩
         have y4 : b'.eval (.tmp 4) = .int .i64 (k) := Qbx (hm 4 (fun j _ => by omega))
         clear hE hm
         generalize b'.eval = E at *
         show Sem.run _ _ _ = Result.ok (Next.value (.int .i64 (k))) _
         go_simp
       · have ho := (Option.some.inj ho).symm; subst ho
         refine ⟨rfl, rfl, fun c h => (by simp at h), fun b' _ hE hm => ?_⟩
         have x2 : b'.eval (.tmp 13) = .slice (some ⟨b, off, none⟩) len cap := Qbx (hE ⟨2, .data⟩ (by simp) (by decide) rfl)
         have x3 : b'.eval (.tmp 14) = .int .i64 (k) := Qbx (hE ⟨3, .data⟩ (by simp) (by decide) rfl)
         clear hE hm
         generalize b'.eval = E at *
         show Sem.run _ _ _ = Result.ok (Next.value (.pointer (some ⟨b, off + k * 2, none⟩))) _
         go_simp
       · have ho := (Option.some.inj ho).symm; subst ho
         refine ⟨rfl, rfl, fun c h => (by simp at h), fun b' _ hE hm => ?_⟩
         have x4 : b'.eval (.tmp 15) = .pointer (some ⟨b, off + k * 2, none⟩) := Qbx (hE ⟨4, .data⟩ (by simp) (by decide) rfl)
         clear hE hm
         generalize b'.eval = E at *
         show Sem.run _ _ _ = Result.ok (Next.value (.agg #[.int .i64 (g k).1, .int .i64 (g k).2])) _
         go_simp
       · have ho := (Option.some.inj ho).symm; subst ho
         refine ⟨rfl, rfl, fun c h => (by simp at h), fun b' _ hE hm => ?_⟩
         have y1 : b'.eval (.tmp 1) = .pointer (some ⟨Bs, 0, none⟩) := Qbx (hm 1 (fun j _ => by omega))
         clear hE hm
         generalize b'.eval = E at *
         show Sem.run _ _ _ = Result.ok (Next.value (.slice (some ⟨b, off, none⟩) len cap)) _
         go_simp
       · have ho := (Option.some.inj ho).symm; subst ho
         refine ⟨rfl, rfl, fun c h => (by simp at h), fun b' _ hE hm => ?_⟩
         have y4 : b'.eval (.tmp 4) = .int .i64 (k) := Qbx (hm 4 (fun j _ => by omega))
         clear hE hm
         generalize b'.eval = E at *
         show Sem.run _ _ _ = Result.ok (Next.value (.int .i64 (k))) _
         go_simp
       · have ho := (Option.some.inj ho).symm; subst ho
         refine ⟨rfl, rfl, fun c h => (by simp at h), fun b' _ hE hm => ?_⟩
         have x7 : b'.eval (.tmp 18) = .int .i64 (k) := Qbx (hE ⟨7, .data⟩ (by simp) (by decide) rfl)
         clear hE hm
         have z : b'.eval (.const (.int .i64 1)) = .int .i64 1 := rfl
         generalize b'.eval = E at *
         show Sem.run _ _ _ = Result.ok (Next.value (.int .i64 (IntKind.i64.wrap ((k : Int) + 1)))) _
         go_simp
       · have ho := (Option.some.inj ho).symm; subst ho
         refine ⟨rfl, rfl, fun c h => (by simp at h), fun b' _ hE hm => ?_⟩
         have y3 : b'.eval (.tmp 3) = .int .i64 (len) := Qbx (hm 3 (fun j _ => by omega))
         clear hE hm
         generalize b'.eval = E at *
         show Sem.run _ _ _ = Result.ok (Next.value (.int .i64 (len))) _
         go_simp
       · have ho := (Option.some.inj ho).symm; subst ho
         refine ⟨rfl, rfl, fun c h => (by simp at h), fun b' _ hE hm => ?_⟩
         have x8 : b'.eval (.tmp 19) = .int .i64 (IntKind.i64.wrap ((k : Int) + 1)) := Qbx (hE ⟨8, .data⟩ (by simp) (by decide) rfl)
         have x9 : b'.eval (.tmp 20) = .int .i64 (len) := Qbx (hE ⟨9, .data⟩ (by simp) (by decide) rfl)
         clear hE hm
         generalize b'.eval = E at *
         show Sem.run _ _ _ = Result.ok (Next.value (.int .i64 (j1))) _
         go_simp
       · have ho := (Option.some.inj ho).symm; subst ho
         refine ⟨rfl, rfl, fun c h => (by simp at h), fun b' _ hE hm => ?_⟩
         have x6 : b'.eval (.tmp 17) = .slice (some ⟨b, off, none⟩) len cap := Qbx (hE ⟨6, .data⟩ (by simp) (by decide) rfl)
         have x10 : b'.eval (.tmp 21) = .int .i64 (j1) := Qbx (hE ⟨10, .data⟩ (by simp) (by decide) rfl)
         clear hE hm
         generalize b'.eval = E at *
         show Sem.run _ _ _ = Result.ok (Next.value (.pointer (some ⟨b, off + j1 * 2, none⟩))) _
         go_simp
       · have ho := (Option.some.inj ho).symm; subst ho
         refine ⟨rfl, rfl, fun c h => (by simp at h), fun b' _ hE hm => ?_⟩
         have x11 : b'.eval (.tmp 22) = .pointer (some ⟨b, off + j1 * 2, none⟩) := Qbx (hE ⟨11, .data⟩ (by simp) (by decide) rfl)
         clear hE hm
         generalize b'.eval = E at *
         show Sem.run _ _ _ = Result.ok (Next.value (.agg #[.int .i64 (g j1).1, .int .i64 (g j1).2])) _
         go_simp
       · have ho := (Option.some.inj ho).symm; subst ho
         refine ⟨rfl, rfl, fun c h => (by simp at h), fun b' _ hE hm => ?_⟩
         have y1 : b'.eval (.tmp 1) = .pointer (some ⟨Bs, 0, none⟩) := Qbx (hm 1 (fun j _ => by omega))
         clear hE hm
         generalize b'.eval = E at *
         show Sem.run _ _ _ = Result.ok (Next.value (.slice (some ⟨b, off, none⟩) len cap)) _
         go_simp
       · have ho := (Option.some.inj ho).symm; subst ho
         refine ⟨rfl, rfl, fun c h => (by simp at h), fun b' _ hE hm => ?_⟩
         have y4 : b'.eval (.tmp 4) = .int .i64 (k) := Qbx (hm 4 (fun j _ => by omega))
         clear hE hm
         generalize b'.eval = E at *
         show Sem.run _ _ _ = Result.ok (Next.value (.int .i64 (k))) _
         go_simp
       · have ho := (Option.some.inj ho).symm; subst ho
         refine ⟨rfl, rfl, fun c h => (by simp at h), fun b' _ hE hm => ?_⟩
         have x14 : b'.eval (.tmp 25) = .int .i64 (k) := Qbx (hE ⟨14, .data⟩ (by simp) (by decide) rfl)
         clear hE hm
         have z : b'.eval (.const (.int .i64 2)) = .int .i64 2 := rfl
         generalize b'.eval = E at *
         show Sem.run _ _ _ = Result.ok (Next.value (.int .i64 (IntKind.i64.wrap ((k : Int) + 2)))) _
         go_simp
       · have ho := (Option.some.inj ho).symm; subst ho
         refine ⟨rfl, rfl, fun c h => (by simp at h), fun b' _ hE hm => ?_⟩
         have y3 : b'.eval (.tmp 3) = .int .i64 (len) := Qbx (hm 3 (fun j _ => by omega))
         clear hE hm
         generalize b'.eval = E at *
         show Sem.run _ _ _ = Result.ok (Next.value (.int .i64 (len))) _
         go_simp
       · have ho := (Option.some.inj ho).symm; subst ho
         refine ⟨rfl, rfl, fun c h => (by simp at h), fun b' _ hE hm => ?_⟩
         have x15 : b'.eval (.tmp 26) = .int .i64 (IntKind.i64.wrap ((k : Int) + 2)) := Qbx (hE ⟨15, .data⟩ (by simp) (by decide) rfl)
         have x16 : b'.eval (.tmp 27) = .int .i64 (len) := Qbx (hE ⟨16, .data⟩ (by simp) (by decide) rfl)
         clear hE hm
         generalize b'.eval = E at *
         show Sem.run _ _ _ = Result.ok (Next.value (.int .i64 (j2))) _
         go_simp
       · have ho := (Option.some.inj ho).symm; subst ho
         refine ⟨rfl, rfl, fun c h => (by simp at h), fun b' _ hE hm => ?_⟩
         have x13 : b'.eval (.tmp 24) = .slice (some ⟨b, off, none⟩) len cap := Qbx (hE ⟨13, .data⟩ (by simp) (by decide) rfl)
         have x17 : b'.eval (.tmp 28) = .int .i64 (j2) := Qbx (hE ⟨17, .data⟩ (by simp) (by decide) rfl)
         clear hE hm
         generalize b'.eval = E at *
         show Sem.run _ _ _ = Result.ok (Next.value (.pointer (some ⟨b, off + j2 * 2, none⟩))) _
         go_simp
       · have ho := (Option.some.inj ho).symm; subst ho
         refine ⟨rfl, rfl, fun c h => (by simp at h), fun b' _ hE hm => ?_⟩
         have x18 : b'.eval (.tmp 29) = .pointer (some ⟨b, off + j2 * 2, none⟩) := Qbx (hE ⟨18, .data⟩ (by simp) (by decide) rfl)
         clear hE hm
         generalize b'.eval = E at *
         show Sem.run _ _ _ = Result.ok (Next.value (.agg #[.int .i64 (g j2).1, .int .i64 (g j2).2])) _
         go_simp
       · have ho := (Option.some.inj ho).symm; subst ho
         refine ⟨rfl, rfl, fun c h => (by simp at h), fun b' _ hE hm => ?_⟩
         have x1 : b'.eval (.tmp 12) = .int .i64 (k) := Qbx (hE ⟨1, .data⟩ (by simp) (by decide) rfl)
         have x5 : b'.eval (.tmp 16) = .agg #[.int .i64 (g k).1, .int .i64 (g k).2] := Qbx (hE ⟨5, .data⟩ (by simp) (by decide) rfl)
         have x12 : b'.eval (.tmp 23) = .agg #[.int .i64 (g j1).1, .int .i64 (g j1).2] := Qbx (hE ⟨12, .data⟩ (by simp) (by decide) rfl)
         have x19 : b'.eval (.tmp 30) = .agg #[.int .i64 (g j2).1, .int .i64 (g j2).2] := Qbx (hE ⟨19, .data⟩ (by simp) (by decide) rfl)
         clear hE hm
         generalize b'.eval = E at *
         show Sem.run _ _ _ = Result.ok (Next.value (.agg #[.int .i64 k, .int .i64 (g k).1, .int .i64 (g k).2, .int .i64 (g j1).1, .int .i64 (g j1).2, .int .i64 (g j2).1, .int .i64 (g j2).2])) _
         go_simp
     · intro li hs hc h1 h0
       refine Qwc (fuel := 1) (m := 21) (o := { dst := some 32, op := Op.call { callee := Callee.value (Operand.tmp 11), args := #[Operand.tmp 31], argTypes := #[187] }, type := 4, pos := "plane.go:157", after := #[{ on := 0, ground := Ground.data }, { on := 20, ground := Ground.data }], guard := none }) hs hc h1 h0 (fun j o ho e he hb => by have := Qdx (k := 0) rfl j o (by simpa using ho) e (by simpa using he) hb; omega) rfl rfl ?_ ?_
       · intro i hi o ho
         have hi' := (Array.getElem?_eq_some_iff.1 ho).1
         simp only [List.size_toArray, List.length_cons, List.length_nil] at hi'
         obtain rfl : i = 22 := by omega
         rfl
       · intro li hs hc h1 h0
         refine ⟨fun _ _ => trivial, ?_⟩
         rw [show (Oper.semAt _ _ _).run Tryz.prog wr.drew = .ok (.round l fn tmps assign body) wr.drew from by
           rw [Oper.semAt_eq _ _ _ (fun c h => (by simp at h))]
           go_simp]
         rw [Oper.uponIn_round]
         refine ⟨fun h => (by cases h), hR'.mono ?_⟩
         rintro e W3 ⟨t, rfl, ht⟩
         refine Qwc (fuel := 0) (m := 22) (o := { dst := some 33, op := Op.unOp UnOp.not 4 (Operand.tmp 32), type := 4, pos := "plane.go:157", after := #[{ on := 21, ground := Ground.data }], guard := none }) hs hc h1 h0 (fun j o ho e he hb => by have := Qdx (k := 0) rfl j o (by simpa using ho) e (by simpa using he) hb; omega) rfl rfl (fun i hi o ho => absurd (Array.getElem?_eq_some_iff.1 ho).1 (by simp; omega)) ?_
         intro li hs hc h1 h0
         change Oper.wpIn (WF none) 1 Tryz.prog _ { tmps := #[.func (.yield l) #[] #[], .pointer (some ⟨Bs, 0, none⟩), undef, .int .i64 (len), .int .i64 (k), .slice (some ⟨b, off, none⟩) len cap, .int .i64 (len), .int .i64 (len), .int .i64 (k), .bool true, .int .i64 (k), .func (.yield l) #[] #[], .int .i64 (k), .slice (some ⟨b, off, none⟩) len cap, .int .i64 (k), .pointer (some ⟨b, off + k * 2, none⟩), .agg #[.int .i64 (g k).1, .int .i64 (g k).2], .slice (some ⟨b, off, none⟩) len cap, .int .i64 (k), .int .i64 (IntKind.i64.wrap ((k : Int) + 1)), .int .i64 (len), .int .i64 (j1), .pointer (some ⟨b, off + j1 * 2, none⟩), .agg #[.int .i64 (g j1).1, .int .i64 (g j1).2], .slice (some ⟨b, off, none⟩) len cap, .int .i64 (k), .int .i64 (IntKind.i64.wrap ((k : Int) + 2)), .int .i64 (len), .int .i64 (j2), .pointer (some ⟨b, off + j2 * 2, none⟩), .agg #[.int .i64 (g j2).1, .int .i64 (g j2).2], .agg #[.int .i64 k, .int .i64 (g k).1, .int .i64 (g k).2, .int .i64 (g j1).1, .int .i64 (g j1).2, .int .i64 (g j2).1, .int .i64 (g j2).2], .bool t, u33, u34], defers := [] } W3 _ _
         refine ⟨fun _ _ => trivial, ?_⟩
         rw [show (Oper.semAt _ _ _).run Tryz.prog W3 = .ok (.value (.bool (!t))) W3 from by
           rw [Oper.semAt_eq _ _ _ (fun c h => (by simp at h))]
           go_simp]
         rw [Oper.uponIn_value]
         refine Q7c hs h1 ?_
         change Exit.then _ _ Exit.normal { tmps := #[.func (.yield l) #[] #[], .pointer (some ⟨Bs, 0, none⟩), undef, .int .i64 (len), .int .i64 (k), .slice (some ⟨b, off, none⟩) len cap, .int .i64 (len), .int .i64 (len), .int .i64 (k), .bool true, .int .i64 (k), .func (.yield l) #[] #[], .int .i64 (k), .slice (some ⟨b, off, none⟩) len cap, .int .i64 (k), .pointer (some ⟨b, off + k * 2, none⟩), .agg #[.int .i64 (g k).1, .int .i64 (g k).2], .slice (some ⟨b, off, none⟩) len cap, .int .i64 (k), .int .i64 (IntKind.i64.wrap ((k : Int) + 1)), .int .i64 (len), .int .i64 (j1), .pointer (some ⟨b, off + j1 * 2, none⟩), .agg #[.int .i64 (g j1).1, .int .i64 (g j1).2], .slice (some ⟨b, off, none⟩) len cap, .int .i64 (k), .int .i64 (IntKind.i64.wrap ((k : Int) + 2)), .int .i64 (len), .int .i64 (j2), .pointer (some ⟨b, off + j2 * 2, none⟩), .agg #[.int .i64 (g j2).1, .int .i64 (g j2).2], .agg #[.int .i64 k, .int .i64 (g k).1, .int .i64 (g k).2, .int .i64 (g j1).1, .int .i64 (g j1).2, .int .i64 (g j2).1, .int .i64 (g j2).2], .bool t, .bool (!t), u34], defers := [] } W3
         clear hy hR' hcb c0 c0' c1 c1' c2 c2' hs hc h1 h0
         rcases ht with ⟨rfl, hJ⟩ | ⟨rfl, hX⟩
         · gi_wp2
           exact ⟨⟨k + 1, by omega, by simp, hJ⟩, by simp only [RowKit.intOf]; omega⟩
         · gi_wp2
           refine bodyPost_ret (results_none rfl _ _ _) rfl ?_
           exact ⟨⟨_, rfl⟩, .inr hX⟩
   · obtain rfl : k = len := by omega
     gi_wp2
     go_end0
     exact ⟨⟨_, rfl⟩, .inl hJs⟩
def gi : List SV → Int × Int
 | [.v (.int _ x), .v (.int _ y)] => (x, y)
 | _ => (0, 0)
def Qk6 (caps : List SV) (h : Qbq) : Option (Prop × Nat × Nat × (Nat → List SV) × List Nat) :=
 match caps with
 | [.vp kb 0] => match h kb with
   | some bb => match bb.row 0 with
     | [.sl k s i n cap] => match h k with
       | some b => bif !bb.dead && !b.dead && bb.whole && Nat.beq bb.size 1 && Nat.beq bb.n 1 && Nat.beq b.size 2 && Nat.beq s 2 then
           some ((n ≤ 1099511627776 ∧ i + n ≤ b.n ∧ ∀ j, j < n → b.row (i + j) = [.v (.int .i64 (gi (b.row (i + j))).1), .v (.int .i64 (gi (b.row (i + j))).2)]), n, 1,
             fun j => [.agg [.v (.int .i64 j), .v (.int .i64 (gi (b.row (i + j))).1), .v (.int .i64 (gi (b.row (i + j))).2), .v (.int .i64 (gi (b.row (i + (j + 1) % n))).1), .v (.int .i64 (gi (b.row (i + (j + 1) % n))).2), .v (.int .i64 (gi (b.row (i + (j + 2) % n))).1), .v (.int .i64 (gi (b.row (i + (j + 2) % n))).2)]], [kb, k])
         else none
       | none => none
     | _ => none
   | none => none
 | _ => none
theorem Qq1 : Zj0 Tryz.prog 167 Qk6 := by
 intro caps h p N m item ks hr hp δ w lb hl hh
 unfold Qk6 at hr
 split at hr
 case h_2 => cases hr
 rename_i kb
 split at hr
 case h_2 => cases hr
 rename_i bb hbb
 split at hr
 case h_2 => cases hr
 rename_i k s i n cap hrow
 split at hr
 case h_2 => cases hr
 rename_i b hb
 cases hc : (!bb.dead && !b.dead && bb.whole && Nat.beq bb.size 1 && Nat.beq bb.n 1 && Nat.beq b.size 2 && Nat.beq s 2) with
 | false => rw [hc] at hr; cases hr
 | true =>
   rw [hc] at hr
   simp only [cond_true, Option.some.injEq, Prod.mk.injEq] at hr
   obtain ⟨rfl, rfl, rfl, rfl, rfl⟩ := hr
   simp only [Bool.and_eq_true, Bool.not_eq_true', Nat.beq_eq] at hc
   obtain ⟨⟨⟨⟨⟨⟨d1, d2⟩, hw⟩, z1⟩, z2⟩, z3⟩, rfl⟩ := hc
   obtain ⟨hn, hin, hrows⟩ := hp
   refine ⟨fun args w => rfl, fun j => #[.agg #[.int .i64 j, .int .i64 (gi (b.row (i + j))).1, .int .i64 (gi (b.row (i + j))).2, .int .i64 (gi (b.row (i + (j + 1) % n))).1, .int .i64 (gi (b.row (i + (j + 1) % n))).2, .int .i64 (gi (b.row (i + (j + 2) % n))).1, .int .i64 (gi (b.row (i + (j + 2) % n))).2]], fun j hj => ⟨?_, rfl⟩, ?_⟩
   · simp [Qa7, Qaz]
   · obtain ⟨q, hq, hqn, rfl⟩ : ∃ q, δ kb = some q ∧ 0 < q.n ∧ lb = [.pointer (some ⟨q.r, q.o + 0, none⟩)] := by
       match lb, hl with
       | [r], hl =>
         simp only [Qa7, Qaz, and_true] at hl
         obtain ⟨q, h1, h2, rfl⟩ := hl
         exact ⟨q, h1, h2, rfl⟩
       | [], hl => simp [Qa7] at hl
       | _ :: _ :: _, hl => simp [Qa7] at hl
     obtain ⟨q2, hq2, hlive2⟩ := hh.blk k b hb
     obtain ⟨q1, hq1, hlive1⟩ := hh.blk kb bb hbb
     rw [hq] at hq1; cases hq1
     have hno : q.no = false := by
       cases e : q.no with
       | false => rfl
       | true => have := ((hlive1 d1).no e).1; omega
     have ho : q.o = 0 := by
       obtain ⟨c, e, fz, _, _, _, _, _, h7, _⟩ := (hlive1 d1).rep hno
       exact (h7 hw).1
     have hCk : ∀ W, Zeq δ h [kb, k] W → (∃ a, W.cell? ⟨q.r, 0, none⟩ = some (.slice a n cap) ∧ (0 < n → a = some ⟨q2.r, q2.o + i * 2, none⟩)) ∧ ∀ j, j < n → W.cell? ⟨q2.r, q2.o + i * 2 + j * 2, none⟩ = some (.int .i64 (gi (b.row (i + j))).1) ∧ W.cell? ⟨q2.r, q2.o + i * 2 + j * 2 + 1, none⟩ = some (.int .i64 (gi (b.row (i + j))).2) := by
       rintro W ⟨δ', hδ, hK⟩
       have L1 := hK kb (by simp) bb q hbb hq d1
       have L2 := hK k (by simp) b q2 hb hq2 d2
       constructor
       · obtain ⟨c, e, fz, hc, _, _, _, _, _, h8⟩ := L1.rep hno
         obtain ⟨_, h9⟩ := h8 0 (by omega)
         obtain ⟨r, hr, hv⟩ := h9 0 (.sl k 2 i n cap) (by rw [hrow]; rfl)
         rw [ho] at hr
         simp only [Nat.zero_mul, Nat.add_zero] at hr
         simp only [Qaz] at hv
         obtain ⟨p', hp', _, _, hv⟩ := hv
         have := hδ _ _ hq2
         rw [hp'] at this; cases this
         rcases hv with ⟨_, rfl⟩ | ⟨e0, e1, a, rfl⟩
         · exact ⟨_, by rw [Qe4 hc, hr], fun _ => rfl⟩
         · subst e0 e1
           exact ⟨a, by rw [Qe4 hc, hr], fun h => absurd h (by omega)⟩
       · intro j hj
         have hno2 : q2.no = false := by
           cases e : q2.no with
           | false => rfl
           | true => have := (L2.no e).1; omega
         obtain ⟨c, e, fz, hc, _, _, _, _, _, h8⟩ := L2.rep hno2
         obtain ⟨_, h9⟩ := h8 (i + j) (by omega)
         obtain ⟨r0, hr0, hv0⟩ := h9 0 _ (by rw [hrows j hj]; rfl)
         obtain ⟨r1, hr1, hv1⟩ := h9 1 _ (by rw [hrows j hj]; rfl)
         simp only [Qaz] at hv0 hv1
         rw [z3] at hr0 hr1
         constructor
         · rw [Qe4 hc, show q2.o + i * 2 + j * 2 = q2.o + (i + j) * 2 + 0 by omega, hr0, hv0]
         · rw [Qe4 hc, show q2.o + i * 2 + j * 2 + 1 = q2.o + (i + j) * 2 + 1 by omega, hr1, hv1]
     intro l J Jx W hbW hJB hJxB hJK hY h0 n'
     have hh := callsIn_wide.1 (Qut l q.r q2.r (q2.o + i * 2) n cap (fun j => gi (b.row (i + j))) hn J Jx (fun k W hk => hCk W (hJK k W hk)) (fun k W hk hlt => hY k W 0 hk hlt) (fun k W W' hk hB => hJB k W W' hk hB) W h0)
     rw [ho]
     exact callsIn_wide.2 hh
noncomputable def Qj2 : It := ⟨Tryz.prog, 167, Qk6, Qq1⟩
end Go.Proofs.YteekigmbopdfjaaGreat
end
section
namespace Go.Proofs.YteekigmbopdfjaaGreat
open Go.SE Go.RowKit
def roS (el : Nat) (lo li fl wh : Bool) (n ext : Nat) (row : Nat → List SV) : Blk := { elem := el, size := 2, rw := false, lock := lo, lit := li, flat := fl, n := n, row := row, ext := ext, dead := false, whole := wh }
def Qws (n cap : Nat) : Eff := .det none (.fn 167 [.vp 1000 0]) [(1000, Qep 26 [.sl 0 2 0 n cap])]
def Ql6 (args : List SV) (bs : List Blk) : Option Eff := match args, bs with
 | [.sl 0 2 0 n cap], [b] => bif !b.rw && !b.dead && Nat.beq b.size 2 then some (Qws n cap) else none
 | _, _ => none
def Zj6 : Qb7 := Qah (Qah (Qah (Qah Qbi 92 (Qgv false Ql6)) 164 (Qaj Qot)) 165 (Qaj Qle)) 166 (Qaj Qxm)
theorem Q0a (el n cap n' ext : Nat) (lo li fl wh : Bool) (row : Nat→List SV) : (Qcm Tryz.prog Qbi Qax Tryz.f92 [.sl 0 2 0 n cap] (Qa1 [roS el lo li fl wh n' ext row]) 64 (fun y h' => Qj9 [roS el lo li fl wh n' ext row] (Qws n cap) y h')) = (((167 = 167)∧((SV.vp 64 0) = (SV.vp 64 0)))∧(((1 : Nat) = 1)∧(((1 : Nat) ≤ 1)∧((SV.sl 0 2 0 n cap) = (SV.sl 0 2 0 n cap))))):=by kernel_rfl
theorem Qkb : Qex Tryz.prog 92 Ql6 := Qd7 hm Qas Tryz.func92 (Λ := fun _ _ => Qax) fun args bs e hs hp => by
 unfold Ql6 at hs
 split at hs <;> try (cases hs; done)
 rename_i n cap b
 obtain ⟨el, sz, rw, lo, li, fl, n', row, ext, de, wh⟩ := b
 cases hc : (!rw && !de && Nat.beq sz 2) with
 | false => simp only [hc, cond_false] at hs; cases hs
 | true =>
   simp only [hc, cond_true, Option.some.injEq] at hs
   subst hs
   simp only [Bool.and_eq_true, Bool.not_eq_true', Nat.beq_eq] at hc
   obtain ⟨⟨rfl, rfl⟩, rfl⟩ := hc
   refine ⟨[roS el lo li fl wh n' ext row], ⟨BlkSame.refl _, trivial⟩, ?_⟩
   refine Eq.mpr (Q0a el n cap n' ext lo li fl wh row) ?_
   exact ⟨⟨rfl, rfl⟩, rfl, Nat.le_refl _, rfl⟩
end Go.Proofs.YteekigmbopdfjaaGreat
end
section
section
namespace Go.Proofs.YteekigmbopdfjaaGreat
open Go.SE Go.RowKit
def Qay (p q : Int × Int) : Int × Int := (p.1 - q.1, p.2 - q.2)
def Qad (p q : Int × Int) : Int := Qap p.1 p.2 q.1 q.2
def Qt0 (p : Int × Int) : Int := Qik p.1 p.2
def Qco (g : Nat → Int × Int) : Nat → List SV := fun i => [.v (.int .i64 (g i).1), .v (.int .i64 (g i).2)]
def okR (n : Nat) (g : Nat → Int × Int) (k i : Nat) : Bool := Nat.beq i k || Nat.beq i ((k + 1) % n) || !decide (Qad (Qay (g ((k + 1) % n)) (g k)) (Qay (g i) (g k)) ≤ 0)
def okE (n : Nat) (g : Nat → Int × Int) (k : Nat) : Bool :=
 !decide (Qad (g k) (g ((k + 1) % n)) ≤ 0) && !decide (Qad (Qay (g ((k + 1) % n)) (g k)) (Qay (g ((k + 2) % n)) (g ((k + 1) % n))) < 4 * (Qt0 (Qay (g ((k + 1) % n)) (g k)) + Qt0 (Qay (g ((k + 2) % n)) (g ((k + 1) % n)))))
def okC (n : Nat) (g : Nat → Int × Int) (k : Nat) : Bool := okE n g k && (List.range n).all (okR n g k)
def Qdi (n : Nat) (g : Nat → Int × Int) : Bool := (List.range n).all (okC n g)
def Zfa : SV → Int
 | .agg (.v (.int _ k) :: _) => k
 | _ => -1
def Qsl : Blk := Qep 4 [.v (.bool false)]
noncomputable def Qpo (n : Nat) (g : Nat → Int × Int) : Nat → Option LoopSpec :=
 Qw4 (Qq9 Qax 0 Qj2 Nat (fun k => k ≤ n ∧ ∀ j, j < k → okC n g j = true) (fun k => k) [(72, fun _ => Qsl)])
   Tryz.f91 2 (Nat × Nat) (fun x => x.1 < n ∧ x.2 ≤ n ∧ ∀ j, j < x.2 → okR n g x.1 j = true) (fun s x => Zfa (s.tmps.getD 10 .unk) = (x.1 : Int)) (fun x => n - x.2) [(41, fun x => .v (.int .i64 x.2))] [(72, fun _ => Qsl)]
def Sq (x : Int) : Prop := -1048576 ≤ x ∧ x ≤ 1048576
def Qp2 (n : Nat) (row : Nat → List SV) : Prop := ∀ i, i < n → row i = [.v (.int .i64 (gi (row i)).1), .v (.int .i64 (gi (row i)).2)] ∧ Sq (gi (row i)).1 ∧ Sq (gi (row i)).2
def Qkm : List SV → List Ro → Option (Option Prop × SV)
 | [.sl 0 2 0 n _], [⟨2, n', row⟩] => some (some (n' = n ∧ n ≤ 1099511627776 ∧ Qp2 n row), .v (.bool (Qdi n fun i => gi (row i))))
 | _, _ => none
theorem Q54 (n n' cap : Nat) (g : Nat→Int × Int) : (Qcm Tryz.prog Zj6 (Qpo n g) Tryz.f91 [.sl 0 2 0 n cap] (Qbe [⟨2,n',Qco g⟩]) 64 (fun y _ => y = .v (.bool (Qdi n g)))) = (((It.P Qj2 = Tryz.prog)∧(((n : Nat) ≤ 1099511627776)∧((((0 + n) : Nat) ≤ (Ro.n {s:=2,n:=n',row:=fun i => [SV.v (.int .i64 (Prod.fst (g i))),SV.v (.int .i64 (Prod.snd (g i)))]}))∧(∀ j : Nat,(((j : Nat) < n)→([(SV.v (.int .i64 (Prod.fst (g (0 + j))))),(SV.v (.int .i64 (Prod.snd (g (0 + j)))))] = [(SV.v (.int .i64 (Prod.fst (gi [SV.v (.int .i64 (Prod.fst (g (0 + j)))),SV.v (.int .i64 (Prod.snd (g (0 + j))))])))),(SV.v (.int .i64 (Prod.snd (gi [SV.v (.int .i64 (Prod.fst (g (0 + j)))),SV.v (.int .i64 (Prod.snd (g (0 + j))))]))))]))))))∧((∃ x : Nat,(((x : Nat) = 0)∧((((x : Nat) ≤ n)∧(∀ j : Nat,(((j : Nat) < x)→(okC n g j = true))))∧(True∧(((1 : Nat) = 1)∧(((1 : Nat) ≤ 1)∧(∀ i : Nat,(((i : Nat) < 1)→([(SV.v (.bool false))] = [(SV.v (.bool false))])))))))))∧((∀ x : Nat,((((x : Nat) ≤ n)∧(∀ j : Nat,(((j : Nat) < x)→(okC n g j = true))))→(((x : Nat) < n)→((((Sp (Prod.fst (gi [SV.v (.int .i64 (Prod.fst (g (0 + (x + 1) % n)))),SV.v (.int .i64 (Prod.snd (g (0 + (x + 1) % n))))])))∧(Sp (Prod.snd (gi [SV.v (.int .i64 (Prod.fst (g (0 + (x + 1) % n)))),SV.v (.int .i64 (Prod.snd (g (0 + (x + 1) % n))))]))))∧((Sp (Prod.fst (gi [SV.v (.int .i64 (Prod.fst (g (0 + x)))),SV.v (.int .i64 (Prod.snd (g (0 + x))))])))∧(Sp (Prod.snd (gi [SV.v (.int .i64 (Prod.fst (g (0 + x)))),SV.v (.int .i64 (Prod.snd (g (0 + x))))])))))∧((((Sp (Prod.fst (gi [SV.v (.int .i64 (Prod.fst (g (0 + (x + 2) % n)))),SV.v (.int .i64 (Prod.snd (g (0 + (x + 2) % n))))])))∧(Sp (Prod.snd (gi [SV.v (.int .i64 (Prod.fst (g (0 + (x + 2) % n)))),SV.v (.int .i64 (Prod.snd (g (0 + (x + 2) % n))))]))))∧((Sp (Prod.fst (gi [SV.v (.int .i64 (Prod.fst (g (0 + (x + 1) % n)))),SV.v (.int .i64 (Prod.snd (g (0 + (x + 1) % n))))])))∧(Sp (Prod.snd (gi [SV.v (.int .i64 (Prod.fst (g (0 + (x + 1) % n)))),SV.v (.int .i64 (Prod.snd (g (0 + (x + 1) % n))))])))))∧((((Sp (Prod.fst (gi [SV.v (.int .i64 (Prod.fst (g (0 + x)))),SV.v (.int .i64 (Prod.snd (g (0 + x))))])))∧(Sp (Prod.snd (gi [SV.v (.int .i64 (Prod.fst (g (0 + x)))),SV.v (.int .i64 (Prod.snd (g (0 + x))))]))))∧((Sp (Prod.fst (gi [SV.v (.int .i64 (Prod.fst (g (0 + (x + 1) % n)))),SV.v (.int .i64 (Prod.snd (g (0 + (x + 1) % n))))])))∧(Sp (Prod.snd (gi [SV.v (.int .i64 (Prod.fst (g (0 + (x + 1) % n)))),SV.v (.int .i64 (Prod.snd (g (0 + (x + 1) % n))))])))))∧(sel (decide (Qap (Prod.fst (gi [SV.v (.int .i64 (Prod.fst (g (0 + x)))),SV.v (.int .i64 (Prod.snd (g (0 + x))))])) (Prod.snd (gi [SV.v (.int .i64 (Prod.fst (g (0 + x)))),SV.v (.int .i64 (Prod.snd (g (0 + x))))])) (Prod.fst (gi [SV.v (.int .i64 (Prod.fst (g (0 + (x + 1) % n)))),SV.v (.int .i64 (Prod.snd (g (0 + (x + 1) % n))))])) (Prod.snd (gi [SV.v (.int .i64 (Prod.fst (g (0 + (x + 1) % n)))),SV.v (.int .i64 (Prod.snd (g (0 + (x + 1) % n))))])) ≤ 0)) ((SV.v (.bool false)) = (SV.v (.bool (Qdi n g)))) ((((Sp (Prod.fst (gi [SV.v (.int .i64 (Prod.fst (g (0 + (x + 1) % n)))),SV.v (.int .i64 (Prod.snd (g (0 + (x + 1) % n))))]) - Prod.fst (gi [SV.v (.int .i64 (Prod.fst (g (0 + x)))),SV.v (.int .i64 (Prod.snd (g (0 + x))))])))∧(Sp (Prod.snd (gi [SV.v (.int .i64 (Prod.fst (g (0 + (x + 1) % n)))),SV.v (.int .i64 (Prod.snd (g (0 + (x + 1) % n))))]) - Prod.snd (gi [SV.v (.int .i64 (Prod.fst (g (0 + x)))),SV.v (.int .i64 (Prod.snd (g (0 + x))))]))))∧((Sp (Prod.fst (gi [SV.v (.int .i64 (Prod.fst (g (0 + (x + 2) % n)))),SV.v (.int .i64 (Prod.snd (g (0 + (x + 2) % n))))]) - Prod.fst (gi [SV.v (.int .i64 (Prod.fst (g (0 + (x + 1) % n)))),SV.v (.int .i64 (Prod.snd (g (0 + (x + 1) % n))))])))∧(Sp (Prod.snd (gi [SV.v (.int .i64 (Prod.fst (g (0 + (x + 2) % n)))),SV.v (.int .i64 (Prod.snd (g (0 + (x + 2) % n))))]) - Prod.snd (gi [SV.v (.int .i64 (Prod.fst (g (0 + (x + 1) % n)))),SV.v (.int .i64 (Prod.snd (g (0 + (x + 1) % n))))])))))∧(((Sp (Prod.fst (gi [SV.v (.int .i64 (Prod.fst (g (0 + (x + 1) % n)))),SV.v (.int .i64 (Prod.snd (g (0 + (x + 1) % n))))]) - Prod.fst (gi [SV.v (.int .i64 (Prod.fst (g (0 + x)))),SV.v (.int .i64 (Prod.snd (g (0 + x))))])))∧(Sp (Prod.snd (gi [SV.v (.int .i64 (Prod.fst (g (0 + (x + 1) % n)))),SV.v (.int .i64 (Prod.snd (g (0 + (x + 1) % n))))]) - Prod.snd (gi [SV.v (.int .i64 (Prod.fst (g (0 + x)))),SV.v (.int .i64 (Prod.snd (g (0 + x))))]))))∧(((Sp (Prod.fst (gi [SV.v (.int .i64 (Prod.fst (g (0 + (x + 2) % n)))),SV.v (.int .i64 (Prod.snd (g (0 + (x + 2) % n))))]) - Prod.fst (gi [SV.v (.int .i64 (Prod.fst (g (0 + (x + 1) % n)))),SV.v (.int .i64 (Prod.snd (g (0 + (x + 1) % n))))])))∧(Sp (Prod.snd (gi [SV.v (.int .i64 (Prod.fst (g (0 + (x + 2) % n)))),SV.v (.int .i64 (Prod.snd (g (0 + (x + 2) % n))))]) - Prod.snd (gi [SV.v (.int .i64 (Prod.fst (g (0 + (x + 1) % n)))),SV.v (.int .i64 (Prod.snd (g (0 + (x + 1) % n))))]))))∧(sel (decide (Qap (Prod.fst (gi [SV.v (.int .i64 (Prod.fst (g (0 + (x + 1) % n)))),SV.v (.int .i64 (Prod.snd (g (0 + (x + 1) % n))))]) - Prod.fst (gi [SV.v (.int .i64 (Prod.fst (g (0 + x)))),SV.v (.int .i64 (Prod.snd (g (0 + x))))])) (Prod.snd (gi [SV.v (.int .i64 (Prod.fst (g (0 + (x + 1) % n)))),SV.v (.int .i64 (Prod.snd (g (0 + (x + 1) % n))))]) - Prod.snd (gi [SV.v (.int .i64 (Prod.fst (g (0 + x)))),SV.v (.int .i64 (Prod.snd (g (0 + x))))])) (Prod.fst (gi [SV.v (.int .i64 (Prod.fst (g (0 + (x + 2) % n)))),SV.v (.int .i64 (Prod.snd (g (0 + (x + 2) % n))))]) - Prod.fst (gi [SV.v (.int .i64 (Prod.fst (g (0 + (x + 1) % n)))),SV.v (.int .i64 (Prod.snd (g (0 + (x + 1) % n))))])) (Prod.snd (gi [SV.v (.int .i64 (Prod.fst (g (0 + (x + 2) % n)))),SV.v (.int .i64 (Prod.snd (g (0 + (x + 2) % n))))]) - Prod.snd (gi [SV.v (.int .i64 (Prod.fst (g (0 + (x + 1) % n)))),SV.v (.int .i64 (Prod.snd (g (0 + (x + 1) % n))))])) < IntKind.wrap IntKind.i64 (4 * IntKind.wrap IntKind.i64 (Qik (Prod.fst (gi [SV.v (.int .i64 (Prod.fst (g (0 + (x + 1) % n)))),SV.v (.int .i64 (Prod.snd (g (0 + (x + 1) % n))))]) - Prod.fst (gi [SV.v (.int .i64 (Prod.fst (g (0 + x)))),SV.v (.int .i64 (Prod.snd (g (0 + x))))])) (Prod.snd (gi [SV.v (.int .i64 (Prod.fst (g (0 + (x + 1) % n)))),SV.v (.int .i64 (Prod.snd (g (0 + (x + 1) % n))))]) - Prod.snd (gi [SV.v (.int .i64 (Prod.fst (g (0 + x)))),SV.v (.int .i64 (Prod.snd (g (0 + x))))])) + Qik (Prod.fst (gi [SV.v (.int .i64 (Prod.fst (g (0 + (x + 2) % n)))),SV.v (.int .i64 (Prod.snd (g (0 + (x + 2) % n))))]) - Prod.fst (gi [SV.v (.int .i64 (Prod.fst (g (0 + (x + 1) % n)))),SV.v (.int .i64 (Prod.snd (g (0 + (x + 1) % n))))])) (Prod.snd (gi [SV.v (.int .i64 (Prod.fst (g (0 + (x + 2) % n)))),SV.v (.int .i64 (Prod.snd (g (0 + (x + 2) % n))))]) - Prod.snd (gi [SV.v (.int .i64 (Prod.fst (g (0 + (x + 1) % n)))),SV.v (.int .i64 (Prod.snd (g (0 + (x + 1) % n))))])))))) ((SV.v (.bool false)) = (SV.v (.bool (Qdi n g)))) ((∃ x_1 : (Nat × Nat),((((((Prod.fst x_1) : Nat) < n)∧((((Prod.snd x_1) : Nat) ≤ n)∧(∀ j : Nat,(((j : Nat) < (Prod.snd x_1))→(okR n g (Prod.fst x_1) j = true)))))∧(((Zfa (SV.agg [SV.v (.int .i64 (↑x : Int)),SV.v (.int .i64 (Prod.fst (gi [SV.v (.int .i64 (Prod.fst (g (0 + x)))),SV.v (.int .i64 (Prod.snd (g (0 + x))))]))),SV.v (.int .i64 (Prod.snd (gi [SV.v (.int .i64 (Prod.fst (g (0 + x)))),SV.v (.int .i64 (Prod.snd (g (0 + x))))]))),SV.v (.int .i64 (Prod.fst (gi [SV.v (.int .i64 (Prod.fst (g (0 + (x + 1) % n)))),SV.v (.int .i64 (Prod.snd (g (0 + (x + 1) % n))))]))),SV.v (.int .i64 (Prod.snd (gi [SV.v (.int .i64 (Prod.fst (g (0 + (x + 1) % n)))),SV.v (.int .i64 (Prod.snd (g (0 + (x + 1) % n))))]))),SV.v (.int .i64 (Prod.fst (gi [SV.v (.int .i64 (Prod.fst (g (0 + (x + 2) % n)))),SV.v (.int .i64 (Prod.snd (g (0 + (x + 2) % n))))]))),SV.v (.int .i64 (Prod.snd (gi [SV.v (.int .i64 (Prod.fst (g (0 + (x + 2) % n)))),SV.v (.int .i64 (Prod.snd (g (0 + (x + 2) % n))))])))])) : Int) = ((↑(Prod.fst x_1) : Int))))∧(((SV.v (.int .i64 0)) = (SV.v (.int .i64 ((↑(Prod.snd x_1) : Int)))))∧(((1 : Nat) = 1)∧(((1 : Nat) ≤ 1)∧(∀ i : Nat,(((i : Nat) < 1)→([(SV.v (.bool false))] = [(SV.v (.bool false))]))))))))∧(∀ x_1 : (Nat × Nat),((((((Prod.fst x_1) : Nat) < n)∧((((Prod.snd x_1) : Nat) ≤ n)∧(∀ j : Nat,(((j : Nat) < (Prod.snd x_1))→(okR n g (Prod.fst x_1) j = true)))))∧(((Zfa (SV.agg [SV.v (.int .i64 (↑x : Int)),SV.v (.int .i64 (Prod.fst (gi [SV.v (.int .i64 (Prod.fst (g (0 + x)))),SV.v (.int .i64 (Prod.snd (g (0 + x))))]))),SV.v (.int .i64 (Prod.snd (gi [SV.v (.int .i64 (Prod.fst (g (0 + x)))),SV.v (.int .i64 (Prod.snd (g (0 + x))))]))),SV.v (.int .i64 (Prod.fst (gi [SV.v (.int .i64 (Prod.fst (g (0 + (x + 1) % n)))),SV.v (.int .i64 (Prod.snd (g (0 + (x + 1) % n))))]))),SV.v (.int .i64 (Prod.snd (gi [SV.v (.int .i64 (Prod.fst (g (0 + (x + 1) % n)))),SV.v (.int .i64 (Prod.snd (g (0 + (x + 1) % n))))]))),SV.v (.int .i64 (Prod.fst (gi [SV.v (.int .i64 (Prod.fst (g (0 + (x + 2) % n)))),SV.v (.int .i64 (Prod.snd (g (0 + (x + 2) % n))))]))),SV.v (.int .i64 (Prod.snd (gi [SV.v (.int .i64 (Prod.fst (g (0 + (x + 2) % n)))),SV.v (.int .i64 (Prod.snd (g (0 + (x + 2) % n))))])))])) : Int) = ((↑(Prod.fst x_1) : Int))))→(sel (decide ((↑(Prod.snd x_1) : Int) < (↑n : Int))) ((((0 : Int) ≤ ((↑(Prod.snd x_1) : Int)))∧((((↑(Prod.snd x_1) : Int)) : Int) < ((↑n : Int))))∧(sel ((↑(Prod.snd x_1) : Int) != (↑x : Int)) (((((↑n : Int)) : Int) ≠ 0)∧(sel ((↑(Prod.snd x_1) : Int) != Int.tmod (IntKind.wrap IntKind.i64 ((↑x : Int) + 1)) (↑n : Int)) ((((Sp (Prod.fst (g (0 + Int.toNat (↑(Prod.snd x_1) : Int)))))∧(Sp (Prod.snd (g (0 + Int.toNat (↑(Prod.snd x_1) : Int))))))∧((Sp (Prod.fst (gi [SV.v (.int .i64 (Prod.fst (g (0 + x)))),SV.v (.int .i64 (Prod.snd (g (0 + x))))])))∧(Sp (Prod.snd (gi [SV.v (.int .i64 (Prod.fst (g (0 + x)))),SV.v (.int .i64 (Prod.snd (g (0 + x))))])))))∧((((Sp (Prod.fst (gi [SV.v (.int .i64 (Prod.fst (g (0 + (x + 1) % n)))),SV.v (.int .i64 (Prod.snd (g (0 + (x + 1) % n))))]) - Prod.fst (gi [SV.v (.int .i64 (Prod.fst (g (0 + x)))),SV.v (.int .i64 (Prod.snd (g (0 + x))))])))∧(Sp (Prod.snd (gi [SV.v (.int .i64 (Prod.fst (g (0 + (x + 1) % n)))),SV.v (.int .i64 (Prod.snd (g (0 + (x + 1) % n))))]) - Prod.snd (gi [SV.v (.int .i64 (Prod.fst (g (0 + x)))),SV.v (.int .i64 (Prod.snd (g (0 + x))))]))))∧((Sp (Prod.fst (g (0 + Int.toNat (↑(Prod.snd x_1) : Int))) - Prod.fst (gi [SV.v (.int .i64 (Prod.fst (g (0 + x)))),SV.v (.int .i64 (Prod.snd (g (0 + x))))])))∧(Sp (Prod.snd (g (0 + Int.toNat (↑(Prod.snd x_1) : Int))) - Prod.snd (gi [SV.v (.int .i64 (Prod.fst (g (0 + x)))),SV.v (.int .i64 (Prod.snd (g (0 + x))))])))))∧(sel (decide (Qap (Prod.fst (gi [SV.v (.int .i64 (Prod.fst (g (0 + (x + 1) % n)))),SV.v (.int .i64 (Prod.snd (g (0 + (x + 1) % n))))]) - Prod.fst (gi [SV.v (.int .i64 (Prod.fst (g (0 + x)))),SV.v (.int .i64 (Prod.snd (g (0 + x))))])) (Prod.snd (gi [SV.v (.int .i64 (Prod.fst (g (0 + (x + 1) % n)))),SV.v (.int .i64 (Prod.snd (g (0 + (x + 1) % n))))]) - Prod.snd (gi [SV.v (.int .i64 (Prod.fst (g (0 + x)))),SV.v (.int .i64 (Prod.snd (g (0 + x))))])) (Prod.fst (g (0 + Int.toNat (↑(Prod.snd x_1) : Int))) - Prod.fst (gi [SV.v (.int .i64 (Prod.fst (g (0 + x)))),SV.v (.int .i64 (Prod.snd (g (0 + x))))])) (Prod.snd (g (0 + Int.toNat (↑(Prod.snd x_1) : Int))) - Prod.snd (gi [SV.v (.int .i64 (Prod.fst (g (0 + x)))),SV.v (.int .i64 (Prod.snd (g (0 + x))))])) ≤ 0)) ((SV.v (.bool false)) = (SV.v (.bool (Qdi n g)))) (∃ x' : (Nat × Nat),(((((((Prod.fst x') : Nat) < n)∧((((Prod.snd x') : Nat) ≤ n)∧(∀ j : Nat,(((j : Nat) < (Prod.snd x'))→(okR n g (Prod.fst x') j = true)))))∧(((Zfa (SV.agg [SV.v (.int .i64 (↑x : Int)),SV.v (.int .i64 (Prod.fst (gi [SV.v (.int .i64 (Prod.fst (g (0 + x)))),SV.v (.int .i64 (Prod.snd (g (0 + x))))]))),SV.v (.int .i64 (Prod.snd (gi [SV.v (.int .i64 (Prod.fst (g (0 + x)))),SV.v (.int .i64 (Prod.snd (g (0 + x))))]))),SV.v (.int .i64 (Prod.fst (gi [SV.v (.int .i64 (Prod.fst (g (0 + (x + 1) % n)))),SV.v (.int .i64 (Prod.snd (g (0 + (x + 1) % n))))]))),SV.v (.int .i64 (Prod.snd (gi [SV.v (.int .i64 (Prod.fst (g (0 + (x + 1) % n)))),SV.v (.int .i64 (Prod.snd (g (0 + (x + 1) % n))))]))),SV.v (.int .i64 (Prod.fst (gi [SV.v (.int .i64 (Prod.fst (g (0 + (x + 2) % n)))),SV.v (.int .i64 (Prod.snd (g (0 + (x + 2) % n))))]))),SV.v (.int .i64 (Prod.snd (gi [SV.v (.int .i64 (Prod.fst (g (0 + (x + 2) % n)))),SV.v (.int .i64 (Prod.snd (g (0 + (x + 2) % n))))])))])) : Int) = ((↑(Prod.fst x') : Int))))∧(((SV.v (.int .i64 (IntKind.wrap IntKind.i64 ((↑(Prod.snd x_1) : Int) + 1)))) = (SV.v (.int .i64 ((↑(Prod.snd x') : Int)))))∧(((1 : Nat) = 1)∧(((1 : Nat) ≤ 1)∧(∀ i : Nat,(((i : Nat) < 1)→([(SV.v (.bool false))] = [(SV.v (.bool false))])))))))∧(((n - Prod.snd x') : Nat) < (n - Prod.snd x_1))))))) (∃ x' : (Nat × Nat),(((((((Prod.fst x') : Nat) < n)∧((((Prod.snd x') : Nat) ≤ n)∧(∀ j : Nat,(((j : Nat) < (Prod.snd x'))→(okR n g (Prod.fst x') j = true)))))∧(((Zfa (SV.agg [SV.v (.int .i64 (↑x : Int)),SV.v (.int .i64 (Prod.fst (gi [SV.v (.int .i64 (Prod.fst (g (0 + x)))),SV.v (.int .i64 (Prod.snd (g (0 + x))))]))),SV.v (.int .i64 (Prod.snd (gi [SV.v (.int .i64 (Prod.fst (g (0 + x)))),SV.v (.int .i64 (Prod.snd (g (0 + x))))]))),SV.v (.int .i64 (Prod.fst (gi [SV.v (.int .i64 (Prod.fst (g (0 + (x + 1) % n)))),SV.v (.int .i64 (Prod.snd (g (0 + (x + 1) % n))))]))),SV.v (.int .i64 (Prod.snd (gi [SV.v (.int .i64 (Prod.fst (g (0 + (x + 1) % n)))),SV.v (.int .i64 (Prod.snd (g (0 + (x + 1) % n))))]))),SV.v (.int .i64 (Prod.fst (gi [SV.v (.int .i64 (Prod.fst (g (0 + (x + 2) % n)))),SV.v (.int .i64 (Prod.snd (g (0 + (x + 2) % n))))]))),SV.v (.int .i64 (Prod.snd (gi [SV.v (.int .i64 (Prod.fst (g (0 + (x + 2) % n)))),SV.v (.int .i64 (Prod.snd (g (0 + (x + 2) % n))))])))])) : Int) = ((↑(Prod.fst x') : Int))))∧(((SV.v (.int .i64 (IntKind.wrap IntKind.i64 ((↑(Prod.snd x_1) : Int) + 1)))) = (SV.v (.int .i64 ((↑(Prod.snd x') : Int)))))∧(((1 : Nat) = 1)∧(((1 : Nat) ≤ 1)∧(∀ i : Nat,(((i : Nat) < 1)→([(SV.v (.bool false))] = [(SV.v (.bool false))])))))))∧(((n - Prod.snd x') : Nat) < (n - Prod.snd x_1)))))) (∃ x' : (Nat × Nat),(((((((Prod.fst x') : Nat) < n)∧((((Prod.snd x') : Nat) ≤ n)∧(∀ j : Nat,(((j : Nat) < (Prod.snd x'))→(okR n g (Prod.fst x') j = true)))))∧(((Zfa (SV.agg [SV.v (.int .i64 (↑x : Int)),SV.v (.int .i64 (Prod.fst (gi [SV.v (.int .i64 (Prod.fst (g (0 + x)))),SV.v (.int .i64 (Prod.snd (g (0 + x))))]))),SV.v (.int .i64 (Prod.snd (gi [SV.v (.int .i64 (Prod.fst (g (0 + x)))),SV.v (.int .i64 (Prod.snd (g (0 + x))))]))),SV.v (.int .i64 (Prod.fst (gi [SV.v (.int .i64 (Prod.fst (g (0 + (x + 1) % n)))),SV.v (.int .i64 (Prod.snd (g (0 + (x + 1) % n))))]))),SV.v (.int .i64 (Prod.snd (gi [SV.v (.int .i64 (Prod.fst (g (0 + (x + 1) % n)))),SV.v (.int .i64 (Prod.snd (g (0 + (x + 1) % n))))]))),SV.v (.int .i64 (Prod.fst (gi [SV.v (.int .i64 (Prod.fst (g (0 + (x + 2) % n)))),SV.v (.int .i64 (Prod.snd (g (0 + (x + 2) % n))))]))),SV.v (.int .i64 (Prod.snd (gi [SV.v (.int .i64 (Prod.fst (g (0 + (x + 2) % n)))),SV.v (.int .i64 (Prod.snd (g (0 + (x + 2) % n))))])))])) : Int) = ((↑(Prod.fst x') : Int))))∧(((SV.v (.int .i64 (IntKind.wrap IntKind.i64 ((↑(Prod.snd x_1) : Int) + 1)))) = (SV.v (.int .i64 ((↑(Prod.snd x') : Int)))))∧(((1 : Nat) = 1)∧(((1 : Nat) ≤ 1)∧(∀ i : Nat,(((i : Nat) < 1)→([(SV.v (.bool false))] = [(SV.v (.bool false))])))))))∧(((n - Prod.snd x') : Nat) < (n - Prod.snd x_1)))))) (∃ x' : Nat,(((x' : Nat) = (x + 1))∧((((x' : Nat) ≤ n)∧(∀ j : Nat,(((j : Nat) < x')→(okC n g j = true))))∧(True∧(((1 : Nat) = 1)∧(((1 : Nat) ≤ 1)∧(∀ i : Nat,(((i : Nat) < 1)→([(SV.v (.bool false))] = [(SV.v (.bool false))]))))))))))))))))))))))))∧(∀ x : Nat,((((x : Nat) ≤ n)∧(∀ j : Nat,(((j : Nat) < x)→(okC n g j = true))))→(((x : Nat) = n)→((SV.v (.bool true)) = (SV.v (.bool (Qdi n g)))))))))):=by kernel_rfl
theorem Zan : ∀ f g, Zj6 f = some g → g.ok Tryz.prog f := Qab (Qab (Qab (Qab Qas (Qhu Tryz.func92 (by kernel_rfl) (by kernel_rfl) Qkb)) (Qak Tryz.func164 (by kernel_rfl) (by kernel_rfl) Qyv)) (Qak Tryz.func165 (by kernel_rfl) (by kernel_rfl) Qn6)) (Qak Tryz.func166 (by kernel_rfl) (by kernel_rfl) Q31)
theorem Sq.sp {x : Int} (h : Sq x) : Sp x := ⟨by have := h.1; omega, by have := h.2; omega⟩
theorem Sq.sub {x y : Int} (h : Sq x) (k : Sq y) : Sp (x - y) := ⟨by have := h.1; have := k.2; omega, by have := h.2; have := k.1; omega⟩
theorem Qp3 {x y z w : Int} (h : Sq x) (k : Sq y) (h' : Sq z) (k' : Sq w) : 0 ≤ Qik (x - y) (z - w) ∧ Qik (x - y) (z - w) ≤ 4194304 := by
 obtain ⟨a, b⟩ := h
 obtain ⟨c, d⟩ := k
 obtain ⟨a', b'⟩ := h'
 obtain ⟨c', d'⟩ := k'
 unfold Qik
 omega
theorem Qh4 {n : Nat} {f : Nat → Bool} (h : ∀ j, j < n → f j = true) : (List.range n).all f = true := by
 rw [List.all_eq_true]
 intro i hi
 exact h i (List.mem_range.1 hi)
theorem Qm9 {n : Nat} {f : Nat → Bool} {k : Nat} (hk : k < n) (h : f k = false) : (List.range n).all f = false := by
 rw [List.all_eq_false]
 exact ⟨k, List.mem_range.2 hk, by simp [h]⟩
theorem Qwu {n : Nat} {g : Nat → Int × Int} {k : Nat} (hk : k < n) (h : okC n g k = false) : Qdi n g = false := Qm9 hk h
theorem Qqg {n : Nat} {g : Nat → Int × Int} {k : Nat} (h : okE n g k = false) : okC n g k = false := by unfold okC; rw [h]; rfl
theorem Qwb {n : Nat} {g : Nat → Int × Int} {k i : Nat} (hi : i < n) (h : okR n g k i = false) : okC n g k = false := by unfold okC; rw [Qm9 hi h]; simp
theorem Q3c {n cap : Nat} {g : Nat → Int × Int} (hn : n ≤ 1099511627776) (hg : ∀ i, i < n → Sq (g i).1 ∧ Sq (g i).2) : Qcm Tryz.prog Zj6 (Qpo n g) Tryz.f91 [.sl 0 2 0 n cap] (Qbe [⟨2, n, Qco g⟩]) 64 (fun y _ => y = .v (.bool (Qdi n g))) := by
 refine Eq.mpr (Q54 n n cap g) ?_
 simp only [gi, Nat.zero_add]
 refine ⟨⟨rfl, hn, Nat.le_refl _, fun _ _ => trivial⟩, ⟨0, rfl, ⟨Nat.zero_le _, fun j hj => absurd hj (Nat.not_lt_zero _)⟩, trivial, trivial, Nat.le_refl _, fun _ _ => trivial⟩, fun k ⟨_, hdone⟩ hk => ?_, fun k ⟨_, hdone⟩ e => ?_⟩
 · have l1 : (k + 1) % n < n := Nat.mod_lt _ (by omega)
   have l2 : (k + 2) % n < n := Nat.mod_lt _ (by omega)
   obtain ⟨a1, a2⟩ := hg k hk
   obtain ⟨b1, b2⟩ := hg _ l1
   obtain ⟨c1, c2⟩ := hg _ l2
   refine ⟨⟨⟨b1.sp, b2.sp⟩, a1.sp, a2.sp⟩, ⟨⟨c1.sp, c2.sp⟩, b1.sp, b2.sp⟩, ⟨⟨a1.sp, a2.sp⟩, b1.sp, b2.sp⟩, ?_⟩
   have bad : ∀ {b : Bool}, okC n g k = false → SV.v (Value.bool false) = SV.v (Value.bool (Qdi n g)) := fun {b} h => by rw [Qwu hk h]
   refine Qaf (fun h => bad (b := true) (Qqg (by unfold okE Qad; rw [h]; rfl))) fun h1 => ?_
   have s1 := Qp3 b1 a1 b2 a2
   have s2 := Qp3 c1 b1 c2 b2
   refine ⟨⟨⟨b1.sub a1, b2.sub a2⟩, c1.sub b1, c2.sub b2⟩, ⟨b1.sub a1, b2.sub a2⟩, ⟨c1.sub b1, c2.sub b2⟩, ?_⟩
   rw [Qag (n := Qik _ _ + Qik _ _) ⟨by omega, by omega⟩, Qag ⟨by omega, by omega⟩]
   refine Qaf (fun h => bad (b := true) (Qqg (by unfold okE Qad Qt0 Qay; simp only; rw [h]; simp))) fun h2 => ?_
   have hE : okE n g k = true := by unfold okE Qad Qt0 Qay; simp only; rw [h1, h2]; rfl
   refine ⟨⟨(k, 0), ⟨⟨hk, Nat.zero_le _, fun j hj => absurd hj (Nat.not_lt_zero _)⟩, rfl⟩, rfl, trivial, Nat.le_refl _, fun _ _ => trivial⟩, ?_⟩
   rintro ⟨k', i⟩ ⟨⟨_, hi, hok⟩, hat⟩
   have hk' : k' = k := by
     have : (k : Int) = (k' : Int) := hat
     omega
   subst hk'
   simp only at hi hok ⊢
   have ew : i < n → IntKind.i64.wrap ((i : Int) + 1) = ((i + 1 : Nat) : Int) := fun h => by rw [Qag ⟨by omega, by omega⟩]; rfl
   have em : (IntKind.i64.wrap ((k' : Int) + 1)).tmod (n : Int) = (((k' + 1) % n : Nat) : Int) := by
     rw [Qag ⟨by omega, by omega⟩, Int.tmod_eq_emod_of_nonneg (by omega), Int.natCast_emod]; rfl
   have more : okR n g k' i = true → ∀ j, j < i + 1 → okR n g k' j = true := fun h j hj => by
     by_cases e : j = i
     · rw [e]; exact h
     · exact hok j (by omega)
   refine Qaf (fun hlt => ?_) fun hge => ?_
   · have hlt : i < n := by simpa using hlt
     refine ⟨⟨by omega, by omega⟩, Qaf (fun h3 => ⟨by omega, Qaf (fun h4 => ?_) fun h4 => ?_⟩) fun h3 => ?_⟩
     · obtain ⟨d1, d2⟩ := hg i hlt
       rw [Int.toNat_natCast]
       refine ⟨⟨⟨d1.sp, d2.sp⟩, a1.sp, a2.sp⟩, ⟨⟨b1.sub a1, b2.sub a2⟩, d1.sub a1, d2.sub a2⟩, Qaf (fun h5 => bad (b := true) (Qwb hlt ?_)) fun h5 => ?_⟩
       · rw [em] at h4
         have n1 : Nat.beq i k' = false := by
           cases e : Nat.beq i k' with
           | false => rfl
           | true => rw [Nat.eq_of_beq_eq_true e] at h3; simp at h3
         have n2 : Nat.beq i ((k' + 1) % n) = false := by
           cases e : Nat.beq i ((k' + 1) % n) with
           | false => rfl
           | true => rw [← Nat.eq_of_beq_eq_true e] at h4; simp at h4
         unfold okR Qad Qay
         simp only
         rw [n1, n2, h5]; rfl
       · have : okR n g k' i = true := by unfold okR Qad Qay; simp only; rw [h5]; simp
         exact ⟨(k', i + 1), ⟨⟨⟨hk, hlt, more this⟩, rfl⟩, by rw [ew hlt], trivial, Nat.le_refl _, fun _ _ => trivial⟩, by simp only; omega⟩
     · have : okR n g k' i = true := by
         rw [em] at h4
         have e : i = (k' + 1) % n := by
           have : (i : Int) = (((k' + 1) % n : Nat) : Int) := by simpa using h4
           omega
         unfold okR
         rw [← e, Nat.beq_refl]; simp
       exact ⟨(k', i + 1), ⟨⟨⟨hk, hlt, more this⟩, rfl⟩, by rw [ew hlt], trivial, Nat.le_refl _, fun _ _ => trivial⟩, by simp only; omega⟩
     · have : okR n g k' i = true := by
         have e : i = k' := by
           have : (i : Int) = (k' : Int) := by simpa using h3
           omega
         unfold okR
         rw [e, Nat.beq_refl]; simp
       exact ⟨(k', i + 1), ⟨⟨⟨hk, hlt, more this⟩, rfl⟩, by rw [ew hlt], trivial, Nat.le_refl _, fun _ _ => trivial⟩, by simp only; omega⟩
   · have e : i = n := by
       have : ¬ (i : Int) < (n : Int) := by simpa using hge
       omega
     subst e
     refine ⟨k' + 1, rfl, ⟨hk, fun j hj => ?_⟩, trivial, trivial, Nat.le_refl _, fun _ _ => trivial⟩
     by_cases e : j = k'
     · rw [e]; unfold okC; rw [hE, Qh4 hok]; rfl
     · exact hdone j (by omega)
 · subst e
   have : Qdi k g = true := Qh4 hdone
   rw [this]
theorem Qve : Qca Tryz.prog 91 Qkm := Qbw hm Zan Tryz.func91 (Λ := fun args bs => match args, bs with | [.sl 0 2 0 n _], [⟨2, _, row⟩] => Qpo n (fun i => gi (row i)) | _, _ => Qax) fun args bs p x h hp => by
 unfold Qkm at h
 split at h <;> try (cases h; done)
 rename_i n c n' row
 cases h
 obtain ⟨rfl, hn, h0⟩ := hp _ rfl
 refine ⟨rfl, [⟨2, n', Qco fun i => gi (row i)⟩], ⟨⟨rfl, rfl, fun i hi => (h0 i hi).1⟩, trivial⟩, ?_⟩
 exact Q3c hn fun i hi => (h0 i hi).2
def Zjt : SV → Int
 | .v (.int _ n) => n
 | _ => -1
def okS (n : Nat) (g : Nat → Int × Int) (i k : Nat) : Bool := !decide (Qad (Qay (g ((i + 1) % n)) (g i)) (Qay (g ((i + k) % n)) (g i)) ≤ 0)
noncomputable def Qmi (n : Nat) (g : Nat → Int × Int) : Nat → Option LoopSpec :=
 Qx6 (Qw4 (Qb9 Qax Tryz.f217 0 Nat (fun i => i ≤ n ∧ ∀ j, j < i → okC n g j = true) (fun i => n - i) [(4, fun i => .v (.int .i64 i))] [])
   Tryz.f217 2 (Nat × Nat) (fun x => x.1 < n ∧ 2 ≤ x.2 ∧ x.2 ≤ n + 2 ∧ ∀ j, 2 ≤ j → j < x.2 → j < n → okS n g x.1 j = true) (fun s x => Zjt (s.tmps.getD 4 .unk) = (x.1 : Int)) (fun x => n + 2 - x.2) [(8, fun x => .v (.int .i64 x.2))] []) 5 [(21, fun nx => nx + 144), (22, fun nx => nx + 152), (23, fun nx => nx + 160)]
def Zj5 : Qb7 := Qah (Qah (Qah Qbi 292 (Qaj Qot)) 221 (Qaj Qle)) 293 (Qaj Qxm)
theorem Qz2 (n n' cap : Nat) (g : Nat→Int × Int) : (Qcm Tryz.prog Zj5 (Qmi n g) Tryz.f217 [.sl 0 2 0 n cap] (Qbe [⟨2,n',Qco g⟩]) 64 (fun y _ => y = .v (.bool (Qdi n g)))) =
((∃ x : Nat,((((x : Nat) ≤ n)∧(∀ j : Nat,(((j : Nat) < x)→(okC n g j = true))))∧(((SV.v (.int .i64 0)) = (SV.v (.int .i64 ((↑x : Int)))))∧True)))∧(∀ x : Nat,((((x : Nat) ≤ n)∧(∀ j : Nat,(((j : Nat) < x)→(okC n g j = true))))→(sel (decide ((↑x : Int) < (↑n : Int))) ((((0 : Int) ≤ ((↑x : Int)))∧((((↑x : Int)) : Int) < ((↑n : Int))))∧(((((↑n : Int)) : Int) ≠ 0)∧((((0 : Int) ≤ (Int.tmod (IntKind.wrap IntKind.i64 ((↑x : Int) + 1)) (↑n : Int)))∧(((Int.tmod (IntKind.wrap IntKind.i64 ((↑x : Int) + 1)) (↑n : Int)) : Int) < ((↑n : Int))))∧(((((↑n : Int)) : Int) ≠ 0)∧((((0 : Int) ≤ (Int.tmod (IntKind.wrap IntKind.i64 ((↑x : Int) + 2)) (↑n : Int)))∧(((Int.tmod (IntKind.wrap IntKind.i64 ((↑x : Int) + 2)) (↑n : Int)) : Int) < ((↑n : Int))))∧((((Sp (Prod.fst (g (0 + Int.toNat (↑x : Int)))))∧(Sp (Prod.snd (g (0 + Int.toNat (↑x : Int))))))∧((Sp (Prod.fst (g (0 + Int.toNat (Int.tmod (IntKind.wrap IntKind.i64 ((↑x : Int) + 1)) (↑n : Int))))))∧(Sp (Prod.snd (g (0 + Int.toNat (Int.tmod (IntKind.wrap IntKind.i64 ((↑x : Int) + 1)) (↑n : Int))))))))∧(sel (decide (Qap (Prod.fst (g (0 + Int.toNat (↑x : Int)))) (Prod.snd (g (0 + Int.toNat (↑x : Int)))) (Prod.fst (g (0 + Int.toNat (Int.tmod (IntKind.wrap IntKind.i64 ((↑x : Int) + 1)) (↑n : Int))))) (Prod.snd (g (0 + Int.toNat (Int.tmod (IntKind.wrap IntKind.i64 ((↑x : Int) + 1)) (↑n : Int))))) ≤ 0)) ((SV.v (.bool false)) = (SV.v (.bool (Qdi n g)))) ((((Sp (Prod.fst (g (0 + Int.toNat (Int.tmod (IntKind.wrap IntKind.i64 ((↑x : Int) + 1)) (↑n : Int))))))∧(Sp (Prod.snd (g (0 + Int.toNat (Int.tmod (IntKind.wrap IntKind.i64 ((↑x : Int) + 1)) (↑n : Int)))))))∧((Sp (Prod.fst (g (0 + Int.toNat (↑x : Int)))))∧(Sp (Prod.snd (g (0 + Int.toNat (↑x : Int)))))))∧((((Sp (Prod.fst (g (0 + Int.toNat (Int.tmod (IntKind.wrap IntKind.i64 ((↑x : Int) + 2)) (↑n : Int))))))∧(Sp (Prod.snd (g (0 + Int.toNat (Int.tmod (IntKind.wrap IntKind.i64 ((↑x : Int) + 2)) (↑n : Int)))))))∧((Sp (Prod.fst (g (0 + Int.toNat (Int.tmod (IntKind.wrap IntKind.i64 ((↑x : Int) + 1)) (↑n : Int))))))∧(Sp (Prod.snd (g (0 + Int.toNat (Int.tmod (IntKind.wrap IntKind.i64 ((↑x : Int) + 1)) (↑n : Int))))))))∧((((Sp (Prod.fst (g (0 + Int.toNat (Int.tmod (IntKind.wrap IntKind.i64 ((↑x : Int) + 1)) (↑n : Int)))) - Prod.fst (g (0 + Int.toNat (↑x : Int)))))∧(Sp (Prod.snd (g (0 + Int.toNat (Int.tmod (IntKind.wrap IntKind.i64 ((↑x : Int) + 1)) (↑n : Int)))) - Prod.snd (g (0 + Int.toNat (↑x : Int))))))∧((Sp (Prod.fst (g (0 + Int.toNat (Int.tmod (IntKind.wrap IntKind.i64 ((↑x : Int) + 2)) (↑n : Int)))) - Prod.fst (g (0 + Int.toNat (Int.tmod (IntKind.wrap IntKind.i64 ((↑x : Int) + 1)) (↑n : Int))))))∧(Sp (Prod.snd (g (0 + Int.toNat (Int.tmod (IntKind.wrap IntKind.i64 ((↑x : Int) + 2)) (↑n : Int)))) - Prod.snd (g (0 + Int.toNat (Int.tmod (IntKind.wrap IntKind.i64 ((↑x : Int) + 1)) (↑n : Int))))))))∧((((Sp (Prod.fst (g (0 + Int.toNat (Int.tmod (IntKind.wrap IntKind.i64 ((↑x : Int) + 1)) (↑n : Int))))))∧(Sp (Prod.snd (g (0 + Int.toNat (Int.tmod (IntKind.wrap IntKind.i64 ((↑x : Int) + 1)) (↑n : Int)))))))∧((Sp (Prod.fst (g (0 + Int.toNat (↑x : Int)))))∧(Sp (Prod.snd (g (0 + Int.toNat (↑x : Int)))))))∧(((Sp (Prod.fst (g (0 + Int.toNat (Int.tmod (IntKind.wrap IntKind.i64 ((↑x : Int) + 1)) (↑n : Int)))) - Prod.fst (g (0 + Int.toNat (↑x : Int)))))∧(Sp (Prod.snd (g (0 + Int.toNat (Int.tmod (IntKind.wrap IntKind.i64 ((↑x : Int) + 1)) (↑n : Int)))) - Prod.snd (g (0 + Int.toNat (↑x : Int))))))∧((((Sp (Prod.fst (g (0 + Int.toNat (Int.tmod (IntKind.wrap IntKind.i64 ((↑x : Int) + 2)) (↑n : Int))))))∧(Sp (Prod.snd (g (0 + Int.toNat (Int.tmod (IntKind.wrap IntKind.i64 ((↑x : Int) + 2)) (↑n : Int)))))))∧((Sp (Prod.fst (g (0 + Int.toNat (Int.tmod (IntKind.wrap IntKind.i64 ((↑x : Int) + 1)) (↑n : Int))))))∧(Sp (Prod.snd (g (0 + Int.toNat (Int.tmod (IntKind.wrap IntKind.i64 ((↑x : Int) + 1)) (↑n : Int))))))))∧(((Sp (Prod.fst (g (0 + Int.toNat (Int.tmod (IntKind.wrap IntKind.i64 ((↑x : Int) + 2)) (↑n : Int)))) - Prod.fst (g (0 + Int.toNat (Int.tmod (IntKind.wrap IntKind.i64 ((↑x : Int) + 1)) (↑n : Int))))))∧(Sp (Prod.snd (g (0 + Int.toNat (Int.tmod (IntKind.wrap IntKind.i64 ((↑x : Int) + 2)) (↑n : Int)))) - Prod.snd (g (0 + Int.toNat (Int.tmod (IntKind.wrap IntKind.i64 ((↑x : Int) + 1)) (↑n : Int)))))))∧(sel (decide (Qap (Prod.fst (g (0 + Int.toNat (Int.tmod (IntKind.wrap IntKind.i64 ((↑x : Int) + 1)) (↑n : Int)))) - Prod.fst (g (0 + Int.toNat (↑x : Int)))) (Prod.snd (g (0 + Int.toNat (Int.tmod (IntKind.wrap IntKind.i64 ((↑x : Int) + 1)) (↑n : Int)))) - Prod.snd (g (0 + Int.toNat (↑x : Int)))) (Prod.fst (g (0 + Int.toNat (Int.tmod (IntKind.wrap IntKind.i64 ((↑x : Int) + 2)) (↑n : Int)))) - Prod.fst (g (0 + Int.toNat (Int.tmod (IntKind.wrap IntKind.i64 ((↑x : Int) + 1)) (↑n : Int))))) (Prod.snd (g (0 + Int.toNat (Int.tmod (IntKind.wrap IntKind.i64 ((↑x : Int) + 2)) (↑n : Int)))) - Prod.snd (g (0 + Int.toNat (Int.tmod (IntKind.wrap IntKind.i64 ((↑x : Int) + 1)) (↑n : Int))))) < IntKind.wrap IntKind.i64 (4 * IntKind.wrap IntKind.i64 (Qik (Prod.fst (g (0 + Int.toNat (Int.tmod (IntKind.wrap IntKind.i64 ((↑x : Int) + 1)) (↑n : Int)))) - Prod.fst (g (0 + Int.toNat (↑x : Int)))) (Prod.snd (g (0 + Int.toNat (Int.tmod (IntKind.wrap IntKind.i64 ((↑x : Int) + 1)) (↑n : Int)))) - Prod.snd (g (0 + Int.toNat (↑x : Int)))) + Qik (Prod.fst (g (0 + Int.toNat (Int.tmod (IntKind.wrap IntKind.i64 ((↑x : Int) + 2)) (↑n : Int)))) - Prod.fst (g (0 + Int.toNat (Int.tmod (IntKind.wrap IntKind.i64 ((↑x : Int) + 1)) (↑n : Int))))) (Prod.snd (g (0 + Int.toNat (Int.tmod (IntKind.wrap IntKind.i64 ((↑x : Int) + 2)) (↑n : Int)))) - Prod.snd (g (0 + Int.toNat (Int.tmod (IntKind.wrap IntKind.i64 ((↑x : Int) + 1)) (↑n : Int))))))))) ((SV.v (.bool false)) = (SV.v (.bool (Qdi n g)))) ((∃ x_1 : (Nat × Nat),((((((Prod.fst x_1) : Nat) < n)∧(((2 : Nat) ≤ (Prod.snd x_1))∧((((Prod.snd x_1) : Nat) ≤ (n + 2))∧(∀ j : Nat,(((2 : Nat) ≤ j)→(((j : Nat) < (Prod.snd x_1))→(((j : Nat) < n)→(okS n g (Prod.fst x_1) j = true))))))))∧(((Zjt (SV.v (.int .i64 (↑x : Int)))) : Int) = ((↑(Prod.fst x_1) : Int))))∧(((SV.v (.int .i64 2)) = (SV.v (.int .i64 ((↑(Prod.snd x_1) : Int)))))∧True)))∧(∀ x_1 : (Nat × Nat),((((((Prod.fst x_1) : Nat) < n)∧(((2 : Nat) ≤ (Prod.snd x_1))∧((((Prod.snd x_1) : Nat) ≤ (n + 2))∧(∀ j : Nat,(((2 : Nat) ≤ j)→(((j : Nat) < (Prod.snd x_1))→(((j : Nat) < n)→(okS n g (Prod.fst x_1) j = true))))))))∧(((Zjt (SV.v (.int .i64 (↑x : Int)))) : Int) = ((↑(Prod.fst x_1) : Int))))→(sel (decide ((↑(Prod.snd x_1) : Int) < (↑n : Int))) ((((Sp (Prod.fst (g (0 + Int.toNat (Int.tmod (IntKind.wrap IntKind.i64 ((↑x : Int) + 1)) (↑n : Int))))))∧(Sp (Prod.snd (g (0 + Int.toNat (Int.tmod (IntKind.wrap IntKind.i64 ((↑x : Int) + 1)) (↑n : Int)))))))∧((Sp (Prod.fst (g (0 + Int.toNat (↑x : Int)))))∧(Sp (Prod.snd (g (0 + Int.toNat (↑x : Int)))))))∧(((((↑n : Int)) : Int) ≠ 0)∧((((0 : Int) ≤ (Int.tmod (IntKind.wrap IntKind.i64 ((↑x : Int) + (↑(Prod.snd x_1) : Int))) (↑n : Int)))∧(((Int.tmod (IntKind.wrap IntKind.i64 ((↑x : Int) + (↑(Prod.snd x_1) : Int))) (↑n : Int)) : Int) < ((↑n : Int))))∧((((Sp (Prod.fst (g (0 + Int.toNat (Int.tmod (IntKind.wrap IntKind.i64 ((↑x : Int) + (↑(Prod.snd x_1) : Int))) (↑n : Int))))))∧(Sp (Prod.snd (g (0 + Int.toNat (Int.tmod (IntKind.wrap IntKind.i64 ((↑x : Int) + (↑(Prod.snd x_1) : Int))) (↑n : Int)))))))∧((Sp (Prod.fst (g (0 + Int.toNat (↑x : Int)))))∧(Sp (Prod.snd (g (0 + Int.toNat (↑x : Int)))))))∧((((Sp (Prod.fst (g (0 + Int.toNat (Int.tmod (IntKind.wrap IntKind.i64 ((↑x : Int) + 1)) (↑n : Int)))) - Prod.fst (g (0 + Int.toNat (↑x : Int)))))∧(Sp (Prod.snd (g (0 + Int.toNat (Int.tmod (IntKind.wrap IntKind.i64 ((↑x : Int) + 1)) (↑n : Int)))) - Prod.snd (g (0 + Int.toNat (↑x : Int))))))∧((Sp (Prod.fst (g (0 + Int.toNat (Int.tmod (IntKind.wrap IntKind.i64 ((↑x : Int) + (↑(Prod.snd x_1) : Int))) (↑n : Int)))) - Prod.fst (g (0 + Int.toNat (↑x : Int)))))∧(Sp (Prod.snd (g (0 + Int.toNat (Int.tmod (IntKind.wrap IntKind.i64 ((↑x : Int) + (↑(Prod.snd x_1) : Int))) (↑n : Int)))) - Prod.snd (g (0 + Int.toNat (↑x : Int)))))))∧(sel (decide (Qap (Prod.fst (g (0 + Int.toNat (Int.tmod (IntKind.wrap IntKind.i64 ((↑x : Int) + 1)) (↑n : Int)))) - Prod.fst (g (0 + Int.toNat (↑x : Int)))) (Prod.snd (g (0 + Int.toNat (Int.tmod (IntKind.wrap IntKind.i64 ((↑x : Int) + 1)) (↑n : Int)))) - Prod.snd (g (0 + Int.toNat (↑x : Int)))) (Prod.fst (g (0 + Int.toNat (Int.tmod (IntKind.wrap IntKind.i64 ((↑x : Int) + (↑(Prod.snd x_1) : Int))) (↑n : Int)))) - Prod.fst (g (0 + Int.toNat (↑x : Int)))) (Prod.snd (g (0 + Int.toNat (Int.tmod (IntKind.wrap IntKind.i64 ((↑x : Int) + (↑(Prod.snd x_1) : Int))) (↑n : Int)))) - Prod.snd (g (0 + Int.toNat (↑x : Int)))) ≤ 0)) ((SV.v (.bool false)) = (SV.v (.bool (Qdi n g)))) (∃ x' : (Nat × Nat),(((((((Prod.fst x') : Nat) < n)∧(((2 : Nat) ≤ (Prod.snd x'))∧((((Prod.snd x') : Nat) ≤ (n + 2))∧(∀ j : Nat,(((2 : Nat) ≤ j)→(((j : Nat) < (Prod.snd x'))→(((j : Nat) < n)→(okS n g (Prod.fst x') j = true))))))))∧(((Zjt (SV.v (.int .i64 (↑x : Int)))) : Int) = ((↑(Prod.fst x') : Int))))∧(((SV.v (.int .i64 (IntKind.wrap IntKind.i64 ((↑(Prod.snd x_1) : Int) + 1)))) = (SV.v (.int .i64 ((↑(Prod.snd x') : Int)))))∧True))∧(((n + 2 - Prod.snd x') : Nat) < (n + 2 - Prod.snd x_1)))))))))) (∃ x' : Nat,(((((x' : Nat) ≤ n)∧(∀ j : Nat,(((j : Nat) < x')→(okC n g j = true))))∧(((SV.v (.int .i64 (IntKind.wrap IntKind.i64 ((↑x : Int) + 1)))) = (SV.v (.int .i64 ((↑x' : Int)))))∧True))∧(((n - x') : Nat) < (n - x))))))))))))))))))))))) ((SV.v (.bool true)) = (SV.v (.bool (Qdi n g)))))))) := by kernel_rfl
structure ShB where
 k : Int
 r : Int
 w : Int
 h : Int
def shS (s : ShB) (x : SV) : SV := .agg [.v (.int .i64 s.k), .v (.int .i64 s.r), .v (.int .i64 s.w), .v (.int .i64 s.h), x]
def Qiq (s : ShB) : Prop := (I64 s.k ∧ I64 s.r) ∧ I64 s.w ∧ I64 s.h
def Qgh (p : Int × Int) : Bool := Qju p.1 && Qju p.2
def Qck (s : ShB) (n : Nat) (g : Nat → Int × Int) : Int :=
 bif s.k == 1 then (bif s.w != 0 || (s.h != 0 || ((n : Int)) != 0) then 4 else bif Qeb s.r then 0 else 3)
 else bif s.k == 2 then (bif s.r != 0 || (n : Int) != 0 then 4 else bif Qeb s.w && Qeb s.h then 0 else 3)
 else bif s.k == 3 then (bif s.r != 0 || (s.w != 0 || (s.h != 0 || (decide ((n : Int) < 3) || decide ((n : Int) > 8)))) then 4 else bif (List.range n).all (fun i => Qgh (g i)) then (bif Qdi n g then 0 else 5) else 3)
 else 8
def Qsc : List SV → Prop
 | [.v (.int .i64 a), .v (.int .i64 b)] => I64 a ∧ I64 b
 | _ => False
def Qhh : List SV → List Ro → Option (Option Prop × SV)
 | [.agg [.v (.int .i64 k), .v (.int .i64 r), .v (.int .i64 w), .v (.int .i64 h), .sl 0 2 0 n _]], [⟨2, n', row⟩] => some (some (Qiq ⟨k, r, w, h⟩ ∧ Qcc Qsc (Qal n' row) ∧ n' = n ∧ n < 1099511627776), .v (.int .i64 (Qck ⟨k, r, w, h⟩ n fun i => gi (row i))))
 | [.agg [.v (.int .i64 k), .v (.int .i64 r), .v (.int .i64 w), .v (.int .i64 h), .v (.slice none 0 0)]], [] => some (some (Qiq ⟨k, r, w, h⟩), .v (.int .i64 (Qck ⟨k, r, w, h⟩ 0 fun _ => (0, 0))))
 | _, _ => none
noncomputable def Qh5 (n : Nat) (g : Nat → Int × Int) : Nat → Option LoopSpec := Qb9 Qax Tryz.f25 1 Nat (fun i => i ≤ n ∧ ∀ j, j < i → Qgh (g j) = true) (fun i => n - i) [(78, fun i => .v (.int .i64 i))] []
noncomputable def Qf9 (n : Nat) (g : Nat → Int × Int) : Nat → Option LoopSpec := Qb9 Qax Tryz.f144 1 Nat (fun i => i ≤ n ∧ ∀ j, j < i → Qgh (g j) = true) (fun i => n - i) [(3, fun i => .v (.int .i64 i))] []
def Q45 : Qb7 := Qah (Qah (Qah (Qah (Qah Qbi 91 (Qcv Qkm)) 90 (Qaj Qoq)) 217 (Qcv Qkm)) 215 (Qaj Qoq)) 216 (Qaj Zcq)
theorem Q56 (s : ShB) (n n' cap : Nat) (g : Nat→Int × Int) (R : SV→Prop) : (Qcm Tryz.prog Q45 (Qh5 n g) Tryz.f25 [shS s (.sl 0 2 0 n cap)] (Qbe [⟨2,n',Qco g⟩]) 64 (fun y _ => R y)) =
(sel (ShB.k s == 1) (sel (ShB.w s != 0) (R (SV.v (.int .i64 4))) (sel (ShB.h s != 0) (R (SV.v (.int .i64 4))) (sel ((↑n : Int) != 0) (R (SV.v (.int .i64 4))) ((I64 (ShB.r s))∧(sel (!Qeb (ShB.r s)) (R (SV.v (.int .i64 3))) (R (SV.v (.int .i64 0)))))))) (sel (ShB.k s == 2) (sel (ShB.r s != 0) (R (SV.v (.int .i64 4))) (sel ((↑n : Int) != 0) (R (SV.v (.int .i64 4))) ((I64 (ShB.w s))∧(sel (!Qeb (ShB.w s)) (R (SV.v (.int .i64 3))) ((I64 (ShB.h s))∧(sel (!Qeb (ShB.h s)) (R (SV.v (.int .i64 3))) (R (SV.v (.int .i64 0))))))))) (sel (ShB.k s == 3) (sel (ShB.r s != 0) (R (SV.v (.int .i64 4))) (sel (ShB.w s != 0) (R (SV.v (.int .i64 4))) (sel (ShB.h s != 0) (R (SV.v (.int .i64 4))) (sel (decide ((↑n : Int) < 3)) (R (SV.v (.int .i64 4))) (sel (decide ((↑n : Int) > 8)) (R (SV.v (.int .i64 4))) ((∃ x : Nat,((((x : Nat) ≤ n)∧(∀ j : Nat,(((j : Nat) < x)→(Qgh (g j) = true))))∧(((SV.v (.int .i64 0)) = (SV.v (.int .i64 ((↑x : Int)))))∧True)))∧(∀ x : Nat,((((x : Nat) ≤ n)∧(∀ j : Nat,(((j : Nat) < x)→(Qgh (g j) = true))))→(sel (decide ((↑x : Int) < (↑n : Int))) ((((0 : Int) ≤ ((↑x : Int)))∧((((↑x : Int)) : Int) < ((↑n : Int))))∧(sel (decide (max (Prod.fst (g (0 + Int.toNat (↑x : Int)))) (Prod.snd (g (0 + Int.toNat (↑x : Int)))) > 4096)) (R (SV.v (.int .i64 3))) (sel (decide (min (Prod.fst (g (0 + Int.toNat (↑x : Int)))) (Prod.snd (g (0 + Int.toNat (↑x : Int)))) < -4096)) (R (SV.v (.int .i64 3))) (∃ x' : Nat,(((((x' : Nat) ≤ n)∧(∀ j : Nat,(((j : Nat) < x')→(Qgh (g j) = true))))∧(((SV.v (.int .i64 (IntKind.wrap IntKind.i64 ((↑x : Int) + 1)))) = (SV.v (.int .i64 ((↑x' : Int)))))∧True))∧(((n - x') : Nat) < (n - x))))))) ((((n : Nat) = n)∧(((n : Nat) ≤ 1099511627776)∧(Qp2 n fun y => [SV.v (.int .i64 (Prod.fst (g (0 + y)))),SV.v (.int .i64 (Prod.snd (g (0 + y))))])))∧(sel (!Qdi n fun i => gi [SV.v (.int .i64 (Prod.fst (g (0 + i)))),SV.v (.int .i64 (Prod.snd (g (0 + i))))]) (R (SV.v (.int .i64 5))) (R (SV.v (.int .i64 0)))))))))))))) (R (SV.v (.int .i64 8)))))) := by kernel_rfl
theorem Q0b (s : ShB) (g : Nat→Int × Int) (R : SV→Prop) : (Qcm Tryz.prog Q45 (Qh5 0 g) Tryz.f25 [shS s (.v (.slice none 0 0))] (Qbe []) 64 (fun y _ => R y)) = (sel (ShB.k s == 1) (sel (ShB.w s != 0) (R (SV.v (.int .i64 4))) (sel (ShB.h s != 0) (R (SV.v (.int .i64 4))) ((I64 (ShB.r s))∧(sel (!Qeb (ShB.r s)) (R (SV.v (.int .i64 3))) (R (SV.v (.int .i64 0))))))) (sel (ShB.k s == 2) (sel (ShB.r s != 0) (R (SV.v (.int .i64 4))) ((I64 (ShB.w s))∧(sel (!Qeb (ShB.w s)) (R (SV.v (.int .i64 3))) ((I64 (ShB.h s))∧(sel (!Qeb (ShB.h s)) (R (SV.v (.int .i64 3))) (R (SV.v (.int .i64 0)))))))) (sel (ShB.k s == 3) (sel (ShB.r s != 0) (R (SV.v (.int .i64 4))) (sel (ShB.w s != 0) (R (SV.v (.int .i64 4))) (sel (ShB.h s != 0) (R (SV.v (.int .i64 4))) (R (SV.v (.int .i64 4)))))) (R (SV.v (.int .i64 8)))))):=by kernel_rfl
theorem Qz3 (s : ShB) (n n' cap : Nat) (g : Nat→Int × Int) (R : SV→Prop) : (Qcm Tryz.prog Q45 (Qf9 n g) Tryz.f144 [shS s (.sl 0 2 0 n cap)] (Qbe [⟨2,n',Qco g⟩]) 64 (fun y _ => R y)) =
(sel (ShB.k s == 1) (sel (ShB.w s != 0) (R (SV.v (.int .i64 4))) (sel (ShB.h s != 0) (R (SV.v (.int .i64 4))) (sel (decide ((↑n : Int) > 0)) (R (SV.v (.int .i64 4))) ((I64 (ShB.r s))∧(sel (!Qeb (ShB.r s)) (R (SV.v (.int .i64 3))) (R (SV.v (.int .i64 0)))))))) (sel (ShB.k s == 2) (sel (ShB.r s != 0) (R (SV.v (.int .i64 4))) (sel (decide ((↑n : Int) > 0)) (R (SV.v (.int .i64 4))) ((I64 (ShB.w s))∧(sel (!Qeb (ShB.w s)) (R (SV.v (.int .i64 3))) ((I64 (ShB.h s))∧(sel (!Qeb (ShB.h s)) (R (SV.v (.int .i64 3))) (R (SV.v (.int .i64 0))))))))) (sel (ShB.k s == 3) (sel (ShB.r s != 0) (R (SV.v (.int .i64 4))) (sel (ShB.w s != 0) (R (SV.v (.int .i64 4))) (sel (ShB.h s != 0) (R (SV.v (.int .i64 4))) (sel (decide ((↑n : Int) < 3)) (R (SV.v (.int .i64 4))) (sel (decide ((↑n : Int) > 8)) (R (SV.v (.int .i64 4))) ((∃ x : Nat,((((x : Nat) ≤ n)∧(∀ j : Nat,(((j : Nat) < x)→(Qgh (g j) = true))))∧(((SV.v (.int .i64 0)) = (SV.v (.int .i64 ((↑x : Int)))))∧True)))∧(∀ x : Nat,((((x : Nat) ≤ n)∧(∀ j : Nat,(((j : Nat) < x)→(Qgh (g j) = true))))→(sel (decide ((↑x : Int) < (↑n : Int))) ((((0 : Int) ≤ ((↑x : Int)))∧((((↑x : Int)) : Int) < ((↑n : Int))))∧((I64 (Prod.fst (g (0 + Int.toNat (↑x : Int)))))∧(sel (!Qju (Prod.fst (g (0 + Int.toNat (↑x : Int))))) (R (SV.v (.int .i64 3))) ((((0 : Int) ≤ ((↑x : Int)))∧((((↑x : Int)) : Int) < ((↑n : Int))))∧((I64 (Prod.snd (g (0 + Int.toNat (↑x : Int)))))∧(sel (!Qju (Prod.snd (g (0 + Int.toNat (↑x : Int))))) (R (SV.v (.int .i64 3))) (∃ x' : Nat,(((((x' : Nat) ≤ n)∧(∀ j : Nat,(((j : Nat) < x')→(Qgh (g j) = true))))∧(((SV.v (.int .i64 (IntKind.wrap IntKind.i64 ((↑x : Int) + 1)))) = (SV.v (.int .i64 ((↑x' : Int)))))∧True))∧(((n - x') : Nat) < (n - x)))))))))) ((((n : Nat) = n)∧(((n : Nat) ≤ 1099511627776)∧(Qp2 n fun y => [SV.v (.int .i64 (Prod.fst (g (0 + y)))),SV.v (.int .i64 (Prod.snd (g (0 + y))))])))∧(sel (!Qdi n fun i => gi [SV.v (.int .i64 (Prod.fst (g (0 + i)))),SV.v (.int .i64 (Prod.snd (g (0 + i))))]) (R (SV.v (.int .i64 5))) (R (SV.v (.int .i64 0)))))))))))))) (R (SV.v (.int .i64 8)))))) := by kernel_rfl
theorem Qxd (s : ShB) (g : Nat→Int × Int) (R : SV→Prop) : (Qcm Tryz.prog Q45 (Qf9 0 g) Tryz.f144 [shS s (.v (.slice none 0 0))] (Qbe []) 64 (fun y _ => R y)) = (sel (ShB.k s == 1) (sel (ShB.w s != 0) (R (SV.v (.int .i64 4))) (sel (ShB.h s != 0) (R (SV.v (.int .i64 4))) ((I64 (ShB.r s))∧(sel (!Qeb (ShB.r s)) (R (SV.v (.int .i64 3))) (R (SV.v (.int .i64 0))))))) (sel (ShB.k s == 2) (sel (ShB.r s != 0) (R (SV.v (.int .i64 4))) ((I64 (ShB.w s))∧(sel (!Qeb (ShB.w s)) (R (SV.v (.int .i64 3))) ((I64 (ShB.h s))∧(sel (!Qeb (ShB.h s)) (R (SV.v (.int .i64 3))) (R (SV.v (.int .i64 0)))))))) (sel (ShB.k s == 3) (sel (ShB.r s != 0) (R (SV.v (.int .i64 4))) (sel (ShB.w s != 0) (R (SV.v (.int .i64 4))) (sel (ShB.h s != 0) (R (SV.v (.int .i64 4))) (R (SV.v (.int .i64 4)))))) (R (SV.v (.int .i64 8)))))):=by kernel_rfl
theorem Zh8 {a n : Nat} (h : a < 2 * n) : a % n = if a < n then a else a - n := by
 by_cases h' : a < n
 · rw [if_pos h', Nat.mod_eq_of_lt h']
 · rw [if_neg h', Nat.mod_eq_sub_mod (by omega), Nat.mod_eq_of_lt (by omega)]
theorem Q9g {n : Nat} {g : Nat → Int × Int} {i : Nat} (hi : i < n) (h : ∀ k, 2 ≤ k → k < n → okS n g i k = true) : (List.range n).all (okR n g i) = true := Qh4 fun j hj => by
 by_cases e : j = i
 · unfold okR; rw [e, Nat.beq_refl]; rfl
 · by_cases e' : j = (i + 1) % n
   · unfold okR; rw [← e', Nat.beq_refl]; simp
   · by_cases hl : i < j
     · have hk : j - i ≠ 1 := fun e'' => e' (by rw [Zh8 (by omega), if_pos (by omega)]; omega)
       have := h (j - i) (by omega) (by omega)
       unfold okS at this
       rw [show i + (j - i) = j by omega, Nat.mod_eq_of_lt hj] at this
       unfold okR; rw [this]; simp
     · have hk : j + n - i ≠ 1 := fun e'' => e' (by rw [Zh8 (by omega), if_neg (by omega)]; omega)
       have := h (j + n - i) (by omega) (by omega)
       unfold okS at this
       rw [show i + (j + n - i) = j + n by omega, Nat.add_mod_right, Nat.mod_eq_of_lt hj] at this
       unfold okR; rw [this]; simp
theorem Zh4 {n : Nat} {g : Nat → Int × Int} {i k : Nat} (hi : i < n) (h2 : 2 ≤ k) (hk : k < n) (h : okS n g i k = false) : okC n g i = false := by
 refine Qwb (i := (i + k) % n) (Nat.mod_lt _ (by omega)) ?_
 have n1 : Nat.beq ((i + k) % n) i = false := Go.SE.Qb0 (by rw [Zh8 (by omega)]; split <;> omega)
 have n2 : Nat.beq ((i + k) % n) ((i + 1) % n) = false := Go.SE.Qb0 (by rw [Zh8 (by omega), Zh8 (by omega)]; split <;> split <;> omega)
 unfold okS at h
 unfold okR
 rw [n1, n2, h]; rfl
theorem Zam : ∀ f g, Zj5 f = some g → g.ok Tryz.prog f := Qab (Qab (Qab Qas (Qak Tryz.func292 (by kernel_rfl) (by kernel_rfl) Qu7)) (Qak Tryz.func221 (by kernel_rfl) (by kernel_rfl) Qlr)) (Qak Tryz.func293 (by kernel_rfl) (by kernel_rfl) Qyl)
theorem Qxr {n cap : Nat} {g : Nat → Int × Int} (hn : n ≤ 1099511627776) (hg : ∀ i, i < n → Sq (g i).1 ∧ Sq (g i).2) : Qcm Tryz.prog Zj5 (Qmi n g) Tryz.f217 [.sl 0 2 0 n cap] (Qbe [⟨2, n, Qco g⟩]) 64 (fun y _ => y = .v (.bool (Qdi n g))) := by
 refine Eq.mpr (Qz2 n n cap g) ?_
 simp only [Nat.zero_add, Int.toNat_natCast]
 refine ⟨⟨0, ⟨Nat.zero_le _, fun j hj => absurd hj (Nat.not_lt_zero _)⟩, rfl, trivial⟩, fun i ⟨hi, hdone⟩ => Qaf (fun hlt => ?_) fun hge => ?_⟩
 · have hlt : i < n := by simpa using hlt
   have em : ∀ k : Nat, k ≤ n + 2 → (IntKind.i64.wrap ((i : Int) + (k : Int))).tmod (n : Int) = (((i + k) % n : Nat) : Int) := fun k hk => by
     rw [Qag ⟨by omega, by omega⟩, Int.tmod_eq_emod_of_nonneg (by omega), Int.natCast_emod]; rfl
   have em1 : (IntKind.i64.wrap ((i : Int) + 1)).tmod (n : Int) = (((i + 1) % n : Nat) : Int) := em 1 (by omega)
   have em2 : (IntKind.i64.wrap ((i : Int) + 2)).tmod (n : Int) = (((i + 2) % n : Nat) : Int) := em 2 (by omega)
   simp only [em1, em2, Int.toNat_natCast]
   have l1 : (i + 1) % n < n := Nat.mod_lt _ (by omega)
   have l2 : (i + 2) % n < n := Nat.mod_lt _ (by omega)
   obtain ⟨a1, a2⟩ := hg i hlt
   obtain ⟨b1, b2⟩ := hg _ l1
   obtain ⟨c1, c2⟩ := hg _ l2
   have bad : ∀ {b : Bool}, okC n g i = false → SV.v (Value.bool false) = SV.v (Value.bool (Qdi n g)) := fun {b} h => by rw [Qwu hlt h]
   refine ⟨⟨by omega, by omega⟩, by omega, ⟨Int.natCast_nonneg _, Int.ofNat_lt.2 l1⟩, by omega, ⟨Int.natCast_nonneg _, Int.ofNat_lt.2 l2⟩, ⟨⟨a1.sp, a2.sp⟩, b1.sp, b2.sp⟩, Qaf (fun h => bad (b := true) (Qqg (by unfold okE Qad; rw [h]; rfl))) fun h1 => ?_⟩
   have s1 := Qp3 b1 a1 b2 a2
   have s2 := Qp3 c1 b1 c2 b2
   refine ⟨⟨⟨b1.sp, b2.sp⟩, a1.sp, a2.sp⟩, ⟨⟨c1.sp, c2.sp⟩, b1.sp, b2.sp⟩, ⟨⟨b1.sub a1, b2.sub a2⟩, c1.sub b1, c2.sub b2⟩, ⟨⟨b1.sp, b2.sp⟩, a1.sp, a2.sp⟩, ⟨b1.sub a1, b2.sub a2⟩, ⟨⟨c1.sp, c2.sp⟩, b1.sp, b2.sp⟩, ⟨c1.sub b1, c2.sub b2⟩, ?_⟩
   rw [Qag (n := Qik _ _ + Qik _ _) ⟨by omega, by omega⟩, Qag ⟨by omega, by omega⟩]
   refine Qaf (fun h => bad (b := true) (Qqg (by unfold okE Qad Qt0 Qay; simp only; rw [h]; simp))) fun h2 => ?_
   have hE : okE n g i = true := by unfold okE Qad Qt0 Qay; simp only; rw [h1, h2]; rfl
   refine ⟨⟨(i, 2), ⟨⟨hlt, Nat.le_refl _, by simp only; omega, fun j hj hj' => by simp only at hj'; omega⟩, rfl⟩, rfl, trivial⟩, ?_⟩
   rintro ⟨i', k⟩ ⟨⟨_, hk2, hk, hok⟩, hat⟩
   have hat : (i : Int) = (i' : Int) := hat
   obtain rfl : i = i' := by omega
   simp only at hk2 hk hok ⊢
   refine Qaf (fun hlt' => ?_) fun hge' => ?_
   · have hlt' : k < n := by simpa using hlt'
     have l3 : (i + k) % n < n := Nat.mod_lt _ (by omega)
     obtain ⟨d1, d2⟩ := hg _ l3
     simp only [em k (by omega), Int.toNat_natCast]
     refine ⟨⟨⟨b1.sp, b2.sp⟩, a1.sp, a2.sp⟩, by omega, ⟨Int.natCast_nonneg _, Int.ofNat_lt.2 l3⟩, ⟨⟨d1.sp, d2.sp⟩, a1.sp, a2.sp⟩, ⟨⟨b1.sub a1, b2.sub a2⟩, d1.sub a1, d2.sub a2⟩, Qaf (fun h5 => bad (b := true) (Zh4 hlt hk2 hlt' (by unfold okS Qad Qay; simp only; rw [h5]; rfl))) fun h5 => ?_⟩
     refine ⟨(i, k + 1), ⟨⟨⟨hlt, by simp only; omega, by simp only; omega, fun j hj hj' hj'' => ?_⟩, rfl⟩, Qbj (by rw [Qag ⟨by omega, by omega⟩]; rfl), trivial⟩, by simp only; omega⟩
     by_cases e : j = k
     · rw [e]; unfold okS Qad Qay; simp only; rw [h5]; rfl
     · exact hok j hj (by simp only at hj'; omega) hj''
   · have hge' : ¬ k < n := by simpa using hge'
     refine ⟨i + 1, ⟨⟨hlt, fun j hj => ?_⟩, Qbj (by rw [Qag ⟨by omega, by omega⟩]; rfl), trivial⟩, by omega⟩
     by_cases e : j = i
     · rw [e]; unfold okC; rw [hE, Q9g hlt fun k' h1 h2 => hok k' h1 (by omega) h2]; rfl
     · exact hdone j (by omega)
 · have hge : ¬ i < n := by simpa using hge
   obtain rfl : i = n := by omega
   have : Qdi i g = true := Qh4 hdone
   rw [this]
theorem Qs2 : Qca Tryz.prog 217 Qkm := Qbw hm Zam Tryz.func217 (Λ := fun args bs => match args, bs with | [.sl 0 2 0 n _], [⟨2, _, row⟩] => Qmi n (fun i => gi (row i)) | _, _ => Qax) fun args bs p x h hp => by
 unfold Qkm at h
 split at h <;> try (cases h; done)
 rename_i n c n' row
 cases h
 obtain ⟨rfl, hn, h0⟩ := hp _ rfl
 refine ⟨rfl, [⟨2, n', Qco fun i => gi (row i)⟩], ⟨⟨rfl, rfl, fun i hi => (h0 i hi).1⟩, trivial⟩, ?_⟩
 exact Qxr hn fun i hi => (h0 i hi).2
theorem Qzg : ∀ f g, Q45 f = some g → g.ok Tryz.prog f := Qab (Qab (Qab (Qab (Qab Qas (Qc0 Tryz.func91 (by kernel_rfl) (by kernel_rfl) Qve)) (Qak Tryz.func90 (by kernel_rfl) (by kernel_rfl) Qyg)) (Qc0 Tryz.func217 (by kernel_rfl) (by kernel_rfl) Qs2)) (Qak Tryz.func215 (by kernel_rfl) (by kernel_rfl) Qu4)) (Qak Tryz.func216 (by kernel_rfl) (by kernel_rfl) Qyo)
theorem Qds {r : List SV} (h : Qsc r) : r = [.v (.int .i64 (gi r).1), .v (.int .i64 (gi r).2)] ∧ I64 (gi r).1 ∧ I64 (gi r).2 := by
 unfold Qsc at h
 split at h
 · exact ⟨rfl, h.1, h.2⟩
 · exact h.elim
theorem Q16 {p : Int × Int} (h : Qgh p = true) : Sq p.1 ∧ Sq p.2 := by
 unfold Qgh Qju at h
 simp only [Bool.and_eq_true, decide_eq_true_eq] at h
 exact ⟨⟨by omega, by omega⟩, by omega, by omega⟩
theorem Qon {n : Nat} {g : Nat → Int × Int} (h : ∀ i, i < n → Qgh (g i) = true) : Qp2 n fun y => [SV.v (.int .i64 (g y).1), SV.v (.int .i64 (g y).2)] := fun i hi => ⟨rfl, (Q16 (h i hi)).1, (Q16 (h i hi)).2⟩
theorem Zl5 (n : Nat) : ((n : Int) != 0) = decide ((n : Int) > 0) := by
 cases n with
 | zero => rfl
 | succ n => rw [decide_eq_true (by omega)]; simp; omega
theorem Qgz {s : ShB} {n : Nat} {g : Nat → Int × Int} (h1 : (s.k == 1) = false) (h2 : (s.k == 2) = false) (h3 : (s.k == 3) = true) (h4 : (s.r != 0) = false) (h5 : (s.w != 0) = false) (h6 : (s.h != 0) = false) (h7 : decide ((n : Int) < 3) = false) (h8 : decide ((n : Int) > 8) = false) :
   Qck s n g = bif (List.range n).all (fun i => Qgh (g i)) then (bif Qdi n g then 0 else 5) else 3 := by
 unfold Qck; rw [h1, h2, h3, h4, h5, h6, h7, h8]; rfl
theorem Q2q {x y : Int} : Qgh (x, y) = (!decide (max x y > 4096) && !decide (min x y < -4096)) := by
 unfold Qgh Qju
 refine Bool.eq_iff_iff.2 ?_
 simp only [Bool.and_eq_true, Bool.not_eq_true', decide_eq_true_eq, decide_eq_false_iff_not]
 omega
theorem Q3h {s : ShB} {n cap : Nat} {g : Nat → Int × Int} (hs : Qiq s) (hn : n < 1099511627776) (hg : ∀ i, i < n → I64 (g i).1 ∧ I64 (g i).2) : Qcm Tryz.prog Q45 (Qh5 n g) Tryz.f25 [shS s (.sl 0 2 0 n cap)] (Qbe [⟨2, n, Qco g⟩]) 64 (fun y _ => y = .v (.int .i64 (Qck s n g))) := by
 refine Eq.mpr (Q56 s n n cap g _) ?_
 simp only [Nat.zero_add, Int.toNat_natCast]
 obtain ⟨⟨k1, k2⟩, k3, k4⟩ := hs
 refine Qaf (fun e1 => Qaf (fun e2 => ?_) fun e2 => Qaf (fun e3 => ?_) fun e3 => Qaf (fun e4 => ?_) fun e4 => ⟨k2, Qaf (fun e5 => ?_) fun e5 => ?_⟩) fun e1 => Qaf (fun e2 => Qaf (fun e3 => ?_) fun e3 => Qaf (fun e4 => ?_) fun e4 => ⟨k3, Qaf (fun e5 => ?_) fun e5 => ⟨k4, Qaf (fun e6 => ?_) fun e6 => ?_⟩⟩) fun e2 => Qaf (fun e3 => Qaf (fun e4 => ?_) fun e4 => Qaf (fun e5 => ?_) fun e5 => Qaf (fun e6 => ?_) fun e6 => Qaf (fun e7 => ?_) fun e7 => Qaf (fun e8 => ?_) fun e8 => ⟨⟨0, ⟨Nat.zero_le _, fun j hj => absurd hj (Nat.not_lt_zero _)⟩, rfl, trivial⟩, fun i ⟨hi, hok⟩ => Qaf (fun hlt => ?_) fun hge => ?_⟩) fun e3 => ?_
 all_goals try ((try simp only [Bool.not_eq_true', Bool.not_eq_false'] at *); refine Qbj ?_; unfold Qck; simp only [*, cond_true, cond_false, Bool.true_or, Bool.or_true, Bool.false_or, Bool.or_false, Bool.and_true, Bool.true_and, Bool.and_false, Bool.false_and, Bool.and_self, Bool.or_self, Int.natCast_zero, bne_self_eq_false, Int.ofNat_eq_natCast]; done)
 · have hlt : i < n := by simpa using hlt
   have et := Qgz (g := g) e1 e2 e3 e4 e5 e6 e7 e8
   have bad : Qgh (g i) = false → SV.v (.int .i64 3) = SV.v (.int .i64 (Qck s n g)) := fun h => by rw [et, Qm9 (f := fun i => Qgh (g i)) hlt h]; rfl
   refine ⟨⟨by omega, by omega⟩, Qaf (fun h => bad ?_) fun h => Qaf (fun h' => bad ?_) fun h' => ⟨i + 1, ⟨⟨hlt, fun j hj => ?_⟩, Qbj (by rw [Qag ⟨by omega, by omega⟩]; rfl), trivial⟩, by omega⟩⟩
   · show Qgh ((g i).1, (g i).2) = false
     rw [Q2q, h]; rfl
   · show Qgh ((g i).1, (g i).2) = false
     rw [Q2q, h', Bool.not_true, Bool.and_false]
   · by_cases e : j = i
     · rw [e]
       show Qgh ((g i).1, (g i).2) = true
       rw [Q2q, h, h']; rfl
     · exact hok j (by omega)
 · have hge : ¬ i < n := by simpa using hge
   obtain rfl : i = n := by omega
   have et := Qgz (g := g) e1 e2 e3 e4 e5 e6 e7 e8
   rw [Qh4 (f := fun i => Qgh (g i)) hok, cond_true] at et
   refine ⟨⟨trivial, by omega, Qon hok⟩, ?_⟩
   show sel (!Qdi i g) _ _
   rw [et]
   cases Qdi i g <;> rfl
theorem Qx3 {s : ShB} (hs : Qiq s) : Qcm Tryz.prog Q45 (Qh5 0 fun _ => (0, 0)) Tryz.f25 [shS s (.v (.slice none 0 0))] (Qbe []) 64 (fun y _ => y = .v (.int .i64 (Qck s 0 fun _ => (0, 0)))) := by
 refine Eq.mpr (Q0b s (fun _ => (0, 0)) _) ?_
 obtain ⟨⟨k1, k2⟩, k3, k4⟩ := hs
 refine Qaf (fun e1 => Qaf (fun e2 => ?_) fun e2 => Qaf (fun e3 => ?_) fun e3 => ⟨k2, Qaf (fun e5 => ?_) fun e5 => ?_⟩) fun e1 => Qaf (fun e2 => Qaf (fun e3 => ?_) fun e3 => ⟨k3, Qaf (fun e5 => ?_) fun e5 => ⟨k4, Qaf (fun e6 => ?_) fun e6 => ?_⟩⟩) fun e2 => Qaf (fun e3 => Qaf (fun e4 => ?_) fun e4 => Qaf (fun e5 => ?_) fun e5 => Qaf (fun e6 => ?_) fun e6 => ?_) fun e3 => ?_
 all_goals ((try simp only [Bool.not_eq_true', Bool.not_eq_false'] at *); refine Qbj ?_; unfold Qck; simp only [*, cond_true, cond_false, Bool.true_or, Bool.or_true, Bool.false_or, Bool.or_false, Bool.and_true, Bool.true_and, Bool.and_false, Bool.false_and, Bool.and_self, Bool.or_self, Int.natCast_zero, bne_self_eq_false, Int.ofNat_eq_natCast]; try rfl)
theorem Qn7 : Qca Tryz.prog 25 Qhh := Qbw hm Qzg Tryz.func25 (Λ := fun args bs => match args, bs with | [.agg [_, _, _, _, .sl 0 2 0 n _]], [⟨2, _, row⟩] => Qh5 n (fun i => gi (row i)) | _, _ => Qh5 0 (fun _ => (0, 0))) fun args bs p x h hp => by
 unfold Qhh at h
 split at h <;> try (cases h; done)
 · rename_i k r w hh n c n' row
   cases h
   obtain ⟨hs, h0, rfl, hn⟩ := hp _ rfl
   have h0 := okAll_rows.1 h0
   refine ⟨rfl, [⟨2, n', Qco fun i => gi (row i)⟩], ⟨⟨rfl, rfl, fun i hi => (Qds (h0 i hi)).1⟩, trivial⟩, ?_⟩
   exact Q3h (s := ⟨k, r, w, hh⟩) hs hn fun i hi => (Qds (h0 i hi)).2
 · rename_i k r w hh
   cases h
   exact ⟨rfl, [], trivial, Qx3 (s := ⟨k, r, w, hh⟩) (hp _ rfl)⟩
theorem Qxs {s : ShB} {n cap : Nat} {g : Nat → Int × Int} (hs : Qiq s) (hn : n < 1099511627776) (hg : ∀ i, i < n → I64 (g i).1 ∧ I64 (g i).2) : Qcm Tryz.prog Q45 (Qf9 n g) Tryz.f144 [shS s (.sl 0 2 0 n cap)] (Qbe [⟨2, n, Qco g⟩]) 64 (fun y _ => y = .v (.int .i64 (Qck s n g))) := by
 refine Eq.mpr (Qz3 s n n cap g _) ?_
 simp only [Nat.zero_add, Int.toNat_natCast, ← Zl5]
 obtain ⟨⟨k1, k2⟩, k3, k4⟩ := hs
 refine Qaf (fun e1 => Qaf (fun e2 => ?_) fun e2 => Qaf (fun e3 => ?_) fun e3 => Qaf (fun e4 => ?_) fun e4 => ⟨k2, Qaf (fun e5 => ?_) fun e5 => ?_⟩) fun e1 => Qaf (fun e2 => Qaf (fun e3 => ?_) fun e3 => Qaf (fun e4 => ?_) fun e4 => ⟨k3, Qaf (fun e5 => ?_) fun e5 => ⟨k4, Qaf (fun e6 => ?_) fun e6 => ?_⟩⟩) fun e2 => Qaf (fun e3 => Qaf (fun e4 => ?_) fun e4 => Qaf (fun e5 => ?_) fun e5 => Qaf (fun e6 => ?_) fun e6 => Qaf (fun e7 => ?_) fun e7 => Qaf (fun e8 => ?_) fun e8 => ⟨⟨0, ⟨Nat.zero_le _, fun j hj => absurd hj (Nat.not_lt_zero _)⟩, rfl, trivial⟩, fun i ⟨hi, hok⟩ => Qaf (fun hlt => ?_) fun hge => ?_⟩) fun e3 => ?_
 all_goals try ((try simp only [Bool.not_eq_true', Bool.not_eq_false'] at *); refine Qbj ?_; unfold Qck; simp only [*, cond_true, cond_false, Bool.true_or, Bool.or_true, Bool.false_or, Bool.or_false, Bool.and_true, Bool.true_and, Bool.and_false, Bool.false_and, Bool.and_self, Bool.or_self, Int.natCast_zero, bne_self_eq_false, Int.ofNat_eq_natCast]; done)
 · have hlt : i < n := by simpa using hlt
   have et := Qgz (g := g) e1 e2 e3 e4 e5 e6 e7 e8
   have bad : Qgh (g i) = false → SV.v (.int .i64 3) = SV.v (.int .i64 (Qck s n g)) := fun h => by rw [et, Qm9 (f := fun i => Qgh (g i)) hlt h]; rfl
   obtain ⟨d1, d2⟩ := hg i hlt
   refine ⟨⟨by omega, by omega⟩, d1, Qaf (fun h => bad ?_) fun h => ⟨⟨by omega, by omega⟩, d2, Qaf (fun h' => bad ?_) fun h' => ⟨i + 1, ⟨⟨hlt, fun j hj => ?_⟩, Qbj (by rw [Qag ⟨by omega, by omega⟩]; rfl), trivial⟩, by omega⟩⟩⟩
   · have h : Qju (g i).1 = false := by simpa using h
     unfold Qgh; rw [h]; rfl
   · have h' : Qju (g i).2 = false := by simpa using h'
     unfold Qgh; rw [h', Bool.and_false]
   · by_cases e : j = i
     · have h : Qju (g i).1 = true := by simpa using h
       have h' : Qju (g i).2 = true := by simpa using h'
       rw [e]; unfold Qgh; rw [h, h']; rfl
     · exact hok j (by omega)
 · have hge : ¬ i < n := by simpa using hge
   obtain rfl : i = n := by omega
   have et := Qgz (g := g) e1 e2 e3 e4 e5 e6 e7 e8
   rw [Qh4 (f := fun i => Qgh (g i)) hok, cond_true] at et
   refine ⟨⟨trivial, by omega, Qon hok⟩, ?_⟩
   show sel (!Qdi i g) _ _
   rw [et]
   cases Qdi i g <;> rfl
theorem Qub {s : ShB} (hs : Qiq s) : Qcm Tryz.prog Q45 (Qf9 0 fun _ => (0, 0)) Tryz.f144 [shS s (.v (.slice none 0 0))] (Qbe []) 64 (fun y _ => y = .v (.int .i64 (Qck s 0 fun _ => (0, 0)))) := by
 refine Eq.mpr (Qxd s (fun _ => (0, 0)) _) ?_
 obtain ⟨⟨k1, k2⟩, k3, k4⟩ := hs
 refine Qaf (fun e1 => Qaf (fun e2 => ?_) fun e2 => Qaf (fun e3 => ?_) fun e3 => ⟨k2, Qaf (fun e5 => ?_) fun e5 => ?_⟩) fun e1 => Qaf (fun e2 => Qaf (fun e3 => ?_) fun e3 => ⟨k3, Qaf (fun e5 => ?_) fun e5 => ⟨k4, Qaf (fun e6 => ?_) fun e6 => ?_⟩⟩) fun e2 => Qaf (fun e3 => Qaf (fun e4 => ?_) fun e4 => Qaf (fun e5 => ?_) fun e5 => Qaf (fun e6 => ?_) fun e6 => ?_) fun e3 => ?_
 all_goals ((try simp only [Bool.not_eq_true', Bool.not_eq_false'] at *); refine Qbj ?_; unfold Qck; simp only [*, cond_true, cond_false, Bool.true_or, Bool.or_true, Bool.false_or, Bool.or_false, Bool.and_true, Bool.true_and, Bool.and_false, Bool.false_and, Bool.and_self, Bool.or_self, Int.natCast_zero, bne_self_eq_false, Int.ofNat_eq_natCast]; try rfl)
theorem Qls : Qca Tryz.prog 144 Qhh := Qbw hm Qzg Tryz.func144 (Λ := fun args bs => match args, bs with | [.agg [_, _, _, _, .sl 0 2 0 n _]], [⟨2, _, row⟩] => Qf9 n (fun i => gi (row i)) | _, _ => Qf9 0 (fun _ => (0, 0))) fun args bs p x h hp => by
 unfold Qhh at h
 split at h <;> try (cases h; done)
 · rename_i k r w hh n c n' row
   cases h
   obtain ⟨hs, h0, rfl, hn⟩ := hp _ rfl
   have h0 := okAll_rows.1 h0
   refine ⟨rfl, [⟨2, n', Qco fun i => gi (row i)⟩], ⟨⟨rfl, rfl, fun i hi => (Qds (h0 i hi)).1⟩, trivial⟩, ?_⟩
   exact Qxs (s := ⟨k, r, w, hh⟩) hs hn fun i hi => (Qds (h0 i hi)).2
 · rename_i k r w hh
   cases h
   exact ⟨rfl, [], trivial, Qub (s := ⟨k, r, w, hh⟩) (hp _ rfl)⟩
def zSh : ShB := ⟨0, 0, 0, 0⟩
def Zl8 (b : Bool) (s : ShB) : ShB := bif b then s else zSh
def zP : Nat → Int × Int := fun _ => (0, 0)
def okB (b : Blk) : Bool := !b.rw && !b.dead && Nat.beq b.size 2 && b.flat
def Qbz (b : Blk) : Nat → Int × Int := fun i => gi (b.row i)
def Qfd (n : Nat) (b : Blk) : Prop := Qcc Qsc (Qal b.n b.row) ∧ b.n = n ∧ n < 1099511627776
def spB (n c : Nat) (g : Nat → Int × Int) : Blk := { elem := 53, size := 2, rw := true, lock := false, lit := false, flat := true, n := n, row := Qco g, ext := c }
def rdB (b : Blk) (n : Nat) (g : Nat → Int × Int) : Blk := roS b.elem b.lock b.lit true b.whole n b.ext (Qco g)
def nilV : SV := .v (.slice none 0 0)
def Zlm (args : List SV) (bs : List Blk) : Option Eff := match args, bs with
 | [.agg [.v (.int .i64 k), .v (.int .i64 r), .v (.int .i64 w), .v (.int .i64 h), .sl 0 2 0 n c]], [b] => bif okB b then some (.det (some ((Qiq ⟨k, r, w, h⟩ ∧ Qfd n b) ∧ Qck ⟨k, r, w, h⟩ n (Qbz b) = 0)) (.tup [shS ⟨k, r, w, h⟩ (.sl 0 2 0 n c), .v (.int .i64 0)]) []) else none
 | _, _ => none
def Zfp : Qb7 := Qah (Qah Qbi 25 (Qcv Qhh)) 144 (Qcv Qhh)
def Q27 (r : Int) : ShB := ⟨1, r, 0, 0⟩
def boxS (w h : Int) : ShB := ⟨2, 0, w, h⟩
def Qxu : ShB := ⟨3, 0, 0, 0⟩
theorem Qzk : ∀ f g, Zfp f = some g → g.ok Tryz.prog f := Qab (Qab Qas (Qc0 Tryz.func25 (by kernel_rfl) (by kernel_rfl) Qn7)) (Qc0 Tryz.func144 (by kernel_rfl) (by kernel_rfl) Qls)
theorem Qja {e : Int} {s : ShB} (h : (e != 0) = false) : Zl8 (e == 0) s = s ∧ e = 0 := by
 have h : e = 0 := by simpa using h
 subst h
 exact ⟨rfl, rfl⟩
theorem Qnk (g : Nat → Int × Int) : (fun i => gi [SV.v (.int .i64 (g (0 + i)).1), SV.v (.int .i64 (g (0 + i)).2)]) = g := funext fun i => by rw [Nat.zero_add]; rfl
theorem Qv4 {n : Nat} {b : Blk} (h : Qfd n b) : n < 1099511627776 ∧ ∀ i, i < n → I64 (Qbz b i).1 ∧ I64 (Qbz b i).2 := by
 obtain ⟨h0, rfl, hn⟩ := h
 exact ⟨hn, fun i hi => (Qds (okAll_rows.1 h0 i hi)).2⟩
theorem Qkk {b : Blk} {n : Nat} (h : okB b = true) (hp : Qfd n b) : BlkSame b (rdB b n (Qbz b)) := by
 simp only [okB, Bool.and_eq_true, Bool.not_eq_true'] at h
 obtain ⟨⟨⟨a1, a2⟩, a3⟩, a4⟩ := h
 obtain ⟨h0, rfl, hn⟩ := hp
 exact ⟨Nat.eq_of_beq_eq_true a3, a1, a4, rfl, rfl, a2, rfl, rfl, fun i hi => (Qds (okAll_rows.1 h0 i hi)).1⟩
theorem Q5g {n : Nat} {g : Nat → Int × Int} {B : Blk} (hn : n < 1099511627776) (hg : ∀ i, i < n → I64 (g i).1 ∧ I64 (g i).2) (hr : ∀ y, B.row y = [SV.v (.int .i64 (g (0 + y)).1), SV.v (.int .i64 (g (0 + y)).2)]) : Qfd n (Qaw B 2 0 n) ∧ Qbz (Qaw B 2 0 n) = g := by
 refine ⟨⟨okAll_rows.2 fun i hi => ?_, rfl, hn⟩, funext fun i => ?_⟩
 · show Qsc (B.row (0 + i))
   rw [hr, Nat.zero_add, Nat.zero_add]
   exact hg i hi
 · show gi (B.row (0 + i)) = g i
   rw [hr, Nat.zero_add, Nat.zero_add]; rfl
theorem Qts {n : Nat} {g : Nat → Int × Int} {B : Blk} (hn : n < 1099511627776) (hg : ∀ i, i < n → I64 (g i).1 ∧ I64 (g i).2) (hr : ∀ y, B.row y = Qco g y) : Qfd n (Qaw B 2 0 n) :=
 (Q5g hn hg fun y => by rw [hr, Nat.zero_add]; rfl).1
def Q7t (w h : Int) : Nat → Int × Int
 | 0 => (-w, -h)
 | 1 => (w, -h)
 | 2 => (w, h)
 | _ => (-w, h)
def Qbb (e : Int) (s : ShB) (n : Nat) : Nat := bif e != 0 then 0 else bif s.k == 2 then 4 else n
def Qbh (s : ShB) (g : Nat → Int × Int) (i : Nat) : Int × Int := bif s.k == 2 then Q7t s.w s.h i else g i
def Q7i (e : Int) (s : ShB) (n : Nat) (g : Nat → Int × Int) : Eff := .nd True Nat 0 (fun c => .sl 1000 2 0 (Qbb e s n) (Qbb e s n + c)) fun c => [(1000, spB (Qbb e s n) (Qbb e s n + c) (Qbh s g))]
def Qxp (args : List SV) (bs : List Blk) : Option Eff := match args, bs with
 | [.agg [.v (.int .i64 k), .v (.int .i64 r), .v (.int .i64 w), .v (.int .i64 h), .sl 0 2 0 n c]], [b] => bif okB b then some (.nd (Qiq ⟨k, r, w, h⟩ ∧ Qfd n b) Nat 0 (fun c => .sl 1000 2 0 (Qbb (Qck ⟨k, r, w, h⟩ n (Qbz b)) ⟨k, r, w, h⟩ n) (Qbb (Qck ⟨k, r, w, h⟩ n (Qbz b)) ⟨k, r, w, h⟩ n + c)) fun c => [(1000, spB (Qbb (Qck ⟨k, r, w, h⟩ n (Qbz b)) ⟨k, r, w, h⟩ n) (Qbb (Qck ⟨k, r, w, h⟩ n (Qbz b)) ⟨k, r, w, h⟩ n + c) (Qbh ⟨k, r, w, h⟩ (Qbz b)))]) else none
 | _, _ => none
theorem Zgy (s : ShB) (b : Blk) (n c : Nat) (g : Nat→Int × Int) (e : Int) : (Qcm Tryz.prog Zfp Qax Tryz.f19 [shS s (.sl 0 2 0 n c)] (Qa1 [rdB b n g]) 64 (fun y h' => Qj9 [rdB b n g] (Q7i e s n g) y h')) =
(((Qiq s)∧((Qcc Qsc (Qal n fun y => [SV.v (.int .i64 (Prod.fst (g (0 + y)))),SV.v (.int .i64 (Prod.snd (g (0 + y))))]))∧(((n : Nat) = n)∧((n : Nat) < 1099511627776))))∧(sel ((Qck s n fun i => gi [SV.v (.int .i64 (Prod.fst (g (0 + i)))),SV.v (.int .i64 (Prod.snd (g (0 + i))))]) != 0) (∃ c_1 : Nat,((((SV.v (Value.slice none 0 0)) = (SV.v (Value.slice none 0 0)))∧(((0 : Nat) = 0)∧((((Qbb e s n) : Nat) = 0)∧(((Qbb e s n + c_1) : Nat) = 0))))∧(((((Qbb e s n) : Nat) = 0)∧((((Qbb e s n + c_1) : Nat) = 0)∧True))∧True))) (sel (ShB.k s == 2) (∃ c_1 : Nat,(((SV.sl 328 2 0 4 4) = (SV.sl 328 2 0 (Qbb e s n) (Qbb e s n + c_1)))∧(((4 : Nat) = (Qbb e s n))∧((((Qbb e s n + c_1) : Nat) ≤ 4)∧(∀ i : Nat,(((i : Nat) < (Qbb e s n))→([(SV.v (.int .i64 (bop (Nat.beq i 0) (IntKind.wrap IntKind.i64 (0 - ShB.w s)) (bop (Nat.beq i 1) (ShB.w s) (bop (Nat.beq i 2) (ShB.w s) (IntKind.wrap IntKind.i64 (0 - ShB.w s))))))),(SV.v (.int .i64 (bop (Nat.beq i 0) (IntKind.wrap IntKind.i64 (0 - ShB.h s)) (bop (Nat.beq i 1) (IntKind.wrap IntKind.i64 (0 - ShB.h s)) (bop (Nat.beq i 2) (ShB.h s) (ShB.h s))))))] = [(SV.v (.int .i64 (Prod.fst (Qbh s g i)))),(SV.v (.int .i64 (Prod.snd (Qbh s g i))))]))))))) ((((n * 16) : Nat) ≤ 140737488355328)∧(∀ c_1 : Nat,(∃ c_2 : Nat,(((SV.sl 360 2 0 n (n + c_1)) = (SV.sl 360 2 0 (Qbb e s n) (Qbb e s n + c_2)))∧(((n : Nat) = (Qbb e s n))∧((((Qbb e s n + c_2) : Nat) ≤ (n + c_1))∧(∀ i : Nat,(((i : Nat) < (Qbb e s n))→([(SV.v (.int .i64 (Prod.fst (g (0 + i))))),(SV.v (.int .i64 (Prod.snd (g (0 + i)))))] = [(SV.v (.int .i64 (Prod.fst (Qbh s g i)))),(SV.v (.int .i64 (Prod.snd (Qbh s g i))))])))))))))))) := by kernel_rfl
theorem Zbk (s : ShB) (b : Blk) (n c : Nat) (g : Nat→Int × Int) (e : Int) : (Qcm Tryz.prog Zfp Qax Tryz.f173 [shS s (.sl 0 2 0 n c)] (Qa1 [rdB b n g]) 64 (fun y h' => Qj9 [rdB b n g] (Q7i e s n g) y h')) =
(((Qiq s)∧((Qcc Qsc (Qal n fun y => [SV.v (.int .i64 (Prod.fst (g (0 + y)))),SV.v (.int .i64 (Prod.snd (g (0 + y))))]))∧(((n : Nat) = n)∧((n : Nat) < 1099511627776))))∧(sel ((Qck s n fun i => gi [SV.v (.int .i64 (Prod.fst (g (0 + i)))),SV.v (.int .i64 (Prod.snd (g (0 + i))))]) != 0) (∃ c_1 : Nat,((((SV.v (Value.slice none 0 0)) = (SV.v (Value.slice none 0 0)))∧(((0 : Nat) = 0)∧((((Qbb e s n) : Nat) = 0)∧(((Qbb e s n + c_1) : Nat) = 0))))∧(((((Qbb e s n) : Nat) = 0)∧((((Qbb e s n + c_1) : Nat) = 0)∧True))∧True))) (sel (ShB.k s == 2) (∃ c_1 : Nat,(((SV.sl 328 2 0 4 4) = (SV.sl 328 2 0 (Qbb e s n) (Qbb e s n + c_1)))∧(((4 : Nat) = (Qbb e s n))∧((((Qbb e s n + c_1) : Nat) ≤ 4)∧(∀ i : Nat,(((i : Nat) < (Qbb e s n))→([(SV.v (.int .i64 (bop (Nat.beq i 0) (IntKind.wrap IntKind.i64 (0 - ShB.w s)) (bop (Nat.beq i 1) (ShB.w s) (bop (Nat.beq i 2) (ShB.w s) (IntKind.wrap IntKind.i64 (0 - ShB.w s))))))),(SV.v (.int .i64 (bop (Nat.beq i 0) (IntKind.wrap IntKind.i64 (0 - ShB.h s)) (bop (Nat.beq i 1) (IntKind.wrap IntKind.i64 (0 - ShB.h s)) (bop (Nat.beq i 2) (ShB.h s) (ShB.h s))))))] = [(SV.v (.int .i64 (Prod.fst (Qbh s g i)))),(SV.v (.int .i64 (Prod.snd (Qbh s g i))))]))))))) ((((((0 + n) * 16) : Nat) ≤ 140737488355328)∧(((0 : Nat) ≤ 0)∧(∀ y : Nat,(((y : Nat) < n)→True))))∧(∀ c_1 : Nat,(∃ c_2 : Nat,(((SV.sl 368 2 0 (0 + n) (0 + n + c_1)) = (SV.sl 368 2 0 (Qbb e s n) (Qbb e s n + c_2)))∧((((0 + n) : Nat) = (Qbb e s n))∧((((Qbb e s n + c_2) : Nat) ≤ (0 + n + c_1))∧(∀ i : Nat,(((i : Nat) < (Qbb e s n))→([(SV.v (.int .i64 (Prod.fst (g (0 + (i - 0)))))),(SV.v (.int .i64 (Prod.snd (g (0 + (i - 0))))))] = [(SV.v (.int .i64 (Prod.fst (Qbh s g i)))),(SV.v (.int .i64 (Prod.snd (Qbh s g i))))])))))))))))) := by kernel_rfl
noncomputable def hid {α : Type} (x : α) : α := Classical.choose (⟨x, rfl⟩ : ∃ y, y = x)
theorem Qsf {α : Type} (x : α) : hid x = x := Classical.choose_spec (⟨x, rfl⟩ : ∃ y, y = x)
def Zfb (n : Int) : Nat → Nat → Nat
 | 0, k => k
 | f + 1, k => if (k : Int) * k < n then Zfb n f (k + 1) else k
noncomputable def Qvq (n : Int) : Nat := hid (Zfb n 1048576 0)
noncomputable def Q1o : List SV → Option (Option Prop × SV)
 | [.v (.int .i64 n)] => some (some (0 ≤ n ∧ n ≤ 1099511627776), .v (.int .i64 (Qvq n)))
 | _ => none
structure LH where
 l : Nat
 h : Nat
noncomputable def Qze (n : Int) : Nat → Option LoopSpec := Qb9 Qax Tryz.f93 0 LH (fun x => x.l ≤ x.h ∧ x.h ≤ 1048576 ∧ n ≤ (x.h : Int) * x.h ∧ ∀ j, j < x.l → (j : Int) * j < n) (fun x => x.h - x.l) [(3, fun x => .v (.int .i64 x.l)), (4, fun x => .v (.int .i64 x.h))] []
theorem Zb3 (n : Int) (R : SV→Prop) : (Qau Tryz.prog Qbi (Qze n) Tryz.f93 [.v (.int .i64 n)] R) =
((∃ x : LH,(((((LH.l x) : Nat) ≤ (LH.h x))∧((((LH.h x) : Nat) ≤ 1048576)∧(((n : Int) ≤ ((↑(LH.h x) : Int) * (↑(LH.h x) : Int)))∧(∀ j : Nat,(((j : Nat) < (LH.l x))→((((↑j : Int) * (↑j : Int)) : Int) < n))))))∧((((SV.v (.int .i64 0)) = (SV.v (.int .i64 ((↑(LH.l x) : Int)))))∧((SV.v (.int .i64 1048576)) = (SV.v (.int .i64 ((↑(LH.h x) : Int))))))∧True)))∧(∀ x : LH,(((((LH.l x) : Nat) ≤ (LH.h x))∧((((LH.h x) : Nat) ≤ 1048576)∧(((n : Int) ≤ ((↑(LH.h x) : Int) * (↑(LH.h x) : Int)))∧(∀ j : Nat,(((j : Nat) < (LH.l x))→((((↑j : Int) * (↑j : Int)) : Int) < n))))))→(sel (decide ((↑(LH.l x) : Int) < (↑(LH.h x) : Int))) (sel (decide (IntKind.wrap IntKind.i64 (IntKind.wrap IntKind.i64 (Int.tdiv (IntKind.wrap IntKind.i64 ((↑(LH.l x) : Int) + (↑(LH.h x) : Int))) 2) * IntKind.wrap IntKind.i64 (Int.tdiv (IntKind.wrap IntKind.i64 ((↑(LH.l x) : Int) + (↑(LH.h x) : Int))) 2)) < n)) (∃ x' : LH,((((((LH.l x') : Nat) ≤ (LH.h x'))∧((((LH.h x') : Nat) ≤ 1048576)∧(((n : Int) ≤ ((↑(LH.h x') : Int) * (↑(LH.h x') : Int)))∧(∀ j : Nat,(((j : Nat) < (LH.l x'))→((((↑j : Int) * (↑j : Int)) : Int) < n))))))∧((((SV.v (.int .i64 (IntKind.wrap IntKind.i64 (IntKind.wrap IntKind.i64 (Int.tdiv (IntKind.wrap IntKind.i64 ((↑(LH.l x) : Int) + (↑(LH.h x) : Int))) 2) + 1)))) = (SV.v (.int .i64 ((↑(LH.l x') : Int)))))∧((SV.v (.int .i64 ((↑(LH.h x) : Int)))) = (SV.v (.int .i64 ((↑(LH.h x') : Int))))))∧True))∧(((LH.h x' - LH.l x') : Nat) < (LH.h x - LH.l x)))) (∃ x' : LH,((((((LH.l x') : Nat) ≤ (LH.h x'))∧((((LH.h x') : Nat) ≤ 1048576)∧(((n : Int) ≤ ((↑(LH.h x') : Int) * (↑(LH.h x') : Int)))∧(∀ j : Nat,(((j : Nat) < (LH.l x'))→((((↑j : Int) * (↑j : Int)) : Int) < n))))))∧((((SV.v (.int .i64 ((↑(LH.l x) : Int)))) = (SV.v (.int .i64 ((↑(LH.l x') : Int)))))∧((SV.v (.int .i64 (IntKind.wrap IntKind.i64 (Int.tdiv (IntKind.wrap IntKind.i64 ((↑(LH.l x) : Int) + (↑(LH.h x) : Int))) 2)))) = (SV.v (.int .i64 ((↑(LH.h x') : Int))))))∧True))∧(((LH.h x' - LH.l x') : Nat) < (LH.h x - LH.l x))))) (R (SV.v (.int .i64 ((↑(LH.l x) : Int))))))))) := by kernel_rfl
theorem Ql3 {x : Int} (h : Qeb x = true) : 16 ≤ x ∧ x ≤ 4096 := by
 unfold Qeb at h
 simpa [Bool.and_eq_true, decide_eq_true_eq] using h
theorem Qq3 {s : ShB} {n : Nat} {g : Nat → Int × Int} (e : Qck s n g = 0) (hk : (s.k == 2) = true) : (16 ≤ s.w ∧ s.w ≤ 4096) ∧ 16 ≤ s.h ∧ s.h ≤ 4096 := by
 have k1 : (s.k == 1) = false := by have : s.k = 2 := by simpa using hk
                                    rw [this]; rfl
 unfold Qck at e
 rw [k1, hk, cond_false, cond_true] at e
 cases h1 : (s.r != 0 || (n : Int) != 0) with
 | true => rw [h1] at e; cases e
 | false =>
   rw [h1, cond_false] at e
   cases h2 : (Qeb s.w && Qeb s.h) with
   | false => rw [h2] at e; cases e
   | true =>
     rw [Bool.and_eq_true] at h2
     exact ⟨Ql3 h2.1, Ql3 h2.2⟩
theorem Zer {s : ShB} {b : Blk} {n c : Nat} {g : Nat → Int × Int} (hs : Qiq s) (hn : n < 1099511627776) (hg : ∀ i, i < n → I64 (g i).1 ∧ I64 (g i).2) : Qcm Tryz.prog Zfp Qax Tryz.f19 [shS s (.sl 0 2 0 n c)] (Qa1 [rdB b n g]) 64 (fun y h' => Qj9 [rdB b n g] (Q7i (Qck s n g) s n g) y h') := by
 refine Eq.mpr (Zgy s b n c g (Qck s n g)) ?_
 rw [Qnk]
 refine ⟨⟨hs, okAll_rows.2 fun i hi => (by rw [Nat.zero_add]; exact hg i hi), rfl, hn⟩, Qaf (fun h => ?_) fun h => Qaf (fun h2 => ?_) fun h2 => ?_⟩
 · have hN : Qbb (Qck s n g) s n = 0 := by unfold Qbb; rw [h]; rfl
   rw [hN]
   exact ⟨0, ⟨rfl, rfl, rfl, rfl⟩, ⟨rfl, rfl, trivial⟩, trivial⟩
 · have e0 := (Qja (s := zSh) h).2
   obtain ⟨w1, w2⟩ := Qq3 e0 h2
   rw [e0]
   have hN : Qbb 0 s n = 4 := by unfold Qbb; rw [h2]; rfl
   have hG : Qbh s g = Q7t s.w s.h := funext fun i => by unfold Qbh; rw [h2]; rfl
   rw [hN, hG, Qag ⟨by omega, by omega⟩, Qag ⟨by omega, by omega⟩, Int.zero_sub, Int.zero_sub]
   refine ⟨0, rfl, rfl, Nat.le_refl _, fun i hi => ?_⟩
   obtain rfl | rfl | rfl | rfl : i = 0 ∨ i = 1 ∨ i = 2 ∨ i = 3 := by omega
   · rfl
   · rfl
   · rfl
   · rfl
 · have e0 := (Qja (s := zSh) h).2
   rw [e0]
   have hk : (s.k == 2) = false := h2
   have hN : Qbb 0 s n = n := by unfold Qbb; rw [hk]; rfl
   have hG : Qbh s g = g := funext fun i => by unfold Qbh; rw [hk]; rfl
   rw [hN, hG]
   exact ⟨by omega, fun c1 => ⟨c1, rfl, rfl, Nat.le_refl _, fun i _ => by rw [Nat.zero_add]⟩⟩
theorem Q4u : Qex Tryz.prog 19 Qxp := Qd7 hm Qzk Tryz.func19 (Λ := fun _ _ => Qax) fun args bs e hs hp => by
 unfold Qxp at hs
 split at hs <;> try (cases hs; done)
 rename_i k r w hh n c b
 cases hb : okB b with
 | false => rw [hb] at hs; cases hs
 | true =>
 rw [hb] at hs
 cases hs
 obtain ⟨hs, hpre⟩ := hp
 obtain ⟨hn, hg⟩ := Qv4 hpre
 exact ⟨[rdB b n (Qbz b)], ⟨Qkk hb hpre, trivial⟩, Zer (s := ⟨k, r, w, hh⟩) hs hn hg⟩
theorem Q79 {s : ShB} {b : Blk} {n c : Nat} {g : Nat → Int × Int} (hs : Qiq s) (hn : n < 1099511627776) (hg : ∀ i, i < n → I64 (g i).1 ∧ I64 (g i).2) : Qcm Tryz.prog Zfp Qax Tryz.f173 [shS s (.sl 0 2 0 n c)] (Qa1 [rdB b n g]) 64 (fun y h' => Qj9 [rdB b n g] (Q7i (Qck s n g) s n g) y h') := by
 refine Eq.mpr (Zbk s b n c g (Qck s n g)) ?_
 rw [Qnk]
 refine ⟨⟨hs, okAll_rows.2 fun i hi => (by rw [Nat.zero_add]; exact hg i hi), rfl, hn⟩, Qaf (fun h => ?_) fun h => Qaf (fun h2 => ?_) fun h2 => ?_⟩
 · have hN : Qbb (Qck s n g) s n = 0 := by unfold Qbb; rw [h]; rfl
   rw [hN]
   exact ⟨0, ⟨rfl, rfl, rfl, rfl⟩, ⟨rfl, rfl, trivial⟩, trivial⟩
 · have e0 := (Qja (s := zSh) h).2
   obtain ⟨w1, w2⟩ := Qq3 e0 h2
   rw [e0]
   have hN : Qbb 0 s n = 4 := by unfold Qbb; rw [h2]; rfl
   have hG : Qbh s g = Q7t s.w s.h := funext fun i => by unfold Qbh; rw [h2]; rfl
   rw [hN, hG, Qag ⟨by omega, by omega⟩, Qag ⟨by omega, by omega⟩, Int.zero_sub, Int.zero_sub]
   refine ⟨0, rfl, rfl, Nat.le_refl _, fun i hi => ?_⟩
   obtain rfl | rfl | rfl | rfl : i = 0 ∨ i = 1 ∨ i = 2 ∨ i = 3 := by omega
   · rfl
   · rfl
   · rfl
   · rfl
 · have e0 := (Qja (s := zSh) h).2
   rw [e0]
   have hk : (s.k == 2) = false := h2
   have hN : Qbb 0 s n = n := by unfold Qbb; rw [hk]; rfl
   have hG : Qbh s g = g := funext fun i => by unfold Qbh; rw [hk]; rfl
   rw [hN, hG]
   rw [Nat.zero_add]
   exact ⟨⟨by omega, Nat.le_refl _, fun _ _ => trivial⟩, fun c1 => ⟨c1, rfl, rfl, Nat.le_refl _, fun i _ => by show [SV.v (.int .i64 (g (0 + i)).1), SV.v (.int .i64 (g (0 + i)).2)] = _; rw [Nat.zero_add]⟩⟩
theorem Qyr : Qex Tryz.prog 173 Qxp := Qd7 hm Qzk Tryz.func173 (Λ := fun _ _ => Qax) fun args bs e hs hp => by
 unfold Qxp at hs
 split at hs <;> try (cases hs; done)
 rename_i k r w hh n c b
 cases hb : okB b with
 | false => rw [hb] at hs; cases hs
 | true =>
 rw [hb] at hs
 cases hs
 obtain ⟨hs, hpre⟩ := hp
 obtain ⟨hn, hg⟩ := Qv4 hpre
 exact ⟨[rdB b n (Qbz b)], ⟨Qkk hb hpre, trivial⟩, Q79 (s := ⟨k, r, w, hh⟩) hs hn hg⟩
theorem Qsv (n : Int) : ∀ f k : Nat, (∀ j : Nat, j < k → (j : Int) * j < n) → n ≤ ((k + f : Nat) : Int) * ((k + f : Nat) : Int) → n ≤ (Zfb n f k : Int) * (Zfb n f k : Int) ∧ ∀ j : Nat, j < Zfb n f k → (j : Int) * j < n
 | 0, k, h1, h2 => ⟨h2, h1⟩
 | f + 1, k, h1, h2 => by
   unfold Zfb
   by_cases h : (k : Int) * k < n
   · rw [if_pos h]
     refine Qsv n f (k + 1) (fun j hj => ?_) (by rw [show k + 1 + f = k + (f + 1) by omega]; exact h2)
     by_cases e : j = k
     · rw [e]; exact h
     · exact h1 j (by omega)
   · rw [if_neg h]
     exact ⟨by omega, h1⟩
theorem Qmv {n : Int} (h : n ≤ 1099511627776) : n ≤ (Qvq n : Int) * (Qvq n : Int) ∧ ∀ j : Nat, j < Qvq n → (j : Int) * j < n := by
 unfold Qvq
 rw [Qsf]
 refine Qsv n 1048576 0 (fun j hj => absurd hj (Nat.not_lt_zero _)) ?_
 rw [show ((0 + 1048576 : Nat) : Int) * ((0 + 1048576 : Nat) : Int) = 1099511627776 by decide]
 exact h
theorem Zb9 {n : Int} (h : n ≤ 1099511627776) {m : Nat} (h1 : n ≤ (m : Int) * m) (h2 : ∀ j : Nat, j < m → (j : Int) * j < n) : m = Qvq n := by
 obtain ⟨g1, g2⟩ := Qmv h
 rcases Nat.lt_trichotomy m (Qvq n) with h' | h' | h'
 · have := g2 m h'; omega
 · exact h'
 · have := h2 _ h'; omega
theorem Q0q {a b : Nat} (h : a ≤ b) : (a : Int) * a ≤ (b : Int) * b := by
 have := Nat.mul_le_mul h h
 exact_mod_cast this
theorem Zb8 {n : Int} {m : Nat} (h : n ≤ 1099511627776) (h1 : n ≤ (m : Int) * m) : Qvq n ≤ m := by
 rcases Nat.lt_or_ge m (Qvq n) with h' | h'
 · have := (Qmv h).2 m h'; omega
 · exact h'
theorem Qy4 : Qai Tryz.prog 93 Q1o := Qan hm Qas Tryz.func93 (Λ := fun args => match args with | [.v (.int .i64 n)] => Qze n | _ => Qax) fun args p x h hp => by
 unfold Q1o at h
 split at h <;> try (cases h; done)
 rename_i n
 cases h
 obtain ⟨h0, h1⟩ := hp _ rfl
 refine ⟨rfl, rfl, ?_⟩
 refine Eq.mpr (Zb3 n _) ?_
 refine ⟨⟨⟨0, 1048576⟩, ⟨by simp, by simp, by show n ≤ ((1048576 : Nat) : Int) * ((1048576 : Nat) : Int); omega, fun j hj => absurd hj (Nat.not_lt_zero _)⟩, ⟨rfl, rfl⟩, trivial⟩, fun ⟨l, hh⟩ ⟨x1, x2, x3, x4⟩ => ?_⟩
 simp only at x1 x2 x3 x4 ⊢
 refine Qaf (fun hlt => ?_) fun hge => ?_
 · have hlt := of_decide_eq_true hlt
   have w1 : IntKind.i64.wrap (Int.tdiv (IntKind.i64.wrap ((l : Int) + hh)) 2) = (((l + hh) / 2 : Nat) : Int) := by
     rw [Qag (n := (l : Int) + hh) ⟨by omega, by omega⟩, Int.tdiv_eq_ediv_of_nonneg (by omega), Qag ⟨by omega, by omega⟩]; omega
   rw [w1]
   have hm1 : (l + hh) / 2 < hh := by omega
   have hm2 : l ≤ (l + hh) / 2 := by omega
   generalize (l + hh) / 2 = m at *
   have hsq : (m : Int) * m ≤ 1099511627776 := by
     have := Q0q (show m ≤ 1048576 by omega)
     exact this
   have hsq0 : (0 : Int) ≤ (m : Int) * m := Int.mul_nonneg (by omega) (by omega)
   rw [Qag (n := (m : Int) * m) ⟨by omega, by omega⟩, Qag ⟨by omega, by omega⟩]
   refine Qaf (fun h => ?_) fun h => ?_
   · have h := of_decide_eq_true h
     refine ⟨⟨m + 1, hh⟩, ⟨⟨by simp only; omega, x2, x3, fun j hj => ?_⟩, ⟨rfl, rfl⟩, trivial⟩, by simp only; omega⟩
     have := Q0q (show j ≤ m by simp only at hj; omega)
     omega
   · have h := of_decide_eq_false h
     exact ⟨⟨l, m⟩, ⟨⟨by simp only; omega, by simp only; omega, by simp only; omega, x4⟩, ⟨rfl, rfl⟩, trivial⟩, by simp only; omega⟩
 · have hge := of_decide_eq_false hge
   obtain rfl : l = hh := by omega
   exact Qbj (by rw [Zb9 h1 x3 x4])
def Qea (p q : Int × Int) : Int := Qsp p.1 p.2 q.1 q.2
noncomputable def Qm3 (r : Int) (g : Nat → Int × Int) : Nat → Int
 | 0 => r
 | k + 1 => max (Qm3 r g k) (Qvq (Qea (g k) (g k)) : Nat)
noncomputable def Ze7 (e : Int) (s : ShB) (n : Nat) (g : Nat → Int × Int) : Int := bif e != 0 then 0 else Qm3 s.r (Qbh s g) (Qbb 0 s n)
noncomputable def Q1b : List SV → List Ro → Option (Option Prop × SV)
 | [.agg [.v (.int .i64 k), .v (.int .i64 r), .v (.int .i64 w), .v (.int .i64 h), .sl 0 2 0 n _]], [⟨2, n', row⟩] => some (some (Qiq ⟨k, r, w, h⟩ ∧ Qcc Qsc (Qal n' row) ∧ n' = n ∧ n < 1099511627776), .v (.int .i64 (Ze7 (Qck ⟨k, r, w, h⟩ n fun i => gi (row i)) ⟨k, r, w, h⟩ n fun i => gi (row i))))
 | [.agg [.v (.int .i64 k), .v (.int .i64 r), .v (.int .i64 w), .v (.int .i64 h), .v (.slice none 0 0)]], [] => some (some (Qiq ⟨k, r, w, h⟩ ∧ Qck ⟨k, r, w, h⟩ 0 zP ≠ 0), .v (.int .i64 0))
 | _, _ => none
noncomputable def Zlo : List SV → List Ro → Option (Option Prop × SV)
 | [.agg [.v (.int .i64 k), .v (.int .i64 r), .v (.int .i64 w), .v (.int .i64 h), .sl 0 2 0 n _]], [⟨2, n', row⟩] => some (some (Qiq ⟨k, r, w, h⟩ ∧ Qcc Qsc (Qal n' row) ∧ n' = n ∧ n < 1099511627776), .v (.int .i64 (Ze7 (Qck ⟨k, r, w, h⟩ n fun i => gi (row i)) ⟨k, r, w, h⟩ n fun i => gi (row i))))
 | _, _ => none
def Qfi (n : Nat) (g : Nat → Int × Int) : Nat → Int
 | 0 => 0
 | k + 1 => Qfi n g k + Qad (g k) (g ((k + 1) % n))
def Qmd (n : Nat) (g : Nat → Int × Int) : Nat → Int
 | 0 => 0
 | k + 1 => Qmd n g k + Qad (g k) (g ((k + 1) % n)) * (Qea (g k) (g k) + Qea (g k) (g ((k + 1) % n)) + Qea (g ((k + 1) % n)) (g ((k + 1) % n)))
def Zdv : NB := ⟨13493037704, false⟩
def Qzz (r d : Int) : VB := ⟨Qda (Qda (Qd2 65536 (r * r)) Zdv) (Qf8 d), Qda (Qda (Qd2 8589934592 (r * r * r * r)) Zdv) (Qf8 d)⟩
def Qrs (a m d : Int) : VB := ⟨Qda (Qd2 131072 a) (Qf8 d), Qda (Qd2 51539607552 m) (Qf8 d)⟩
def Qtb (e d : Int) : Int := bif e != 0 then e else bif decide (d < 1) || decide (d > 1000) then 3 else 0
def Qzx (e : Int) (s : ShB) (n : Nat) (g : Nat → Int × Int) (d : Int) : VB := bif Qtb e d != 0 then Qps else bif s.k == 1 then Qzz s.r d else Qrs (Qfi (Qbb 0 s n) (Qbh s g) (Qbb 0 s n)) (Qmd (Qbb 0 s n) (Qbh s g) (Qbb 0 s n)) d
def Q02 : List SV → List Ro → Option (Option Prop × SV)
 | [.agg [.v (.int .i64 k), .v (.int .i64 r), .v (.int .i64 w), .v (.int .i64 h), .sl 0 2 0 n _], .v (.int .i64 d)], [⟨2, n', row⟩] => some (some ((Qiq ⟨k, r, w, h⟩ ∧ Qcc Qsc (Qal n' row) ∧ n' = n ∧ n < 1099511627776) ∧ I64 d), .tup [vS (Qzx (Qck ⟨k, r, w, h⟩ n fun i => gi (row i)) ⟨k, r, w, h⟩ n (fun i => gi (row i)) d), .v (.int .i64 (Qtb (Qck ⟨k, r, w, h⟩ n fun i => gi (row i)) d))])
 | _, _ => none
noncomputable def Q8z : Qb7 := Qah (Qah (Qah (Qah (Qah (Qah (Qah (Qah (Qah (Qah Zao 92 (Qgv false Ql6)) 25 (Qcv Qhh)) 144 (Qcv Qhh)) 19 (Qgv false Qxp)) 173 (Qgv false Qxp)) 165 (Qaj Qle)) 94 (Qaj Qxo)) 221 (Qaj Qle)) 222 (Qaj Qxo)) 93 (Qaj Q1o)
noncomputable def Qth (r : Int) (N : Nat) (g : Nat → Int × Int) : Nat → Option LoopSpec := Qq9 Qax 0 Qj2 Nat (fun k => k ≤ N) (fun k => k) [(128, fun k => Qep 2 [.v (.int .i64 (Qm3 r g k))])]
@[reducible] noncomputable def Qa4 (s : ShB) (n : Nat) (n' : Nat) (g : Nat→Int × Int) := (Qbz (Qaw (Ro.blk {s:=2,n:=n',row:=fun i => [SV.v (.int .i64 (Prod.fst (g i))),SV.v (.int .i64 (Prod.snd (g i)))]}) 2 0 n))
theorem Zba (s : ShB) (n n' c : Nat) (g : Nat→Int × Int) (R : SV→Prop) : (Qcm Tryz.prog Q8z (Qth s.r (Qbb 0 s n) (Qbh s g)) Tryz.f26 [shS s (.sl 0 2 0 n c)] (Qbe [⟨2,n',Qco g⟩]) 64 (fun y _ => R y)) =
(((Qiq s)∧((Qcc Qsc (Qal n fun y => [SV.v (.int .i64 (Prod.fst (g (0 + y)))),SV.v (.int .i64 (Prod.snd (g (0 + y))))]))∧(((n : Nat) = n)∧((n : Nat) < 1099511627776))))∧(sel ((Qck s n fun i => gi [SV.v (.int .i64 (Prod.fst (g (0 + i)))),SV.v (.int .i64 (Prod.snd (g (0 + i))))]) != 0) (R (SV.v (.int .i64 0))) (((Qiq s)∧(Qfd n (Qaw (Ro.blk {s:=2,n:=n',row:=fun i => [SV.v (.int .i64 (Prod.fst (g i))),SV.v (.int .i64 (Prod.snd (g i)))]}) 2 0 n)))∧(∀ c_1 : Nat,(((It.P Qj2 = Tryz.prog)∧((((Qbb (Qck s n (Qa4 s n n' g)) s n) : Nat) ≤ 1099511627776)∧((((0 + Qbb (Qck s n (Qa4 s n n' g)) s n) : Nat) ≤ (Qbb (Qck s n (Qa4 s n n' g)) s n))∧(∀ j : Nat,(((j : Nat) < (Qbb (Qck s n (Qa4 s n n' g)) s n))→([(SV.v (.int .i64 (Prod.fst (Qbh s (Qa4 s n n' g) (0 + j))))),(SV.v (.int .i64 (Prod.snd (Qbh s (Qa4 s n n' g) (0 + j)))))] = [(SV.v (.int .i64 (Prod.fst (gi [SV.v (.int .i64 (Prod.fst (Qbh s (Qa4 s n n' g) (0 + j)))),SV.v (.int .i64 (Prod.snd (Qbh s (Qa4 s n n' g) (0 + j))))])))),(SV.v (.int .i64 (Prod.snd (gi [SV.v (.int .i64 (Prod.fst (Qbh s (Qa4 s n n' g) (0 + j)))),SV.v (.int .i64 (Prod.snd (Qbh s (Qa4 s n n' g) (0 + j))))]))))]))))))∧((∃ x : Nat,(((x : Nat) = 0)∧((Nat.le x (Qbb 0 s n))∧(True∧(((1 : Nat) = 1)∧(((1 : Nat) ≤ 1)∧(∀ i : Nat,(((i : Nat) < 1)→([(SV.v (.int .i64 (ShB.r s)))] = [(SV.v (.int .i64 (Qm3 (ShB.r s) (Qbh s g) x)))])))))))))∧((∀ x : Nat,((Nat.le x (Qbb 0 s n))→(((x : Nat) < (Qbb (Qck s n (Qa4 s n n' g)) s n))→((((Sp (Prod.fst (gi [SV.v (.int .i64 (Prod.fst (Qbh s (Qa4 s n n' g) (0 + x)))),SV.v (.int .i64 (Prod.snd (Qbh s (Qa4 s n n' g) (0 + x))))])))∧(Sp (Prod.snd (gi [SV.v (.int .i64 (Prod.fst (Qbh s (Qa4 s n n' g) (0 + x)))),SV.v (.int .i64 (Prod.snd (Qbh s (Qa4 s n n' g) (0 + x))))]))))∧((Sp (Prod.fst (gi [SV.v (.int .i64 (Prod.fst (Qbh s (Qa4 s n n' g) (0 + x)))),SV.v (.int .i64 (Prod.snd (Qbh s (Qa4 s n n' g) (0 + x))))])))∧(Sp (Prod.snd (gi [SV.v (.int .i64 (Prod.fst (Qbh s (Qa4 s n n' g) (0 + x)))),SV.v (.int .i64 (Prod.snd (Qbh s (Qa4 s n n' g) (0 + x))))])))))∧((((0 : Int) ≤ (Qsp (Prod.fst (gi [SV.v (.int .i64 (Prod.fst (Qbh s (Qa4 s n n' g) (0 + x)))),SV.v (.int .i64 (Prod.snd (Qbh s (Qa4 s n n' g) (0 + x))))])) (Prod.snd (gi [SV.v (.int .i64 (Prod.fst (Qbh s (Qa4 s n n' g) (0 + x)))),SV.v (.int .i64 (Prod.snd (Qbh s (Qa4 s n n' g) (0 + x))))])) (Prod.fst (gi [SV.v (.int .i64 (Prod.fst (Qbh s (Qa4 s n n' g) (0 + x)))),SV.v (.int .i64 (Prod.snd (Qbh s (Qa4 s n n' g) (0 + x))))])) (Prod.snd (gi [SV.v (.int .i64 (Prod.fst (Qbh s (Qa4 s n n' g) (0 + x)))),SV.v (.int .i64 (Prod.snd (Qbh s (Qa4 s n n' g) (0 + x))))]))))∧(((Qsp (Prod.fst (gi [SV.v (.int .i64 (Prod.fst (Qbh s (Qa4 s n n' g) (0 + x)))),SV.v (.int .i64 (Prod.snd (Qbh s (Qa4 s n n' g) (0 + x))))])) (Prod.snd (gi [SV.v (.int .i64 (Prod.fst (Qbh s (Qa4 s n n' g) (0 + x)))),SV.v (.int .i64 (Prod.snd (Qbh s (Qa4 s n n' g) (0 + x))))])) (Prod.fst (gi [SV.v (.int .i64 (Prod.fst (Qbh s (Qa4 s n n' g) (0 + x)))),SV.v (.int .i64 (Prod.snd (Qbh s (Qa4 s n n' g) (0 + x))))])) (Prod.snd (gi [SV.v (.int .i64 (Prod.fst (Qbh s (Qa4 s n n' g) (0 + x)))),SV.v (.int .i64 (Prod.snd (Qbh s (Qa4 s n n' g) (0 + x))))]))) : Int) ≤ 1099511627776))∧(∃ x' : Nat,(((x' : Nat) = (x + 1))∧((Nat.le x' (Qbb 0 s n))∧(True∧(((1 : Nat) = 1)∧(((1 : Nat) ≤ 1)∧(∀ i : Nat,(((i : Nat) < 1)→([(SV.v (.int .i64 (max (Qm3 (ShB.r s) (Qbh s g) x) (↑(Qvq (Qsp (Prod.fst (gi [SV.v (.int .i64 (Prod.fst (Qbh s (Qa4 s n n' g) (0 + x)))),SV.v (.int .i64 (Prod.snd (Qbh s (Qa4 s n n' g) (0 + x))))])) (Prod.snd (gi [SV.v (.int .i64 (Prod.fst (Qbh s (Qa4 s n n' g) (0 + x)))),SV.v (.int .i64 (Prod.snd (Qbh s (Qa4 s n n' g) (0 + x))))])) (Prod.fst (gi [SV.v (.int .i64 (Prod.fst (Qbh s (Qa4 s n n' g) (0 + x)))),SV.v (.int .i64 (Prod.snd (Qbh s (Qa4 s n n' g) (0 + x))))])) (Prod.snd (gi [SV.v (.int .i64 (Prod.fst (Qbh s (Qa4 s n n' g) (0 + x)))),SV.v (.int .i64 (Prod.snd (Qbh s (Qa4 s n n' g) (0 + x))))])))) : Int))))] = [(SV.v (.int .i64 (Qm3 (ShB.r s) (Qbh s g) x')))]))))))))))))))∧(∀ x : Nat,((Nat.le x (Qbb 0 s n))→(((x : Nat) = (Qbb (Qck s n (Qa4 s n n' g)) s n))→(R (SV.v (.int .i64 (Qm3 (ShB.r s) (Qbh s g) x)))))))))))))) := by kernel_rfl
theorem Q5q (s : ShB) (R : SV→Prop) : (Qcm Tryz.prog Q8z Qax Tryz.f26 [shS s nilV] (Qbe []) 64 (fun y _ => R y)) = ((Qiq s)∧(sel ((Qck s 0 fun x => (0,0)) != 0) (R (SV.v (.int .i64 0))) False)):=by kernel_rfl
theorem Qtp : ∀ f g, Q8z f = some g → g.ok Tryz.prog f := Qab (Qab (Qab (Qab (Qab (Qab (Qab (Qab (Qab (Qab Qke (Qhu Tryz.func92 (by kernel_rfl) (by kernel_rfl) Qkb)) (Qc0 Tryz.func25 (by kernel_rfl) (by kernel_rfl) Qn7)) (Qc0 Tryz.func144 (by kernel_rfl) (by kernel_rfl) Qls)) (Qhu Tryz.func19 (by kernel_rfl) (by kernel_rfl) Q4u)) (Qhu Tryz.func173 (by kernel_rfl) (by kernel_rfl) Qyr)) (Qak Tryz.func165 (by kernel_rfl) (by kernel_rfl) Qn6)) (Qak Tryz.func94 (by kernel_rfl) (by kernel_rfl) Q4q)) (Qak Tryz.func221 (by kernel_rfl) (by kernel_rfl) Qlr)) (Qak Tryz.func222 (by kernel_rfl) (by kernel_rfl) Qyq)) (Qak Tryz.func93 (by kernel_rfl) (by kernel_rfl) Qy4)
theorem Zl9 (p : Int × Int) : gi [SV.v (.int .i64 p.1), SV.v (.int .i64 p.2)] = p := rfl
theorem Q5h (n' n : Nat) (g : Nat → Int × Int) : Qbz (Qaw (Ro.blk { s := 2, n := n', row := fun i => [SV.v (.int .i64 (g i).1), SV.v (.int .i64 (g i).2)] }) 2 0 n) = g := funext fun i => by
 show gi [SV.v (.int .i64 (g (0 + i)).1), SV.v (.int .i64 (g (0 + i)).2)] = g i
 rw [Nat.zero_add]; rfl
theorem Qh6 {n n' : Nat} {g : Nat → Int × Int} (hn : n < 1099511627776) (hg : ∀ i, i < n → I64 (g i).1 ∧ I64 (g i).2) : Qfd n (Qaw (Ro.blk { s := 2, n := n', row := fun i => [SV.v (.int .i64 (g i).1), SV.v (.int .i64 (g i).2)] }) 2 0 n) := Qts hn hg fun _ => rfl
def Q12 (x : Int) : Prop := -4096 ≤ x ∧ x ≤ 4096
theorem Q12.sp {x : Int} (h : Q12 x) : Sp x := ⟨by have := h.1; omega, by have := h.2; omega⟩
theorem Zhu {p : Int × Int} (h : Qgh p = true) : Q12 p.1 ∧ Q12 p.2 := by
 unfold Qgh Qju at h
 simp only [Bool.and_eq_true, decide_eq_true_eq] at h
 exact h
theorem Qv2 {x y : Int} (h : Q12 x) (k : Q12 y) : -16777216 ≤ x * y ∧ x * y ≤ 16777216 := by
 obtain ⟨a, b⟩ := h
 obtain ⟨c, d⟩ := k
 have h1 : (x + 4096) * (y + 4096) ≥ 0 := Int.mul_nonneg (by omega) (by omega)
 have h2 : (4096 - x) * (4096 - y) ≥ 0 := Int.mul_nonneg (by omega) (by omega)
 have h3 : (x + 4096) * (4096 - y) ≥ 0 := Int.mul_nonneg (by omega) (by omega)
 have h4 : (4096 - x) * (y + 4096) ≥ 0 := Int.mul_nonneg (by omega) (by omega)
 simp only [Int.add_mul, Int.mul_add, Int.sub_mul, Int.mul_sub] at h1 h2 h3 h4
 omega
theorem Qnw {s : ShB} {n : Nat} {g : Nat → Int × Int} (e : Qck s n g = 0) : ((s.k == 1) = true ∧ 16 ≤ s.r ∧ s.r ≤ 4096 ∧ n = 0) ∨ ((s.k == 1) = false ∧ (s.k == 2) = true ∧ s.r = 0 ∧ n = 0 ∧ (16 ≤ s.w ∧ s.w ≤ 4096) ∧ 16 ≤ s.h ∧ s.h ≤ 4096) ∨ ((s.k == 1) = false ∧ (s.k == 2) = false ∧ s.r = 0 ∧ 3 ≤ n ∧ n ≤ 8 ∧ (∀ i, i < n → Qgh (g i) = true) ∧ Qdi n g = true) := by
 have e0 := e
 unfold Qck at e
 cases h1 : (s.k == 1) with
 | true =>
   rw [h1, cond_true] at e
   cases h2 : (s.w != 0 || (s.h != 0 || (n : Int) != 0)) with
   | true => rw [h2] at e; cases e
   | false =>
     rw [h2, cond_false] at e
     simp only [Bool.or_eq_false_iff, bne_eq_false_iff_eq] at h2
     cases h3 : Qeb s.r with
     | false => rw [h3] at e; cases e
     | true => exact .inl ⟨rfl, (Ql3 h3).1, (Ql3 h3).2, by omega⟩
 | false =>
   cases h2 : (s.k == 2) with
   | true =>
     obtain ⟨w1, w2⟩ := Qq3 e0 h2
     rw [h1, h2, cond_false, cond_true] at e
     cases h3 : (s.r != 0 || (n : Int) != 0) with
     | true => rw [h3] at e; cases e
     | false =>
       simp only [Bool.or_eq_false_iff, bne_eq_false_iff_eq] at h3
       exact .inr (.inl ⟨rfl, rfl, h3.1, by omega, w1, w2⟩)
   | false =>
     rw [h1, h2, cond_false, cond_false] at e
     cases h3 : (s.k == 3) with
     | false => rw [h3] at e; cases e
     | true =>
       rw [h3, cond_true] at e
       cases h4 : (s.r != 0 || (s.w != 0 || (s.h != 0 || (decide ((n : Int) < 3) || decide ((n : Int) > 8))))) with
       | true => rw [h4] at e; cases e
       | false =>
         rw [h4, cond_false] at e
         simp only [Bool.or_eq_false_iff, bne_eq_false_iff_eq, decide_eq_false_iff_not] at h4
         cases h5 : (List.range n).all (fun i => Qgh (g i)) with
         | false => rw [h5] at e; cases e
         | true =>
           rw [h5, cond_true] at e
           cases h6 : Qdi n g with
           | false => rw [h6] at e; cases e
           | true => exact .inr (.inr ⟨rfl, rfl, h4.1, by omega, by omega, fun i hi => List.all_eq_true.1 h5 i (List.mem_range.2 hi), rfl⟩)
theorem Q7k {s : ShB} {n : Nat} {g : Nat → Int × Int} (e : Qck s n g = 0) : 0 ≤ s.r ∧ s.r ≤ 4096 := by
 rcases Qnw e with h | h | h
 · exact ⟨by omega, h.2.2.1⟩
 · omega
 · omega
theorem Q3b {s : ShB} {n : Nat} {g : Nat → Int × Int} (e : Qck s n g = 0) : Qbb 0 s n ≤ 8 := by
 unfold Qbb
 rcases Qnw e with ⟨h1, _, _, h4⟩ | ⟨h1, h2, _⟩ | ⟨h1, h2, h3, h4, h5, _⟩
 · have : (s.k == 2) = false := by have : s.k = 1 := by simpa using h1
                                   rw [this]; rfl
   rw [this]
   show n ≤ 8
   omega
 · rw [h2]; show 4 ≤ 8; omega
 · rw [h2]; exact h5
theorem Qwt {s : ShB} {n : Nat} {g : Nat → Int × Int} (e : Qck s n g = 0) : ∀ i, i < Qbb 0 s n → Q12 (Qbh s g i).1 ∧ Q12 (Qbh s g i).2 := by
 unfold Qbb Qbh
 rcases Qnw e with ⟨h1, _, _, h4⟩ | ⟨h1, h2, h3, h4, ⟨w1, w2⟩, w3, w4⟩ | ⟨h1, h2, h3, h4, h5, h6, _⟩
 · have : (s.k == 2) = false := by have : s.k = 1 := by simpa using h1
                                   rw [this]; rfl
   rw [this]
   intro i hi
   have hi : i < n := hi
   omega
 · rw [h2]
   intro i hi
   have hi : i < 4 := hi
   obtain rfl | rfl | rfl | rfl : i = 0 ∨ i = 1 ∨ i = 2 ∨ i = 3 := by omega
   · exact ⟨⟨by show -4096 ≤ -s.w; omega, by show -s.w ≤ 4096; omega⟩, by show -4096 ≤ -s.h; omega, by show -s.h ≤ 4096; omega⟩
   · exact ⟨⟨by show -4096 ≤ s.w; omega, by show s.w ≤ 4096; omega⟩, by show -4096 ≤ -s.h; omega, by show -s.h ≤ 4096; omega⟩
   · exact ⟨⟨by show -4096 ≤ s.w; omega, by show s.w ≤ 4096; omega⟩, by show -4096 ≤ s.h; omega, by show s.h ≤ 4096; omega⟩
   · exact ⟨⟨by show -4096 ≤ -s.w; omega, by show -s.w ≤ 4096; omega⟩, by show -4096 ≤ s.h; omega, by show s.h ≤ 4096; omega⟩
 · rw [h2]
   intro i hi
   exact Zhu (h6 i hi)
theorem Qgf {p q : Int × Int} (h : Q12 p.1 ∧ Q12 p.2) (k : Q12 q.1 ∧ Q12 q.2) : -33554432 ≤ Qea p q ∧ Qea p q ≤ 33554432 := by
 have h1 := Qv2 h.1 k.1
 have h2 := Qv2 h.2 k.2
 unfold Qea Qsp
 omega
theorem Q9v (p : Int × Int) : 0 ≤ Qea p p := by
 have h1 := Qbs p.1
 have h2 := Qbs p.2
 unfold Qea Qsp
 omega
theorem Qj1 {p q : Int × Int} (h : Q12 p.1 ∧ Q12 p.2) (k : Q12 q.1 ∧ Q12 q.2) : -33554432 ≤ Qad p q ∧ Qad p q ≤ 33554432 := by
 have h1 := Qv2 h.1 k.2
 have h2 := Qv2 h.2 k.1
 unfold Qad Qap
 omega
theorem Zca {p : Int × Int} (h : Q12 p.1 ∧ Q12 p.2) : Qvq (Qea p p) ≤ 8192 := Zb8 (by have := Qgf h h; omega) (by have := Qgf h h; show Qea p p ≤ 8192 * 8192; omega)
theorem Q1x {r : Int} {g : Nat → Int × Int} (hr : 0 ≤ r ∧ r ≤ 4096) : ∀ k, (∀ i, i < k → Q12 (g i).1 ∧ Q12 (g i).2) → 0 ≤ Qm3 r g k ∧ Qm3 r g k ≤ 8192
 | 0, _ => by unfold Qm3; omega
 | k + 1, h => by
   have h1 := Q1x hr k fun i hi => h i (by omega)
   have h2 := Zca (h k (by omega))
   unfold Qm3
   omega
theorem Q6v {s : ShB} {n c : Nat} {g : Nat → Int × Int} (hs : Qiq s) (hn : n < 1099511627776) (hg : ∀ i, i < n → I64 (g i).1 ∧ I64 (g i).2) : Qcm Tryz.prog Q8z (Qth s.r (Qbb 0 s n) (Qbh s g)) Tryz.f26 [shS s (.sl 0 2 0 n c)] (Qbe [⟨2, n, Qco g⟩]) 64 (fun y _ => y = .v (.int .i64 (Ze7 (Qck s n g) s n g))) := by
 refine Eq.mpr (Zba s n n c g _) ?_
 repeat (first | unfold Qa4)
 refine ?_
 have hpre := Qh6 (n' := n) hn hg
 rw [Qnk]
 simp only [Q5h, Zl9, Nat.zero_add]
 refine ⟨⟨hs, okAll_rows.2 fun i hi => hg i hi, by trivial, hn⟩, Qaf (fun h => ?_) fun h => ⟨⟨hs, hpre⟩, fun c1 => ?_⟩⟩
 · refine Qbj ?_; unfold Ze7; rw [h]; rfl
 · have e0 := (Qja (s := zSh) h).2
   have hN := Q3b e0
   have hq := Qwt e0
   have hr := Q7k e0
   have hfin : Ze7 0 s n g = Qm3 s.r (Qbh s g) (Qbb 0 s n) := rfl
   rw [e0, hfin]
   generalize Qbb 0 s n = N at *
   refine ⟨⟨rfl, by omega, Nat.le_refl _, fun _ _ => by trivial⟩, ⟨0, by trivial, Nat.zero_le _, by trivial, by trivial, by trivial, fun _ _ => rfl⟩, fun x hx hlt => ?_, fun x hx he => ?_⟩
   · obtain ⟨a1, a2⟩ := hq x hlt
     have b1 := Qgf (hq x hlt) (hq x hlt)
     have b2 := Q9v (Qbh s g x)
     unfold Qea at b1 b2
     refine ⟨⟨⟨a1.sp, a2.sp⟩, a1.sp, a2.sp⟩, ⟨b2, by omega⟩, x + 1, by trivial, hlt, by trivial, by trivial, by trivial, fun _ _ => ?_⟩
     have : Qm3 s.r (Qbh s g) (x + 1) = max (Qm3 s.r (Qbh s g) x) (Qvq (Qea (Qbh s g x) (Qbh s g x)) : Nat) := rfl
     rw [this]; rfl
   · have he : x = N := he
     rw [he]
theorem Q1v {s : ShB} (hs : Qiq s) (hc : Qck s 0 zP ≠ 0) : Qcm Tryz.prog Q8z Qax Tryz.f26 [shS s nilV] (Qbe []) 64 (fun y _ => y = .v (.int .i64 0)) := by
 refine Eq.mpr (Q5q s _) ?_
 exact ⟨hs, Qaf (fun _ => rfl) fun h => hc (Qja (s := zSh) h).2⟩
theorem Qyi : Qca Tryz.prog 26 Q1b := Qbw hm Qtp Tryz.func26 (Λ := fun args bs => match args, bs with | [.agg [.v (.int .i64 k), .v (.int .i64 r), .v (.int .i64 w), .v (.int .i64 h), .sl 0 2 0 n _]], [⟨2, _, row⟩] => Qth r (Qbb 0 ⟨k, r, w, h⟩ n) (Qbh ⟨k, r, w, h⟩ (fun i => gi (row i))) | _, _ => Qax) fun args bs p x h hp => by
 unfold Q1b at h
 split at h <;> try (cases h; done)
 · rename_i k r w hh n c n' row
   cases h
   obtain ⟨hs, h0, rfl, hn⟩ := hp _ rfl
   have h0 := okAll_rows.1 h0
   refine ⟨rfl, [⟨2, n', Qco fun i => gi (row i)⟩], ⟨⟨rfl, rfl, fun i hi => (Qds (h0 i hi)).1⟩, trivial⟩, ?_⟩
   exact Q6v (s := ⟨k, r, w, hh⟩) hs hn fun i hi => (Qds (h0 i hi)).2
 · rename_i k r w hh
   cases h
   obtain ⟨hs, hc⟩ := hp _ rfl
   exact ⟨rfl, [], trivial, Q1v (s := ⟨k, r, w, hh⟩) hs hc⟩
noncomputable def Qpn (N : Nat) (g : Nat → Int × Int) : Nat → Option LoopSpec := Qx6 (Qb9 Qax Tryz.f145 0 Nat (fun k => k ≤ N) (fun k => N - k) [(13, fun k => .v (.int .i64 k)), (10, fun k => .v (.int .i64 (Qfi N g k))), (11, fun k => .v (.int .i64 (Qmd N g k)))] []) 15 [(14, fun nx => nx + 96), (15, fun nx => nx + 104)]
@[reducible] noncomputable def Qam (s : ShB) (n : Nat) (n' : Nat) (g : Nat→Int × Int) := (Qbz (Qaw (Ro.blk {s:=2,n:=n',row:=fun i => [SV.v (.int .i64 (Prod.fst (g i))),SV.v (.int .i64 (Prod.snd (g i)))]}) 2 0 n))
@[reducible] noncomputable def Qfl (s : ShB) := (IntKind.wrap IntKind.i64 (IntKind.wrap IntKind.i64 (ShB.r s * ShB.r s) * IntKind.wrap IntKind.i64 (ShB.r s * ShB.r s)))
theorem Q5r (s : ShB) (n n' c : Nat) (g : Nat→Int × Int) (d : Int) (R : SV→Prop) : (Qcm Tryz.prog Q8z (Qpn (Qbb 0 s n) (Qbh s g)) Tryz.f145 [shS s (.sl 0 2 0 n c),.v (.int .i64 d)] (Qbe [⟨2,n',Qco g⟩]) 64 (fun y _ => R y)) =
(((Qiq s)∧((Qcc Qsc (Qal n fun y => [SV.v (.int .i64 (Prod.fst (g (0 + y)))),SV.v (.int .i64 (Prod.snd (g (0 + y))))]))∧(((n : Nat) = n)∧((n : Nat) < 1099511627776))))∧(sel ((Qck s n fun i => gi [SV.v (.int .i64 (Prod.fst (g (0 + i)))),SV.v (.int .i64 (Prod.snd (g (0 + i))))]) != 0) (R (SV.tup [(SV.agg [(SV.v (.int .i64 0)),(SV.v (.bool false)),(SV.v (.int .i64 0)),(SV.v (.bool false))]),(SV.v (.int .i64 (Qck s n fun i => gi [SV.v (.int .i64 (Prod.fst (g (0 + i)))),SV.v (.int .i64 (Prod.snd (g (0 + i))))])))])) (sel (decide (d < 1)) (R (SV.tup [(SV.agg [(SV.v (.int .i64 0)),(SV.v (.bool false)),(SV.v (.int .i64 0)),(SV.v (.bool false))]),(SV.v (.int .i64 3))])) (sel (decide (d > 1000)) (R (SV.tup [(SV.agg [(SV.v (.int .i64 0)),(SV.v (.bool false)),(SV.v (.int .i64 0)),(SV.v (.bool false))]),(SV.v (.int .i64 3))])) ((I64 d)∧(sel (ShB.k s == 1) (((I64 65536)∧(I64 (IntKind.wrap IntKind.i64 (ShB.r s * ShB.r s))))∧(((I64 (NB.v (Qd2 65536 (IntKind.wrap IntKind.i64 (ShB.r s * ShB.r s)))))∧(I64 13493037704))∧(((I64 (NB.v (Qda (Qd2 65536 (IntKind.wrap IntKind.i64 (ShB.r s * ShB.r s))) {v:=13493037704,f:=false})))∧(I64 (NB.v (Qf8 d))))∧(((I64 8589934592)∧(I64 (Qfl s)))∧(((I64 (NB.v (Qd2 8589934592 (Qfl s))))∧(I64 13493037704))∧(((I64 (NB.v (Qda (Qd2 8589934592 (Qfl s)) {v:=13493037704,f:=false})))∧(I64 (NB.v (Qf8 d))))∧(R (SV.tup [(SV.agg [(SV.v (.int .i64 (NB.v (Qda (Qda (Qd2 65536 (IntKind.wrap IntKind.i64 (ShB.r s * ShB.r s))) {v:=13493037704,f:=false}) (Qf8 d))))),(SV.v (.bool (NB.f (Qda (Qda (Qd2 65536 (IntKind.wrap IntKind.i64 (ShB.r s * ShB.r s))) {v:=13493037704,f:=false}) (Qf8 d))))),(SV.v (.int .i64 (NB.v (Qda (Qda (Qd2 8589934592 (Qfl s)) {v:=13493037704,f:=false}) (Qf8 d))))),(SV.v (.bool (NB.f (Qda (Qda (Qd2 8589934592 (Qfl s)) {v:=13493037704,f:=false}) (Qf8 d)))))]),(SV.v (.int .i64 0))])))))))) (((Qiq s)∧(Qfd n (Qaw (Ro.blk {s:=2,n:=n',row:=fun i => [SV.v (.int .i64 (Prod.fst (g i))),SV.v (.int .i64 (Prod.snd (g i)))]}) 2 0 n)))∧(∀ c_1 : Nat,((∃ x : Nat,((Nat.le x (Qbb 0 s n))∧((((SV.v (.int .i64 0)) = (SV.v (.int .i64 ((↑x : Int)))))∧(((SV.v (.int .i64 0)) = (SV.v (.int .i64 (Qfi (Qbb 0 s n) (Qbh s g) x))))∧((SV.v (.int .i64 0)) = (SV.v (.int .i64 (Qmd (Qbb 0 s n) (Qbh s g) x))))))∧True)))∧(∀ x : Nat,((Nat.le x (Qbb 0 s n))→(sel (decide ((↑x : Int) < (↑(Qbb (Qck s n (Qam s n n' g)) s n) : Int))) ((((0 : Int) ≤ ((↑x : Int)))∧((((↑x : Int)) : Int) < ((↑(Qbb (Qck s n (Qam s n n' g)) s n) : Int))))∧(((((↑(Qbb (Qck s n (Qam s n n' g)) s n) : Int)) : Int) ≠ 0)∧((((0 : Int) ≤ (Int.tmod (IntKind.wrap IntKind.i64 ((↑x : Int) + 1)) (↑(Qbb (Qck s n (Qam s n n' g)) s n) : Int)))∧(((Int.tmod (IntKind.wrap IntKind.i64 ((↑x : Int) + 1)) (↑(Qbb (Qck s n (Qam s n n' g)) s n) : Int)) : Int) < ((↑(Qbb (Qck s n (Qam s n n' g)) s n) : Int))))∧((((Sp (Prod.fst (Qbh s (Qam s n n' g) (0 + Int.toNat (↑x : Int)))))∧(Sp (Prod.snd (Qbh s (Qam s n n' g) (0 + Int.toNat (↑x : Int))))))∧((Sp (Prod.fst (Qbh s (Qam s n n' g) (0 + Int.toNat (Int.tmod (IntKind.wrap IntKind.i64 ((↑x : Int) + 1)) (↑(Qbb (Qck s n (Qam s n n' g)) s n) : Int))))))∧(Sp (Prod.snd (Qbh s (Qam s n n' g) (0 + Int.toNat (Int.tmod (IntKind.wrap IntKind.i64 ((↑x : Int) + 1)) (↑(Qbb (Qck s n (Qam s n n' g)) s n) : Int))))))))∧((((Sp (Prod.fst (Qbh s (Qam s n n' g) (0 + Int.toNat (↑x : Int)))))∧(Sp (Prod.snd (Qbh s (Qam s n n' g) (0 + Int.toNat (↑x : Int))))))∧((Sp (Prod.fst (Qbh s (Qam s n n' g) (0 + Int.toNat (Int.tmod (IntKind.wrap IntKind.i64 ((↑x : Int) + 1)) (↑(Qbb (Qck s n (Qam s n n' g)) s n) : Int))))))∧(Sp (Prod.snd (Qbh s (Qam s n n' g) (0 + Int.toNat (Int.tmod (IntKind.wrap IntKind.i64 ((↑x : Int) + 1)) (↑(Qbb (Qck s n (Qam s n n' g)) s n) : Int))))))))∧((((Sp (Prod.fst (Qbh s (Qam s n n' g) (0 + Int.toNat (↑x : Int)))))∧(Sp (Prod.snd (Qbh s (Qam s n n' g) (0 + Int.toNat (↑x : Int))))))∧((Sp (Prod.fst (Qbh s (Qam s n n' g) (0 + Int.toNat (↑x : Int)))))∧(Sp (Prod.snd (Qbh s (Qam s n n' g) (0 + Int.toNat (↑x : Int)))))))∧((((Sp (Prod.fst (Qbh s (Qam s n n' g) (0 + Int.toNat (↑x : Int)))))∧(Sp (Prod.snd (Qbh s (Qam s n n' g) (0 + Int.toNat (↑x : Int))))))∧((Sp (Prod.fst (Qbh s (Qam s n n' g) (0 + Int.toNat (Int.tmod (IntKind.wrap IntKind.i64 ((↑x : Int) + 1)) (↑(Qbb (Qck s n (Qam s n n' g)) s n) : Int))))))∧(Sp (Prod.snd (Qbh s (Qam s n n' g) (0 + Int.toNat (Int.tmod (IntKind.wrap IntKind.i64 ((↑x : Int) + 1)) (↑(Qbb (Qck s n (Qam s n n' g)) s n) : Int))))))))∧((((Sp (Prod.fst (Qbh s (Qam s n n' g) (0 + Int.toNat (Int.tmod (IntKind.wrap IntKind.i64 ((↑x : Int) + 1)) (↑(Qbb (Qck s n (Qam s n n' g)) s n) : Int))))))∧(Sp (Prod.snd (Qbh s (Qam s n n' g) (0 + Int.toNat (Int.tmod (IntKind.wrap IntKind.i64 ((↑x : Int) + 1)) (↑(Qbb (Qck s n (Qam s n n' g)) s n) : Int)))))))∧((Sp (Prod.fst (Qbh s (Qam s n n' g) (0 + Int.toNat (Int.tmod (IntKind.wrap IntKind.i64 ((↑x : Int) + 1)) (↑(Qbb (Qck s n (Qam s n n' g)) s n) : Int))))))∧(Sp (Prod.snd (Qbh s (Qam s n n' g) (0 + Int.toNat (Int.tmod (IntKind.wrap IntKind.i64 ((↑x : Int) + 1)) (↑(Qbb (Qck s n (Qam s n n' g)) s n) : Int))))))))∧(∃ x' : Nat,(((Nat.le x' (Qbb 0 s n))∧((((SV.v (.int .i64 (IntKind.wrap IntKind.i64 ((↑x : Int) + 1)))) = (SV.v (.int .i64 ((↑x' : Int)))))∧(((SV.v (.int .i64 (IntKind.wrap IntKind.i64 (Qfi (Qbb 0 s n) (Qbh s g) x + Qap (Prod.fst (Qbh s (Qam s n n' g) (0 + Int.toNat (↑x : Int)))) (Prod.snd (Qbh s (Qam s n n' g) (0 + Int.toNat (↑x : Int)))) (Prod.fst (Qbh s (Qam s n n' g) (0 + Int.toNat (Int.tmod (IntKind.wrap IntKind.i64 ((↑x : Int) + 1)) (↑(Qbb (Qck s n (Qam s n n' g)) s n) : Int))))) (Prod.snd (Qbh s (Qam s n n' g) (0 + Int.toNat (Int.tmod (IntKind.wrap IntKind.i64 ((↑x : Int) + 1)) (↑(Qbb (Qck s n (Qam s n n' g)) s n) : Int))))))))) = (SV.v (.int .i64 (Qfi (Qbb 0 s n) (Qbh s g) x'))))∧((SV.v (.int .i64 (IntKind.wrap IntKind.i64 (Qmd (Qbb 0 s n) (Qbh s g) x + IntKind.wrap IntKind.i64 (Qap (Prod.fst (Qbh s (Qam s n n' g) (0 + Int.toNat (↑x : Int)))) (Prod.snd (Qbh s (Qam s n n' g) (0 + Int.toNat (↑x : Int)))) (Prod.fst (Qbh s (Qam s n n' g) (0 + Int.toNat (Int.tmod (IntKind.wrap IntKind.i64 ((↑x : Int) + 1)) (↑(Qbb (Qck s n (Qam s n n' g)) s n) : Int))))) (Prod.snd (Qbh s (Qam s n n' g) (0 + Int.toNat (Int.tmod (IntKind.wrap IntKind.i64 ((↑x : Int) + 1)) (↑(Qbb (Qck s n (Qam s n n' g)) s n) : Int))))) * IntKind.wrap IntKind.i64 (IntKind.wrap IntKind.i64 (Qsp (Prod.fst (Qbh s (Qam s n n' g) (0 + Int.toNat (↑x : Int)))) (Prod.snd (Qbh s (Qam s n n' g) (0 + Int.toNat (↑x : Int)))) (Prod.fst (Qbh s (Qam s n n' g) (0 + Int.toNat (↑x : Int)))) (Prod.snd (Qbh s (Qam s n n' g) (0 + Int.toNat (↑x : Int)))) + Qsp (Prod.fst (Qbh s (Qam s n n' g) (0 + Int.toNat (↑x : Int)))) (Prod.snd (Qbh s (Qam s n n' g) (0 + Int.toNat (↑x : Int)))) (Prod.fst (Qbh s (Qam s n n' g) (0 + Int.toNat (Int.tmod (IntKind.wrap IntKind.i64 ((↑x : Int) + 1)) (↑(Qbb (Qck s n (Qam s n n' g)) s n) : Int))))) (Prod.snd (Qbh s (Qam s n n' g) (0 + Int.toNat (Int.tmod (IntKind.wrap IntKind.i64 ((↑x : Int) + 1)) (↑(Qbb (Qck s n (Qam s n n' g)) s n) : Int)))))) + Qsp (Prod.fst (Qbh s (Qam s n n' g) (0 + Int.toNat (Int.tmod (IntKind.wrap IntKind.i64 ((↑x : Int) + 1)) (↑(Qbb (Qck s n (Qam s n n' g)) s n) : Int))))) (Prod.snd (Qbh s (Qam s n n' g) (0 + Int.toNat (Int.tmod (IntKind.wrap IntKind.i64 ((↑x : Int) + 1)) (↑(Qbb (Qck s n (Qam s n n' g)) s n) : Int))))) (Prod.fst (Qbh s (Qam s n n' g) (0 + Int.toNat (Int.tmod (IntKind.wrap IntKind.i64 ((↑x : Int) + 1)) (↑(Qbb (Qck s n (Qam s n n' g)) s n) : Int))))) (Prod.snd (Qbh s (Qam s n n' g) (0 + Int.toNat (Int.tmod (IntKind.wrap IntKind.i64 ((↑x : Int) + 1)) (↑(Qbb (Qck s n (Qam s n n' g)) s n) : Int))))))))))) = (SV.v (.int .i64 (Qmd (Qbb 0 s n) (Qbh s g) x'))))))∧True))∧(((Qbb 0 s n - x') : Nat) < (Qbb 0 s n - x)))))))))))) (((I64 131072)∧(I64 (Qfi (Qbb 0 s n) (Qbh s g) x)))∧(((I64 (NB.v (Qd2 131072 (Qfi (Qbb 0 s n) (Qbh s g) x))))∧(I64 (NB.v (Qf8 d))))∧(((I64 51539607552)∧(I64 (Qmd (Qbb 0 s n) (Qbh s g) x)))∧(((I64 (NB.v (Qd2 51539607552 (Qmd (Qbb 0 s n) (Qbh s g) x))))∧(I64 (NB.v (Qf8 d))))∧(R (SV.tup [(SV.agg [(SV.v (.int .i64 (NB.v (Qda (Qd2 131072 (Qfi (Qbb 0 s n) (Qbh s g) x)) (Qf8 d))))),(SV.v (.bool (NB.f (Qda (Qd2 131072 (Qfi (Qbb 0 s n) (Qbh s g) x)) (Qf8 d))))),(SV.v (.int .i64 (NB.v (Qda (Qd2 51539607552 (Qmd (Qbb 0 s n) (Qbh s g) x)) (Qf8 d))))),(SV.v (.bool (NB.f (Qda (Qd2 51539607552 (Qmd (Qbb 0 s n) (Qbh s g) x)) (Qf8 d)))))]),(SV.v (.int .i64 0))])))))))))))))))))) := by kernel_rfl
theorem Ql8 {a b : Int} {A B C : Int} (ha : -A ≤ a ∧ a ≤ A) (hb : -B ≤ b ∧ b ≤ B) (hC : A * B = C) : -C ≤ a * b ∧ a * b ≤ C := by
 obtain ⟨a1, a2⟩ := ha
 obtain ⟨b1, b2⟩ := hb
 have h1 : (a + A) * (b + B) ≥ 0 := Int.mul_nonneg (by omega) (by omega)
 have h2 : (A - a) * (B - b) ≥ 0 := Int.mul_nonneg (by omega) (by omega)
 have h3 : (a + A) * (B - b) ≥ 0 := Int.mul_nonneg (by omega) (by omega)
 have h4 : (A - a) * (b + B) ≥ 0 := Int.mul_nonneg (by omega) (by omega)
 simp only [Int.add_mul, Int.mul_add, Int.sub_mul, Int.mul_sub] at h1 h2 h3 h4
 omega
theorem Q18 {r : Int} (h : 0 ≤ r ∧ r ≤ 4096) : (0 ≤ r * r ∧ r * r ≤ 16777216) ∧ (0 ≤ r * r * r ∧ r * r * r ≤ 68719476736) ∧ 0 ≤ r * r * r * r ∧ r * r * r * r ≤ 281474976710656 := by
 have p1 := Ql8 (a := r) (b := r) (A := 4096) (B := 4096) ⟨by omega, by omega⟩ ⟨by omega, by omega⟩ rfl
 have n1 : 0 ≤ r * r := Int.mul_nonneg h.1 h.1
 have p2 := Ql8 (a := r * r) (b := r) (A := 16777216) (B := 4096) ⟨by omega, by omega⟩ ⟨by omega, by omega⟩ rfl
 have n2 : 0 ≤ r * r * r := Int.mul_nonneg n1 h.1
 have p3 := Ql8 (a := r * r * r) (b := r) (A := 68719476736) (B := 4096) ⟨by omega, by omega⟩ ⟨by omega, by omega⟩ rfl
 have n3 : 0 ≤ r * r * r * r := Int.mul_nonneg n2 h.1
 exact ⟨⟨n1, by omega⟩, ⟨n2, by omega⟩, n3, by omega⟩
theorem Zd1 {p q : Int × Int} (h : Q12 p.1 ∧ Q12 p.2) (k : Q12 q.1 ∧ Q12 q.2) : -100663296 ≤ Qea p p + Qea p q + Qea q q ∧ Qea p p + Qea p q + Qea q q ≤ 100663296 := by
 have a := Qgf h h
 have b := Qgf h k
 have c := Qgf k k
 omega
theorem Q2o {p q : Int × Int} (h : Q12 p.1 ∧ Q12 p.2) (k : Q12 q.1 ∧ Q12 q.2) : -3377699720527872 ≤ Qad p q * (Qea p p + Qea p q + Qea q q) ∧ Qad p q * (Qea p p + Qea p q + Qea q q) ≤ 3377699720527872 :=
 Ql8 (A := 33554432) (B := 100663296) (Qj1 h k) (Zd1 h k) rfl
theorem Q3k {N : Nat} {g : Nat → Int × Int} (hg : ∀ i, i < N → Q12 (g i).1 ∧ Q12 (g i).2) : ∀ k, k ≤ N → (-33554432 * (k : Int) ≤ Qfi N g k ∧ Qfi N g k ≤ 33554432 * (k : Int)) ∧ -3377699720527872 * (k : Int) ≤ Qmd N g k ∧ Qmd N g k ≤ 3377699720527872 * (k : Int)
 | 0, _ => by unfold Qfi Qmd; omega
 | k + 1, hk => by
   have ih := Q3k hg k (by omega)
   have hl : (k + 1) % N < N := Nat.mod_lt _ (by omega)
   have h1 := Qj1 (hg k (by omega)) (hg _ hl)
   have h2 := Q2o (hg k (by omega)) (hg _ hl)
   unfold Qfi Qmd
   omega
theorem ni (a : Int) (b : Int) : I64 (Qd2 a b).v := (Qfr a b).i64
theorem nd (a b : NB) : I64 (Qda a b).v := (Qfr _ _).i64
theorem Zjs (d : Int) : I64 (Qf8 d).v := (Qbp _).i64
theorem Zii : I64 13493037704 := ⟨by decide, by decide⟩
theorem Q80 {d : Int} (h1 : decide (d < 1) = false) (h2 : decide (d > 1000) = false) : Qtb 0 d = 0 := by unfold Qtb; rw [h1, h2]; rfl
theorem Zfs {e d : Int} (h : (e != 0) = true) : Qtb e d = e := by unfold Qtb; rw [h]; rfl
theorem Q81 {e d : Int} (h : (e != 0) = false) (h1 : decide (d < 1) = true) : Qtb e d = 3 := by unfold Qtb; rw [h, h1]; rfl
theorem Q82 {e d : Int} (h : (e != 0) = false) (h1 : decide (d > 1000) = true) : Qtb e d = 3 := by unfold Qtb; rw [h, h1, Bool.or_true]; rfl
theorem Qtt {e d : Int} {s : ShB} {n : Nat} {g : Nat → Int × Int} (h : (Qtb e d != 0) = true) : Qzx e s n g d = Qps := by unfold Qzx; rw [h]; rfl
theorem Qzw {d : Int} {s : ShB} {n : Nat} {g : Nat → Int × Int} (h : Qtb 0 d = 0) (hk : (s.k == 1) = true) : Qzx 0 s n g d = Qzz s.r d := by unfold Qzx; rw [h, hk]; rfl
theorem Qzv {d : Int} {s : ShB} {n : Nat} {g : Nat → Int × Int} (h : Qtb 0 d = 0) (hk : (s.k == 1) = false) : Qzx 0 s n g d = Qrs (Qfi (Qbb 0 s n) (Qbh s g) (Qbb 0 s n)) (Qmd (Qbb 0 s n) (Qbh s g) (Qbb 0 s n)) d := by unfold Qzx; rw [h, hk]; rfl
theorem Q5e {x N : Nat} (hx : x < N) (hN : N ≤ 8) : (IntKind.i64.wrap ((x : Int) + 1)).tmod (N : Int) = (((x + 1) % N : Nat) : Int) := by
 rw [Qag ⟨by omega, by omega⟩, Int.tmod_eq_emod_of_nonneg (by omega), Int.natCast_emod]; rfl
theorem Q6k {p q : Int × Int} (h : Q12 p.1 ∧ Q12 p.2) (k : Q12 q.1 ∧ Q12 q.2) {m : Int} (hm : -36028797018963968 ≤ m ∧ m ≤ 36028797018963968) :
   IntKind.i64.wrap (m + IntKind.i64.wrap (Qap p.1 p.2 q.1 q.2 * IntKind.i64.wrap (IntKind.i64.wrap (Qsp p.1 p.2 p.1 p.2 + Qsp p.1 p.2 q.1 q.2) + Qsp q.1 q.2 q.1 q.2))) = m + Qad p q * (Qea p p + Qea p q + Qea q q) := by
 have a := Qgf h h
 have b := Qgf h k
 have c := Qgf k k
 have e := Q2o h k
 have e1 : Qea p p = Qsp p.1 p.2 p.1 p.2 := rfl
 have e2 : Qea p q = Qsp p.1 p.2 q.1 q.2 := rfl
 have e3 : Qea q q = Qsp q.1 q.2 q.1 q.2 := rfl
 have e4 : Qad p q = Qap p.1 p.2 q.1 q.2 := rfl
 rw [← e1, ← e2, ← e3, ← e4]
 rw [Qag (n := Qea p p + Qea p q) ⟨by omega, by omega⟩, Qag (n := Qea p p + Qea p q + Qea q q) ⟨by omega, by omega⟩, Qag (n := Qad p q * _) ⟨by omega, by omega⟩, Qag ⟨by omega, by omega⟩]
theorem Q0o {p q : Int × Int} (h : Q12 p.1 ∧ Q12 p.2) (k : Q12 q.1 ∧ Q12 q.2) {m : Int} (hm : -36028797018963968 ≤ m ∧ m ≤ 36028797018963968) : IntKind.i64.wrap (m + Qap p.1 p.2 q.1 q.2) = m + Qad p q := by
 have e := Qj1 h k
 have e4 : Qad p q = Qap p.1 p.2 q.1 q.2 := rfl
 rw [← e4, Qag ⟨by omega, by omega⟩]
theorem Q1p {s : ShB} {n c : Nat} {g : Nat → Int × Int} {d : Int} (hs : Qiq s) (hd : I64 d) (hn : n < 1099511627776) (hg : ∀ i, i < n → I64 (g i).1 ∧ I64 (g i).2) : Qcm Tryz.prog Q8z (Qpn (Qbb 0 s n) (Qbh s g)) Tryz.f145 [shS s (.sl 0 2 0 n c), .v (.int .i64 d)] (Qbe [⟨2, n, Qco g⟩]) 64 (fun y _ => y = .tup [vS (Qzx (Qck s n g) s n g d), .v (.int .i64 (Qtb (Qck s n g) d))]) := by
 refine Eq.mpr (Q5r s n n c g d _) ?_
 repeat (first | unfold Qfl | unfold Qam)
 refine ?_
 have hpre := Qh6 (n' := n) hn hg
 rw [Qnk]
 simp only [Q5h, Nat.zero_add, Int.toNat_natCast]
 refine ⟨⟨hs, okAll_rows.2 fun i hi => hg i hi, by trivial, hn⟩, Qaf (fun h => ?_) fun h => ?_⟩
 · rw [Zfs h, Qtt (by rw [Zfs h]; exact h)]; rfl
 have e0 := (Qja (s := zSh) h).2
 refine Qaf (fun h1 => ?_) fun h1 => Qaf (fun h2 => ?_) fun h2 => ⟨hd, Qaf (fun hk => ?_) fun hk => ⟨⟨hs, hpre⟩, fun c1 => ?_⟩⟩
 · rw [Qtt (by rw [Q81 h h1]; rfl), Q81 h h1]; rfl
 · rw [Qtt (by rw [Q82 h h2]; rfl), Q82 h h2]; rfl
 · have hw := Q80 h1 h2
   rw [e0, hw, Qzw hw hk]
   obtain ⟨⟨p1, p2⟩, ⟨p3, p4⟩, p5, p6⟩ := Q18 (Q7k e0)
   have e4 : s.r * s.r * (s.r * s.r) = s.r * s.r * s.r * s.r := by rw [← Int.mul_assoc]
   rw [Qag (n := s.r * s.r) ⟨by omega, by omega⟩, e4, Qag ⟨by omega, by omega⟩]
   exact ⟨⟨⟨by decide, by decide⟩, by omega, by omega⟩, ⟨ni _ _, Zii⟩, ⟨nd _ _, Zjs _⟩, ⟨⟨by decide, by decide⟩, by omega, by omega⟩, ⟨ni _ _, Zii⟩, ⟨nd _ _, Zjs _⟩, rfl⟩
 · have hw := Q80 h1 h2
   rw [e0, hw, Qzv hw hk]
   have hN := Q3b e0
   have hq := Qwt e0
   have hb := Q3k hq
   generalize Qbb 0 s n = N at *
   refine ⟨⟨0, Nat.zero_le _, ⟨rfl, rfl, rfl⟩, trivial⟩, fun x hx => Qaf (fun hlt => ?_) fun hge => ?_⟩
   · have hlt : x < N := by simpa using hlt
     have hl : (x + 1) % N < N := Nat.mod_lt _ (by omega)
     obtain ⟨a1, a2⟩ := hq x hlt
     obtain ⟨b1, b2⟩ := hq _ hl
     have hbx := hb x (by omega)
     rw [Q5e hlt hN, Int.toNat_natCast]
     refine ⟨⟨by omega, by omega⟩, by omega, ⟨Int.natCast_nonneg _, Int.ofNat_lt.2 hl⟩, ⟨⟨a1.sp, a2.sp⟩, b1.sp, b2.sp⟩, ⟨⟨a1.sp, a2.sp⟩, b1.sp, b2.sp⟩, ⟨⟨a1.sp, a2.sp⟩, a1.sp, a2.sp⟩, ⟨⟨a1.sp, a2.sp⟩, b1.sp, b2.sp⟩, ⟨⟨b1.sp, b2.sp⟩, b1.sp, b2.sp⟩, x + 1, ⟨by show x + 1 ≤ N; omega, ⟨Qbj (by rw [Qag ⟨by omega, by omega⟩]; rfl), Qbj ?_, Qbj ?_⟩, trivial⟩, by omega⟩
     · rw [Q0o (hq x hlt) (hq _ hl) ⟨by omega, by omega⟩]; rfl
     · rw [Q6k (hq x hlt) (hq _ hl) ⟨by omega, by omega⟩]; rfl
   · have hge : ¬ x < N := by simpa using hge
     have hx : x ≤ N := hx
     obtain rfl : x = N := by omega
     have hbx := hb x (Nat.le_refl _)
     exact ⟨⟨⟨by decide, by decide⟩, by omega, by omega⟩, ⟨ni _ _, Zjs _⟩, ⟨⟨by decide, by decide⟩, by omega, by omega⟩, ⟨ni _ _, Zjs _⟩, rfl⟩
theorem Qu3 : Qca Tryz.prog 145 Q02 := Qbw hm Qtp Tryz.func145 (Λ := fun args bs => match args, bs with | [.agg [.v (.int .i64 k), .v (.int .i64 r), .v (.int .i64 w), .v (.int .i64 h), .sl 0 2 0 n _], _], [⟨2, _, row⟩] => Qpn (Qbb 0 ⟨k, r, w, h⟩ n) (Qbh ⟨k, r, w, h⟩ (fun i => gi (row i))) | _, _ => Qax) fun args bs p x h hp => by
 unfold Q02 at h
 split at h <;> try (cases h; done)
 rename_i k r w hh n c d n' row
 cases h
 obtain ⟨⟨hs, h0, rfl, hn⟩, hd⟩ := hp _ rfl
 have h0 := okAll_rows.1 h0
 refine ⟨rfl, [⟨2, n', Qco fun i => gi (row i)⟩], ⟨⟨rfl, rfl, fun i hi => (Qds (h0 i hi)).1⟩, trivial⟩, ?_⟩
 exact Q1p (s := ⟨k, r, w, hh⟩) hs hd hn fun i hi => (Qds (h0 i hi)).2
def eqP (p q : Int × Int) : Bool := p.1 == q.1 && p.2 == q.2
def Qmy (n : Nat) (g : Nat → Int × Int) (m : Nat) (h : Nat → Int × Int) : Bool := Nat.beq n m && (List.range n).all (fun i => eqP (g i) (h i))
def Ze9 (a b : ShB) : Bool := a.k == b.k && (a.r == b.r && (a.w == b.w && a.h == b.h))
def Qt2 (a : ShB) (n : Nat) (g : Nat → Int × Int) (b : ShB) (m : Nat) (h : Nat → Int × Int) : Bool := Ze9 a b && Qmy n g m h
def Q1r (n n' : Nat) (row : Nat → List SV) : Prop := Qcc Qsc (Qal n' row) ∧ n' = n ∧ n < 1099511627776
def Q1a : List SV → List Ro → Option (Option Prop × SV)
 | [.agg [.v (.int .i64 k), .v (.int .i64 r), .v (.int .i64 w), .v (.int .i64 h), .sl 0 2 0 n _], .agg [.v (.int .i64 k2), .v (.int .i64 r2), .v (.int .i64 w2), .v (.int .i64 h2), .sl 1 2 0 m _]], [⟨2, n', row⟩, ⟨2, m', row'⟩] => some (some (Q1r n n' row ∧ Q1r m m' row'), .v (.bool (Qt2 ⟨k, r, w, h⟩ n (fun i => gi (row i)) ⟨k2, r2, w2, h2⟩ m fun i => gi (row' i))))
 | _, _ => none
noncomputable def Qzd (fn : Func) (t : Nat) (n : Nat) (g h : Nat → Int × Int) : Nat → Option LoopSpec := Qb9 Qax fn 0 Nat (fun i => i ≤ n ∧ ∀ j, j < i → eqP (g j) (h j) = true) (fun i => n - i) [(t, fun i => .v (.int .i64 i))] []
theorem Q5t (a b : ShB) (n n' c m m' d : Nat) (g h : Nat→Int × Int) (R : SV→Prop) : (Qcm Tryz.prog Qbi (Qzd Tryz.f214 5 n g h) Tryz.f214 [shS a (.sl 0 2 0 n c),shS b (.sl 1 2 0 m d)] (Qbe [⟨2,n',Qco g⟩,⟨2,m',Qco h⟩]) 64 (fun y _ => R y)) =
(sel (ShB.k a != ShB.k b) (R (SV.v (.bool false))) (sel (ShB.r a != ShB.r b) (R (SV.v (.bool false))) (sel (ShB.w a != ShB.w b) (R (SV.v (.bool false))) (sel (ShB.h a != ShB.h b) (R (SV.v (.bool false))) (sel ((↑n : Int) != (↑m : Int)) (R (SV.v (.bool false))) ((∃ x : Nat,((((x : Nat) ≤ n)∧(∀ j : Nat,(((j : Nat) < x)→(eqP (g j) (h j) = true))))∧(((SV.v (.int .i64 0)) = (SV.v (.int .i64 ((↑x : Int)))))∧True)))∧(∀ x : Nat,((((x : Nat) ≤ n)∧(∀ j : Nat,(((j : Nat) < x)→(eqP (g j) (h j) = true))))→(sel (decide ((↑x : Int) < (↑n : Int))) ((((0 : Int) ≤ ((↑x : Int)))∧((((↑x : Int)) : Int) < ((↑n : Int))))∧((((0 : Int) ≤ ((↑x : Int)))∧((((↑x : Int)) : Int) < ((↑m : Int))))∧(sel (!(Prod.fst (g (0 + Int.toNat (↑x : Int))) == Prod.fst (h (0 + Int.toNat (↑x : Int)))&&Prod.snd (g (0 + Int.toNat (↑x : Int))) == Prod.snd (h (0 + Int.toNat (↑x : Int))))) (R (SV.v (.bool false))) (∃ x' : Nat,(((((x' : Nat) ≤ n)∧(∀ j : Nat,(((j : Nat) < x')→(eqP (g j) (h j) = true))))∧(((SV.v (.int .i64 (IntKind.wrap IntKind.i64 ((↑x : Int) + 1)))) = (SV.v (.int .i64 ((↑x' : Int)))))∧True))∧(((n - x') : Nat) < (n - x))))))) (R (SV.v (.bool true)))))))))))) := by kernel_rfl
def Zmb (s : ShB) (n : Nat) (g : Nat → Int × Int) : Eff := .nd True Nat 0 (fun c => shS s (.sl 1000 2 0 n (n + c))) fun c => [(1000, spB n (n + c) g)]
def Q1l (args : List SV) (bs : List Blk) : Option Eff := match args, bs with
 | [.agg [.v (.int .i64 k), .v (.int .i64 r), .v (.int .i64 w), .v (.int .i64 h), .sl 0 2 0 n c]], [b] => bif okB b then some (.nd (Qfd n b) Nat 0 (fun c => shS ⟨k, r, w, h⟩ (.sl 1000 2 0 n (n + c))) fun c => [(1000, spB n (n + c) (Qbz b))]) else none
 | _, _ => none
theorem Zbz (s : ShB) (b : Blk) (n c : Nat) (g : Nat→Int × Int) : (Qcm Tryz.prog Qbi Qax Tryz.f69 [shS s (.sl 0 2 0 n c)] (Qa1 [rdB b n g]) 64 (fun y h' => Qj9 [rdB b n g] (Zmb s n g) y h')) = ((((n * 16) : Nat) ≤ 140737488355328)∧(∀ c_1 : Nat,(∃ c_2 : Nat,((((SV.v (.int .i64 (ShB.k s))) = (SV.v (.int .i64 (ShB.k s))))∧(((SV.v (.int .i64 (ShB.r s))) = (SV.v (.int .i64 (ShB.r s))))∧(((SV.v (.int .i64 (ShB.w s))) = (SV.v (.int .i64 (ShB.w s))))∧(((SV.v (.int .i64 (ShB.h s))) = (SV.v (.int .i64 (ShB.h s))))∧((SV.sl 96 2 0 n (n + c_1)) = (SV.sl 96 2 0 n (n + c_2)))))))∧(((n : Nat) = n)∧((((n + c_2) : Nat) ≤ (n + c_1))∧(∀ i : Nat,(((i : Nat) < n)→([(SV.v (.int .i64 (Prod.fst (g (0 + i))))),(SV.v (.int .i64 (Prod.snd (g (0 + i)))))] = [(SV.v (.int .i64 (Prod.fst (g i)))),(SV.v (.int .i64 (Prod.snd (g i))))]))))))))):=by kernel_rfl
theorem Zio {n m : Nat} {g h : Nat → Int × Int} {i : Nat} (hi : i < n) (e : eqP (g i) (h i) = false) : Qmy n g m h = false := by
 unfold Qmy
 rw [Qm9 (f := fun i => eqP (g i) (h i)) hi e, Bool.and_false]
theorem Q0y {n m : Nat} {g h : Nat → Int × Int} (e : ((n : Int) != (m : Int)) = true) : Qmy n g m h = false := by
 have : n ≠ m := fun h => by rw [h] at e; simp at e
 unfold Qmy
 rw [Go.SE.Qb0 this]; rfl
theorem Q0z {n m : Nat} {g h : Nat → Int × Int} (e : ((n : Int) != (m : Int)) = false) (hd : ∀ j, j < n → eqP (g j) (h j) = true) : Qmy n g m h = true := by
 have e : (n : Int) = (m : Int) := by simpa using e
 obtain rfl : n = m := by omega
 unfold Qmy
 rw [Nat.beq_refl, Qh4 hd]; rfl
theorem Qx0 {n m : Nat} {g h : Nat → Int × Int} (hn : n < 1099511627776) (hm' : m < 1099511627776) :
   sel ((n : Int) != (m : Int)) (SV.v (.bool false) = .v (.bool (Qmy n g m h))) ((∃ x : Nat, (x ≤ n ∧ ∀ j : Nat, j < x → eqP (g j) (h j) = true) ∧ SV.v (.int .i64 0) = .v (.int .i64 x) ∧ True) ∧ ∀ x : Nat, (x ≤ n ∧ ∀ j : Nat, j < x → eqP (g j) (h j) = true) →
     sel (decide ((x : Int) < (n : Int))) ((0 ≤ (x : Int) ∧ (x : Int) < (n : Int)) ∧ (0 ≤ (x : Int) ∧ (x : Int) < (m : Int)) ∧ sel (!((g (0 + Int.toNat (x : Int))).1 == (h (0 + Int.toNat (x : Int))).1 && (g (0 + Int.toNat (x : Int))).2 == (h (0 + Int.toNat (x : Int))).2)) (SV.v (.bool false) = .v (.bool (Qmy n g m h)))
       (∃ x' : Nat, ((x' ≤ n ∧ ∀ j : Nat, j < x' → eqP (g j) (h j) = true) ∧ SV.v (.int .i64 (IntKind.i64.wrap ((x : Int) + 1))) = .v (.int .i64 x') ∧ True) ∧ n - x' < n - x)) (SV.v (.bool true) = .v (.bool (Qmy n g m h)))) := by
 refine Qaf (fun e => by rw [Q0y e]) fun e => ⟨⟨0, ⟨Nat.zero_le _, fun j hj => absurd hj (Nat.not_lt_zero _)⟩, rfl, trivial⟩, fun x ⟨hx, hd⟩ => Qaf (fun hlt => ?_) fun hge => ?_⟩
 · have hlt : x < n := by simpa using hlt
   have e' : (n : Int) = (m : Int) := by simpa using e
   rw [Int.toNat_natCast, Nat.zero_add]
   refine ⟨⟨by omega, by omega⟩, ⟨by omega, by omega⟩, Qaf (fun hne => ?_) fun heq => ?_⟩
   · have hne : (!eqP (g x) (h x)) = true := hne
     rw [Zio hlt (by simpa using hne)]
   · have heq : (!eqP (g x) (h x)) = false := heq
     refine ⟨x + 1, ⟨⟨hlt, fun j hj => ?_⟩, Qbj (by rw [Qag ⟨by omega, by omega⟩]; rfl), trivial⟩, by omega⟩
     by_cases e2 : j = x
     · rw [e2]; simpa using heq
     · exact hd j (by omega)
 · have hge : ¬ x < n := by simpa using hge
   obtain rfl : x = n := by omega
   rw [Q0z e hd]
theorem Qu5 : Qca Tryz.prog 214 Q1a := Qbw hm Qas Tryz.func214 (Λ := fun args bs => match args, bs with | [.agg [_, _, _, _, .sl 0 2 0 n _], .agg [_, _, _, _, .sl 1 2 0 m _]], [⟨2, _, row⟩, ⟨2, _, row'⟩] => Qzd Tryz.f214 5 n (fun i => gi (row i)) (fun i => gi (row' i)) | _, _ => Qax) fun args bs p x h hp => by
 unfold Q1a at h
 split at h <;> try (cases h; done)
 rename_i k r w hh n c k2 r2 w2 h2 m d n' row m' row'
 cases h
 obtain ⟨⟨h0, rfl, hn⟩, k0, rfl, hm'⟩ := hp _ rfl
 have h0 := okAll_rows.1 h0
 have k0 := okAll_rows.1 k0
 refine ⟨rfl, [⟨2, n', Qco fun i => gi (row i)⟩, ⟨2, m', Qco fun i => gi (row' i)⟩], ⟨⟨rfl, rfl, fun i hi => (Qds (h0 i hi)).1⟩, ⟨rfl, rfl, fun i hi => (Qds (k0 i hi)).1⟩, trivial⟩, ?_⟩
 refine Eq.mpr (Q5t ⟨k, r, w, hh⟩ ⟨k2, r2, w2, h2⟩ n' n' c m' m' d (fun i => gi (row i)) (fun i => gi (row' i)) _) ?_
 have bn : ∀ {a b : Int}, (a != b) = true → (a == b) = false := fun {a b} h => by unfold bne at h; simpa using h
 have by' : ∀ {a b : Int}, (a != b) = false → (a == b) = true := fun {a b} h => by unfold bne at h; simpa using h
 refine Qaf (fun e => Qdo ?_) fun e1 => Qaf (fun e => Qdo ?_) fun e2 => Qaf (fun e => Qdo ?_) fun e3 => Qaf (fun e => Qdo ?_) fun e4 => ?_
 · unfold Qt2 Ze9; rw [bn e]; rfl
 · unfold Qt2 Ze9; rw [by' e1, bn e]; rfl
 · unfold Qt2 Ze9; rw [by' e1, by' e2, bn e]; rfl
 · unfold Qt2 Ze9; rw [by' e1, by' e2, by' e3, bn e]; rfl
 · have : Qt2 ⟨k, r, w, hh⟩ n' (fun i => gi (row i)) ⟨k2, r2, w2, h2⟩ m' (fun i => gi (row' i)) = Qmy n' (fun i => gi (row i)) m' (fun i => gi (row' i)) := by unfold Qt2 Ze9; rw [by' e1, by' e2, by' e3, by' e4]; rfl
   rw [this]
   exact Qx0 hn hm'
theorem Qy2 : Qex Tryz.prog 69 Q1l := Qd7 hm Qas Tryz.func69 (Λ := fun _ _ => Qax) fun args bs e hs hp => by
 unfold Q1l at hs
 split at hs <;> try (cases hs; done)
 rename_i k r w hh n c b
 cases hb : okB b with
 | false => rw [hb] at hs; cases hs
 | true =>
 rw [hb] at hs
 cases hs
 have hpre : Qfd n b := hp
 obtain ⟨hn, hg⟩ := Qv4 hpre
 refine ⟨[rdB b n (Qbz b)], ⟨Qkk hb hpre, trivial⟩, ?_⟩
 refine Eq.mpr (Zbz ⟨k, r, w, hh⟩ b n c (Qbz b)) ?_
 exact ⟨by omega, fun c1 => ⟨c1, ⟨rfl, rfl, rfl, rfl, rfl⟩, rfl, Nat.le_refl _, fun i _ => by rw [Nat.zero_add]⟩⟩
def Qha (n s : Int) : NB := ⟨Int.tmod n (IntKind.i64.wrap (s * 4294967296)), false⟩
def kitV (x y s : Int) : VB := ⟨Qha x s, Qha y s⟩
def Qt6 : List SV → Option (Option Prop × SV)
 | [.v (.int .i64 n), .v (.int .i64 s)] => some (some (0 < s ∧ s < 1073741824), nS (Qha n s))
 | _ => none
def Zcs : List SV → Option (Option Prop × SV)
 | [.v (.int .i64 n), .v (.int .i64 m)] => some (some (I64 n ∧ 0 < m ∧ I64 m), .v (.int .i64 (n % m)))
 | _ => none
theorem Q50 (n s : Int) (R : SV→Prop) : (Qau Tryz.prog Qbi Qax Tryz.f62 [.v (.int .i64 n),.v (.int .i64 s)] R) = ((((IntKind.wrap IntKind.i64 (s * 4294967296)) : Int) ≠ 0)∧(R (SV.agg [(SV.v (.int .i64 (Int.tmod n (IntKind.wrap IntKind.i64 (s * 4294967296))))),(SV.v (.bool false))]))):=by kernel_rfl
theorem Zgl (n m : Int) (R : SV→Prop) : (Qau Tryz.prog Qbi Qax Tryz.f11 [.v (.int .i64 n),.v (.int .i64 m)] R) = (((m : Int) ≠ 0)∧(sel (decide (Int.tmod n m < 0)) (R (SV.v (.int .i64 (IntKind.wrap IntKind.i64 (Int.tmod n m + m))))) (R (SV.v (.int .i64 (Int.tmod n m)))))):=by kernel_rfl
noncomputable def ΓG1 : Qb7 := Qah (Qah (Qah (Qah (Qah (Qah Q8z 271 (Qaj Zcf)) 322 (Qaj Q09)) 81 (Qaj Zlz)) 29 (Qaj sTo)) 174 (Qaj sTo)) 26 (Qcv Q1b)
noncomputable def ΓG2 : Qb7 := Qah (Qah (Qah (ΓG1) 145 (Qcv Q02)) 214 (Qcv Q1a)) 69 (Qgv false Q1l)
noncomputable def ΓG3 : Qb7 := Qah (Qah (ΓG2) 62 (Qaj Qt6)) 11 (Qaj Zcs)
noncomputable def ΓG : Qb7 := ΓG3
theorem Qvb : Qai Tryz.prog 62 Qt6 := Qan hm Qas Tryz.func62 (Λ := fun _ => Qax) fun args p x h hp => by
 unfold Qt6 at h
 split at h <;> try (cases h; done)
 rename_i n s
 cases h
 obtain ⟨h0, h1⟩ := hp _ rfl
 refine ⟨rfl, rfl, Eq.mpr (Q50 n s _) ?_⟩
 refine ⟨?_, rfl⟩
 rw [Qag ⟨by omega, by omega⟩]; omega
theorem Q4j : Qai Tryz.prog 11 Zcs := Qan hm Qas Tryz.func11 (Λ := fun _ => Qax) fun args p x h hp => by
 unfold Zcs at h
 split at h <;> try (cases h; done)
 rename_i n m
 cases h
 obtain ⟨⟨n0, n1⟩, h0, m0, m1⟩ := hp _ rfl
 refine ⟨rfl, rfl, Eq.mpr (Zgl n m _) ?_⟩
 have hb := Int.tmod_lt_of_pos n h0
 have ha : -m < Int.tmod n m := by
   have := Int.tmod_lt_of_pos (-n) h0
   rw [Int.neg_tmod] at this; omega
 refine ⟨by omega, Qaf (fun h => Qbj ?_) fun h => Qbj ?_⟩
 · have h := of_decide_eq_true h
   rw [Qag ⟨by omega, by omega⟩]
   have e := Int.tmod_add_tdiv_mul n m
   have : n = (Int.tmod n m + m) + (Int.tdiv n m - 1) * m := by rw [Int.sub_mul, Int.one_mul]; omega
   conv => rhs; rw [this]
   rw [Int.add_mul_emod_self_right, Int.emod_eq_of_lt (by omega) (by omega)]
 · have h := of_decide_eq_false h
   have e := Int.tmod_add_tdiv_mul n m
   conv => rhs; rw [← e]
   rw [Int.add_mul_emod_self_right, Int.emod_eq_of_lt (by omega) (by omega)]
theorem Zav : ∀ f g, ΓG1 f = some g → g.ok Tryz.prog f := Qab (Qab (Qab (Qab (Qab (Qab (Qtp) (Qak Tryz.func271 (by kernel_rfl) (by kernel_rfl) Q3w)) (Qak Tryz.func322 (by kernel_rfl) (by kernel_rfl) Qyf)) (Qak Tryz.func81 (by kernel_rfl) (by kernel_rfl) Q8p)) (Qak Tryz.func29 (by kernel_rfl) (by kernel_rfl) Zel)) (Qak Tryz.func174 (by kernel_rfl) (by kernel_rfl) Q78)) (Qc0 Tryz.func26 (by kernel_rfl) (by kernel_rfl) Qyi)
theorem Zau : ∀ f g, ΓG2 f = some g → g.ok Tryz.prog f := Qab (Qab (Qab (Zav) (Qc0 Tryz.func145 (by kernel_rfl) (by kernel_rfl) Qu3)) (Qc0 Tryz.func214 (by kernel_rfl) (by kernel_rfl) Qu5)) (Qhu Tryz.func69 (by kernel_rfl) (by kernel_rfl) Qy2)
theorem Zat : ∀ f g, ΓG3 f = some g → g.ok Tryz.prog f := Qab (Qab (Zau) (Qak Tryz.func62 (by kernel_rfl) (by kernel_rfl) Qvb)) (Qak Tryz.func11 (by kernel_rfl) (by kernel_rfl) Q4j)
theorem Qzm : ∀ f g, ΓG f = some g → g.ok Tryz.prog f := Zat
end Go.Proofs.YteekigmbopdfjaaGreat
end
end
section
namespace Go.Proofs.YteekigmbopdfjaaGreat
open Go.SE Go.RowKit
def iV (n : Int) : SV := .v (.int .i64 n)
def bV (b : Bool) : SV := .v (.bool b)
abbrev zI : SV := .v (.int .i64 0)
abbrev zF : SV := .v (.bool false)
abbrev zS : SV := .v (.slice none 0 0)
abbrev yI (n : Int) : SV := .v (.int .i64 n)
abbrev yF (b : Bool) : SV := .v (.bool b)
abbrev yU (n : Int) : SV := .v (.int .u8 n)
def rN (r : List SV) : NB := match r with | [.v (.int _ v), .v (.bool f)] => ⟨v, f⟩ | _ => ⟨0, false⟩
def sumA (a : NB) : NB := Zb6 [nR a]
def sumB (a b : NB) : NB := Zb6 [nR a, nR b]
def Zch : List SV → List Ro → Option (Option Prop × SV)
 | [.sl 0 2 0 1 _], [⟨2, 1, row⟩] => some (some (Qkz (row 0)), nS (sumA (rN (row 0))))
 | [.sl 0 2 0 2 _], [⟨2, 2, row⟩] => some (some (Qkz (row 0) ∧ Qkz (row 1)), nS (sumB (rN (row 0)) (rN (row 1))))
 | _, _ => none
def Zc5 : List SV → List Ro → Option (Option Prop × SV)
 | [.sl 0 4 0 2 _], [⟨4, 2, row⟩] => some (some (Qn9 (row 0) ∧ Qn9 (row 1)), vS (Qfk (rV (row 0)) (rV (row 1))))
 | _, _ => none
noncomputable def ΓT : Qb7 := Qah (Qah (Qah ΓG 150 (Qaj Qm1)) 74 (Qcv Zch)) 14 (Qcv Zc5)
theorem sT {b : Bool} {x y : Prop} (h : b = true) (hx : x) : sel b x y := by subst h; exact hx
theorem sF {b : Bool} {x y : Prop} (h : b = false) (hy : y) : sel b x y := by subst h; exact hy
theorem Q1s {f : FuncId} {spec spec' : List SV → List Ro → Option (Option Prop × SV)} (h : Qca Tryz.prog f spec) (w : ∀ args bs p x, spec' args bs = some (p, x) → (∀ q, p = some q → q) → ∃ p', spec args bs = some (p', x) ∧ ∀ q, p' = some q → q) : Qca Tryz.prog f spec' := fun args bs e hs hp => by
 unfold Qov at hs
 split at hs <;> try (cases hs; done)
 rename_i rs hrs
 split at hs <;> try (cases hs; done)
 rename_i p x hsp
 cases hs
 obtain ⟨p', h1, h2⟩ := w args rs p x hsp hp
 have hs' : Qov spec args bs = some (.det p' x []) := by unfold Qov; rw [hrs]; simp only [h1]
 exact h args bs (.det p' x []) hs' h2
theorem Quk {r : List SV} (h : Qkz r) : nR (rN r) = r := by
 unfold Qkz at h
 split at h
 · rfl
 · exact h.elim
theorem Q3z : Qca Tryz.prog 74 Zch := Q1s Qrb fun args bs p x h hp => by
 unfold Zch at h
 split at h <;> try (cases h; done)
 · rename_i c row
   cases h
   have h0 : Qkz (row 0) := hp _ rfl
   refine ⟨some (Qcc Qkz (Qal 1 row) ∧ 1 = 1 ∧ 1 < 1099511627776), ?_, fun q hq => ?_⟩
   · show _ = some (_, Qcr (Qar (Qgg [nR (rN (row 0))])) (Qcy (Qgg [nR (rN (row 0))]) (Qfj [nR (rN (row 0))])))
     rw [Quk h0]
     rfl
   · cases hq
     exact ⟨⟨h0, trivial⟩, rfl, by decide⟩
 · rename_i c row
   cases h
   obtain ⟨h0, h1⟩ : Qkz (row 0) ∧ Qkz (row 1) := hp _ rfl
   refine ⟨some (Qcc Qkz (Qal 2 row) ∧ 2 = 2 ∧ 2 < 1099511627776), ?_, fun q hq => ?_⟩
   rotate_left
   · cases hq
     exact ⟨⟨h0, h1, trivial⟩, rfl, by decide⟩
   · show _ = some (_, Qcr (Qar (Qgg [nR (rN (row 0)), nR (rN (row 1))])) (Qcy (Qgg [nR (rN (row 0)), nR (rN (row 1))]) (Qfj [nR (rN (row 0)), nR (rN (row 1))])))
     rw [Quk h0, Quk h1]
     rfl
theorem Q40 : Qca Tryz.prog 14 Zc5 := Q1s Qs9 fun args bs p x h hp => by
 unfold Zc5 at h
 split at h <;> try (cases h; done)
 rename_i c row
 cases h
 obtain ⟨h0, h1⟩ : Qn9 (row 0) ∧ Qn9 (row 1) := hp _ rfl
 refine ⟨some (Qcc Qn9 (Qal 2 row) ∧ 2 = 2 ∧ 2 < 1099511627776), rfl, fun q hq => ?_⟩
 cases hq
 exact ⟨⟨h0, h1, trivial⟩, rfl, by decide⟩
theorem Q8y : ∀ f g, ΓT f = some g → g.ok Tryz.prog f := Qab (Qab (Qab Qzm (Qak Tryz.func150 (by kernel_rfl) (by kernel_rfl) Qpm)) (Qc0 Tryz.func74 (by kernel_rfl) (by kernel_rfl) Q3z)) (Qc0 Tryz.func14 (by kernel_rfl) (by kernel_rfl) Q40)
theorem Qw0 {b : Bool} {α : Type _} {x y : α} (h : (bif b then some x else none) = some y) : b = true ∧ x = y := by
 cases b with
 | true => cases h; exact ⟨rfl, rfl⟩
 | false => cases h
theorem Zc8 (B : Blk) (n k : Nat) (g : Nat → Int × Int) : Qbz (Qaw (rdB B n g) 2 0 k) = g := funext fun i => by
 show gi [SV.v (.int .i64 (g (0 + i)).1), SV.v (.int .i64 (g (0 + i)).2)] = g i
 rw [Nat.zero_add]; rfl
theorem Zhv {B : Blk} {n : Nat} {g : Nat → Int × Int} (hn : n < 1099511627776) (hg : ∀ i, i < n → I64 (g i).1 ∧ I64 (g i).2) : Qfd n (Qaw (rdB B n g) 2 0 n) := Qts hn hg fun _ => rfl
noncomputable def Zaz : Qb7 := Qah (Qah (Qah (Qah ΓT 163 (Qaj Qor)) 243 (Qaj Qor)) 98 (Qaj Zhi)) 97 (Qaj Zc2)
def Zl1 (a : NB) : Int := (Qaa a.v + 2147483648) / 4294967296
def Qel (v : VB) : Int × Int := (Zl1 (Qho v.x (Qf8 256)), Zl1 (Qho v.y (Qf8 256)))
def pS2 (p : Int × Int) : SV := .agg [.v (.int .i64 p.1), .v (.int .i64 p.2)]
def Zey : List SV → Option (Option Prop × SV)
 | [.agg [.v (.int .i64 a), .v (.bool f), .v (.int .i64 b), .v (.bool g)]] => some (some (I64 a ∧ I64 b), pS2 (Qel ⟨⟨a, f⟩, ⟨b, g⟩⟩))
 | _ => none
theorem Zkp (v : VB) (R : SV→Prop) : (Qau Tryz.prog Zaz Qax Tryz.f89 [vS v] R) = ((I64 256)∧(((I64 (NB.v (VB.x v)))∧(I64 1099511627776))∧((I64 (NB.v (Qho (VB.x v) {v:=1099511627776,f:=false})))∧(((I64 (NB.v (VB.y v)))∧(I64 1099511627776))∧((I64 (NB.v (Qho (VB.y v) {v:=1099511627776,f:=false})))∧(R (SV.agg [(yI ((Qaa (NB.v (Qho (VB.x v) {v:=1099511627776,f:=false})) + 2147483648) / 4294967296)),(yI ((Qaa (NB.v (Qho (VB.y v) {v:=1099511627776,f:=false})) + 2147483648) / 4294967296))]))))))):=by kernel_rfl
theorem Zbd (v : VB) (R : SV→Prop) : (Qau Tryz.prog Zaz Qax Tryz.f172 [vS v] R) = ((I64 256)∧(((I64 (NB.v (VB.x v)))∧(I64 1099511627776))∧((I64 (NB.v (Qho (VB.x v) {v:=1099511627776,f:=false})))∧(((I64 (NB.v (VB.y v)))∧(I64 1099511627776))∧((I64 (NB.v (Qho (VB.y v) {v:=1099511627776,f:=false})))∧(R (SV.agg [(yI ((Qaa (NB.v (Qho (VB.x v) {v:=1099511627776,f:=false})) + 2147483648) / 4294967296)),(yI ((Qaa (NB.v (Qho (VB.y v) {v:=1099511627776,f:=false})) + 2147483648) / 4294967296))]))))))):=by kernel_rfl
def Q9o (a : NB) : Bool := !((Qy8 a).f || decide ((Qy8 a).v > 17592186044416))
def Zls : List SV → Option (Option Prop × SV)
 | [.agg [.v (.int .i64 a), .v (.bool f)]] => some (some (I64 a), bV (Q9o ⟨a, f⟩))
 | _ => none
theorem Zk0 (a : NB) (R : SV→Prop) : (Qau Tryz.prog Zaz Qax Tryz.f88 [nS a] R) = ((I64 (NB.v a))∧(sel (!Qav (NB.v a) (NB.f a)) ((I64 4096)∧(R (yF (decide (Qec (Qaa (Qac (Qaa (NB.v a)))) 17592186044416 ≤ 0))))) (R (yF false)))):=by kernel_rfl
def Zlw : List SV → Option (Option Prop × SV)
 | [.agg [.v (.int .i64 a), .v (.bool f)]] => some (some (I64 a), bV (!Q9o ⟨a, f⟩))
 | _ => none
theorem Zk3 (a : NB) (R : SV→Prop) : (Qau Tryz.prog Zaz Qax Tryz.f171 [nS a] R) = ((I64 (NB.v a))∧(sel (NB.f (Qy8 a)) (R (yF true)) (R (yF (decide (NB.v (Qy8 a) > 17592186044416)))))):=by kernel_rfl
def Qeh (s : ShB) (pa pr : VB) (g : Nat → Int × Int) (i : Nat) : Int × Int := Qel (Qfk pa (Qdp pr (Qes (Qbh s g i))))
def fmL (k : Int) (c : Int × Int) (r : Int) (x : SV) : List SV := [.v (.int .i64 k), .v (.int .i64 c.1), .v (.int .i64 c.2), .v (.int .i64 r), x]
def fmS (k : Int) (c : Int × Int) (r : Int) (x : SV) : SV := .agg (fmL k c r x)
def Qri (s : ShB) : Int := bif s.k == 1 then 1 else 2
def Zl3 (q : Prop) (s : ShB) (pa pr : VB) (n : Nat) (g : Nat → Int × Int) : Eff := .nd q Nat 0 (fun c => .tup [fmS (Qri s) (Qel pa) s.r (.sl 1000 2 0 (Qbb 0 s n) (Qbb 0 s n + c)), iV 0]) fun c => [(1000, spB (Qbb 0 s n) (Qbb 0 s n + c) (Qeh s pa pr g))]
noncomputable def Zkb : Qb7 := Qah (Qah (Qah (Qah Zaz 89 (Qaj Zey)) 172 (Qaj Zey)) 88 (Qaj Zls)) 171 (Qaj Zlw)
structure PX where
 k : Nat
 c : Nat
noncomputable def Zac (s : ShB) (pa pr : VB) (n : Nat) (g : Nat → Int × Int) : Nat → Option LoopSpec :=
 Q3q (Qq8 Qax Tryz.f24 0 PX (fun x => x.k ≤ Qbb 0 s n ∧ x.k ≤ x.c) (fun x => Qbb 0 s n - x.k) [(50, fun x => .v (.int .i64 x.k))] [(416, fun x => Qep 55 (fmL 2 (Qel pa) s.r (.sl 40 2 0 x.k x.c)))] [(40, fun x => spB x.k x.c (Qeh s pa pr g), Zih 416 4)])
   15 [(0, fun _ => [416]), (1, fun _ => [416]), (8, fun nx => [40, nx + 56]), (9, fun _ => [416]), (10, fun _ => [416])]
def Zhy (s : ShB) (pa pr : VB) (n : Nat) (g : Nat → Int × Int) : Prop := Qiq s ∧ (I64 pa.x.v ∧ I64 pa.y.v) ∧ (I64 pr.x.v ∧ I64 pr.y.v) ∧ Qck s n g = 0 ∧ Q43 pr = 0 ∧ Q9o pa.x = true ∧ Q9o pa.y = true ∧ Qbb 0 s n < 1099511627776
def Zlq (args : List SV) (bs : List Blk) : Option Eff := match args, bs with
 | [.agg [.v (.int .i64 k), .v (.int .i64 r), .v (.int .i64 w), .v (.int .i64 h), .sl 0 2 0 n _], .agg [.v (.int .i64 a), .v (.bool f1), .v (.int .i64 b), .v (.bool f2), .v (.int .i64 c), .v (.bool f3), .v (.int .i64 d), .v (.bool f4)]], [B] => bif okB B then some (Zl3 (Zhy ⟨k, r, w, h⟩ ⟨⟨a, f1⟩, ⟨b, f2⟩⟩ ⟨⟨c, f3⟩, ⟨d, f4⟩⟩ n (Qbz B) ∧ Qfd n B) ⟨k, r, w, h⟩ ⟨⟨a, f1⟩, ⟨b, f2⟩⟩ ⟨⟨c, f3⟩, ⟨d, f4⟩⟩ n (Qbz B)) else none
 | _, _ => none
theorem Zks (s : ShB) (pa pr : VB) (q : Prop) (B : Blk) (n c : Nat) (g : Nat→Int × Int) : (Qcm Tryz.prog Zkb (Zac s pa pr n g) Tryz.f24 [shS s (.sl 0 2 0 n c),pS pa pr] (Qa1 [rdB B n g]) 64 (fun y h' => Qj9 [rdB B n g] (Zl3 q s pa pr n g) y h')) = (((Qiq s)∧((Qcc Qsc (Qal n fun y => [yI (Prod.fst (g (0 + y))),yI (Prod.snd (g (0 + y)))]))∧(((n : Nat) = n)∧((n : Nat) < 1099511627776))))∧(sel ((Qck s n fun i => gi [yI (Prod.fst (g (0 + i))),yI (Prod.snd (g (0 + i)))]) != 0) (∃ c_1 : Nat,(((((yI 0) = (yI (Qri s)))∧(((yI 0) = (yI (Prod.fst (Qel pa))))∧(((yI 0) = (yI (Prod.snd (Qel pa))))∧(((yI 0) = (yI (ShB.r s)))∧(((SV.v (Value.slice none 0 0)) = (SV.v (Value.slice none 0 0)))∧(((0 : Nat) = 0)∧((((Qbb 0 s n) : Nat) = 0)∧(((Qbb 0 s n + c_1) : Nat) = 0))))))))∧((yI (Qck s n fun i => gi [yI (Prod.fst (g (0 + i))),yI (Prod.snd (g (0 + i)))])) = (yI 0)))∧(((((Qbb 0 s n) : Nat) = 0)∧((((Qbb 0 s n + c_1) : Nat) = 0)∧True))∧True))) (((I64 (NB.v (VB.x pr)))∧(I64 (NB.v (VB.y pr))))∧(sel (Q43 pr != 0) (∃ c_1 : Nat,(((((yI 0) = (yI (Qri s)))∧(((yI 0) = (yI (Prod.fst (Qel pa))))∧(((yI 0) = (yI (Prod.snd (Qel pa))))∧(((yI 0) = (yI (ShB.r s)))∧(((SV.v (Value.slice none 0 0)) = (SV.v (Value.slice none 0 0)))∧(((0 : Nat) = 0)∧((((Qbb 0 s n) : Nat) = 0)∧(((Qbb 0 s n + c_1) : Nat) = 0))))))))∧((yI (Q43 pr)) = (yI 0)))∧(((((Qbb 0 s n) : Nat) = 0)∧((((Qbb 0 s n + c_1) : Nat) = 0)∧True))∧True))) ((I64 (NB.v (VB.x pa)))∧(sel (!Q9o (VB.x pa)) (∃ c_1 : Nat,(((((yI 0) = (yI (Qri s)))∧(((yI 0) = (yI (Prod.fst (Qel pa))))∧(((yI 0) = (yI (Prod.snd (Qel pa))))∧(((yI 0) = (yI (ShB.r s)))∧(((SV.v (Value.slice none 0 0)) = (SV.v (Value.slice none 0 0)))∧(((0 : Nat) = 0)∧((((Qbb 0 s n) : Nat) = 0)∧(((Qbb 0 s n + c_1) : Nat) = 0))))))))∧((yI 3) = (yI 0)))∧(((((Qbb 0 s n) : Nat) = 0)∧((((Qbb 0 s n + c_1) : Nat) = 0)∧True))∧True))) ((I64 (NB.v (VB.y pa)))∧(sel (!Q9o (VB.y pa)) (∃ c_1 : Nat,(((((yI 0) = (yI (Qri s)))∧(((yI 0) = (yI (Prod.fst (Qel pa))))∧(((yI 0) = (yI (Prod.snd (Qel pa))))∧(((yI 0) = (yI (ShB.r s)))∧(((SV.v (Value.slice none 0 0)) = (SV.v (Value.slice none 0 0)))∧(((0 : Nat) = 0)∧((((Qbb 0 s n) : Nat) = 0)∧(((Qbb 0 s n + c_1) : Nat) = 0))))))))∧((yI 3) = (yI 0)))∧(((((Qbb 0 s n) : Nat) = 0)∧((((Qbb 0 s n + c_1) : Nat) = 0)∧True))∧True))) (((I64 (NB.v (VB.x pa)))∧(I64 (NB.v (VB.y pa))))∧(sel (ShB.k s != 1) (((Qiq s)∧(Qfd n (Qaw (rdB B n g) 2 0 n)))∧(∀ c_1 : Nat,((∃ x : PX,(((((PX.k x) : Nat) ≤ (Qbb 0 s n))∧(((PX.k x) : Nat) ≤ (PX.c x)))∧(((yI 0) = (yI ((↑(PX.k x) : Int))))∧((((1 : Nat) = 1)∧(((1 : Nat) ≤ 1)∧(((yI 2) = (yI 2))∧(((yI (Prod.fst (Qel pa))) = (yI (Prod.fst (Qel pa))))∧(((yI (Prod.snd (Qel pa))) = (yI (Prod.snd (Qel pa))))∧(((yI (ShB.r s)) = (yI (ShB.r s)))∧(((SV.v (Value.slice none 0 0)) = (SV.v (Value.slice none 0 0)))∧(((0 : Nat) = 0)∧((((PX.k x) : Nat) = 0)∧(((PX.c x) : Nat) = 0))))))))))∧(((((PX.k x) : Nat) = 0)∧((((PX.c x) : Nat) = 0)∧True))∧True)))))∧(∀ x : PX,(((((PX.k x) : Nat) ≤ (Qbb 0 s n))∧(((PX.k x) : Nat) ≤ (PX.c x)))→(sel (decide ((↑(PX.k x) : Int) < (↑(Qbb (Qck s n (Qbz (Qaw (rdB B n g) 2 0 n))) s n) : Int))) ((((0 : Int) ≤ ((↑(PX.k x) : Int)))∧((((↑(PX.k x) : Int)) : Int) < ((↑(Qbb (Qck s n (Qbz (Qaw (rdB B n g) 2 0 n))) s n) : Int))))∧(((I64 (Prod.fst (Qbh s (Qbz (Qaw (rdB B n g) 2 0 n)) (0 + Int.toNat (↑(PX.k x) : Int)))))∧(I64 (Prod.snd (Qbh s (Qbz (Qaw (rdB B n g) 2 0 n)) (0 + Int.toNat (↑(PX.k x) : Int))))))∧((((I64 (NB.v (VB.x pa)))∧(I64 (NB.v (VB.y pa))))∧(((I64 (NB.v (VB.x pr)))∧(I64 (NB.v (VB.y pr))))∧((I64 (NB.v (VB.x (Qes (Prod.fst (Qbh s (Qbz (Qaw (rdB B n g) 2 0 n)) (0 + Int.toNat (↑(PX.k x) : Int))),Prod.snd (Qbh s (Qbz (Qaw (rdB B n g) 2 0 n)) (0 + Int.toNat (↑(PX.k x) : Int))))))))∧(I64 (NB.v (VB.y (Qes (Prod.fst (Qbh s (Qbz (Qaw (rdB B n g) 2 0 n)) (0 + Int.toNat (↑(PX.k x) : Int))),Prod.snd (Qbh s (Qbz (Qaw (rdB B n g) 2 0 n)) (0 + Int.toNat (↑(PX.k x) : Int)))))))))))∧(((I64 (NB.v (VB.x (Qfk pa (Qdp pr (Qes (Prod.fst (Qbh s (Qbz (Qaw (rdB B n g) 2 0 n)) (0 + Int.toNat (↑(PX.k x) : Int))),Prod.snd (Qbh s (Qbz (Qaw (rdB B n g) 2 0 n)) (0 + Int.toNat (↑(PX.k x) : Int))))))))))∧(I64 (NB.v (VB.y (Qfk pa (Qdp pr (Qes (Prod.fst (Qbh s (Qbz (Qaw (rdB B n g) 2 0 n)) (0 + Int.toNat (↑(PX.k x) : Int))),Prod.snd (Qbh s (Qbz (Qaw (rdB B n g) 2 0 n)) (0 + Int.toNat (↑(PX.k x) : Int)))))))))))∧((((((PX.k x + 1) * 16) : Nat) ≤ 140737488355328)∧((((0 + PX.c x) : Nat) ≤ (PX.c x))∧(∀ y : Nat,(((y : Nat) < 1)→True))))∧(∀ c_2 : Nat,(∃ x' : PX,((((((PX.k x') : Nat) ≤ (Qbb 0 s n))∧(((PX.k x') : Nat) ≤ (PX.c x')))∧(((yI (IntKind.wrap IntKind.i64 ((↑(PX.k x) : Int) + 1))) = (yI ((↑(PX.k x') : Int))))∧((((1 : Nat) = 1)∧(((1 : Nat) ≤ 1)∧(((yI 2) = (yI 2))∧(((yI (Prod.fst (Qel pa))) = (yI (Prod.fst (Qel pa))))∧(((yI (Prod.snd (Qel pa))) = (yI (Prod.snd (Qel pa))))∧(((yI (ShB.r s)) = (yI (ShB.r s)))∧((SV.sl 608 2 0 (PX.k x + 1) (PX.k x + 1 + c_2)) = (SV.sl 608 2 0 (PX.k x') (PX.c x')))))))))∧((((PX.k x + 1) : Nat) = (PX.k x'))∧((((PX.c x') : Nat) ≤ (PX.k x + 1 + c_2))∧(∀ i : Nat,(((i : Nat) < (PX.k x'))→([(yI (bop (Nat.blt i (PX.k x)) (Prod.fst (Qeh s pa pr g (0 + i))) (Prod.fst (Qel (Qfk pa (Qdp pr (Qes (Prod.fst (Qbh s (Qbz (Qaw (rdB B n g) 2 0 n)) (0 + Int.toNat (↑(PX.k x) : Int))),Prod.snd (Qbh s (Qbz (Qaw (rdB B n g) 2 0 n)) (0 + Int.toNat (↑(PX.k x) : Int))))))))))),(yI (bop (Nat.blt i (PX.k x)) (Prod.snd (Qeh s pa pr g (0 + i))) (Prod.snd (Qel (Qfk pa (Qdp pr (Qes (Prod.fst (Qbh s (Qbz (Qaw (rdB B n g) 2 0 n)) (0 + Int.toNat (↑(PX.k x) : Int))),Prod.snd (Qbh s (Qbz (Qaw (rdB B n g) 2 0 n)) (0 + Int.toNat (↑(PX.k x) : Int)))))))))))] = [(yI (Prod.fst (Qeh s pa pr g i))),(yI (Prod.snd (Qeh s pa pr g i)))]))))))))∧(((Qbb 0 s n - PX.k x') : Nat) < (Qbb 0 s n - PX.k x)))))))))) (∃ c_2 : Nat,(((((yI 2) = (yI (Qri s)))∧(((yI (Prod.fst (Qel pa))) = (yI (Prod.fst (Qel pa))))∧(((yI (Prod.snd (Qel pa))) = (yI (Prod.snd (Qel pa))))∧(((yI (ShB.r s)) = (yI (ShB.r s)))∧((SV.sl 40 2 0 (PX.k x) (PX.c x)) = (SV.sl 40 2 0 (Qbb 0 s n) (Qbb 0 s n + c_2)))))))∧((yI 0) = (yI 0)))∧((((PX.k x) : Nat) = (Qbb 0 s n))∧((((Qbb 0 s n + c_2) : Nat) ≤ (PX.c x))∧(∀ i : Nat,(((i : Nat) < (Qbb 0 s n))→([(yI (Prod.fst (Qeh s pa pr g i))),(yI (Prod.snd (Qeh s pa pr g i)))] = [(yI (Prod.fst (Qeh s pa pr g i))),(yI (Prod.snd (Qeh s pa pr g i)))]))))))))))))) (∃ c_1 : Nat,(((((yI 1) = (yI (Qri s)))∧(((yI (Prod.fst (Qel pa))) = (yI (Prod.fst (Qel pa))))∧(((yI (Prod.snd (Qel pa))) = (yI (Prod.snd (Qel pa))))∧(((yI (ShB.r s)) = (yI (ShB.r s)))∧(((SV.v (Value.slice none 0 0)) = (SV.v (Value.slice none 0 0)))∧(((0 : Nat) = 0)∧((((Qbb 0 s n) : Nat) = 0)∧(((Qbb 0 s n + c_1) : Nat) = 0))))))))∧((yI 0) = (yI 0)))∧(((((Qbb 0 s n) : Nat) = 0)∧((((Qbb 0 s n + c_1) : Nat) = 0)∧True))∧True))))))))))))):=by kernel_rfl
theorem Q63 : I64 1099511627776 := ⟨by decide, by decide⟩
theorem Q2m : I64 256 := ⟨by decide, by decide⟩
theorem Zdm : I64 4096 := ⟨by decide, by decide⟩
theorem Qwd (a b : NB) : I64 (Qho a b).v := (Qbp _).i64
theorem Qkf : ∀ f g, Zaz f = some g → g.ok Tryz.prog f := Qab (Qab (Qab (Qab Q8y (Qak Tryz.func163 (by kernel_rfl) (by kernel_rfl) Qyh)) (Qak Tryz.func243 (by kernel_rfl) (by kernel_rfl) Qu6)) (Qak Tryz.func98 (by kernel_rfl) (by kernel_rfl) Q8s)) (Qak Tryz.func97 (by kernel_rfl) (by kernel_rfl) Q4v)
theorem Q76 : Qai Tryz.prog 89 Zey := Qan hm Qkf Tryz.func89 (Λ := fun _ => Qax) fun args p x h hp => by
 unfold Zey at h
 split at h <;> try (cases h; done)
 rename_i a f b g
 cases h
 obtain ⟨h1, h2⟩ := hp _ rfl
 exact ⟨rfl, rfl, Eq.mpr (Zkp ⟨⟨a, f⟩, ⟨b, g⟩⟩ _) ⟨Q2m, ⟨h1, Q63⟩, Qwd _ _, ⟨h2, Q63⟩, Qwd _ _, rfl⟩⟩
theorem Qyk : Qai Tryz.prog 172 Zey := Qan hm Qkf Tryz.func172 (Λ := fun _ => Qax) fun args p x h hp => by
 unfold Zey at h
 split at h <;> try (cases h; done)
 rename_i a f b g
 cases h
 obtain ⟨h1, h2⟩ := hp _ rfl
 exact ⟨rfl, rfl, Eq.mpr (Zbd ⟨⟨a, f⟩, ⟨b, g⟩⟩ _) ⟨Q2m, ⟨h1, Q63⟩, Qwd _ _, ⟨h2, Q63⟩, Qwd _ _, rfl⟩⟩
theorem Q9y (x y : Int) : decide (Qec x y ≤ 0) = !decide (x > y) := by
 rcases Int.lt_trichotomy x y with h | h | h
 · rw [Qnu h, decide_eq_false (p := x > y) (by omega)]; rfl
 · subst h; rw [Qq2, decide_eq_false (p := x > x) (by omega)]; rfl
 · rw [Qnv h, decide_eq_true (p := x > y) h]; rfl
theorem Q8f : Qai Tryz.prog 88 Zls := Qan hm Qkf Tryz.func88 (Λ := fun _ => Qax) fun args p x h hp => by
 unfold Zls at h
 split at h <;> try (cases h; done)
 rename_i a f
 cases h
 have h1 : I64 a := hp _ rfl
 have hb := Qd5 h1
 refine ⟨rfl, rfl, Eq.mpr (Zk0 ⟨a, f⟩ _) ⟨h1, Qaf (fun e => ⟨Zdm, ?_⟩) fun e => ?_⟩⟩
 · show bV _ = bV (!(Qav a f || decide (Qac (Qaa a) > 17592186044416)))
   have e : Qav a f = false := by simpa using e
   rw [e, show Qaa (Qac (Qaa a)) = Qac (Qaa a) from Qby (by unfold Qac; split <;> omega), Q9y]; rfl
 · show bV _ = bV (!(Qav a f || decide (Qac (Qaa a) > 17592186044416)))
   have e : Qav a f = true := by simpa using e
   rw [e]; rfl
theorem Q8k : Qai Tryz.prog 171 Zlw := Qan hm Qkf Tryz.func171 (Λ := fun _ => Qax) fun args p x h hp => by
 unfold Zlw at h
 split at h <;> try (cases h; done)
 rename_i a f
 cases h
 have h1 : I64 a := hp _ rfl
 refine ⟨rfl, rfl, Eq.mpr (Zk3 ⟨a, f⟩ _) ⟨h1, Qaf (fun e => ?_) fun e => ?_⟩⟩
 · show bV _ = bV (!!((Qy8 ⟨a, f⟩).f || decide ((Qy8 ⟨a, f⟩).v > 17592186044416)))
   rw [e]; rfl
 · show bV _ = bV (!!((Qy8 ⟨a, f⟩).f || decide ((Qy8 ⟨a, f⟩).v > 17592186044416)))
   rw [e, Bool.not_not]; rfl
theorem Zas : ∀ f g, Zkb f = some g → g.ok Tryz.prog f := Qab (Qab (Qab (Qab Qkf (Qak Tryz.func89 (by kernel_rfl) (by kernel_rfl) Q76)) (Qak Tryz.func172 (by kernel_rfl) (by kernel_rfl) Qyk)) (Qak Tryz.func88 (by kernel_rfl) (by kernel_rfl) Q8f)) (Qak Tryz.func171 (by kernel_rfl) (by kernel_rfl) Q8k)
theorem Zi0 {s : ShB} {n : Nat} {g : Nat → Int × Int} (hs : Qiq s) (e : Qck s n g = 0) (hg : ∀ i, i < n → I64 (g i).1 ∧ I64 (g i).2) (i : Nat) (hi : i < Qbb 0 s n) : I64 (Qbh s g i).1 ∧ I64 (Qbh s g i).2 := by
 cases hk : s.k == 2 with
 | true =>
   obtain ⟨⟨a1, a2⟩, b1, b2⟩ := Qq3 e hk
   have hG : Qbh s g i = Q7t s.w s.h i := by unfold Qbh; rw [hk]; rfl
   rw [hG]
   match i with
   | 0 => exact ⟨⟨by show (-9223372036854775808 : Int) ≤ -s.w; omega, by show -s.w < 9223372036854775808; omega⟩, ⟨by show (-9223372036854775808 : Int) ≤ -s.h; omega, by show -s.h < 9223372036854775808; omega⟩⟩
   | 1 => exact ⟨⟨by show (-9223372036854775808 : Int) ≤ s.w; omega, by show s.w < 9223372036854775808; omega⟩, ⟨by show (-9223372036854775808 : Int) ≤ -s.h; omega, by show -s.h < 9223372036854775808; omega⟩⟩
   | 2 => exact ⟨⟨by show (-9223372036854775808 : Int) ≤ s.w; omega, by show s.w < 9223372036854775808; omega⟩, ⟨by show (-9223372036854775808 : Int) ≤ s.h; omega, by show s.h < 9223372036854775808; omega⟩⟩
   | _ + 3 => exact ⟨⟨by show (-9223372036854775808 : Int) ≤ -s.w; omega, by show -s.w < 9223372036854775808; omega⟩, ⟨by show (-9223372036854775808 : Int) ≤ s.h; omega, by show s.h < 9223372036854775808; omega⟩⟩
 | false =>
   have hG : Qbh s g i = g i := by unfold Qbh; rw [hk]; rfl
   have hN : Qbb 0 s n = n := by unfold Qbb; rw [hk]; rfl
   rw [hG]; rw [hN] at hi
   exact hg i hi
theorem Q2s (p : Int × Int) : I64 (Qes p).x.v ∧ I64 (Qes p).y.v := ⟨Qgq _ _, Qgq _ _⟩
theorem Q96 (u v : VB) : I64 (Qfk u v).x.v ∧ I64 (Qfk u v).y.v := ⟨(Qbp _).i64, (Qbp _).i64⟩
theorem neF {x : Int} (h : x = 0) : (x != 0) = false := by rw [h]; rfl
theorem Zja {s : ShB} {pa pr : VB} {q : Prop} {B : Blk} {n c : Nat} {g : Nat → Int × Int} (h : Zhy s pa pr n g) (hn : n < 1099511627776) (hg : ∀ i, i < n → I64 (g i).1 ∧ I64 (g i).2) : Qcm Tryz.prog Zkb (Zac s pa pr n g) Tryz.f24 [shS s (.sl 0 2 0 n c), pS pa pr] (Qa1 [rdB B n g]) 64 (fun y h' => Qj9 [rdB B n g] (Zl3 q s pa pr n g) y h') := by
 obtain ⟨hs, ⟨ha1, ha2⟩, ⟨hr1, hr2⟩, hc, hv, hi1, hi2, hN⟩ := h
 refine Eq.mpr (Zks s pa pr q B n c g) ?_
 rw [Qnk]
 refine ⟨⟨hs, okAll_rows.2 fun i hi => (by rw [Nat.zero_add]; exact hg i hi), rfl, hn⟩, sF (neF hc) ⟨⟨hr1, hr2⟩, sF (neF hv) ⟨ha1, sF (by rw [hi1]; rfl) ⟨ha2, sF (by rw [hi2]; rfl) ⟨⟨ha1, ha2⟩, ?_⟩⟩⟩⟩⟩
 rw [Zc8, hc]
 refine Qaf (fun hk => ⟨⟨hs, Zhv hn hg⟩, fun c1 => ⟨⟨⟨0, 0⟩, ⟨Nat.zero_le _, Nat.le_refl _⟩, rfl, ⟨rfl, Nat.le_refl _, rfl, rfl, rfl, rfl, rfl, rfl, rfl, rfl⟩, ⟨rfl, rfl, trivial⟩, trivial⟩, fun x ⟨x1, x2⟩ => ?_⟩⟩) fun hk => ?_
 · have hK : Qri s = 2 := by
     have : (s.k == 1) = false := by simpa using hk
     unfold Qri; rw [this]; rfl
   refine Qaf (fun hlt => ?_) fun hge => ?_
   · have hlt := of_decide_eq_true hlt
     have hkN : x.k < Qbb 0 s n := by omega
     have hg1 := Zi0 hs hc hg x.k hkN
     have hw : IntKind.i64.wrap ((x.k : Int) + 1) = ((x.k + 1 : Nat) : Int) := by rw [Qag ⟨by omega, by omega⟩]; omega
     rw [Int.toNat_natCast, hw, Nat.zero_add, Nat.zero_add]
     refine ⟨⟨by omega, hlt⟩, hg1, ⟨⟨ha1, ha2⟩, ⟨hr1, hr2⟩, Q2s (Qbh s g x.k)⟩, Q96 pa (Qdp pr (Qes (Qbh s g x.k))), ⟨by omega, Nat.le_refl _, fun _ _ => trivial⟩, fun c2 => ⟨⟨x.k + 1, x.k + 1 + c2⟩, ⟨⟨hkN, Nat.le_add_right _ _⟩, rfl, ⟨rfl, Nat.le_refl _, rfl, rfl, rfl, rfl, rfl⟩, rfl, Nat.le_refl _, fun i hi => ?_⟩, by show Qbb 0 s n - (x.k + 1) < Qbb 0 s n - x.k; omega⟩⟩
     rw [Nat.zero_add]
     have hi' : i < x.k + 1 := hi
     cases hb : Nat.blt i x.k with
     | true => rfl
     | false =>
       have : ¬ i < x.k := fun hh => by rw [show Nat.blt i x.k = true from Nat.ble_eq_true_of_le hh] at hb; cases hb
       obtain rfl : i = x.k := by omega
       rfl
   · have hge := of_decide_eq_false hge
     have hkN : x.k = Qbb 0 s n := by omega
     exact ⟨x.c - Qbb 0 s n, ⟨⟨by rw [hK], rfl, rfl, rfl, by rw [show Qbb 0 s n + (x.c - Qbb 0 s n) = x.c by omega, hkN]⟩, rfl⟩, hkN, by omega, fun i _ => rfl⟩
 · have hk1 : (s.k == 1) = true := by simpa using hk
   have hK : Qri s = 1 := by unfold Qri; rw [hk1]; rfl
   have hN0 : Qbb 0 s n = 0 := by
     have e1 : s.k = 1 := by simpa using hk1
     have e2 : (s.k == 2) = false := by rw [e1]; rfl
     unfold Qck at hc
     rw [hk1, cond_true] at hc
     unfold Qbb
     rw [e2]
     show n = 0
     cases h4 : (s.w != 0 || (s.h != 0 || ((n : Int)) != 0)) with
     | true => rw [h4] at hc; cases hc
     | false =>
       simp only [Bool.or_eq_false_iff, bne_eq_false_iff_eq] at h4
       omega
   rw [hN0, hK]
   exact ⟨0, ⟨⟨rfl, rfl, rfl, rfl, rfl, rfl, rfl, rfl⟩, rfl⟩, ⟨rfl, rfl, trivial⟩, trivial⟩
theorem Q8a : Qex Tryz.prog 24 Zlq := Qd7 hm Zas Tryz.func24 (Λ := fun args bs => match args, bs with
 | [.agg [.v (.int .i64 k), .v (.int .i64 r), .v (.int .i64 w), .v (.int .i64 h), .sl 0 2 0 n _], .agg [.v (.int .i64 a), .v (.bool f1), .v (.int .i64 b), .v (.bool f2), .v (.int .i64 c), .v (.bool f3), .v (.int .i64 d), .v (.bool f4)]], [B] => Zac ⟨k, r, w, h⟩ ⟨⟨a, f1⟩, ⟨b, f2⟩⟩ ⟨⟨c, f3⟩, ⟨d, f4⟩⟩ n (Qbz B)
 | _, _ => Qax) fun args bs e hs hp => by
 unfold Zlq at hs
 split at hs <;> try (cases hs; done)
 rename_i k r w h n cp a f1 b f2 c f3 d f4 B
 obtain ⟨hB, he⟩ := Qw0 hs
 subst he
 obtain ⟨hq, hpre⟩ : Zhy _ _ _ n (Qbz B) ∧ Qfd n B := hp
 obtain ⟨hn, hg⟩ := Qv4 hpre
 exact ⟨[rdB B n (Qbz B)], ⟨Qkk hB hpre, trivial⟩, Zja (s := ⟨k, r, w, h⟩) (pa := ⟨⟨a, f1⟩, ⟨b, f2⟩⟩) (pr := ⟨⟨c, f3⟩, ⟨d, f4⟩⟩) hq hn hg⟩
def P21 (x : Int) : Prop := -2097152 ≤ x ∧ x ≤ 2097152
def P22 (x : Int) : Prop := -4194304 ≤ x ∧ x ≤ 4194304
def Qlc (a b : Int × Int) : Int × Int := (b.1 - a.1, b.2 - a.2)
def Zjy (a b : Int × Int) : Int := a.1 * b.2 - a.2 * b.1
def Zjw (a b : Int × Int) : Int := a.1 * b.1 + a.2 * b.2
def Qrh (a b c : Int × Int) : Int := Zjy (Qlc a b) (Qlc a c)
def Zlk : List SV → Option (Option Prop × SV)
 | [.agg [.v (.int .i64 a), .v (.int .i64 b)], .agg [.v (.int .i64 c), .v (.int .i64 d)]] => some (some ((P21 a ∧ P21 b) ∧ P21 c ∧ P21 d), pS2 (Qlc (a, b) (c, d)))
 | _ => none
theorem Zki (a b : Int × Int) (R : SV→Prop) : (Qau Tryz.prog Qbi Qax Tryz.f183 [pS2 a,pS2 b] R) = (R (SV.agg [(yI (IntKind.wrap IntKind.i64 (Prod.fst b - Prod.fst a))),(yI (IntKind.wrap IntKind.i64 (Prod.snd b - Prod.snd a)))])):=by kernel_rfl
def Zc1 : List SV → Option (Option Prop × SV)
 | [.agg [.v (.int .i64 a), .v (.int .i64 b)], .agg [.v (.int .i64 c), .v (.int .i64 d)]] => some (some ((P22 a ∧ P22 b) ∧ P22 c ∧ P22 d), iV (Zjy (a, b) (c, d)))
 | _ => none
theorem Zgx (a b : Int × Int) (R : SV→Prop) : (Qau Tryz.prog Qbi Qax Tryz.f268 [pS2 a,pS2 b] R) = (R (yI (IntKind.wrap IntKind.i64 (IntKind.wrap IntKind.i64 (Prod.fst a * Prod.snd b) - IntKind.wrap IntKind.i64 (Prod.snd a * Prod.fst b))))):=by kernel_rfl
def Zcz : List SV → Option (Option Prop × SV)
 | [.agg [.v (.int .i64 a), .v (.int .i64 b)], .agg [.v (.int .i64 c), .v (.int .i64 d)]] => some (some ((P22 a ∧ P22 b) ∧ P22 c ∧ P22 d), iV (Zjw (a, b) (c, d)))
 | _ => none
theorem Zgv (a b : Int × Int) (R : SV→Prop) : (Qau Tryz.prog Qbi Qax Tryz.f184 [pS2 a,pS2 b] R) = (R (yI (IntKind.wrap IntKind.i64 (IntKind.wrap IntKind.i64 (Prod.fst a * Prod.fst b) + IntKind.wrap IntKind.i64 (Prod.snd a * Prod.snd b))))):=by kernel_rfl
def Zkc : Qb7 := Qah (Qah (Qah Qbi 183 (Qaj Zlk)) 268 (Qaj Zc1)) 184 (Qaj Zcz)
def Zll : List SV → Option (Option Prop × SV)
 | [.agg [.v (.int .i64 a), .v (.int .i64 b)], .agg [.v (.int .i64 c), .v (.int .i64 d)], .agg [.v (.int .i64 e), .v (.int .i64 f)]] => some (some ((P21 a ∧ P21 b) ∧ (P21 c ∧ P21 d) ∧ P21 e ∧ P21 f), iV (Qrh (a, b) (c, d) (e, f)))
 | _ => none
theorem Zkj (a b c : Int × Int) (R : SV→Prop) : (Qau Tryz.prog Zkc Qax Tryz.f266 [pS2 a,pS2 b,pS2 c] R) = ((((P21 (Prod.fst a))∧(P21 (Prod.snd a)))∧((P21 (Prod.fst b))∧(P21 (Prod.snd b))))∧((((P21 (Prod.fst a))∧(P21 (Prod.snd a)))∧((P21 (Prod.fst c))∧(P21 (Prod.snd c))))∧((((P22 (Prod.fst (Qlc (Prod.fst a,Prod.snd a) (Prod.fst b,Prod.snd b))))∧(P22 (Prod.snd (Qlc (Prod.fst a,Prod.snd a) (Prod.fst b,Prod.snd b)))))∧((P22 (Prod.fst (Qlc (Prod.fst a,Prod.snd a) (Prod.fst c,Prod.snd c))))∧(P22 (Prod.snd (Qlc (Prod.fst a,Prod.snd a) (Prod.fst c,Prod.snd c))))))∧(R (yI (Zjy (Prod.fst (Qlc (Prod.fst a,Prod.snd a) (Prod.fst b,Prod.snd b)),Prod.snd (Qlc (Prod.fst a,Prod.snd a) (Prod.fst b,Prod.snd b))) (Prod.fst (Qlc (Prod.fst a,Prod.snd a) (Prod.fst c,Prod.snd c)),Prod.snd (Qlc (Prod.fst a,Prod.snd a) (Prod.fst c,Prod.snd c))))))))):=by kernel_rfl
def Qxn : List SV → List Ro → Option (Option Prop × SV)
 | [.sl 0 2 0 n _], [⟨2, n', row⟩] => some (some ((∀ i, i < n → row i = [.v (.int .i64 (gi (row i)).1), .v (.int .i64 (gi (row i)).2)] ∧ P21 (gi (row i)).1 ∧ P21 (gi (row i)).2) ∧ n' = n ∧ n < 1099511627776), .v (.bool true))
 | _, _ => none
noncomputable def Qzc (n : Nat) : Nat → Option LoopSpec := Qb9 Qax Tryz.f101 0 Nat (fun k => k ≤ n) (fun k => n - k) [(7, fun k => .v (.int .i64 k))] []
theorem Zgr (n n' c : Nat) (g : Nat→Int × Int) (R : SV→Prop) : (Qcm Tryz.prog Qbi (Qzc n) Tryz.f101 [.sl 0 2 0 n c] (Qbe [⟨2,n',fun i => [.v (.int .i64 (g i).1),.v (.int .i64 (g i).2)]⟩]) 64 (fun y _ => R y)) = ((∃ x : Nat,((Nat.le x n)∧(((yI 0) = (yI ((↑x : Int))))∧True)))∧(∀ x : Nat,((Nat.le x n)→(sel (decide ((↑x : Int) < (↑n : Int))) ((((0 : Int) ≤ ((↑x : Int)))∧((((↑x : Int)) : Int) < ((↑n : Int))))∧(sel (decide (max (max (max (Prod.fst (g (0 + Int.toNat (↑x : Int)))) (IntKind.wrap IntKind.i64 (0 - Prod.fst (g (0 + Int.toNat (↑x : Int)))))) (Prod.snd (g (0 + Int.toNat (↑x : Int))))) (IntKind.wrap IntKind.i64 (0 - Prod.snd (g (0 + Int.toNat (↑x : Int))))) > 2097152)) (R (yF false)) (sel (decide (Prod.fst (g (0 + Int.toNat (↑x : Int))) < -2097152)) (R (yF false)) (sel (decide (Prod.snd (g (0 + Int.toNat (↑x : Int))) < -2097152)) (R (yF false)) (∃ x' : Nat,(((Nat.le x' n)∧(((yI (IntKind.wrap IntKind.i64 ((↑x : Int) + 1))) = (yI ((↑x' : Int))))∧True))∧(((n - x') : Nat) < (n - x)))))))) (R (yF true)))))):=by kernel_rfl
theorem Q7z : Qai Tryz.prog 183 Zlk := Qan hm Qas Tryz.func183 (Λ := fun _ => Qax) fun args p x h hp => by
 unfold Zlk at h
 split at h <;> try (cases h; done)
 rename_i a b c d
 cases h
 obtain ⟨⟨⟨_, _⟩, _, _⟩, ⟨_, _⟩, _, _⟩ := hp _ rfl
 refine ⟨rfl, rfl, Eq.mpr (Zki (a, b) (c, d) _) ?_⟩
 rw [Qag ⟨by omega, by omega⟩, Qag ⟨by omega, by omega⟩]
 rfl
theorem Qr8 {a b : Int} (ha : P22 a) (hb : P22 b) : -17592186044416 ≤ a * b ∧ a * b ≤ 17592186044416 := by
 obtain ⟨a1, a2⟩ := ha
 obtain ⟨b1, b2⟩ := hb
 have h1 : (a.natAbs * b.natAbs) ≤ 4194304 * 4194304 := Nat.mul_le_mul (by omega) (by omega)
 have h2 : (a * b).natAbs = a.natAbs * b.natAbs := Int.natAbs_mul a b
 omega
theorem Q4t : Qai Tryz.prog 268 Zc1 := Qan hm Qas Tryz.func268 (Λ := fun _ => Qax) fun args p x h hp => by
 unfold Zc1 at h
 split at h <;> try (cases h; done)
 rename_i a b c d
 cases h
 obtain ⟨⟨h1, h2⟩, h3, h4⟩ := hp _ rfl
 have m1 := Qr8 h1 h4
 have m2 := Qr8 h2 h3
 refine ⟨rfl, rfl, Eq.mpr (Zgx (a, b) (c, d) _) ?_⟩
 rw [Qag (n := a * d) ⟨by omega, by omega⟩, Qag (n := b * c) ⟨by omega, by omega⟩, Qag ⟨by show _ ≤ a * d - b * c; omega, by show a * d - b * c < _; omega⟩]
 rfl
theorem Q4r : Qai Tryz.prog 184 Zcz := Qan hm Qas Tryz.func184 (Λ := fun _ => Qax) fun args p x h hp => by
 unfold Zcz at h
 split at h <;> try (cases h; done)
 rename_i a b c d
 cases h
 obtain ⟨⟨h1, h2⟩, h3, h4⟩ := hp _ rfl
 have m1 := Qr8 h1 h3
 have m2 := Qr8 h2 h4
 refine ⟨rfl, rfl, Eq.mpr (Zgv (a, b) (c, d) _) ?_⟩
 rw [Qag (n := a * c) ⟨by omega, by omega⟩, Qag (n := b * d) ⟨by omega, by omega⟩, Qag ⟨by show _ ≤ a * c + b * d; omega, by show a * c + b * d < _; omega⟩]
 rfl
theorem Qzl : ∀ f g, Zkc f = some g → g.ok Tryz.prog f := Qab (Qab (Qab Qas (Qak Tryz.func183 (by kernel_rfl) (by kernel_rfl) Q7z)) (Qak Tryz.func268 (by kernel_rfl) (by kernel_rfl) Q4t)) (Qak Tryz.func184 (by kernel_rfl) (by kernel_rfl) Q4r)
theorem Qzy {a b c d : Int} (h1 : P21 a) (h2 : P21 b) (h3 : P21 c) (h4 : P21 d) : P22 (Qlc (a, b) (c, d)).1 ∧ P22 (Qlc (a, b) (c, d)).2 := by
 obtain ⟨_, _⟩ := h1
 obtain ⟨_, _⟩ := h2
 obtain ⟨_, _⟩ := h3
 obtain ⟨_, _⟩ := h4
 exact ⟨⟨by show _ ≤ c - a; omega, by show c - a ≤ _; omega⟩, ⟨by show _ ≤ d - b; omega, by show d - b ≤ _; omega⟩⟩
theorem Q70 : Qai Tryz.prog 266 Zll := Qan hm Qzl Tryz.func266 (Λ := fun _ => Qax) fun args p x h hp => by
 unfold Zll at h
 split at h <;> try (cases h; done)
 rename_i a b c d e f
 cases h
 obtain ⟨⟨h1, h2⟩, ⟨h3, h4⟩, h5, h6⟩ := hp _ rfl
 exact ⟨rfl, rfl, Eq.mpr (Zkj (a, b) (c, d) (e, f) _) ⟨⟨⟨h1, h2⟩, h3, h4⟩, ⟨⟨h1, h2⟩, h5, h6⟩, ⟨Qzy h1 h2 h3 h4, Qzy h1 h2 h5 h6⟩, rfl⟩⟩
theorem Zdz {n c : Nat} {g : Nat → Int × Int} (hn : n < 1099511627776) (hg : ∀ i, i < n → P21 (g i).1 ∧ P21 (g i).2) : Qcm Tryz.prog Qbi (Qzc n) Tryz.f101 [.sl 0 2 0 n c] (Qbe [⟨2, n, fun i => [.v (.int .i64 (g i).1), .v (.int .i64 (g i).2)]⟩]) 64 (fun y _ => y = .v (.bool true)) := by
 refine Eq.mpr (Zgr n n c g _) ?_
 refine ⟨⟨0, Nat.zero_le _, rfl, trivial⟩, fun x hx => Qaf (fun hlt => ?_) fun hge => rfl⟩
 have hlt := of_decide_eq_true hlt
 have hx' : x < n := by omega
 obtain ⟨⟨a1, a2⟩, b1, b2⟩ := hg x hx'
 rw [Int.toNat_natCast, Nat.zero_add]
 refine ⟨⟨by omega, hlt⟩, sF (decide_eq_false ?_) (sF (decide_eq_false (by omega)) (sF (decide_eq_false (by omega)) ⟨x + 1, ⟨hx', Qbj (by rw [Qag ⟨by omega, by omega⟩]; rfl), trivial⟩, by omega⟩))⟩
 rw [Qag ⟨by omega, by omega⟩, Qag ⟨by omega, by omega⟩]
 omega
theorem Qka : Qca Tryz.prog 101 Qxn := Qbw hm Qas Tryz.func101 (Λ := fun args _ => match args with | [.sl 0 2 0 n _] => Qzc n | _ => Qax) fun args bs p x h hp => by
 unfold Qxn at h
 split at h <;> try (cases h; done)
 rename_i n c n' row
 cases h
 obtain ⟨h0, rfl, hn⟩ := hp _ rfl
 exact ⟨rfl, [⟨2, n', fun i => [.v (.int .i64 (gi (row i)).1), .v (.int .i64 (gi (row i)).2)]⟩], ⟨⟨rfl, rfl, fun i hi => (h0 i hi).1⟩, trivial⟩, Zdz hn fun i hi => (h0 i hi).2⟩
def pS4 (a b c d : Int) : SV := .agg [.v (.int .i64 a), .v (.int .i64 b), .v (.int .i64 c), .v (.int .i64 d)]
def Q1h : List SV → Option (Option Prop × SV)
 | [.agg [.v (.int .i64 a), .v (.int .i64 b)], .v (.int .i64 r)] => some (some (P21 a ∧ P21 b ∧ P21 r), pS4 (a - r) (b - r) (a + r) (b + r))
 | _ => none
theorem Zbt (a : Int × Int) (r : Int) (R : SV→Prop) : (Qau Tryz.prog Qbi Qax Tryz.f238 [pS2 a,iV r] R) = (R (SV.agg [(yI (IntKind.wrap IntKind.i64 (Prod.fst a - r))),(yI (IntKind.wrap IntKind.i64 (Prod.snd a - r))),(yI (IntKind.wrap IntKind.i64 (Prod.fst a + r))),(yI (IntKind.wrap IntKind.i64 (Prod.snd a + r)))])):=by kernel_rfl
def Qua : List SV → Option (Option Prop × SV)
 | [.agg [.v (.int .i64 a), .v (.int .i64 b), .v (.int .i64 c), .v (.int .i64 d)]] => some (some ((P21 a ∧ P21 b) ∧ (P21 c ∧ P21 d) ∧ a ≤ c ∧ b ≤ d), iV 0)
 | _ => none
noncomputable def ΓCB : Qb7 := Qah Qbi 101 (Qcv Qxn)
noncomputable def Qvj : Nat → Option LoopSpec := Q3q Qax 1 [(12, fun nx => [nx + 80]), (13, fun nx => [nx + 88])]
theorem Q55 (a b c d : Int) (R : SV→Prop) : (Qau Tryz.prog ΓCB Qvj Tryz.f107 [pS4 a b c d] R) = (((∀ i : Nat,(((i : Nat) < 2)→(([(yI (bop (Nat.beq (0 + i) 0) a c)),(yI (bop (Nat.beq (0 + i) 0) b d))] = [(yI (Prod.fst (gi [yI (bop (Nat.beq (0 + i) 0) a c),yI (bop (Nat.beq (0 + i) 0) b d)]))),(yI (Prod.snd (gi [yI (bop (Nat.beq (0 + i) 0) a c),yI (bop (Nat.beq (0 + i) 0) b d)])))])∧((P21 (Prod.fst (gi [yI (bop (Nat.beq (0 + i) 0) a c),yI (bop (Nat.beq (0 + i) 0) b d)])))∧(P21 (Prod.snd (gi [yI (bop (Nat.beq (0 + i) 0) a c),yI (bop (Nat.beq (0 + i) 0) b d)])))))))∧(((2 : Nat) = 2)∧((2 : Nat) < 1099511627776)))∧(sel (decide (a > c)) (R (yI 5)) (sel (decide (b > d)) (R (yI 5)) (R (yI 0))))):=by kernel_rfl
def Zc0 : List SV → Option (Option Prop × SV)
 | [.agg [.v (.int .i64 a), .v (.int .i64 b), .v (.int .i64 r)], .agg [.v (.int .i64 c), .v (.int .i64 d)]] => some (some ((P21 a ∧ P21 b) ∧ P21 r ∧ c = a ∧ d = b), .v (.bool true))
 | _ => none
theorem Zgw (a b r c d : Int) (R : SV→Prop) : (Qau Tryz.prog Zkc Qax Tryz.f363 [.agg [.v (.int .i64 a),.v (.int .i64 b),.v (.int .i64 r)],pS2 (c,d)] R) = ((((P21 a)∧(P21 b))∧((P21 (Prod.fst (c,d)))∧(P21 (Prod.snd (c,d)))))∧((((P22 (Prod.fst (Qlc (a,b) (Prod.fst (c,d),Prod.snd (c,d)))))∧(P22 (Prod.snd (Qlc (a,b) (Prod.fst (c,d),Prod.snd (c,d))))))∧((P22 (Prod.fst (Qlc (a,b) (Prod.fst (c,d),Prod.snd (c,d)))))∧(P22 (Prod.snd (Qlc (a,b) (Prod.fst (c,d),Prod.snd (c,d)))))))∧(R (yF (decide (Zjw (Prod.fst (Qlc (a,b) (Prod.fst (c,d),Prod.snd (c,d))),Prod.snd (Qlc (a,b) (Prod.fst (c,d),Prod.snd (c,d)))) (Prod.fst (Qlc (a,b) (Prod.fst (c,d),Prod.snd (c,d))),Prod.snd (Qlc (a,b) (Prod.fst (c,d),Prod.snd (c,d)))) ≤ IntKind.wrap IntKind.i64 (r * r))))))):=by kernel_rfl
theorem Qyx : Qai Tryz.prog 238 Q1h := Qan hm Qas Tryz.func238 (Λ := fun _ => Qax) fun args p x h hp => by
 unfold Q1h at h
 split at h <;> try (cases h; done)
 rename_i a b r
 cases h
 obtain ⟨⟨_, _⟩, ⟨_, _⟩, _, _⟩ := hp _ rfl
 refine ⟨rfl, rfl, Eq.mpr (Zbt (a, b) r _) ?_⟩
 rw [Qag ⟨by omega, by omega⟩, Qag ⟨by omega, by omega⟩, Qag ⟨by omega, by omega⟩, Qag ⟨by omega, by omega⟩]
 rfl
theorem Zay : ∀ f g, ΓCB f = some g → g.ok Tryz.prog f := Qab Qas (Qc0 Tryz.func101 (by kernel_rfl) (by kernel_rfl) Qka)
theorem Qvf : Qai Tryz.prog 107 Qua := Qan hm Zay Tryz.func107 (Λ := fun _ => Qvj) fun args p x h hp => by
 unfold Qua at h
 split at h <;> try (cases h; done)
 rename_i a b c d
 cases h
 obtain ⟨⟨h1, h2⟩, ⟨h3, h4⟩, h5, h6⟩ := hp _ rfl
 refine ⟨rfl, rfl, Eq.mpr (Q55 a b c d _) ⟨⟨fun i hi => ?_, rfl, by decide⟩, sF (decide_eq_false (by omega)) (sF (decide_eq_false (by omega)) rfl)⟩⟩
 have : i = 0 ∨ i = 1 := by omega
 rcases this with rfl | rfl
 · exact ⟨rfl, h1, h2⟩
 · exact ⟨rfl, h3, h4⟩
theorem Q4s : Qai Tryz.prog 363 Zc0 := Qan hm Qzl Tryz.func363 (Λ := fun _ => Qax) fun args p x h hp => by
 unfold Zc0 at h
 split at h <;> try (cases h; done)
 rename_i a b r c d
 cases h
 obtain ⟨⟨h1, h2⟩, h3, rfl, rfl⟩ := hp _ rfl
 have hw := Qzy h1 h2 h1 h2
 refine ⟨rfl, rfl, Eq.mpr (Zgw c d r c d _) ⟨⟨⟨h1, h2⟩, h1, h2⟩, ⟨hw, hw⟩, ?_⟩⟩
 have e : Zjw (Qlc (c, d) (c, d)) (Qlc (c, d) (c, d)) = 0 := by
   show (c - c) * (c - c) + (d - d) * (d - d) = 0
   rw [Int.sub_self, Int.sub_self]; rfl
 have hr := Qr8 (a := r) (b := r) ⟨by have := h3.1; omega, by have := h3.2; omega⟩ ⟨by have := h3.1; omega, by have := h3.2; omega⟩
 have h0 : 0 ≤ r * r := by
   have h2 : (r * r).natAbs = r.natAbs * r.natAbs := Int.natAbs_mul r r
   rcases Int.le_total 0 r with h | h
   · exact Int.mul_nonneg h h
   · exact Int.mul_nonneg_of_nonpos_of_nonpos h h
 show SV.v (.bool (decide (Zjw (Qlc (c, d) (c, d)) (Qlc (c, d) (c, d)) ≤ IntKind.i64.wrap (r * r)))) = _
 rw [e, Qag ⟨by omega, by omega⟩, decide_eq_true h0]
end Go.Proofs.YteekigmbopdfjaaGreat
end
section
set_option maxHeartbeats 2000000
namespace Go.Proofs.YteekigmbopdfjaaGreat
open Go.RowKit Go.Shelf Go.SE
attribute [local go_sem] Oper.semAt_some
theorem Q24 (l Bs b off len cap : Nat) (g : Nat → Int × Int) (hlen : len ≤ 1099511627776) (J : Nat → World → Prop) (Jx : World → Prop)
   (hC : ∀ k W, J k W → (∃ a, W.cell? ⟨Bs, 0, none⟩ = some (.slice a len cap) ∧ (0 < len → a = some ⟨b, off, none⟩)) ∧ ∀ j, j < len → W.cell? ⟨b, off + j * 2, none⟩ = some (.int .i64 (g j).1) ∧ W.cell? ⟨b, off + j * 2 + 1, none⟩ = some (.int .i64 (g j).2))
   (hY : ∀ k W, J k W → k < len → YieldAt Fence.wide 0 Tryz.prog l #[.agg #[.int .i64 (g k).1, .int .i64 (g k).2], .agg #[.int .i64 (g ((k + 1) % len)).1, .int .i64 (g ((k + 1) % len)).2]] W fun e W' =>
     (e = .returned (.bool true) ∧ J (k + 1) W') ∨ (e = .returned (.bool false) ∧ Jx W'))
   (hB : ∀ k W W', J k W → Below W.heap.size W W' → J k W') (W : World) (h0 : J 0 W) :
   CallsIn Fence.wide 1 Tryz.prog 267 #[.func (.yield l) #[] #[], .pointer (some ⟨Bs, 0, none⟩)] W fun e W' => (∃ v, e = .returned v) ∧ (J len W' ∨ Jx W') := by
 refine callsIn_of_wp Tryz.func267 rfl trivial ?_ rfl
 simp only [Tryz.ntmps267, List.size_toArray, List.length_cons, List.length_nil, Nat.reduceAdd, Nat.reduceSub, Array.replicate_succ, Array.replicate_zero, List.push_toArray, List.append_toArray, List.nil_append, List.cons_append]
 obtain ⟨a, hc0, ha⟩ := (hC 0 W h0).1
 gi_wp2
 gi_loopw [14] (fun i wr => ∃ k : Nat, k ≤ len ∧ i = .int .i64 k ∧ J k wr) (fun i _ => len - (intOf i).toNat)
 case atStart => exact ⟨0, Nat.zero_le _, rfl, h0⟩
 case round =>
   obtain ⟨k, hk, rfl, hJs⟩ := hrel
   obtain ⟨⟨a', hcb, ha'⟩, hcs⟩ := hC k wr hJs
   by_cases hlt : k < len
   · obtain rfl := ha (by omega)
     obtain rfl := ha' (by omega)
     clear ha ha'
     obtain ⟨c0, c0'⟩ := hcs k hlt
     have fk : (k : Int) < (len : Int) := by omega
     have fk' : ¬ (len : Int) ≤ (k : Int) := by omega
     have hW : ∀ W', Below wr.heap.size wr W' → W'.cell? ⟨Bs, 0, none⟩ = some (.slice (some ⟨b, off, none⟩) len cap) ∧ ∀ j, j < len → W'.cell? ⟨b, off + j * 2, none⟩ = some (.int .i64 (g j).1) ∧ W'.cell? ⟨b, off + j * 2 + 1, none⟩ = some (.int .i64 (g j).2) := fun W' hb => by
       obtain ⟨⟨a', q1, q2⟩, q3⟩ := hC k W' (hB k wr W' hJs hb)
       obtain rfl := q2 (by omega)
       exact ⟨q1, q3⟩
     have b1 := (Below.refl wr.heap.size wr).alloc (Nat.le_refl _) (.cells #[.int .i64 (g k).1, .int .i64 (g k).2] 53)
     obtain ⟨d0, d1⟩ := hW _ b1
     obtain ⟨e0, e0'⟩ := d1 0 (by omega)
     simp only [Nat.zero_mul, Nat.add_zero] at e0 e0'
     have b2 := b1.alloc b1.size (.cells #[.int .i64 (g 0).1, .int .i64 (g 0).2] 53)
     obtain ⟨f0, f1⟩ := hW _ b2
     clear d1
     by_cases h1 : k + 1 < len
     · have h1' : (k + 1) % len = k + 1 := Nat.mod_eq_of_lt h1
       obtain ⟨g0, g0'⟩ := f1 (k + 1) h1
       have h2 : (k : Int) < (len : Int) - 1 := by omega
       clear f1
       gi_wp2
       obtain ⟨fn, tmps, assign, body, hy, hR⟩ := hY k _ (hB k wr _ hJs (((Below.refl wr.heap.size wr).alloc (Nat.le_refl _) (.cells #[.int .i64 (g k).1, .int .i64 (g k).2] 53)).alloc (by show wr.heap.size ≤ (wr.heap.push _).size; simp) (.cells #[.int .i64 (g (k + 1)).1, .int .i64 (g (k + 1)).2] 53))) hlt
       rw [h1'] at hy
       rw [hy, Oper.uponIn_round]
       refine ⟨fun _ => Nat.le_refl _, hR.mono ?_⟩
       rintro e W3 (⟨rfl, hJ⟩ | ⟨rfl, hX⟩)
       · gi_wp2
         exact ⟨⟨k + 1, by omega, by simp, hJ⟩, by simp only [RowKit.intOf]; omega⟩
       · gi_wp2
         refine bodyPost_ret (results_none rfl _ _ _) rfl ?_
         exact ⟨⟨_, rfl⟩, .inr hX⟩
     · have h1' : (k + 1) % len = 0 := by rw [show k + 1 = len by omega, Nat.mod_self]
       have h2 : ¬ (k : Int) < (len : Int) - 1 := by omega
       clear f1
       gi_wp2
       obtain ⟨fn, tmps, assign, body, hy, hR⟩ := hY k _ (hB k wr _ hJs (((Below.refl wr.heap.size wr).alloc (Nat.le_refl _) (.cells #[.int .i64 (g k).1, .int .i64 (g k).2] 53)).alloc (by show wr.heap.size ≤ (wr.heap.push _).size; simp) (.cells #[.int .i64 (g 0).1, .int .i64 (g 0).2] 53))) hlt
       rw [h1'] at hy
       rw [hy, Oper.uponIn_round]
       refine ⟨fun _ => Nat.le_refl _, hR.mono ?_⟩
       rintro e W3 (⟨rfl, hJ⟩ | ⟨rfl, hX⟩)
       · gi_wp2
         exact ⟨⟨k + 1, by omega, by simp, hJ⟩, by simp only [RowKit.intOf]; omega⟩
       · gi_wp2
         refine bodyPost_ret (results_none rfl _ _ _) rfl ?_
         exact ⟨⟨_, rfl⟩, .inr hX⟩
   · obtain rfl : k = len := by omega
     gi_wp2
     go_end0
     exact ⟨⟨_, rfl⟩, .inl hJs⟩
def Qqw (caps : List SV) (h : Qbq) : Option (Prop × Nat × Nat × (Nat → List SV) × List Nat) :=
 match caps with
 | [.vp kb 0] => match h kb with
   | some bb => match bb.row 0 with
     | [.sl k s i n cap] => match h k with
       | some b => bif !bb.dead && !b.dead && bb.whole && Nat.beq bb.size 1 && Nat.beq bb.n 1 && Nat.beq b.size 2 && Nat.beq s 2 then
           some ((n ≤ 1099511627776 ∧ i + n ≤ b.n ∧ ∀ j, j < n → b.row (i + j) = [.v (.int .i64 (gi (b.row (i + j))).1), .v (.int .i64 (gi (b.row (i + j))).2)]), n, 2,
             fun j => [.agg [.v (.int .i64 (gi (b.row (i + j))).1), .v (.int .i64 (gi (b.row (i + j))).2)], .agg [.v (.int .i64 (gi (b.row (i + (j + 1) % n))).1), .v (.int .i64 (gi (b.row (i + (j + 1) % n))).2)]], [kb, k])
         else none
       | none => none
     | _ => none
   | none => none
 | _ => none
theorem Qup : Zj0 Tryz.prog 267 Qqw := by
 intro caps h p N m item ks hr hp δ w lb hl hh
 unfold Qqw at hr
 split at hr
 case h_2 => cases hr
 rename_i kb
 split at hr
 case h_2 => cases hr
 rename_i bb hbb
 split at hr
 case h_2 => cases hr
 rename_i k s i n cap hrow
 split at hr
 case h_2 => cases hr
 rename_i b hb
 cases hc : (!bb.dead && !b.dead && bb.whole && Nat.beq bb.size 1 && Nat.beq bb.n 1 && Nat.beq b.size 2 && Nat.beq s 2) with
 | false => rw [hc] at hr; cases hr
 | true =>
   rw [hc] at hr
   simp only [cond_true, Option.some.injEq, Prod.mk.injEq] at hr
   obtain ⟨rfl, rfl, rfl, rfl, rfl⟩ := hr
   simp only [Bool.and_eq_true, Bool.not_eq_true', Nat.beq_eq] at hc
   obtain ⟨⟨⟨⟨⟨⟨d1, d2⟩, hw⟩, z1⟩, z2⟩, z3⟩, rfl⟩ := hc
   obtain ⟨hn, hin, hrows⟩ := hp
   refine ⟨fun args w => rfl, fun j => #[.agg #[.int .i64 (gi (b.row (i + j))).1, .int .i64 (gi (b.row (i + j))).2], .agg #[.int .i64 (gi (b.row (i + (j + 1) % n))).1, .int .i64 (gi (b.row (i + (j + 1) % n))).2]], fun j hj => ⟨?_, rfl⟩, ?_⟩
   · simp [Qa7, Qaz]
   · obtain ⟨q, hq, hqn, rfl⟩ : ∃ q, δ kb = some q ∧ 0 < q.n ∧ lb = [.pointer (some ⟨q.r, q.o + 0, none⟩)] := by
       match lb, hl with
       | [r], hl =>
         simp only [Qa7, Qaz, and_true] at hl
         obtain ⟨q, h1, h2, rfl⟩ := hl
         exact ⟨q, h1, h2, rfl⟩
       | [], hl => simp [Qa7] at hl
       | _ :: _ :: _, hl => simp [Qa7] at hl
     obtain ⟨q2, hq2, hlive2⟩ := hh.blk k b hb
     obtain ⟨q1, hq1, hlive1⟩ := hh.blk kb bb hbb
     rw [hq] at hq1; cases hq1
     have hno : q.no = false := by
       cases e : q.no with
       | false => rfl
       | true => have := ((hlive1 d1).no e).1; omega
     have ho : q.o = 0 := by
       obtain ⟨c, e, fz, _, _, _, _, _, h7, _⟩ := (hlive1 d1).rep hno
       exact (h7 hw).1
     have hCk : ∀ W, Zeq δ h [kb, k] W → (∃ a, W.cell? ⟨q.r, 0, none⟩ = some (.slice a n cap) ∧ (0 < n → a = some ⟨q2.r, q2.o + i * 2, none⟩)) ∧ ∀ j, j < n → W.cell? ⟨q2.r, q2.o + i * 2 + j * 2, none⟩ = some (.int .i64 (gi (b.row (i + j))).1) ∧ W.cell? ⟨q2.r, q2.o + i * 2 + j * 2 + 1, none⟩ = some (.int .i64 (gi (b.row (i + j))).2) := by
       rintro W ⟨δ', hδ, hK⟩
       have L1 := hK kb (by simp) bb q hbb hq d1
       have L2 := hK k (by simp) b q2 hb hq2 d2
       constructor
       · obtain ⟨c, e, fz, hc, _, _, _, _, _, h8⟩ := L1.rep hno
         obtain ⟨_, h9⟩ := h8 0 (by omega)
         obtain ⟨r, hr, hv⟩ := h9 0 (.sl k 2 i n cap) (by rw [hrow]; rfl)
         rw [ho] at hr
         simp only [Nat.zero_mul, Nat.add_zero] at hr
         simp only [Qaz] at hv
         obtain ⟨p', hp', _, _, hv⟩ := hv
         have := hδ _ _ hq2
         rw [hp'] at this; cases this
         rcases hv with ⟨_, rfl⟩ | ⟨e0, e1, a, rfl⟩
         · exact ⟨_, by rw [Qe4 hc, hr], fun _ => rfl⟩
         · subst e0 e1
           exact ⟨a, by rw [Qe4 hc, hr], fun h => absurd h (by omega)⟩
       · intro j hj
         have hno2 : q2.no = false := by
           cases e : q2.no with
           | false => rfl
           | true => have := (L2.no e).1; omega
         obtain ⟨c, e, fz, hc, _, _, _, _, _, h8⟩ := L2.rep hno2
         obtain ⟨_, h9⟩ := h8 (i + j) (by omega)
         obtain ⟨r0, hr0, hv0⟩ := h9 0 _ (by rw [hrows j hj]; rfl)
         obtain ⟨r1, hr1, hv1⟩ := h9 1 _ (by rw [hrows j hj]; rfl)
         simp only [Qaz] at hv0 hv1
         rw [z3] at hr0 hr1
         constructor
         · rw [Qe4 hc, show q2.o + i * 2 + j * 2 = q2.o + (i + j) * 2 + 0 by omega, hr0, hv0]
         · rw [Qe4 hc, show q2.o + i * 2 + j * 2 + 1 = q2.o + (i + j) * 2 + 1 by omega, hr1, hv1]
     intro l J Jx W hbW hJB hJxB hJK hY h0 n'
     have hh := callsIn_wide.1 (Q24 l q.r q2.r (q2.o + i * 2) n cap (fun j => gi (b.row (i + j))) hn J Jx (fun k W hk => hCk W (hJK k W hk)) (fun k W hk hlt => hY k W 0 hk hlt) (fun k W W' hk hB => hJB k W W' hk hB) W h0)
     rw [ho]
     exact callsIn_wide.2 hh
noncomputable def Qqx : It := ⟨Tryz.prog, 267, Qqw, Qup⟩
end Go.Proofs.YteekigmbopdfjaaGreat
end
