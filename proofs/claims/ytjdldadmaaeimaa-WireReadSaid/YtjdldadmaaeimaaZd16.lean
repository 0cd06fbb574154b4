/-
 What the proof uses, part 16.
-/
import Derived.Test.YtjdldadmaaeimaaZd15
set_option maxRecDepth 100000
set_option linter.unusedSimpArgs false
set_option linter.unusedVariables false

section
namespace Go.Proofs.Ytjdldadmaaeimaa
open Go.SE Go.RowKit
theorem mC {r : Int} (h : (0 ≤ r ∧ r < 256 ^ aC.n) ∧ aC.bd r = false) : Qal r 2147483647 = false := Qjm ⟨h.1.1, by have := of_decide_eq_false h.2; omega⟩
theorem mV {r : Int} (h : (0 ≤ r ∧ r < 256 ^ aV.n) ∧ aV.bd r = false) : Qal r 1099511627776 = false := Qjm ⟨h.1.1, by have := of_decide_eq_false h.2; omega⟩
theorem mS {r : Int} (h : (0 ≤ r ∧ r < 256 ^ aS.n) ∧ aS.bd r = false) : Qal r 255 = false := Qjm ⟨h.1.1, by have := of_decide_eq_false h.2; omega⟩
theorem mN {r : Int} {n : Nat} (e : r = (n : Int)) (h : (0 ≤ r ∧ r < 256 ^ aN.n) ∧ aN.bd r = false) : Qal (n : Int) 8 = false := by
 subst e
 exact Qjm ⟨h.1.1, by have := of_decide_eq_false h.2; omega⟩
theorem mM {s : ByteArray} {p : Int} (h : (0 ≤ rdT s p 8 ∧ rdT s p 8 < 256 ^ aM.n) ∧ aM.bd (rdT s p 8) = false) : Qbq (rdI s p) = false := by
 rw [Qdk]
 exact h.2
theorem iC {r : Int} (h : (0 ≤ r ∧ r < 256 ^ aC.n) ∧ aC.bd r = false) : I64 r := by
 have := of_decide_eq_false h.2
 exact ⟨by omega, by omega⟩
theorem iV' {r : Int} (h : (0 ≤ r ∧ r < 256 ^ aV.n) ∧ aV.bd r = false) : I64 r := by
 have := of_decide_eq_false h.2
 exact ⟨by omega, by omega⟩
theorem iS {r : Int} (h : (0 ≤ r ∧ r < 256 ^ aS.n) ∧ aS.bd r = false) : I64 r := by
 have := of_decide_eq_false h.2
 exact ⟨by omega, by omega⟩
theorem Qbe (s : ByteArray) (p : Int) : I64 (rdI s p) := by
 have h := Qez s p 8
 have h2 : rdT s p 8 < 18446744073709551616 := h.2
 rw [Qdk, Qkp]
 unfold I64
 omega
theorem i0 : I64 0 := ⟨by decide, by decide⟩
theorem Zj1 {s : ByteArray} {n : Nat} (g : Nat → Int × Int) (hk : rdT s 0 1 = 2) (hv : vok (atC 2 n) (rds s 0 (atC 2 n))) : rds s 0 (atC 2 n) = vsC 2 (cV2 s 0) n g ∧ Qgy 2 (cV2 s 0) n = false ∧ Qg8 (cV2 s 0) := by
 have hv : ((0 ≤ rdT s 0 1 ∧ rdT s 0 1 < 256 ^ (aKd 1).n) ∧ (aKd 1).bd (rdT s 0 1) = false) ∧ ((0 ≤ rdT s (0 + 1) 4 ∧ rdT s (0 + 1) 4 < 256 ^ (aC).n) ∧ (aC).bd (rdT s (0 + 1) 4) = false) ∧ ((0 ≤ rdT s (0 + 1 + 4) 4 ∧ rdT s (0 + 1 + 4) 4 < 256 ^ (aC).n) ∧ (aC).bd (rdT s (0 + 1 + 4) 4) = false) ∧ ((0 ≤ rdT s (0 + 1 + 4 + 4) 4 ∧ rdT s (0 + 1 + 4 + 4) 4 < 256 ^ (aC).n) ∧ (aC).bd (rdT s (0 + 1 + 4 + 4) 4) = false) ∧ ((0 ≤ rdT s (0 + 1 + 4 + 4 + 4) 8 ∧ rdT s (0 + 1 + 4 + 4 + 4) 8 < 256 ^ (aV).n) ∧ (aV).bd (rdT s (0 + 1 + 4 + 4 + 4) 8) = false) ∧ True := hv
 obtain ⟨v_k, v_id, v_bs, v_bg, v_ver, _⟩ := hv
 refine ⟨?_, ?_, ?_⟩
 · show [rdT s 0 1, rdT s (0 + 1) 4, rdT s (0 + 1 + 4) 4, rdT s (0 + 1 + 4 + 4) 4, rdT s (0 + 1 + 4 + 4 + 4) 8] = [2, rdT s (0 + 1) 4 % 4294967296, rdT s (0 + 1 + 4) 4 % 4294967296, rdT s (0 + 1 + 4 + 4) 4 % 4294967296, rdT s (0 + 1 + 4 + 4 + 4) 8 % 18446744073709551616]
   rw [gC v_id.1.1 v_id.2, gC v_bs.1.1 v_bs.2, gC v_bg.1.1 v_bg.2, gV v_ver.1.1 v_ver.2, hk]
 · show caB (cV2 s 0) (Zcv (cV2 s 0) n) = false
   simp only [caB, Zcv, Qei, Bool.or_eq_false_iff, and_assoc]
   exact ⟨mC v_id, mC v_bs, mC v_bg, mV v_ver⟩
 · exact ⟨iC v_id, iC v_bs, iC v_bg, iV' v_ver, i0, i0, i0, i0, i0, i0, i0, i0, i0, i0, i0, i0, i0, i0, i0, i0, i0, i0, i0, i0, i0, i0, i0, i0, i0⟩
theorem Zj0 {s : ByteArray} {n : Nat} (g : Nat → Int × Int) (hk : rdT s 0 1 = 3) (hv : vok (atC 3 n) (rds s 0 (atC 3 n))) : rds s 0 (atC 3 n) = vsC 3 (cV3 s 0) n g ∧ Qgy 3 (cV3 s 0) n = false ∧ Qg8 (cV3 s 0) := by
 have hv : ((0 ≤ rdT s 0 1 ∧ rdT s 0 1 < 256 ^ (aKd 1).n) ∧ (aKd 1).bd (rdT s 0 1) = false) ∧ ((0 ≤ rdT s (0 + 1) 4 ∧ rdT s (0 + 1) 4 < 256 ^ (aC).n) ∧ (aC).bd (rdT s (0 + 1) 4) = false) ∧ ((0 ≤ rdT s (0 + 1 + 4) 4 ∧ rdT s (0 + 1 + 4) 4 < 256 ^ (aC).n) ∧ (aC).bd (rdT s (0 + 1 + 4) 4) = false) ∧ ((0 ≤ rdT s (0 + 1 + 4 + 4) 4 ∧ rdT s (0 + 1 + 4 + 4) 4 < 256 ^ (aC).n) ∧ (aC).bd (rdT s (0 + 1 + 4 + 4) 4) = false) ∧ ((0 ≤ rdT s (0 + 1 + 4 + 4 + 4) 8 ∧ rdT s (0 + 1 + 4 + 4 + 4) 8 < 256 ^ (aV).n) ∧ (aV).bd (rdT s (0 + 1 + 4 + 4 + 4) 8) = false) ∧ ((0 ≤ rdT s (0 + 1 + 4 + 4 + 4 + 8) 8 ∧ rdT s (0 + 1 + 4 + 4 + 4 + 8) 8 < 256 ^ (aM).n) ∧ (aM).bd (rdT s (0 + 1 + 4 + 4 + 4 + 8) 8) = false) ∧ ((0 ≤ rdT s (0 + 1 + 4 + 4 + 4 + 8 + 8) 1 ∧ rdT s (0 + 1 + 4 + 4 + 4 + 8 + 8) 1 < 256 ^ (aF).n) ∧ (aF).bd (rdT s (0 + 1 + 4 + 4 + 4 + 8 + 8) 1) = false) ∧ ((0 ≤ rdT s (0 + 1 + 4 + 4 + 4 + 8 + 8 + 1) 8 ∧ rdT s (0 + 1 + 4 + 4 + 4 + 8 + 8 + 1) 8 < 256 ^ (aM).n) ∧ (aM).bd (rdT s (0 + 1 + 4 + 4 + 4 + 8 + 8 + 1) 8) = false) ∧ ((0 ≤ rdT s (0 + 1 + 4 + 4 + 4 + 8 + 8 + 1 + 8) 1 ∧ rdT s (0 + 1 + 4 + 4 + 4 + 8 + 8 + 1 + 8) 1 < 256 ^ (aF).n) ∧ (aF).bd (rdT s (0 + 1 + 4 + 4 + 4 + 8 + 8 + 1 + 8) 1) = false) ∧ ((0 ≤ rdT s (0 + 1 + 4 + 4 + 4 + 8 + 8 + 1 + 8 + 1) 8 ∧ rdT s (0 + 1 + 4 + 4 + 4 + 8 + 8 + 1 + 8 + 1) 8 < 256 ^ (aM).n) ∧ (aM).bd (rdT s (0 + 1 + 4 + 4 + 4 + 8 + 8 + 1 + 8 + 1) 8) = false) ∧ ((0 ≤ rdT s (0 + 1 + 4 + 4 + 4 + 8 + 8 + 1 + 8 + 1 + 8) 1 ∧ rdT s (0 + 1 + 4 + 4 + 4 + 8 + 8 + 1 + 8 + 1 + 8) 1 < 256 ^ (aF).n) ∧ (aF).bd (rdT s (0 + 1 + 4 + 4 + 4 + 8 + 8 + 1 + 8 + 1 + 8) 1) = false) ∧ ((0 ≤ rdT s (0 + 1 + 4 + 4 + 4 + 8 + 8 + 1 + 8 + 1 + 8 + 1) 8 ∧ rdT s (0 + 1 + 4 + 4 + 4 + 8 + 8 + 1 + 8 + 1 + 8 + 1) 8 < 256 ^ (aM).n) ∧ (aM).bd (rdT s (0 + 1 + 4 + 4 + 4 + 8 + 8 + 1 + 8 + 1 + 8 + 1) 8) = false) ∧ ((0 ≤ rdT s (0 + 1 + 4 + 4 + 4 + 8 + 8 + 1 + 8 + 1 + 8 + 1 + 8) 1 ∧ rdT s (0 + 1 + 4 + 4 + 4 + 8 + 8 + 1 + 8 + 1 + 8 + 1 + 8) 1 < 256 ^ (aF).n) ∧ (aF).bd (rdT s (0 + 1 + 4 + 4 + 4 + 8 + 8 + 1 + 8 + 1 + 8 + 1 + 8) 1) = false) ∧ True := hv
 obtain ⟨v_k, v_id, v_bs, v_bg, v_ver, v_a0v, v_a0f, v_a1v, v_a1f, v_t0v, v_t0f, v_t1v, v_t1f, _⟩ := hv
 refine ⟨?_, ?_, ?_⟩
 · show [rdT s 0 1, rdT s (0 + 1) 4, rdT s (0 + 1 + 4) 4, rdT s (0 + 1 + 4 + 4) 4, rdT s (0 + 1 + 4 + 4 + 4) 8, rdT s (0 + 1 + 4 + 4 + 4 + 8) 8, rdT s (0 + 1 + 4 + 4 + 4 + 8 + 8) 1, rdT s (0 + 1 + 4 + 4 + 4 + 8 + 8 + 1) 8, rdT s (0 + 1 + 4 + 4 + 4 + 8 + 8 + 1 + 8) 1, rdT s (0 + 1 + 4 + 4 + 4 + 8 + 8 + 1 + 8 + 1) 8, rdT s (0 + 1 + 4 + 4 + 4 + 8 + 8 + 1 + 8 + 1 + 8) 1, rdT s (0 + 1 + 4 + 4 + 4 + 8 + 8 + 1 + 8 + 1 + 8 + 1) 8, rdT s (0 + 1 + 4 + 4 + 4 + 8 + 8 + 1 + 8 + 1 + 8 + 1 + 8) 1] = [3, rdT s (0 + 1) 4 % 4294967296, rdT s (0 + 1 + 4) 4 % 4294967296, rdT s (0 + 1 + 4 + 4) 4 % 4294967296, rdT s (0 + 1 + 4 + 4 + 4) 8 % 18446744073709551616, rdI s (0 + 1 + 4 + 4 + 4 + 8) % 18446744073709551616, flN (rdF s (0 + 1 + 4 + 4 + 4 + 8 + 8)), rdI s (0 + 1 + 4 + 4 + 4 + 8 + 8 + 1) % 18446744073709551616, flN (rdF s (0 + 1 + 4 + 4 + 4 + 8 + 8 + 1 + 8)), rdI s (0 + 1 + 4 + 4 + 4 + 8 + 8 + 1 + 8 + 1) % 18446744073709551616, flN (rdF s (0 + 1 + 4 + 4 + 4 + 8 + 8 + 1 + 8 + 1 + 8)), rdI s (0 + 1 + 4 + 4 + 4 + 8 + 8 + 1 + 8 + 1 + 8 + 1) % 18446744073709551616, flN (rdF s (0 + 1 + 4 + 4 + 4 + 8 + 8 + 1 + 8 + 1 + 8 + 1 + 8))]
   rw [gC v_id.1.1 v_id.2, gC v_bs.1.1 v_bs.2, gC v_bg.1.1 v_bg.2, gV v_ver.1.1 v_ver.2, gI' (s := s) (p := 0 + 1 + 4 + 4 + 4 + 8), gF v_a0f.2, gI' (s := s) (p := 0 + 1 + 4 + 4 + 4 + 8 + 8 + 1), gF v_a1f.2, gI' (s := s) (p := 0 + 1 + 4 + 4 + 4 + 8 + 8 + 1 + 8 + 1), gF v_t0f.2, gI' (s := s) (p := 0 + 1 + 4 + 4 + 4 + 8 + 8 + 1 + 8 + 1 + 8 + 1), gF v_t1f.2, hk]
 · show caB (cV3 s 0) (Zcu (cV3 s 0) n) = false
   simp only [caB, Zcu, Qei, Bool.or_eq_false_iff, and_assoc]
   exact ⟨mC v_id, mC v_bs, mC v_bg, mV v_ver, mM v_a0v, mM v_a1v, mM v_t0v, mM v_t1v⟩
 · exact ⟨iC v_id, iC v_bs, iC v_bg, iV' v_ver, i0, i0, i0, i0, i0, i0, i0, i0, i0, i0, i0, i0, Qbe _ _, Qbe _ _, Qbe _ _, Qbe _ _, i0, i0, i0, i0, i0, i0, i0, i0, i0⟩
theorem Zjz {s : ByteArray} {n : Nat} (g : Nat → Int × Int) (hk : rdT s 0 1 = 4) (hv : vok (atC 4 n) (rds s 0 (atC 4 n))) : rds s 0 (atC 4 n) = vsC 4 (cV4 s 0) n g ∧ Qgy 4 (cV4 s 0) n = false ∧ Qg8 (cV4 s 0) := by
 have hv : ((0 ≤ rdT s 0 1 ∧ rdT s 0 1 < 256 ^ (aKd 1).n) ∧ (aKd 1).bd (rdT s 0 1) = false) ∧ ((0 ≤ rdT s (0 + 1) 4 ∧ rdT s (0 + 1) 4 < 256 ^ (aC).n) ∧ (aC).bd (rdT s (0 + 1) 4) = false) ∧ ((0 ≤ rdT s (0 + 1 + 4) 4 ∧ rdT s (0 + 1 + 4) 4 < 256 ^ (aC).n) ∧ (aC).bd (rdT s (0 + 1 + 4) 4) = false) ∧ ((0 ≤ rdT s (0 + 1 + 4 + 4) 4 ∧ rdT s (0 + 1 + 4 + 4) 4 < 256 ^ (aC).n) ∧ (aC).bd (rdT s (0 + 1 + 4 + 4) 4) = false) ∧ ((0 ≤ rdT s (0 + 1 + 4 + 4 + 4) 8 ∧ rdT s (0 + 1 + 4 + 4 + 4) 8 < 256 ^ (aV).n) ∧ (aV).bd (rdT s (0 + 1 + 4 + 4 + 4) 8) = false) ∧ ((0 ≤ rdT s (0 + 1 + 4 + 4 + 4 + 8) 8 ∧ rdT s (0 + 1 + 4 + 4 + 4 + 8) 8 < 256 ^ (aM).n) ∧ (aM).bd (rdT s (0 + 1 + 4 + 4 + 4 + 8) 8) = false) ∧ ((0 ≤ rdT s (0 + 1 + 4 + 4 + 4 + 8 + 8) 1 ∧ rdT s (0 + 1 + 4 + 4 + 4 + 8 + 8) 1 < 256 ^ (aF).n) ∧ (aF).bd (rdT s (0 + 1 + 4 + 4 + 4 + 8 + 8) 1) = false) ∧ ((0 ≤ rdT s (0 + 1 + 4 + 4 + 4 + 8 + 8 + 1) 8 ∧ rdT s (0 + 1 + 4 + 4 + 4 + 8 + 8 + 1) 8 < 256 ^ (aM).n) ∧ (aM).bd (rdT s (0 + 1 + 4 + 4 + 4 + 8 + 8 + 1) 8) = false) ∧ ((0 ≤ rdT s (0 + 1 + 4 + 4 + 4 + 8 + 8 + 1 + 8) 1 ∧ rdT s (0 + 1 + 4 + 4 + 4 + 8 + 8 + 1 + 8) 1 < 256 ^ (aF).n) ∧ (aF).bd (rdT s (0 + 1 + 4 + 4 + 4 + 8 + 8 + 1 + 8) 1) = false) ∧ True := hv
 obtain ⟨v_k, v_id, v_bs, v_bg, v_ver, v_a0v, v_a0f, v_a1v, v_a1f, _⟩ := hv
 refine ⟨?_, ?_, ?_⟩
 · show [rdT s 0 1, rdT s (0 + 1) 4, rdT s (0 + 1 + 4) 4, rdT s (0 + 1 + 4 + 4) 4, rdT s (0 + 1 + 4 + 4 + 4) 8, rdT s (0 + 1 + 4 + 4 + 4 + 8) 8, rdT s (0 + 1 + 4 + 4 + 4 + 8 + 8) 1, rdT s (0 + 1 + 4 + 4 + 4 + 8 + 8 + 1) 8, rdT s (0 + 1 + 4 + 4 + 4 + 8 + 8 + 1 + 8) 1] = [4, rdT s (0 + 1) 4 % 4294967296, rdT s (0 + 1 + 4) 4 % 4294967296, rdT s (0 + 1 + 4 + 4) 4 % 4294967296, rdT s (0 + 1 + 4 + 4 + 4) 8 % 18446744073709551616, rdI s (0 + 1 + 4 + 4 + 4 + 8) % 18446744073709551616, flN (rdF s (0 + 1 + 4 + 4 + 4 + 8 + 8)), rdI s (0 + 1 + 4 + 4 + 4 + 8 + 8 + 1) % 18446744073709551616, flN (rdF s (0 + 1 + 4 + 4 + 4 + 8 + 8 + 1 + 8))]
   rw [gC v_id.1.1 v_id.2, gC v_bs.1.1 v_bs.2, gC v_bg.1.1 v_bg.2, gV v_ver.1.1 v_ver.2, gI' (s := s) (p := 0 + 1 + 4 + 4 + 4 + 8), gF v_a0f.2, gI' (s := s) (p := 0 + 1 + 4 + 4 + 4 + 8 + 8 + 1), gF v_a1f.2, hk]
 · show caB (cV4 s 0) (Zct (cV4 s 0) n) = false
   simp only [caB, Zct, Qei, Bool.or_eq_false_iff, and_assoc]
   exact ⟨mC v_id, mC v_bs, mC v_bg, mV v_ver, mM v_a0v, mM v_a1v⟩
 · exact ⟨iC v_id, iC v_bs, iC v_bg, iV' v_ver, i0, i0, i0, i0, i0, i0, i0, i0, i0, i0, i0, i0, Qbe _ _, Qbe _ _, i0, i0, i0, i0, i0, i0, i0, i0, i0, i0, i0⟩
theorem Zjy {s : ByteArray} {n : Nat} (g : Nat → Int × Int) (hk : rdT s 0 1 = 5) (hv : vok (atC 5 n) (rds s 0 (atC 5 n))) : rds s 0 (atC 5 n) = vsC 5 (cV5 s 0) n g ∧ Qgy 5 (cV5 s 0) n = false ∧ Qg8 (cV5 s 0) := by
 have hv : ((0 ≤ rdT s 0 1 ∧ rdT s 0 1 < 256 ^ (aKd 1).n) ∧ (aKd 1).bd (rdT s 0 1) = false) ∧ ((0 ≤ rdT s (0 + 1) 4 ∧ rdT s (0 + 1) 4 < 256 ^ (aC).n) ∧ (aC).bd (rdT s (0 + 1) 4) = false) ∧ ((0 ≤ rdT s (0 + 1 + 4) 4 ∧ rdT s (0 + 1 + 4) 4 < 256 ^ (aC).n) ∧ (aC).bd (rdT s (0 + 1 + 4) 4) = false) ∧ ((0 ≤ rdT s (0 + 1 + 4 + 4) 8 ∧ rdT s (0 + 1 + 4 + 4) 8 < 256 ^ (aM).n) ∧ (aM).bd (rdT s (0 + 1 + 4 + 4) 8) = false) ∧ ((0 ≤ rdT s (0 + 1 + 4 + 4 + 8) 1 ∧ rdT s (0 + 1 + 4 + 4 + 8) 1 < 256 ^ (aF).n) ∧ (aF).bd (rdT s (0 + 1 + 4 + 4 + 8) 1) = false) ∧ ((0 ≤ rdT s (0 + 1 + 4 + 4 + 8 + 1) 8 ∧ rdT s (0 + 1 + 4 + 4 + 8 + 1) 8 < 256 ^ (aM).n) ∧ (aM).bd (rdT s (0 + 1 + 4 + 4 + 8 + 1) 8) = false) ∧ ((0 ≤ rdT s (0 + 1 + 4 + 4 + 8 + 1 + 8) 1 ∧ rdT s (0 + 1 + 4 + 4 + 8 + 1 + 8) 1 < 256 ^ (aF).n) ∧ (aF).bd (rdT s (0 + 1 + 4 + 4 + 8 + 1 + 8) 1) = false) ∧ True := hv
 obtain ⟨v_k, v_id, v_gr, v_t0v, v_t0f, v_t1v, v_t1f, _⟩ := hv
 refine ⟨?_, ?_, ?_⟩
 · show [rdT s 0 1, rdT s (0 + 1) 4, rdT s (0 + 1 + 4) 4, rdT s (0 + 1 + 4 + 4) 8, rdT s (0 + 1 + 4 + 4 + 8) 1, rdT s (0 + 1 + 4 + 4 + 8 + 1) 8, rdT s (0 + 1 + 4 + 4 + 8 + 1 + 8) 1] = [5, rdT s (0 + 1) 4 % 4294967296, rdT s (0 + 1 + 4) 4 % 4294967296, rdI s (0 + 1 + 4 + 4) % 18446744073709551616, flN (rdF s (0 + 1 + 4 + 4 + 8)), rdI s (0 + 1 + 4 + 4 + 8 + 1) % 18446744073709551616, flN (rdF s (0 + 1 + 4 + 4 + 8 + 1 + 8))]
   rw [gC v_id.1.1 v_id.2, gC v_gr.1.1 v_gr.2, gI' (s := s) (p := 0 + 1 + 4 + 4), gF v_t0f.2, gI' (s := s) (p := 0 + 1 + 4 + 4 + 8 + 1), gF v_t1f.2, hk]
 · show caB (cV5 s 0) (Zcs (cV5 s 0) n) = false
   simp only [caB, Zcs, Qei, Bool.or_eq_false_iff, and_assoc]
   exact ⟨mC v_id, mC v_gr, mM v_t0v, mM v_t1v⟩
 · exact ⟨iC v_id, i0, i0, i0, i0, i0, i0, i0, i0, i0, i0, i0, i0, i0, i0, i0, i0, i0, Qbe _ _, Qbe _ _, iC v_gr, i0, i0, i0, i0, i0, i0, i0, i0⟩
theorem Zjx {s : ByteArray} {n : Nat} (g : Nat → Int × Int) (hk : rdT s 0 1 = 6) (hv : vok (atC 6 n) (rds s 0 (atC 6 n))) : rds s 0 (atC 6 n) = vsC 6 (cV6 s 0) n g ∧ Qgy 6 (cV6 s 0) n = false ∧ Qg8 (cV6 s 0) := by
 have hv : ((0 ≤ rdT s 0 1 ∧ rdT s 0 1 < 256 ^ (aKd 1).n) ∧ (aKd 1).bd (rdT s 0 1) = false) ∧ ((0 ≤ rdT s (0 + 1) 4 ∧ rdT s (0 + 1) 4 < 256 ^ (aC).n) ∧ (aC).bd (rdT s (0 + 1) 4) = false) ∧ ((0 ≤ rdT s (0 + 1 + 4) 4 ∧ rdT s (0 + 1 + 4) 4 < 256 ^ (aC).n) ∧ (aC).bd (rdT s (0 + 1 + 4) 4) = false) ∧ True := hv
 obtain ⟨v_k, v_id, v_gr, _⟩ := hv
 refine ⟨?_, ?_, ?_⟩
 · show [rdT s 0 1, rdT s (0 + 1) 4, rdT s (0 + 1 + 4) 4] = [6, rdT s (0 + 1) 4 % 4294967296, rdT s (0 + 1 + 4) 4 % 4294967296]
   rw [gC v_id.1.1 v_id.2, gC v_gr.1.1 v_gr.2, hk]
 · show caB (cV6 s 0) (Zcr (cV6 s 0) n) = false
   simp only [caB, Zcr, Qei, Bool.or_eq_false_iff, and_assoc]
   exact ⟨mC v_id, mC v_gr⟩
 · exact ⟨iC v_id, i0, i0, i0, i0, i0, i0, i0, i0, i0, i0, i0, i0, i0, i0, i0, i0, i0, i0, i0, iC v_gr, i0, i0, i0, i0, i0, i0, i0, i0⟩
theorem Zjw {s : ByteArray} {n : Nat} (g : Nat → Int × Int) (hk : rdT s 0 1 = 7) (hv : vok (atC 7 n) (rds s 0 (atC 7 n))) : rds s 0 (atC 7 n) = vsC 7 (cV7 s 0) n g ∧ Qgy 7 (cV7 s 0) n = false ∧ Qg8 (cV7 s 0) := by
 have hv : ((0 ≤ rdT s 0 1 ∧ rdT s 0 1 < 256 ^ (aKd 1).n) ∧ (aKd 1).bd (rdT s 0 1) = false) ∧ ((0 ≤ rdT s (0 + 1) 4 ∧ rdT s (0 + 1) 4 < 256 ^ (aC).n) ∧ (aC).bd (rdT s (0 + 1) 4) = false) ∧ ((0 ≤ rdT s (0 + 1 + 4) 4 ∧ rdT s (0 + 1 + 4) 4 < 256 ^ (aC).n) ∧ (aC).bd (rdT s (0 + 1 + 4) 4) = false) ∧ ((0 ≤ rdT s (0 + 1 + 4 + 4) 4 ∧ rdT s (0 + 1 + 4 + 4) 4 < 256 ^ (aC).n) ∧ (aC).bd (rdT s (0 + 1 + 4 + 4) 4) = false) ∧ True := hv
 obtain ⟨v_k, v_id, v_bs, v_bg, _⟩ := hv
 refine ⟨?_, ?_, ?_⟩
 · show [rdT s 0 1, rdT s (0 + 1) 4, rdT s (0 + 1 + 4) 4, rdT s (0 + 1 + 4 + 4) 4] = [7, rdT s (0 + 1) 4 % 4294967296, rdT s (0 + 1 + 4) 4 % 4294967296, rdT s (0 + 1 + 4 + 4) 4 % 4294967296]
   rw [gC v_id.1.1 v_id.2, gC v_bs.1.1 v_bs.2, gC v_bg.1.1 v_bg.2, hk]
 · show caB (cV7 s 0) (Zcq (cV7 s 0) n) = false
   simp only [caB, Zcq, Qei, Bool.or_eq_false_iff, and_assoc]
   exact ⟨mC v_id, mC v_bs, mC v_bg⟩
 · exact ⟨iC v_id, iC v_bs, iC v_bg, i0, i0, i0, i0, i0, i0, i0, i0, i0, i0, i0, i0, i0, i0, i0, i0, i0, i0, i0, i0, i0, i0, i0, i0, i0, i0⟩
theorem Zjv {s : ByteArray} {n : Nat} (g : Nat → Int × Int) (hk : rdT s 0 1 = 8) (hv : vok (atC 8 n) (rds s 0 (atC 8 n))) : rds s 0 (atC 8 n) = vsC 8 (cV8 s 0) n g ∧ Qgy 8 (cV8 s 0) n = false ∧ Qg8 (cV8 s 0) := by
 have hv : ((0 ≤ rdT s 0 1 ∧ rdT s 0 1 < 256 ^ (aKd 1).n) ∧ (aKd 1).bd (rdT s 0 1) = false) ∧ ((0 ≤ rdT s (0 + 1) 4 ∧ rdT s (0 + 1) 4 < 256 ^ (aC).n) ∧ (aC).bd (rdT s (0 + 1) 4) = false) ∧ ((0 ≤ rdT s (0 + 1 + 4) 8 ∧ rdT s (0 + 1 + 4) 8 < 256 ^ (aI).n) ∧ (aI).bd (rdT s (0 + 1 + 4) 8) = false) ∧ ((0 ≤ rdT s (0 + 1 + 4 + 8) 8 ∧ rdT s (0 + 1 + 4 + 8) 8 < 256 ^ (aI).n) ∧ (aI).bd (rdT s (0 + 1 + 4 + 8) 8) = false) ∧ ((0 ≤ rdT s (0 + 1 + 4 + 8 + 8) 8 ∧ rdT s (0 + 1 + 4 + 8 + 8) 8 < 256 ^ (aI).n) ∧ (aI).bd (rdT s (0 + 1 + 4 + 8 + 8) 8) = false) ∧ ((0 ≤ rdT s (0 + 1 + 4 + 8 + 8 + 8) 8 ∧ rdT s (0 + 1 + 4 + 8 + 8 + 8) 8 < 256 ^ (aI).n) ∧ (aI).bd (rdT s (0 + 1 + 4 + 8 + 8 + 8) 8) = false) ∧ True := hv
 obtain ⟨v_k, v_id, v_b0, v_b1, v_b2, v_b3, _⟩ := hv
 refine ⟨?_, ?_, ?_⟩
 · show [rdT s 0 1, rdT s (0 + 1) 4, rdT s (0 + 1 + 4) 8, rdT s (0 + 1 + 4 + 8) 8, rdT s (0 + 1 + 4 + 8 + 8) 8, rdT s (0 + 1 + 4 + 8 + 8 + 8) 8] = [8, rdT s (0 + 1) 4 % 4294967296, rdI s (0 + 1 + 4) % 18446744073709551616, rdI s (0 + 1 + 4 + 8) % 18446744073709551616, rdI s (0 + 1 + 4 + 8 + 8) % 18446744073709551616, rdI s (0 + 1 + 4 + 8 + 8 + 8) % 18446744073709551616]
   rw [gC v_id.1.1 v_id.2, gI' (s := s) (p := 0 + 1 + 4), gI' (s := s) (p := 0 + 1 + 4 + 8), gI' (s := s) (p := 0 + 1 + 4 + 8 + 8), gI' (s := s) (p := 0 + 1 + 4 + 8 + 8 + 8), hk]
 · show caB (cV8 s 0) (Zcp (cV8 s 0) n) = false
   simp only [caB, Zcp, Qei, Bool.or_eq_false_iff, and_assoc]
   first | exact mC v_id | exact ⟨mC v_id, trivial⟩ | exact ⟨mC v_id, rfl⟩
 · exact ⟨iC v_id, i0, i0, i0, i0, i0, i0, i0, i0, i0, i0, i0, i0, i0, i0, i0, i0, i0, i0, i0, i0, Qbe _ _, Qbe _ _, Qbe _ _, Qbe _ _, i0, i0, i0, i0⟩
theorem Zju {s : ByteArray} {n : Nat} (g : Nat → Int × Int) (hk : rdT s 0 1 = 9) (hv : vok (atC 9 n) (rds s 0 (atC 9 n))) : rds s 0 (atC 9 n) = vsC 9 (cV9 s 0) n g ∧ Qgy 9 (cV9 s 0) n = false ∧ Qg8 (cV9 s 0) := by
 have hv : ((0 ≤ rdT s 0 1 ∧ rdT s 0 1 < 256 ^ (aKd 1).n) ∧ (aKd 1).bd (rdT s 0 1) = false) ∧ ((0 ≤ rdT s (0 + 1) 4 ∧ rdT s (0 + 1) 4 < 256 ^ (aC).n) ∧ (aC).bd (rdT s (0 + 1) 4) = false) ∧ ((0 ≤ rdT s (0 + 1 + 4) 8 ∧ rdT s (0 + 1 + 4) 8 < 256 ^ (aI).n) ∧ (aI).bd (rdT s (0 + 1 + 4) 8) = false) ∧ ((0 ≤ rdT s (0 + 1 + 4 + 8) 8 ∧ rdT s (0 + 1 + 4 + 8) 8 < 256 ^ (aI).n) ∧ (aI).bd (rdT s (0 + 1 + 4 + 8) 8) = false) ∧ ((0 ≤ rdT s (0 + 1 + 4 + 8 + 8) 8 ∧ rdT s (0 + 1 + 4 + 8 + 8) 8 < 256 ^ (aI).n) ∧ (aI).bd (rdT s (0 + 1 + 4 + 8 + 8) 8) = false) ∧ ((0 ≤ rdT s (0 + 1 + 4 + 8 + 8 + 8) 8 ∧ rdT s (0 + 1 + 4 + 8 + 8 + 8) 8 < 256 ^ (aI).n) ∧ (aI).bd (rdT s (0 + 1 + 4 + 8 + 8 + 8) 8) = false) ∧ True := hv
 obtain ⟨v_k, v_id, v_f0, v_f1, v_u0, v_u1, _⟩ := hv
 refine ⟨?_, ?_, ?_⟩
 · show [rdT s 0 1, rdT s (0 + 1) 4, rdT s (0 + 1 + 4) 8, rdT s (0 + 1 + 4 + 8) 8, rdT s (0 + 1 + 4 + 8 + 8) 8, rdT s (0 + 1 + 4 + 8 + 8 + 8) 8] = [9, rdT s (0 + 1) 4 % 4294967296, rdI s (0 + 1 + 4) % 18446744073709551616, rdI s (0 + 1 + 4 + 8) % 18446744073709551616, rdI s (0 + 1 + 4 + 8 + 8) % 18446744073709551616, rdI s (0 + 1 + 4 + 8 + 8 + 8) % 18446744073709551616]
   rw [gC v_id.1.1 v_id.2, gI' (s := s) (p := 0 + 1 + 4), gI' (s := s) (p := 0 + 1 + 4 + 8), gI' (s := s) (p := 0 + 1 + 4 + 8 + 8), gI' (s := s) (p := 0 + 1 + 4 + 8 + 8 + 8), hk]
 · show caB (cV9 s 0) (Zco (cV9 s 0) n) = false
   simp only [caB, Zco, Qei, Bool.or_eq_false_iff, and_assoc]
   first | exact mC v_id | exact ⟨mC v_id, trivial⟩ | exact ⟨mC v_id, rfl⟩
 · exact ⟨iC v_id, i0, i0, i0, i0, i0, i0, i0, i0, i0, i0, i0, i0, i0, i0, i0, i0, i0, i0, i0, i0, i0, i0, i0, i0, Qbe _ _, Qbe _ _, Qbe _ _, Qbe _ _⟩
theorem Zgt {s : ByteArray} {n : Nat} (g : Nat → Int × Int) (hk : rdT s 0 1 = 10) (hv : vok (atC 10 n) (rds s 0 (atC 10 n))) : rds s 0 (atC 10 n) = vsC 10 (Q7b s 0) n g ∧ Qgy 10 (Q7b s 0) n = false ∧ Qg8 (Q7b s 0) := by
 have hv : ((0 ≤ rdT s 0 1 ∧ rdT s 0 1 < 256 ^ (aKd 1).n) ∧ (aKd 1).bd (rdT s 0 1) = false) ∧ ((0 ≤ rdT s (0 + 1) 4 ∧ rdT s (0 + 1) 4 < 256 ^ (aC).n) ∧ (aC).bd (rdT s (0 + 1) 4) = false) ∧ True := hv
 obtain ⟨v_k, v_id, _⟩ := hv
 refine ⟨?_, ?_, ?_⟩
 · show [rdT s 0 1, rdT s (0 + 1) 4] = [10, rdT s (0 + 1) 4 % 4294967296]
   rw [gC v_id.1.1 v_id.2, hk]
 · show caB (Q7b s 0) (Quk (Q7b s 0) n) = false
   simp only [caB, Quk, Qei, Bool.or_eq_false_iff, and_assoc]
   first | exact mC v_id | exact ⟨mC v_id, trivial⟩ | exact ⟨mC v_id, rfl⟩
 · exact ⟨iC v_id, i0, i0, i0, i0, i0, i0, i0, i0, i0, i0, i0, i0, i0, i0, i0, i0, i0, i0, i0, i0, i0, i0, i0, i0, i0, i0, i0, i0⟩
theorem Zj2 {s : ByteArray} (hk : rdT s 0 1 = 1) (hv : vok (atC 1 (shC s (0 + 1 + 4))) (rds s 0 (atC 1 (shC s (0 + 1 + 4))))) : rds s 0 (atC 1 (shC s (0 + 1 + 4))) = vsC 1 (cV1 s 0) (shC s (0 + 1 + 4)) (Qoi s 0) ∧ Qgy 1 (cV1 s 0) (shC s (0 + 1 + 4)) = false ∧ Qg8 (cV1 s 0) := by
 have hA : atC 1 (shC s (0 + 1 + 4)) = [aKd 1, aC, aS, aI, aI, aI, aN] ++ (spA (shC s (0 + 1 + 4)) ++ [aM, aF, aM, aF, aM, aF, aM, aF, aM, aF, aM, aF, aM, aF, aI, aF]) := rfl
 have hP : (0 : Int) + ((atL [aKd 1, aC, aS, aI, aI, aI, aN] : Nat) : Int) + ((16 * shC s (0 + 1 + 4) : Nat) : Int) = Qag s (0 + 1 + 4) := by
   unfold Qag
   show (31 : Int) + _ = 31 + _
   omega
 have hR : rds s 0 (atC 1 (shC s (0 + 1 + 4))) = [rdT s 0 1, rdT s (0 + 1) 4, rdT s (0 + 1 + 4) 1, rdT s (0 + 1 + 4 + 1) 8, rdT s (0 + 1 + 4 + 1 + 8) 8, rdT s (0 + 1 + 4 + 1 + 8 + 8) 8, rdT s (0 + 1 + 4 + 1 + 8 + 8 + 8) 1] ++ (rds s (shA (0 + 1 + 4)) (spA (shC s (0 + 1 + 4))) ++ [rdT s (Qag s (0 + 1 + 4)) 8, rdT s (Qag s (0 + 1 + 4) + 8) 1, rdT s (Qag s (0 + 1 + 4) + 8 + 1) 8, rdT s (Qag s (0 + 1 + 4) + 8 + 1 + 8) 1, rdT s (Qag s (0 + 1 + 4) + 8 + 1 + 8 + 1) 8, rdT s (Qag s (0 + 1 + 4) + 8 + 1 + 8 + 1 + 8) 1, rdT s (Qag s (0 + 1 + 4) + 8 + 1 + 8 + 1 + 8 + 1) 8, rdT s (Qag s (0 + 1 + 4) + 8 + 1 + 8 + 1 + 8 + 1 + 8) 1, rdT s (Qag s (0 + 1 + 4) + 8 + 1 + 8 + 1 + 8 + 1 + 8 + 1) 8, rdT s (Qag s (0 + 1 + 4) + 8 + 1 + 8 + 1 + 8 + 1 + 8 + 1 + 8) 1, rdT s (Qag s (0 + 1 + 4) + 8 + 1 + 8 + 1 + 8 + 1 + 8 + 1 + 8 + 1) 8, rdT s (Qag s (0 + 1 + 4) + 8 + 1 + 8 + 1 + 8 + 1 + 8 + 1 + 8 + 1 + 8) 1, rdT s (Qag s (0 + 1 + 4) + 8 + 1 + 8 + 1 + 8 + 1 + 8 + 1 + 8 + 1 + 8 + 1) 8, rdT s (Qag s (0 + 1 + 4) + 8 + 1 + 8 + 1 + 8 + 1 + 8 + 1 + 8 + 1 + 8 + 1 + 8) 1, rdT s (Qag s (0 + 1 + 4) + 8 + 1 + 8 + 1 + 8 + 1 + 8 + 1 + 8 + 1 + 8 + 1 + 8 + 1) 8, rdT s (Qag s (0 + 1 + 4) + 8 + 1 + 8 + 1 + 8 + 1 + 8 + 1 + 8 + 1 + 8 + 1 + 8 + 1 + 8) 1]) := by
   rw [hA, Qhe, Qhe, Qns, hP]
   rfl
 rw [hR, hA, Qej rfl, Qej Qjk] at hv
 obtain ⟨hv1, _, hv3⟩ := hv
 have hv1 : ((0 ≤ rdT s 0 1 ∧ rdT s 0 1 < 256 ^ (aKd 1).n) ∧ (aKd 1).bd (rdT s 0 1) = false) ∧ ((0 ≤ rdT s (0 + 1) 4 ∧ rdT s (0 + 1) 4 < 256 ^ (aC).n) ∧ (aC).bd (rdT s (0 + 1) 4) = false) ∧ ((0 ≤ rdT s (0 + 1 + 4) 1 ∧ rdT s (0 + 1 + 4) 1 < 256 ^ (aS).n) ∧ (aS).bd (rdT s (0 + 1 + 4) 1) = false) ∧ ((0 ≤ rdT s (0 + 1 + 4 + 1) 8 ∧ rdT s (0 + 1 + 4 + 1) 8 < 256 ^ (aI).n) ∧ (aI).bd (rdT s (0 + 1 + 4 + 1) 8) = false) ∧ ((0 ≤ rdT s (0 + 1 + 4 + 1 + 8) 8 ∧ rdT s (0 + 1 + 4 + 1 + 8) 8 < 256 ^ (aI).n) ∧ (aI).bd (rdT s (0 + 1 + 4 + 1 + 8) 8) = false) ∧ ((0 ≤ rdT s (0 + 1 + 4 + 1 + 8 + 8) 8 ∧ rdT s (0 + 1 + 4 + 1 + 8 + 8) 8 < 256 ^ (aI).n) ∧ (aI).bd (rdT s (0 + 1 + 4 + 1 + 8 + 8) 8) = false) ∧ ((0 ≤ rdT s (0 + 1 + 4 + 1 + 8 + 8 + 8) 1 ∧ rdT s (0 + 1 + 4 + 1 + 8 + 8 + 8) 1 < 256 ^ (aN).n) ∧ (aN).bd (rdT s (0 + 1 + 4 + 1 + 8 + 8 + 8) 1) = false) ∧ True := hv1
 obtain ⟨v_k, v_id, v_sk, v_sr, v_sw, v_sh, v_n, _⟩ := hv1
 have hv3 : ((0 ≤ rdT s (Qag s (0 + 1 + 4)) 8 ∧ rdT s (Qag s (0 + 1 + 4)) 8 < 256 ^ (aM).n) ∧ (aM).bd (rdT s (Qag s (0 + 1 + 4)) 8) = false) ∧ ((0 ≤ rdT s (Qag s (0 + 1 + 4) + 8) 1 ∧ rdT s (Qag s (0 + 1 + 4) + 8) 1 < 256 ^ (aF).n) ∧ (aF).bd (rdT s (Qag s (0 + 1 + 4) + 8) 1) = false) ∧ ((0 ≤ rdT s (Qag s (0 + 1 + 4) + 8 + 1) 8 ∧ rdT s (Qag s (0 + 1 + 4) + 8 + 1) 8 < 256 ^ (aM).n) ∧ (aM).bd (rdT s (Qag s (0 + 1 + 4) + 8 + 1) 8) = false) ∧ ((0 ≤ rdT s (Qag s (0 + 1 + 4) + 8 + 1 + 8) 1 ∧ rdT s (Qag s (0 + 1 + 4) + 8 + 1 + 8) 1 < 256 ^ (aF).n) ∧ (aF).bd (rdT s (Qag s (0 + 1 + 4) + 8 + 1 + 8) 1) = false) ∧ ((0 ≤ rdT s (Qag s (0 + 1 + 4) + 8 + 1 + 8 + 1) 8 ∧ rdT s (Qag s (0 + 1 + 4) + 8 + 1 + 8 + 1) 8 < 256 ^ (aM).n) ∧ (aM).bd (rdT s (Qag s (0 + 1 + 4) + 8 + 1 + 8 + 1) 8) = false) ∧ ((0 ≤ rdT s (Qag s (0 + 1 + 4) + 8 + 1 + 8 + 1 + 8) 1 ∧ rdT s (Qag s (0 + 1 + 4) + 8 + 1 + 8 + 1 + 8) 1 < 256 ^ (aF).n) ∧ (aF).bd (rdT s (Qag s (0 + 1 + 4) + 8 + 1 + 8 + 1 + 8) 1) = false) ∧ ((0 ≤ rdT s (Qag s (0 + 1 + 4) + 8 + 1 + 8 + 1 + 8 + 1) 8 ∧ rdT s (Qag s (0 + 1 + 4) + 8 + 1 + 8 + 1 + 8 + 1) 8 < 256 ^ (aM).n) ∧ (aM).bd (rdT s (Qag s (0 + 1 + 4) + 8 + 1 + 8 + 1 + 8 + 1) 8) = false) ∧ ((0 ≤ rdT s (Qag s (0 + 1 + 4) + 8 + 1 + 8 + 1 + 8 + 1 + 8) 1 ∧ rdT s (Qag s (0 + 1 + 4) + 8 + 1 + 8 + 1 + 8 + 1 + 8) 1 < 256 ^ (aF).n) ∧ (aF).bd (rdT s (Qag s (0 + 1 + 4) + 8 + 1 + 8 + 1 + 8 + 1 + 8) 1) = false) ∧ ((0 ≤ rdT s (Qag s (0 + 1 + 4) + 8 + 1 + 8 + 1 + 8 + 1 + 8 + 1) 8 ∧ rdT s (Qag s (0 + 1 + 4) + 8 + 1 + 8 + 1 + 8 + 1 + 8 + 1) 8 < 256 ^ (aM).n) ∧ (aM).bd (rdT s (Qag s (0 + 1 + 4) + 8 + 1 + 8 + 1 + 8 + 1 + 8 + 1) 8) = false) ∧ ((0 ≤ rdT s (Qag s (0 + 1 + 4) + 8 + 1 + 8 + 1 + 8 + 1 + 8 + 1 + 8) 1 ∧ rdT s (Qag s (0 + 1 + 4) + 8 + 1 + 8 + 1 + 8 + 1 + 8 + 1 + 8) 1 < 256 ^ (aF).n) ∧ (aF).bd (rdT s (Qag s (0 + 1 + 4) + 8 + 1 + 8 + 1 + 8 + 1 + 8 + 1 + 8) 1) = false) ∧ ((0 ≤ rdT s (Qag s (0 + 1 + 4) + 8 + 1 + 8 + 1 + 8 + 1 + 8 + 1 + 8 + 1) 8 ∧ rdT s (Qag s (0 + 1 + 4) + 8 + 1 + 8 + 1 + 8 + 1 + 8 + 1 + 8 + 1) 8 < 256 ^ (aM).n) ∧ (aM).bd (rdT s (Qag s (0 + 1 + 4) + 8 + 1 + 8 + 1 + 8 + 1 + 8 + 1 + 8 + 1) 8) = false) ∧ ((0 ≤ rdT s (Qag s (0 + 1 + 4) + 8 + 1 + 8 + 1 + 8 + 1 + 8 + 1 + 8 + 1 + 8) 1 ∧ rdT s (Qag s (0 + 1 + 4) + 8 + 1 + 8 + 1 + 8 + 1 + 8 + 1 + 8 + 1 + 8) 1 < 256 ^ (aF).n) ∧ (aF).bd (rdT s (Qag s (0 + 1 + 4) + 8 + 1 + 8 + 1 + 8 + 1 + 8 + 1 + 8 + 1 + 8) 1) = false) ∧ ((0 ≤ rdT s (Qag s (0 + 1 + 4) + 8 + 1 + 8 + 1 + 8 + 1 + 8 + 1 + 8 + 1 + 8 + 1) 8 ∧ rdT s (Qag s (0 + 1 + 4) + 8 + 1 + 8 + 1 + 8 + 1 + 8 + 1 + 8 + 1 + 8 + 1) 8 < 256 ^ (aM).n) ∧ (aM).bd (rdT s (Qag s (0 + 1 + 4) + 8 + 1 + 8 + 1 + 8 + 1 + 8 + 1 + 8 + 1 + 8 + 1) 8) = false) ∧ ((0 ≤ rdT s (Qag s (0 + 1 + 4) + 8 + 1 + 8 + 1 + 8 + 1 + 8 + 1 + 8 + 1 + 8 + 1 + 8) 1 ∧ rdT s (Qag s (0 + 1 + 4) + 8 + 1 + 8 + 1 + 8 + 1 + 8 + 1 + 8 + 1 + 8 + 1 + 8) 1 < 256 ^ (aF).n) ∧ (aF).bd (rdT s (Qag s (0 + 1 + 4) + 8 + 1 + 8 + 1 + 8 + 1 + 8 + 1 + 8 + 1 + 8 + 1 + 8) 1) = false) ∧ ((0 ≤ rdT s (Qag s (0 + 1 + 4) + 8 + 1 + 8 + 1 + 8 + 1 + 8 + 1 + 8 + 1 + 8 + 1 + 8 + 1) 8 ∧ rdT s (Qag s (0 + 1 + 4) + 8 + 1 + 8 + 1 + 8 + 1 + 8 + 1 + 8 + 1 + 8 + 1 + 8 + 1) 8 < 256 ^ (aI).n) ∧ (aI).bd (rdT s (Qag s (0 + 1 + 4) + 8 + 1 + 8 + 1 + 8 + 1 + 8 + 1 + 8 + 1 + 8 + 1 + 8 + 1) 8) = false) ∧ ((0 ≤ rdT s (Qag s (0 + 1 + 4) + 8 + 1 + 8 + 1 + 8 + 1 + 8 + 1 + 8 + 1 + 8 + 1 + 8 + 1 + 8) 1 ∧ rdT s (Qag s (0 + 1 + 4) + 8 + 1 + 8 + 1 + 8 + 1 + 8 + 1 + 8 + 1 + 8 + 1 + 8 + 1 + 8) 1 < 256 ^ (aF).n) ∧ (aF).bd (rdT s (Qag s (0 + 1 + 4) + 8 + 1 + 8 + 1 + 8 + 1 + 8 + 1 + 8 + 1 + 8 + 1 + 8 + 1 + 8) 1) = false) ∧ True := hv3
 obtain ⟨v_p0v, v_p0f, v_p1v, v_p1f, v_p2v, v_p2f, v_p3v, v_p3f, v_v0v, v_v0f, v_v1v, v_v1f, v_w0v, v_w0f, v_dn, v_mv, _⟩ := hv3
 refine ⟨?_, ?_, ?_⟩
 · rw [hR]
   show [rdT s 0 1, rdT s (0 + 1) 4, rdT s (0 + 1 + 4) 1, rdT s (0 + 1 + 4 + 1) 8, rdT s (0 + 1 + 4 + 1 + 8) 8, rdT s (0 + 1 + 4 + 1 + 8 + 8) 8, rdT s (0 + 1 + 4 + 1 + 8 + 8 + 8) 1] ++ (rds s (shA (0 + 1 + 4)) (spA (shC s (0 + 1 + 4))) ++ [rdT s (Qag s (0 + 1 + 4)) 8, rdT s (Qag s (0 + 1 + 4) + 8) 1, rdT s (Qag s (0 + 1 + 4) + 8 + 1) 8, rdT s (Qag s (0 + 1 + 4) + 8 + 1 + 8) 1, rdT s (Qag s (0 + 1 + 4) + 8 + 1 + 8 + 1) 8, rdT s (Qag s (0 + 1 + 4) + 8 + 1 + 8 + 1 + 8) 1, rdT s (Qag s (0 + 1 + 4) + 8 + 1 + 8 + 1 + 8 + 1) 8, rdT s (Qag s (0 + 1 + 4) + 8 + 1 + 8 + 1 + 8 + 1 + 8) 1, rdT s (Qag s (0 + 1 + 4) + 8 + 1 + 8 + 1 + 8 + 1 + 8 + 1) 8, rdT s (Qag s (0 + 1 + 4) + 8 + 1 + 8 + 1 + 8 + 1 + 8 + 1 + 8) 1, rdT s (Qag s (0 + 1 + 4) + 8 + 1 + 8 + 1 + 8 + 1 + 8 + 1 + 8 + 1) 8, rdT s (Qag s (0 + 1 + 4) + 8 + 1 + 8 + 1 + 8 + 1 + 8 + 1 + 8 + 1 + 8) 1, rdT s (Qag s (0 + 1 + 4) + 8 + 1 + 8 + 1 + 8 + 1 + 8 + 1 + 8 + 1 + 8 + 1) 8, rdT s (Qag s (0 + 1 + 4) + 8 + 1 + 8 + 1 + 8 + 1 + 8 + 1 + 8 + 1 + 8 + 1 + 8) 1, rdT s (Qag s (0 + 1 + 4) + 8 + 1 + 8 + 1 + 8 + 1 + 8 + 1 + 8 + 1 + 8 + 1 + 8 + 1) 8, rdT s (Qag s (0 + 1 + 4) + 8 + 1 + 8 + 1 + 8 + 1 + 8 + 1 + 8 + 1 + 8 + 1 + 8 + 1 + 8) 1]) = [1, rdT s (0 + 1) 4 % 4294967296, rdT s (0 + 1 + 4) 1, rdI s (0 + 1 + 4 + 1) % 18446744073709551616, rdI s (0 + 1 + 4 + 1 + 8) % 18446744073709551616, rdI s (0 + 1 + 4 + 1 + 8 + 8) % 18446744073709551616, ((shC s (0 + 1 + 4) : Nat) : Int)] ++ (Qwt (Qf6 s (shA (0 + 1 + 4))) (shC s (0 + 1 + 4)) ++ [rdI s (Qag s (0 + 1 + 4)) % 18446744073709551616, flN (rdF s (Qag s (0 + 1 + 4) + 8)), rdI s (Qag s (0 + 1 + 4) + 8 + 1) % 18446744073709551616, flN (rdF s (Qag s (0 + 1 + 4) + 8 + 1 + 8)), rdI s (Qag s (0 + 1 + 4) + 8 + 1 + 8 + 1) % 18446744073709551616, flN (rdF s (Qag s (0 + 1 + 4) + 8 + 1 + 8 + 1 + 8)), rdI s (Qag s (0 + 1 + 4) + 8 + 1 + 8 + 1 + 8 + 1) % 18446744073709551616, flN (rdF s (Qag s (0 + 1 + 4) + 8 + 1 + 8 + 1 + 8 + 1 + 8)), rdI s (Qag s (0 + 1 + 4) + 8 + 1 + 8 + 1 + 8 + 1 + 8 + 1) % 18446744073709551616, flN (rdF s (Qag s (0 + 1 + 4) + 8 + 1 + 8 + 1 + 8 + 1 + 8 + 1 + 8)), rdI s (Qag s (0 + 1 + 4) + 8 + 1 + 8 + 1 + 8 + 1 + 8 + 1 + 8 + 1) % 18446744073709551616, flN (rdF s (Qag s (0 + 1 + 4) + 8 + 1 + 8 + 1 + 8 + 1 + 8 + 1 + 8 + 1 + 8)), rdI s (Qag s (0 + 1 + 4) + 8 + 1 + 8 + 1 + 8 + 1 + 8 + 1 + 8 + 1 + 8 + 1) % 18446744073709551616, flN (rdF s (Qag s (0 + 1 + 4) + 8 + 1 + 8 + 1 + 8 + 1 + 8 + 1 + 8 + 1 + 8 + 1 + 8)), rdI s (Qag s (0 + 1 + 4) + 8 + 1 + 8 + 1 + 8 + 1 + 8 + 1 + 8 + 1 + 8 + 1 + 8 + 1) % 18446744073709551616, flN (rdF s (Qag s (0 + 1 + 4) + 8 + 1 + 8 + 1 + 8 + 1 + 8 + 1 + 8 + 1 + 8 + 1 + 8 + 1 + 8))])
   rw [Qqh, gC v_id.1.1 v_id.2, gI' (s := s) (p := 0 + 1 + 4 + 1), gI' (s := s) (p := 0 + 1 + 4 + 1 + 8), gI' (s := s) (p := 0 + 1 + 4 + 1 + 8 + 8), ← Qlw, gI' (s := s) (p := Qag s (0 + 1 + 4)), gF v_p0f.2, gI' (s := s) (p := Qag s (0 + 1 + 4) + 8 + 1), gF v_p1f.2, gI' (s := s) (p := Qag s (0 + 1 + 4) + 8 + 1 + 8 + 1), gF v_p2f.2, gI' (s := s) (p := Qag s (0 + 1 + 4) + 8 + 1 + 8 + 1 + 8 + 1), gF v_p3f.2, gI' (s := s) (p := Qag s (0 + 1 + 4) + 8 + 1 + 8 + 1 + 8 + 1 + 8 + 1), gF v_v0f.2, gI' (s := s) (p := Qag s (0 + 1 + 4) + 8 + 1 + 8 + 1 + 8 + 1 + 8 + 1 + 8 + 1), gF v_v1f.2, gI' (s := s) (p := Qag s (0 + 1 + 4) + 8 + 1 + 8 + 1 + 8 + 1 + 8 + 1 + 8 + 1 + 8 + 1), gF v_w0f.2, gI' (s := s) (p := Qag s (0 + 1 + 4) + 8 + 1 + 8 + 1 + 8 + 1 + 8 + 1 + 8 + 1 + 8 + 1 + 8 + 1), gF v_mv.2, hk]
 · show caB (cV1 s 0) (Q5r (cV1 s 0) _) = false
   simp only [caB, Q5r, Qei, Qc5, Bool.or_eq_false_iff, and_assoc]
   exact ⟨mC v_id, mS v_sk, mN (Qlw s (0 + 1 + 4)) v_n, mM v_p0v, mM v_p1v, mM v_p2v, mM v_p3v, mM v_v0v, mM v_v1v, mM v_w0v⟩
 · exact ⟨iC v_id, i0, i0, i0, iS v_sk, Qbe _ _, Qbe _ _, Qbe _ _, Qbe _ _, Qbe _ _, Qbe _ _, Qbe _ _, Qbe _ _, Qbe _ _, Qbe _ _, Qbe _ _, i0, i0, i0, i0, i0, i0, i0, i0, i0, i0, i0, i0, i0⟩
theorem Q5q {s : ByteArray} (h : (caP s 0).bad = false) : 1 ≤ rdT s 0 1 ∧ rdT s 0 1 ≤ 10 := by
 have h2 : (!(decide (1 ≤ rdT s 0 1) && decide (rdT s 0 1 ≤ 10))) = false := (Qck (Qck h).1).2
 cases h3 : (decide (1 ≤ rdT s 0 1) && decide (rdT s 0 1 ≤ 10)) with
 | false => rw [h3] at h2; cases h2
 | true =>
   rw [Bool.and_eq_true] at h3
   exact ⟨of_decide_eq_true h3.1, of_decide_eq_true h3.2⟩
theorem Zbv {s : ByteArray} (hk : 1 ≤ rdT s 0 1 ∧ rdT s 0 1 ≤ 10) (hv : vok (atC (rdT s 0 1) (caN s 0)) (rds s 0 (atC (rdT s 0 1) (caN s 0)))) : rds s 0 (atC (rdT s 0 1) (caN s 0)) = vsC (rdT s 0 1) (caV s 0) (caN s 0) (Qoi s 0) ∧ Qgy (rdT s 0 1) (caV s 0) (caN s 0) = false ∧ Qg8 (caV s 0) ∧ ucK (rdT s 0 1) (caV s 0) = caV s 0 ∧ (rdT s 0 1 ≠ 1 → caN s 0 = 0) := by
 rcases ten hk with h | h | h | h | h | h | h | h | h | h
 · have eV : caV s 0 = cV1 s 0 := by unfold caV; rw [h]; rfl
   have eN : caN s 0 = shC s (0 + 1 + 4) := by unfold caN; rw [h]; rfl
   rw [h, eN] at hv
   rw [h, eV, eN]
   obtain ⟨a1, a2, a3⟩ := Zj2 h hv
   exact ⟨a1, a2, a3, rfl, fun hn => absurd rfl hn⟩
 · have eV : caV s 0 = cV2 s 0 := by unfold caV; rw [h]; rfl
   have eN : caN s 0 = 0 := by unfold caN; rw [h]; rfl
   rw [h, eN] at hv
   rw [h, eV, eN]
   obtain ⟨a1, a2, a3⟩ := Zj1 (Qoi s 0) h hv
   exact ⟨a1, a2, a3, rfl, fun hn => rfl⟩
 · have eV : caV s 0 = cV3 s 0 := by unfold caV; rw [h]; rfl
   have eN : caN s 0 = 0 := by unfold caN; rw [h]; rfl
   rw [h, eN] at hv
   rw [h, eV, eN]
   obtain ⟨a1, a2, a3⟩ := Zj0 (Qoi s 0) h hv
   exact ⟨a1, a2, a3, rfl, fun hn => rfl⟩
 · have eV : caV s 0 = cV4 s 0 := by unfold caV; rw [h]; rfl
   have eN : caN s 0 = 0 := by unfold caN; rw [h]; rfl
   rw [h, eN] at hv
   rw [h, eV, eN]
   obtain ⟨a1, a2, a3⟩ := Zjz (Qoi s 0) h hv
   exact ⟨a1, a2, a3, rfl, fun hn => rfl⟩
 · have eV : caV s 0 = cV5 s 0 := by unfold caV; rw [h]; rfl
   have eN : caN s 0 = 0 := by unfold caN; rw [h]; rfl
   rw [h, eN] at hv
   rw [h, eV, eN]
   obtain ⟨a1, a2, a3⟩ := Zjy (Qoi s 0) h hv
   exact ⟨a1, a2, a3, rfl, fun hn => rfl⟩
 · have eV : caV s 0 = cV6 s 0 := by unfold caV; rw [h]; rfl
   have eN : caN s 0 = 0 := by unfold caN; rw [h]; rfl
   rw [h, eN] at hv
   rw [h, eV, eN]
   obtain ⟨a1, a2, a3⟩ := Zjx (Qoi s 0) h hv
   exact ⟨a1, a2, a3, rfl, fun hn => rfl⟩
 · have eV : caV s 0 = cV7 s 0 := by unfold caV; rw [h]; rfl
   have eN : caN s 0 = 0 := by unfold caN; rw [h]; rfl
   rw [h, eN] at hv
   rw [h, eV, eN]
   obtain ⟨a1, a2, a3⟩ := Zjw (Qoi s 0) h hv
   exact ⟨a1, a2, a3, rfl, fun hn => rfl⟩
 · have eV : caV s 0 = cV8 s 0 := by unfold caV; rw [h]; rfl
   have eN : caN s 0 = 0 := by unfold caN; rw [h]; rfl
   rw [h, eN] at hv
   rw [h, eV, eN]
   obtain ⟨a1, a2, a3⟩ := Zjv (Qoi s 0) h hv
   exact ⟨a1, a2, a3, rfl, fun hn => rfl⟩
 · have eV : caV s 0 = cV9 s 0 := by unfold caV; rw [h]; rfl
   have eN : caN s 0 = 0 := by unfold caN; rw [h]; rfl
   rw [h, eN] at hv
   rw [h, eV, eN]
   obtain ⟨a1, a2, a3⟩ := Zju (Qoi s 0) h hv
   exact ⟨a1, a2, a3, rfl, fun hn => rfl⟩
 · have eV : caV s 0 = Q7b s 0 := by unfold caV; rw [h]; rfl
   have eN : caN s 0 = 0 := by unfold caN; rw [h]; rfl
   rw [h, eN] at hv
   rw [h, eV, eN]
   obtain ⟨a1, a2, a3⟩ := Zgt (Qoi s 0) h hv
   exact ⟨a1, a2, a3, rfl, fun hn => rfl⟩
theorem en_f {s : ByteArray} {k : Nat} (h : (enP s (k : Int)).bad = false) : k = s.size := by
 have h : (!((k : Int) == (s.size : Int))) = false := h
 have : ((k : Int) == (s.size : Int)) = true := by
   cases hb : ((k : Int) == (s.size : Int)) with
   | true => rfl
   | false => rw [hb] at h; cases h
 have := beq_iff_eq.1 this
 omega
theorem Q5e {s : ByteArray} (h : (caP s 0).bad = false) : ((1 ≤ rdT s 0 1 ∧ rdT s 0 1 ≤ 10) ∧ Qg8 (caV s 0) ∧ caN s 0 ≤ 8 ∧ ∀ i, I64 (Qoi s 0 i).1 ∧ I64 (Qoi s 0 i).2) ∧ Qe6 (rdT s 0 1) (caV s 0) (caN s 0) (Qoi s 0) = 0 ∧ Qe5 (rdT s 0 1) (caV s 0) (caN s 0) (Qoi s 0) = s := by
 have hk := Q5q h
 have hr := Zcn hk.1 hk.2
 rw [hr] at h
 obtain ⟨⟨h1, h2⟩, h3, h4⟩ := Qqu (k := 0) h (Nat.zero_le _)
 have h2 := en_f h2
 obtain ⟨f1, f2, f3, f4, f5⟩ := Zbv hk h4
 have hform : Qju (rdT s 0 1) (caV s 0) (caN s 0) (Qoi s 0) = true := Zbx f4 f5
 have hn : caN s 0 ≤ 8 := by
   by_cases h9 : rdT s 0 1 = 1
   · exact Zj6 (h9 ▸ f2)
   · rw [f5 h9]; omega
 obtain ⟨c1, c2⟩ := Q5g hk hform f2
 refine ⟨⟨hk, f3, hn, fun i => ⟨Qbe _ _, Qbe _ _⟩⟩, c1, ?_⟩
 rw [c2]
 apply Qro
 rw [Q05 hk (fun _ => hn), ← f1]
 have h3 : enc (atC (rdT s 0 1) (caN s 0)) (rds s 0 (atC (rdT s 0 1) (caN s 0))) = ((byt s).drop 0).take (atL (atC (rdT s 0 1) (caN s 0))) := h3
 rw [h3, List.drop_zero, List.take_of_length_le (by rw [Qmd]; omega)]
def aE : At := ⟨1, fun v => decide (14 < v), 4⟩
def aK3 : At := ⟨1, fun v => decide (3 < v), 4⟩
def aHs : At := ⟨1, fun v => decide (64 < v), 4⟩
def boA (n : Nat) : List At := [aS, aI, aI, aI, aN] ++ (spA n ++ [aM, aF, aM, aF, aM, aF, aM, aF, aM, aF, aM, aF, aM, aF, aM, aF, aM, aF, aC, aK3, aV])
def Zc5 (b : BV) (n : Nat) (g : Nat → Int × Int) : List Int := [b.sk, b.sr % 18446744073709551616, b.sw % 18446744073709551616, b.sh % 18446744073709551616, (n : Int)] ++ (Qwt g n ++ [b.p0v % 18446744073709551616, flN b.p0f, b.p1v % 18446744073709551616, flN b.p1f, b.p2v % 18446744073709551616, flN b.p2f, b.p3v % 18446744073709551616, flN b.p3f, b.v0v % 18446744073709551616, flN b.v0f, b.v1v % 18446744073709551616, flN b.v1f, b.w0v % 18446744073709551616, flN b.w0f, b.m0v % 18446744073709551616, flN b.m0f, b.m1v % 18446744073709551616, flN b.m1f, b.st % 4294967296, bmk b, b.bv % 18446744073709551616])
def hsA : Nat → List At
 | 0 => []
 | n + 1 => hsA n ++ [aC, aC]
def Q0j (h : Nat → Int × Int) : Nat → List Int
 | 0 => []
 | n + 1 => Q0j h n ++ [(h n).1 % 4294967296, (h n).2 % 4294967296]
def rA1 (n m : Nat) : List At := [aC, aC, aV]
def rV1 (c : RV) (n : Nat) (g : Nat → Int × Int) (m : Nat) (h : Nat → Int × Int) : List Int := [c.bs % 4294967296, c.bg % 4294967296, c.ver % 18446744073709551616]
def rA2 (n m : Nat) : List At := [aC, aC]
def rV2 (c : RV) (n : Nat) (g : Nat → Int × Int) (m : Nat) (h : Nat → Int × Int) : List Int := [c.bs % 4294967296, c.bg % 4294967296]
def rA3 (n m : Nat) : List At := [aC, aC, aV]
def rV3 (c : RV) (n : Nat) (g : Nat → Int × Int) (m : Nat) (h : Nat → Int × Int) : List Int := [c.bs % 4294967296, c.bg % 4294967296, c.ver % 18446744073709551616]
def rA4 (n m : Nat) : List At := [aC, aC, aV, aC]
def rV4 (c : RV) (n : Nat) (g : Nat → Int × Int) (m : Nat) (h : Nat → Int × Int) : List Int := [c.bs % 4294967296, c.bg % 4294967296, c.ver % 18446744073709551616, c.gr % 4294967296]
def rA5 (n m : Nat) : List At := [aC]
def rV5 (c : RV) (n : Nat) (g : Nat → Int × Int) (m : Nat) (h : Nat → Int × Int) : List Int := [c.gr % 4294967296]
def rA6 (n m : Nat) : List At := [aC]
def rV6 (c : RV) (n : Nat) (g : Nat → Int × Int) (m : Nat) (h : Nat → Int × Int) : List Int := [c.gr % 4294967296]
def rA7 (n m : Nat) : List At := [aC, aC] ++ boA n
def rV7 (c : RV) (n : Nat) (g : Nat → Int × Int) (m : Nat) (h : Nat → Int × Int) : List Int := [c.bs % 4294967296, c.bg % 4294967296] ++ Zc5 c.o n g
def rA8 (n m : Nat) : List At := [aHs] ++ hsA m
def rV8 (c : RV) (n : Nat) (g : Nat → Int × Int) (m : Nat) (h : Nat → Int × Int) : List Int := [(m : Int)] ++ Q0j h m
def rA9 (n m : Nat) : List At := [aC, aC, aF, aM, aF, aM, aF, aM, aF]
def rV9 (c : RV) (n : Nat) (g : Nat → Int × Int) (m : Nat) (h : Nat → Int × Int) : List Int := [c.bs % 4294967296, c.bg % 4294967296, flN c.hit, c.htv % 18446744073709551616, flN c.htf, c.x0v % 18446744073709551616, flN c.x0f, c.x1v % 18446744073709551616, flN c.x1f]
def Zeb (n m : Nat) : List At := [aC]
def Zhz (c : RV) (n : Nat) (g : Nat → Int × Int) (m : Nat) (h : Nat → Int × Int) : List Int := [c.cnt % 4294967296]
def rAK (k e : Int) (n m : Nat) : List At := bif e == 0 then (bif k == 1 then rA1 n m else (bif k == 2 then rA2 n m else (bif k == 3 then rA3 n m else (bif k == 4 then rA4 n m else (bif k == 5 then rA5 n m else (bif k == 6 then rA6 n m else (bif k == 7 then rA7 n m else (bif k == 8 then rA8 n m else (bif k == 9 then rA9 n m else (Zeb n m)))))))))) else (bif e == 14 then [aV] else [])
def rVK (k e : Int) (c : RV) (n : Nat) (g : Nat → Int × Int) (m : Nat) (h : Nat → Int × Int) : List Int := bif e == 0 then (bif k == 1 then rV1 c n g m h else (bif k == 2 then rV2 c n g m h else (bif k == 3 then rV3 c n g m h else (bif k == 4 then rV4 c n g m h else (bif k == 5 then rV5 c n g m h else (bif k == 6 then rV6 c n g m h else (bif k == 7 then rV7 c n g m h else (bif k == 8 then rV8 c n g m h else (bif k == 9 then rV9 c n g m h else (Zhz c n g m h)))))))))) else (bif e == 14 then [c.ver % 18446744073709551616] else [])
def atR (k e : Int) (n m : Nat) : List At := aKd 0 :: aC :: aE :: rAK k e n m
def vsR (k e : Int) (c : RV) (n : Nat) (g : Nat → Int × Int) (m : Nat) (h : Nat → Int × Int) : List Int := k :: c.id % 4294967296 :: e :: rVK k e c n g m h
noncomputable def Zh1 (s : ByteArray) (k e : Int) : Int → Pz := fun p => bif e == 0 && k == 9 then (Q4n s 0).seq (enP s p) else enP s p
theorem Q7g {s : ByteArray} {k : Int} {F : Int → Pz} : (bdP s k).seq (F (Qip s k)) = Qgx s F k (boA (shC s k)) := by
 have e : ∀ e : Int, (psP s (e)).seq ((vcP s (e + 8 + 1 + 8 + 1 + 8 + 1 + 8 + 1)).seq ((nuP s (e + 8 + 1 + 8 + 1 + 8 + 1 + 8 + 1 + 8 + 1 + 8 + 1)).seq ((nuP s (e + 8 + 1 + 8 + 1 + 8 + 1 + 8 + 1 + 8 + 1 + 8 + 1 + 8 + 1)).seq ((nuP s (e + 8 + 1 + 8 + 1 + 8 + 1 + 8 + 1 + 8 + 1 + 8 + 1 + 8 + 1 + 8 + 1)).seq ((upP s (e + 8 + 1 + 8 + 1 + 8 + 1 + 8 + 1 + 8 + 1 + 8 + 1 + 8 + 1 + 8 + 1 + 8 + 1) 2147483647 4).seq ((upP s (e + 8 + 1 + 8 + 1 + 8 + 1 + 8 + 1 + 8 + 1 + 8 + 1 + 8 + 1 + 8 + 1 + 8 + 1 + 4) 3 1).seq ((upP s (e + 8 + 1 + 8 + 1 + 8 + 1 + 8 + 1 + 8 + 1 + 8 + 1 + 8 + 1 + 8 + 1 + 8 + 1 + 4 + 1) 1099511627776 8).seq (F (e + 8 + 1 + 8 + 1 + 8 + 1 + 8 + 1 + 8 + 1 + 8 + 1 + 8 + 1 + 8 + 1 + 8 + 1 + 4 + 1 + 8))))))))) = Qgx s F e [aM, aF, aM, aF, aM, aF, aM, aF, aM, aF, aM, aF, aM, aF, aM, aF, aM, aF, aC, aK3, aV] := fun e => by
   unfold psP vcP nuP upP
   simp only [Qbi, Qdk]
   rfl
 unfold boA
 rw [← List.append_assoc, Qg0, ← Q6h (F := fun e => Qgx s F e [aM, aF, aM, aF, aM, aF, aM, aF, aM, aF, aM, aF, aM, aF, aM, aF, aM, aF, aC, aK3, aV]), ← e]
 unfold bdP Qip
 simp only [Qbi]
theorem Q0m {s : ByteArray} {k : Int} : ∀ {n : Nat} {F : Int → Pz}, (Qrw s k n).seq (F (k + 8 * (n : Int))) = Qgx s F k (hsA n)
 | 0, F => by
   rw [show k + 8 * ((0 : Nat) : Int) = k by omega]
   rfl
 | n + 1, F => by
   simp only [Qrw, hsA]
   rw [Qbi, Qg0, ← Q0m (n := n) (F := fun k' => Qgx s F k' [aC, aC])]
   unfold haP upP
   rw [show k + 8 * ((n + 1 : Nat) : Int) = k + 8 * (n : Int) + 4 + 4 by omega]
   simp only [Qbi]
   rfl
theorem Zbi (s : ByteArray) (n m : Nat) : qP1 s 0 = Qgx s (enP s) (0 + 1 + 4 + 1) (rA1 n m) := by
 unfold qP1 rA1
 try unfold haP
 try unfold vcP
 try unfold nuP
 try unfold upP
 try simp only [Qbi]
 try simp only [Qdk]
 rfl
theorem Zbh (s : ByteArray) (n m : Nat) : qP2 s 0 = Qgx s (enP s) (0 + 1 + 4 + 1) (rA2 n m) := by
 unfold qP2 rA2
 try unfold haP
 try unfold vcP
 try unfold nuP
 try unfold upP
 try simp only [Qbi]
 try simp only [Qdk]
 rfl
theorem Zbg (s : ByteArray) (n m : Nat) : qP3 s 0 = Qgx s (enP s) (0 + 1 + 4 + 1) (rA3 n m) := by
 unfold qP3 rA3
 try unfold haP
 try unfold vcP
 try unfold nuP
 try unfold upP
 try simp only [Qbi]
 try simp only [Qdk]
 rfl
theorem Zbf (s : ByteArray) (n m : Nat) : qP4 s 0 = Qgx s (enP s) (0 + 1 + 4 + 1) (rA4 n m) := by
 unfold qP4 rA4
 try unfold haP
 try unfold vcP
 try unfold nuP
 try unfold upP
 try simp only [Qbi]
 try simp only [Qdk]
 rfl
theorem Zbe (s : ByteArray) (n m : Nat) : qP5 s 0 = Qgx s (enP s) (0 + 1 + 4 + 1) (rA5 n m) := by
 unfold qP5 rA5
 try unfold haP
 try unfold vcP
 try unfold nuP
 try unfold upP
 try simp only [Qbi]
 try simp only [Qdk]
 rfl
theorem Zbd (s : ByteArray) (n m : Nat) : qP6 s 0 = Qgx s (enP s) (0 + 1 + 4 + 1) (rA6 n m) := by
 unfold qP6 rA6
 try unfold haP
 try unfold vcP
 try unfold nuP
 try unfold upP
 try simp only [Qbi]
 try simp only [Qdk]
 rfl
theorem Zbc (s : ByteArray) (m : Nat) : qP7 s 0 = Qgx s (enP s) (0 + 1 + 4 + 1) (rA7 (shC s (0 + 1 + 4 + 1 + 4 + 4)) m) := by
 unfold qP7 rA7
 rw [Q7g (F := enP s), Qg0]
 unfold haP upP
 simp only [Qbi]
 rfl
theorem Zbb (s : ByteArray) (n : Nat) : qP8 s 0 = Qgx s (enP s) (0 + 1 + 4 + 1) (rA8 n (hdC s 0)) := by
 unfold qP8 rA8
 rw [Q0m (F := enP s), Qg0]
 unfold upP
 simp only [Qbi]
 rfl
theorem Zba (s : ByteArray) (n m : Nat) : qP9 s 0 = Qgx s (fun p => (Q4n s 0).seq (enP s p)) (0 + 1 + 4 + 1) (rA9 n m) := by
 unfold qP9 rA9
 try unfold haP
 try unfold vcP
 try unfold nuP
 try unfold upP
 try simp only [Qbi]
 try simp only [Qdk]
 rfl
theorem Q4v (s : ByteArray) (n m : Nat) : Zec s 0 = Qgx s (enP s) (0 + 1 + 4 + 1) (Zeb n m) := by
 unfold Zec Zeb
 try unfold haP
 try unfold vcP
 try unfold nuP
 try unfold upP
 try simp only [Qbi]
 try simp only [Qdk]
 rfl
theorem Q3z {k : Int} (h : 1 ≤ k ∧ k ≤ 10) : k = 1 ∨ k = 2 ∨ k = 3 ∨ k = 4 ∨ k = 5 ∨ k = 6 ∨ k = 7 ∨ k = 8 ∨ k = 9 ∨ k = 10 := by omega
theorem Qhu {a b : Int} (h : a ≠ b) : (a == b) = false := by simpa using h
theorem Zae {s : ByteArray} {k e : Int} (hk : rdT s 0 1 = k) (he : rdT s (0 + 1 + 4) 1 = e) (h : e = 0 → 1 ≤ k ∧ k ≤ 10) : rpR s 0 = Qgx s (Zh1 s k e) (0 + 1 + 4 + 1) (rAK k e (rpN s 0) (rpM s 0)) := by
 unfold rpR rpN rpM
 rw [hk, he]
 by_cases h0 : e = 0
 · subst h0
   rcases Q3z (h rfl) with x | x | x | x | x | x | x | x | x | x <;> subst x
   · exact Zbi s 0 0
   · exact Zbh s 0 0
   · exact Zbg s 0 0
   · exact Zbf s 0 0
   · exact Zbe s 0 0
   · exact Zbd s 0 0
   · exact Zbc s 0
   · exact Zbb s 0
   · exact Zba s 0 0
   · exact Q4v s 0 0
 · unfold rAK Zh1
   rw [Qhu h0]
   show qPN s 0 = Qgx s (enP s) _ (bif e == 14 then [aV] else [])
   unfold qPN
   rw [he]
   by_cases h14 : e = 14
   · subst h14
     unfold upP
     show ((tkP s (0 + 1 + 4 + 1) 8).seq _).seq _ = _
     simp only [Qbi]
     rfl
   · rw [Qhu h14]
     rfl
theorem Zaf {s : ByteArray} {k e : Int} (hk : rdT s 0 1 = k) (he : rdT s (0 + 1 + 4) 1 = e) (h : e = 0 → 1 ≤ k ∧ k ≤ 10) (h1 : (n1P s 0).bad = false) (h2 : (n2P s 0).bad = false) : rpP s 0 = Qgx s (Zh1 s k e) 0 (atR k e (rpN s 0) (rpM s 0)) := by
 unfold rpP
 rw [Qa1 h1, Qa1 h2, Zae hk he h]
 unfold kiP upP atR
 simp only [Qbi, Qgx]
 rfl
@[reducible] def okA (a : At) (v : Int) : Prop := (0 ≤ v ∧ v < 256 ^ a.n) ∧ a.bd v = false
theorem Zhb (b : BV) : [bmk b] = be (bmk b) 1 := by
 rw [be1]
 unfold bmk
 cases b.asl <;> cases b.flt <;> rfl
theorem vMk {b : BV} : (0 ≤ bmk b ∧ bmk b < 256 ^ aK3.n) ∧ aK3.bd (bmk b) = false := by
 unfold bmk
 cases b.asl <;> cases b.flt <;> exact ⟨⟨by decide, by decide⟩, rfl⟩
theorem Zbk {v : Int} (h0 : 0 ≤ v) (h1 : decide (3 < v) = false) : v = 0 ∨ v = 1 ∨ v = 2 ∨ v = 3 := by
 have := of_decide_eq_false h1
 omega
theorem gMk {v : Int} (h0 : 0 ≤ v) (h1 : decide (3 < v) = false) : (bif mk1 v then 1 else 0) + (bif mk2 v then 2 else 0) = v := by
 rcases Zbk h0 h1 with h | h | h | h <;> subst h <;> rfl
theorem Qn9 (h : Nat → Int × Int) : ∀ n : Nat, (Q0j h n).length = (hsA n).length
 | 0 => rfl
 | n + 1 => by simp only [Q0j, hsA, List.length_append, Qn9 h n, List.length_cons, List.length_nil]
theorem Qt8 : ∀ n : Nat, atL (hsA n) = 8 * n
 | 0 => rfl
 | n + 1 => by
   simp only [hsA]
   rw [Qom, Qt8 n]
   show 8 * n + 8 = _
   omega
theorem Q6u (h : Nat → Int × Int) : ∀ n : Nat, hsL (fun i => (h i).1) (fun i => (h i).2) n = enc (hsA n) (Q0j h n)
 | 0 => rfl
 | n + 1 => by
   simp only [hsL, hsA, Q0j]
   rw [Qih (Qn9 h n), Q6u h n]
   simp only [enc, List.append_nil]
   rfl
theorem Q6s {h : Nat → Int × Int} : ∀ {n : Nat}, Qwk (fun i => (h i).1) (fun i => (h i).2) n = false → vok (hsA n) (Q0j h n)
 | 0, _ => trivial
 | n + 1, e => by
   simp only [Qwk, Qei, Bool.or_eq_false_iff] at e
   simp only [hsA, Q0j]
   rw [Qej (Qn9 h n)]
   exact ⟨Q6s e.1, vC e.2.1, vC e.2.2, trivial⟩
theorem Q6t {s : ByteArray} {k : Int} : ∀ {n : Nat}, vok (hsA n) (rds s k (hsA n)) → rds s k (hsA n) = Q0j (Qv0 s k) n ∧ Qwk (fun i => (Qv0 s k i).1) (fun i => (Qv0 s k i).2) n = false
 | 0, _ => ⟨rfl, rfl⟩
 | n + 1, e => by
   simp only [hsA] at e
   rw [Qhe, Qej Qjk, Qt8] at e
   obtain ⟨e1, e2⟩ := e
   obtain ⟨i1, i2⟩ := Q6t e1
   have e2 : ((0 ≤ rdT s (k + ((8 * n : Nat) : Int)) 4 ∧ rdT s (k + ((8 * n : Nat) : Int)) 4 < 256 ^ aC.n) ∧ aC.bd (rdT s (k + ((8 * n : Nat) : Int)) 4) = false) ∧ ((0 ≤ rdT s (k + ((8 * n : Nat) : Int) + 4) 4 ∧ rdT s (k + ((8 * n : Nat) : Int) + 4) 4 < 256 ^ aC.n) ∧ aC.bd (rdT s (k + ((8 * n : Nat) : Int) + 4) 4) = false) ∧ True := e2
   have ek : k + ((8 * n : Nat) : Int) = k + 8 * (n : Int) := by omega
   rw [ek] at e2
   obtain ⟨v1, v2, _⟩ := e2
   refine ⟨?_, ?_⟩
   · simp only [hsA, Q0j]
     rw [Qhe, i1, Qt8, ek]
     show _ ++ [rdT s (k + 8 * (n : Int)) 4, rdT s (k + 8 * (n : Int) + 4) 4] = _ ++ [rdT s (k + 8 * (n : Int)) 4 % 4294967296, rdT s (k + 8 * (n : Int) + 4) 4 % 4294967296]
     rw [gC v1.1.1 v1.2, gC v2.1.1 v2.2]
   · simp only [Qwk, Qei]
     rw [i2]
     show (false || (Qal (rdT s (k + 8 * (n : Int)) 4) 2147483647 || Qal (rdT s (k + 8 * (n : Int) + 4) 4) 2147483647)) = false
     rw [mC v1, mC v2]
     rfl
theorem Q1a (b : BV) {n : Nat} (hn : n ≤ 8) (g : Nat → Int × Int) : boL b n (fun i => (g i).1) (fun i => (g i).2) = enc (boA n) (Zc5 b n g) := by
 unfold boL boT poB voB wmB boA Zc5 shL Qe3 Qdu i8 c4
 rw [Qih rfl, Qih (by rw [Qfh, Qgh]), ← Qnr, show Nat.ble n 8 = true from Nat.ble_eq_true_of_le hn, Zhb]
 simp only [Qe0, enc, cond_true, List.append_assoc, List.append_nil, ← be1]
 rfl
theorem Zha {b : BV} {n : Nat} (g : Nat → Int × Int) (hb : Qx6 b) (h : Qd4 b n = false) : vok (boA n) (Zc5 b n g) := by
 simp only [Qd4, Qc5, Bool.or_eq_false_iff, and_assoc] at h
 obtain ⟨h_sk, h_n, h_p0v, h_p1v, h_p2v, h_p3v, h_v0v, h_v1v, h_w0v, h_m0v, h_m1v, h_st, h_bv⟩ := h
 obtain ⟨_, _, _, _, i_p0v, i_p1v, i_p2v, i_p3v, i_v0v, i_v1v, i_w0v, i_m0v, i_m1v, _, _⟩ := hb
 unfold boA Zc5
 rw [Qej rfl, Qej (by rw [Qfh, Qgh])]
 exact ⟨⟨vS h_sk, vI, vI, vI, vN h_n, trivial⟩, Qr3 g n, vM i_p0v h_p0v, vF, vM i_p1v h_p1v, vF, vM i_p2v h_p2v, vF, vM i_p3v h_p3v, vF, vM i_v0v h_v0v, vF, vM i_v1v h_v1v, vF, vM i_w0v h_w0v, vF, vM i_m0v h_m0v, vF, vM i_m1v h_m1v, vF, vC h_st, vMk, vV h_bv, trivial⟩
theorem bo_n {b : BV} {n : Nat} (h : Qd4 b n = false) : n ≤ 8 := by
 simp only [Qd4, Qc5, Bool.or_eq_false_iff] at h
 have := Qhh h.1.2
 omega
theorem Q7d {s : ByteArray} {p : Int} {n : Nat} (hC : shC s p = n) : rds s p (boA n) = [rdT s (p) 1, rdT s (p + 1) 8, rdT s (p + 1 + 8) 8, rdT s (p + 1 + 8 + 8) 8, rdT s (p + 1 + 8 + 8 + 8) 1] ++ (rds s (shA p) (spA n) ++ [rdT s (Qag s p) 8, rdT s (Qag s p + 8) 1, rdT s (Qag s p + 8 + 1) 8, rdT s (Qag s p + 8 + 1 + 8) 1, rdT s (Qag s p + 8 + 1 + 8 + 1) 8, rdT s (Qag s p + 8 + 1 + 8 + 1 + 8) 1, rdT s (Qag s p + 8 + 1 + 8 + 1 + 8 + 1) 8, rdT s (Qag s p + 8 + 1 + 8 + 1 + 8 + 1 + 8) 1, rdT s (Qag s p + 8 + 1 + 8 + 1 + 8 + 1 + 8 + 1) 8, rdT s (Qag s p + 8 + 1 + 8 + 1 + 8 + 1 + 8 + 1 + 8) 1, rdT s (Qag s p + 8 + 1 + 8 + 1 + 8 + 1 + 8 + 1 + 8 + 1) 8, rdT s (Qag s p + 8 + 1 + 8 + 1 + 8 + 1 + 8 + 1 + 8 + 1 + 8) 1, rdT s (Qag s p + 8 + 1 + 8 + 1 + 8 + 1 + 8 + 1 + 8 + 1 + 8 + 1) 8, rdT s (Qag s p + 8 + 1 + 8 + 1 + 8 + 1 + 8 + 1 + 8 + 1 + 8 + 1 + 8) 1, rdT s (Qag s p + 8 + 1 + 8 + 1 + 8 + 1 + 8 + 1 + 8 + 1 + 8 + 1 + 8 + 1) 8, rdT s (Qag s p + 8 + 1 + 8 + 1 + 8 + 1 + 8 + 1 + 8 + 1 + 8 + 1 + 8 + 1 + 8) 1, rdT s (Qag s p + 8 + 1 + 8 + 1 + 8 + 1 + 8 + 1 + 8 + 1 + 8 + 1 + 8 + 1 + 8 + 1) 8, rdT s (Qag s p + 8 + 1 + 8 + 1 + 8 + 1 + 8 + 1 + 8 + 1 + 8 + 1 + 8 + 1 + 8 + 1 + 8) 1, rdT s (Qag s p + 8 + 1 + 8 + 1 + 8 + 1 + 8 + 1 + 8 + 1 + 8 + 1 + 8 + 1 + 8 + 1 + 8 + 1) 4, rdT s (Qag s p + 8 + 1 + 8 + 1 + 8 + 1 + 8 + 1 + 8 + 1 + 8 + 1 + 8 + 1 + 8 + 1 + 8 + 1 + 4) 1, rdT s (Qag s p + 8 + 1 + 8 + 1 + 8 + 1 + 8 + 1 + 8 + 1 + 8 + 1 + 8 + 1 + 8 + 1 + 8 + 1 + 4 + 1) 8]) := by
 have hP : p + ((atL [aS, aI, aI, aI, aN] : Nat) : Int) = shA p := by
   unfold shA
   show p + ((29 - 3 : Nat) : Int) = _
   omega
 have hQ : shA p + ((16 * n : Nat) : Int) = Qag s p := by
   unfold Qag
   rw [hC]
   omega
 unfold boA
 rw [Qhe, Qhe, Qns, hP, hQ]
 rfl
theorem Q7e {s : ByteArray} {p : Int} (hv : vok (boA (shC s p)) (rds s p (boA (shC s p)))) : rds s p (boA (shC s p)) = Zc5 (bdV s p) (shC s p) (Qf6 s (shA p)) ∧ Qd4 (bdV s p) (shC s p) = false ∧ Qx6 (bdV s p) := by
 rw [Q7d rfl] at hv
 unfold boA at hv
 rw [Qej rfl, Qej Qjk] at hv
 obtain ⟨hv1, _, hv3⟩ := hv
 have hv1 : okA aS (rdT s (p) 1) ∧ okA aI (rdT s (p + 1) 8) ∧ okA aI (rdT s (p + 1 + 8) 8) ∧ okA aI (rdT s (p + 1 + 8 + 8) 8) ∧ okA aN (rdT s (p + 1 + 8 + 8 + 8) 1) ∧ True := hv1
 obtain ⟨v_sk, v_sr, v_sw, v_sh, v_n, _⟩ := hv1
 have hv3 : okA aM (rdT s (Qag s p) 8) ∧ okA aF (rdT s (Qag s p + 8) 1) ∧ okA aM (rdT s (Qag s p + 8 + 1) 8) ∧ okA aF (rdT s (Qag s p + 8 + 1 + 8) 1) ∧ okA aM (rdT s (Qag s p + 8 + 1 + 8 + 1) 8) ∧ okA aF (rdT s (Qag s p + 8 + 1 + 8 + 1 + 8) 1) ∧ okA aM (rdT s (Qag s p + 8 + 1 + 8 + 1 + 8 + 1) 8) ∧ okA aF (rdT s (Qag s p + 8 + 1 + 8 + 1 + 8 + 1 + 8) 1) ∧ okA aM (rdT s (Qag s p + 8 + 1 + 8 + 1 + 8 + 1 + 8 + 1) 8) ∧ okA aF (rdT s (Qag s p + 8 + 1 + 8 + 1 + 8 + 1 + 8 + 1 + 8) 1) ∧ okA aM (rdT s (Qag s p + 8 + 1 + 8 + 1 + 8 + 1 + 8 + 1 + 8 + 1) 8) ∧ okA aF (rdT s (Qag s p + 8 + 1 + 8 + 1 + 8 + 1 + 8 + 1 + 8 + 1 + 8) 1) ∧ okA aM (rdT s (Qag s p + 8 + 1 + 8 + 1 + 8 + 1 + 8 + 1 + 8 + 1 + 8 + 1) 8) ∧ okA aF (rdT s (Qag s p + 8 + 1 + 8 + 1 + 8 + 1 + 8 + 1 + 8 + 1 + 8 + 1 + 8) 1) ∧ okA aM (rdT s (Qag s p + 8 + 1 + 8 + 1 + 8 + 1 + 8 + 1 + 8 + 1 + 8 + 1 + 8 + 1) 8) ∧ okA aF (rdT s (Qag s p + 8 + 1 + 8 + 1 + 8 + 1 + 8 + 1 + 8 + 1 + 8 + 1 + 8 + 1 + 8) 1) ∧ okA aM (rdT s (Qag s p + 8 + 1 + 8 + 1 + 8 + 1 + 8 + 1 + 8 + 1 + 8 + 1 + 8 + 1 + 8 + 1) 8) ∧ okA aF (rdT s (Qag s p + 8 + 1 + 8 + 1 + 8 + 1 + 8 + 1 + 8 + 1 + 8 + 1 + 8 + 1 + 8 + 1 + 8) 1) ∧ okA aC (rdT s (Qag s p + 8 + 1 + 8 + 1 + 8 + 1 + 8 + 1 + 8 + 1 + 8 + 1 + 8 + 1 + 8 + 1 + 8 + 1) 4) ∧ okA aK3 (rdT s (Qag s p + 8 + 1 + 8 + 1 + 8 + 1 + 8 + 1 + 8 + 1 + 8 + 1 + 8 + 1 + 8 + 1 + 8 + 1 + 4) 1) ∧ okA aV (rdT s (Qag s p + 8 + 1 + 8 + 1 + 8 + 1 + 8 + 1 + 8 + 1 + 8 + 1 + 8 + 1 + 8 + 1 + 8 + 1 + 4 + 1) 8) ∧ True := hv3
 obtain ⟨v_p0v, v_p0f, v_p1v, v_p1f, v_p2v, v_p2f, v_p3v, v_p3f, v_v0v, v_v0f, v_v1v, v_v1f, v_w0v, v_w0f, v_m0v, v_m0f, v_m1v, v_m1f, v_st, v_mk, v_bv, _⟩ := hv3
 refine ⟨?_, ?_, ?_⟩
 · rw [Q7d rfl]
   show [rdT s (p) 1, rdT s (p + 1) 8, rdT s (p + 1 + 8) 8, rdT s (p + 1 + 8 + 8) 8, rdT s (p + 1 + 8 + 8 + 8) 1] ++ (rds s (shA p) (spA (shC s p)) ++ [rdT s (Qag s p) 8, rdT s (Qag s p + 8) 1, rdT s (Qag s p + 8 + 1) 8, rdT s (Qag s p + 8 + 1 + 8) 1, rdT s (Qag s p + 8 + 1 + 8 + 1) 8, rdT s (Qag s p + 8 + 1 + 8 + 1 + 8) 1, rdT s (Qag s p + 8 + 1 + 8 + 1 + 8 + 1) 8, rdT s (Qag s p + 8 + 1 + 8 + 1 + 8 + 1 + 8) 1, rdT s (Qag s p + 8 + 1 + 8 + 1 + 8 + 1 + 8 + 1) 8, rdT s (Qag s p + 8 + 1 + 8 + 1 + 8 + 1 + 8 + 1 + 8) 1, rdT s (Qag s p + 8 + 1 + 8 + 1 + 8 + 1 + 8 + 1 + 8 + 1) 8, rdT s (Qag s p + 8 + 1 + 8 + 1 + 8 + 1 + 8 + 1 + 8 + 1 + 8) 1, rdT s (Qag s p + 8 + 1 + 8 + 1 + 8 + 1 + 8 + 1 + 8 + 1 + 8 + 1) 8, rdT s (Qag s p + 8 + 1 + 8 + 1 + 8 + 1 + 8 + 1 + 8 + 1 + 8 + 1 + 8) 1, rdT s (Qag s p + 8 + 1 + 8 + 1 + 8 + 1 + 8 + 1 + 8 + 1 + 8 + 1 + 8 + 1) 8, rdT s (Qag s p + 8 + 1 + 8 + 1 + 8 + 1 + 8 + 1 + 8 + 1 + 8 + 1 + 8 + 1 + 8) 1, rdT s (Qag s p + 8 + 1 + 8 + 1 + 8 + 1 + 8 + 1 + 8 + 1 + 8 + 1 + 8 + 1 + 8 + 1) 8, rdT s (Qag s p + 8 + 1 + 8 + 1 + 8 + 1 + 8 + 1 + 8 + 1 + 8 + 1 + 8 + 1 + 8 + 1 + 8) 1, rdT s (Qag s p + 8 + 1 + 8 + 1 + 8 + 1 + 8 + 1 + 8 + 1 + 8 + 1 + 8 + 1 + 8 + 1 + 8 + 1) 4, rdT s (Qag s p + 8 + 1 + 8 + 1 + 8 + 1 + 8 + 1 + 8 + 1 + 8 + 1 + 8 + 1 + 8 + 1 + 8 + 1 + 4) 1, rdT s (Qag s p + 8 + 1 + 8 + 1 + 8 + 1 + 8 + 1 + 8 + 1 + 8 + 1 + 8 + 1 + 8 + 1 + 8 + 1 + 4 + 1) 8]) = [rdT s p 1, rdI s (p + 1) % 18446744073709551616, rdI s (p + 1 + 8) % 18446744073709551616, rdI s (p + 1 + 8 + 8) % 18446744073709551616, ((shC s p : Nat) : Int)] ++ (Qwt (Qf6 s (shA p)) (shC s p) ++ [rdI s (Qag s p) % 18446744073709551616, flN (rdF s (Qag s p + 8)), rdI s (Qag s p + 8 + 1) % 18446744073709551616, flN (rdF s (Qag s p + 8 + 1 + 8)), rdI s (Qag s p + 8 + 1 + 8 + 1) % 18446744073709551616, flN (rdF s (Qag s p + 8 + 1 + 8 + 1 + 8)), rdI s (Qag s p + 8 + 1 + 8 + 1 + 8 + 1) % 18446744073709551616, flN (rdF s (Qag s p + 8 + 1 + 8 + 1 + 8 + 1 + 8)), rdI s (Qag s p + 8 + 1 + 8 + 1 + 8 + 1 + 8 + 1) % 18446744073709551616, flN (rdF s (Qag s p + 8 + 1 + 8 + 1 + 8 + 1 + 8 + 1 + 8)), rdI s (Qag s p + 8 + 1 + 8 + 1 + 8 + 1 + 8 + 1 + 8 + 1) % 18446744073709551616, flN (rdF s (Qag s p + 8 + 1 + 8 + 1 + 8 + 1 + 8 + 1 + 8 + 1 + 8)), rdI s (Qag s p + 8 + 1 + 8 + 1 + 8 + 1 + 8 + 1 + 8 + 1 + 8 + 1) % 18446744073709551616, flN (rdF s (Qag s p + 8 + 1 + 8 + 1 + 8 + 1 + 8 + 1 + 8 + 1 + 8 + 1 + 8)), rdI s (Qag s p + 8 + 1 + 8 + 1 + 8 + 1 + 8 + 1 + 8 + 1 + 8 + 1 + 8 + 1) % 18446744073709551616, flN (rdF s (Qag s p + 8 + 1 + 8 + 1 + 8 + 1 + 8 + 1 + 8 + 1 + 8 + 1 + 8 + 1 + 8)), rdI s (Qag s p + 8 + 1 + 8 + 1 + 8 + 1 + 8 + 1 + 8 + 1 + 8 + 1 + 8 + 1 + 8 + 1) % 18446744073709551616, flN (rdF s (Qag s p + 8 + 1 + 8 + 1 + 8 + 1 + 8 + 1 + 8 + 1 + 8 + 1 + 8 + 1 + 8 + 1 + 8)), rdT s (Qag s p + 8 + 1 + 8 + 1 + 8 + 1 + 8 + 1 + 8 + 1 + 8 + 1 + 8 + 1 + 8 + 1 + 8 + 1) 4 % 4294967296, (bif mk1 (rdT s (Qag s p + 8 + 1 + 8 + 1 + 8 + 1 + 8 + 1 + 8 + 1 + 8 + 1 + 8 + 1 + 8 + 1 + 8 + 1 + 4) 1) then 1 else 0) + (bif mk2 (rdT s (Qag s p + 8 + 1 + 8 + 1 + 8 + 1 + 8 + 1 + 8 + 1 + 8 + 1 + 8 + 1 + 8 + 1 + 8 + 1 + 4) 1) then 2 else 0), rdT s (Qag s p + 8 + 1 + 8 + 1 + 8 + 1 + 8 + 1 + 8 + 1 + 8 + 1 + 8 + 1 + 8 + 1 + 8 + 1 + 4 + 1) 8 % 18446744073709551616])
   rw [Qqh, gI' (s := s) (p := p + 1), gI' (s := s) (p := p + 1 + 8), gI' (s := s) (p := p + 1 + 8 + 8), ← Qlw, gI' (s := s) (p := Qag s p), gF v_p0f.2, gI' (s := s) (p := Qag s p + 8 + 1), gF v_p1f.2, gI' (s := s) (p := Qag s p + 8 + 1 + 8 + 1), gF v_p2f.2, gI' (s := s) (p := Qag s p + 8 + 1 + 8 + 1 + 8 + 1), gF v_p3f.2, gI' (s := s) (p := Qag s p + 8 + 1 + 8 + 1 + 8 + 1 + 8 + 1), gF v_v0f.2, gI' (s := s) (p := Qag s p + 8 + 1 + 8 + 1 + 8 + 1 + 8 + 1 + 8 + 1), gF v_v1f.2, gI' (s := s) (p := Qag s p + 8 + 1 + 8 + 1 + 8 + 1 + 8 + 1 + 8 + 1 + 8 + 1), gF v_w0f.2, gI' (s := s) (p := Qag s p + 8 + 1 + 8 + 1 + 8 + 1 + 8 + 1 + 8 + 1 + 8 + 1 + 8 + 1), gF v_m0f.2, gI' (s := s) (p := Qag s p + 8 + 1 + 8 + 1 + 8 + 1 + 8 + 1 + 8 + 1 + 8 + 1 + 8 + 1 + 8 + 1), gF v_m1f.2, gC v_st.1.1 v_st.2, gMk v_mk.1.1 v_mk.2, gV v_bv.1.1 v_bv.2]
 · simp only [Qd4, Qc5, Bool.or_eq_false_iff, and_assoc]
   exact ⟨mS v_sk, mN (Qlw s p) v_n, mM v_p0v, mM v_p1v, mM v_p2v, mM v_p3v, mM v_v0v, mM v_v1v, mM v_w0v, mM v_m0v, mM v_m1v, mC v_st, mV v_bv⟩
 · exact ⟨iS v_sk, Qbe _ _, Qbe _ _, Qbe _ _, Qbe _ _, Qbe _ _, Qbe _ _, Qbe _ _, Qbe _ _, Qbe _ _, Qbe _ _, Qbe _ _, Qbe _ _, iC v_st, iV' v_bv⟩
theorem Qnh : Qx6 zBV := ⟨i0, i0, i0, i0, i0, i0, i0, i0, i0, i0, i0, i0, i0, i0, i0⟩
theorem Zd8 (c : RV) (n : Nat) (g : Nat → Int × Int) (m : Nat) (h : Nat → Int × Int) : rT1 c n (fun i => (g i).1) (fun i => (g i).2) m (fun i => (h i).1) (fun i => (h i).2) = enc (rA1 n m) (rV1 c n g m h) := by
 unfold rT1 rA1 rV1
 try unfold hL
 try unfold Qe3
 try unfold Qdu
 try unfold c4
 try unfold i8
 simp only [Qe0, enc, List.append_assoc, List.append_nil]
 try rfl
theorem Zdp {c : RV} {n m : Nat} (g : Nat → Int × Int) {h : Nat → Int × Int} (hc : Qfz c) (hb : rB1 c n m (fun i => (h i).1) (fun i => (h i).2) = false) : vok (rA1 n m) (rV1 c n g m h) := by
 simp only [rB1, Qei, Bool.or_eq_false_iff, and_assoc] at hb
 obtain ⟨h_bs, h_bg, h_ver⟩ := hb
 exact ⟨vC h_bs, vC h_bg, vV h_ver, trivial⟩
theorem Zd7 (c : RV) (n : Nat) (g : Nat → Int × Int) (m : Nat) (h : Nat → Int × Int) : rT2 c n (fun i => (g i).1) (fun i => (g i).2) m (fun i => (h i).1) (fun i => (h i).2) = enc (rA2 n m) (rV2 c n g m h) := by
 unfold rT2 rA2 rV2
 try unfold hL
 try unfold Qe3
 try unfold Qdu
 try unfold c4
 try unfold i8
 simp only [Qe0, enc, List.append_assoc, List.append_nil]
 try rfl
theorem Zdo {c : RV} {n m : Nat} (g : Nat → Int × Int) {h : Nat → Int × Int} (hc : Qfz c) (hb : rB2 c n m (fun i => (h i).1) (fun i => (h i).2) = false) : vok (rA2 n m) (rV2 c n g m h) := by
 simp only [rB2, Qei, Bool.or_eq_false_iff, and_assoc] at hb
 obtain ⟨h_bs, h_bg⟩ := hb
 exact ⟨vC h_bs, vC h_bg, trivial⟩
theorem Zd6 (c : RV) (n : Nat) (g : Nat → Int × Int) (m : Nat) (h : Nat → Int × Int) : rT3 c n (fun i => (g i).1) (fun i => (g i).2) m (fun i => (h i).1) (fun i => (h i).2) = enc (rA3 n m) (rV3 c n g m h) := by
 unfold rT3 rA3 rV3
 try unfold hL
 try unfold Qe3
 try unfold Qdu
 try unfold c4
 try unfold i8
 simp only [Qe0, enc, List.append_assoc, List.append_nil]
 try rfl
theorem Zdn {c : RV} {n m : Nat} (g : Nat → Int × Int) {h : Nat → Int × Int} (hc : Qfz c) (hb : rB3 c n m (fun i => (h i).1) (fun i => (h i).2) = false) : vok (rA3 n m) (rV3 c n g m h) := by
 simp only [rB3, Qei, Bool.or_eq_false_iff, and_assoc] at hb
 obtain ⟨h_bs, h_bg, h_ver⟩ := hb
 exact ⟨vC h_bs, vC h_bg, vV h_ver, trivial⟩
theorem Zd5 (c : RV) (n : Nat) (g : Nat → Int × Int) (m : Nat) (h : Nat → Int × Int) : rT4 c n (fun i => (g i).1) (fun i => (g i).2) m (fun i => (h i).1) (fun i => (h i).2) = enc (rA4 n m) (rV4 c n g m h) := by
 unfold rT4 rA4 rV4
 try unfold hL
 try unfold Qe3
 try unfold Qdu
 try unfold c4
 try unfold i8
 simp only [Qe0, enc, List.append_assoc, List.append_nil]
 try rfl
theorem Zdm {c : RV} {n m : Nat} (g : Nat → Int × Int) {h : Nat → Int × Int} (hc : Qfz c) (hb : rB4 c n m (fun i => (h i).1) (fun i => (h i).2) = false) : vok (rA4 n m) (rV4 c n g m h) := by
 simp only [rB4, Qei, Bool.or_eq_false_iff, and_assoc] at hb
 obtain ⟨h_bs, h_bg, h_ver, h_gr⟩ := hb
 exact ⟨vC h_bs, vC h_bg, vV h_ver, vC h_gr, trivial⟩
theorem Zd4 (c : RV) (n : Nat) (g : Nat → Int × Int) (m : Nat) (h : Nat → Int × Int) : rT5 c n (fun i => (g i).1) (fun i => (g i).2) m (fun i => (h i).1) (fun i => (h i).2) = enc (rA5 n m) (rV5 c n g m h) := by
 unfold rT5 rA5 rV5
 try unfold hL
 try unfold Qe3
 try unfold Qdu
 try unfold c4
 try unfold i8
 simp only [Qe0, enc, List.append_assoc, List.append_nil]
 try rfl
theorem Zdl {c : RV} {n m : Nat} (g : Nat → Int × Int) {h : Nat → Int × Int} (hc : Qfz c) (hb : rB5 c n m (fun i => (h i).1) (fun i => (h i).2) = false) : vok (rA5 n m) (rV5 c n g m h) := by
 simp only [rB5, Qei, Bool.or_eq_false_iff, and_assoc] at hb
 have h_gr := hb
 exact ⟨vC h_gr, trivial⟩
theorem Zd3 (c : RV) (n : Nat) (g : Nat → Int × Int) (m : Nat) (h : Nat → Int × Int) : rT6 c n (fun i => (g i).1) (fun i => (g i).2) m (fun i => (h i).1) (fun i => (h i).2) = enc (rA6 n m) (rV6 c n g m h) := by
 unfold rT6 rA6 rV6
 try unfold hL
 try unfold Qe3
 try unfold Qdu
 try unfold c4
 try unfold i8
 simp only [Qe0, enc, List.append_assoc, List.append_nil]
 try rfl
theorem Zdk {c : RV} {n m : Nat} (g : Nat → Int × Int) {h : Nat → Int × Int} (hc : Qfz c) (hb : rB6 c n m (fun i => (h i).1) (fun i => (h i).2) = false) : vok (rA6 n m) (rV6 c n g m h) := by
 simp only [rB6, Qei, Bool.or_eq_false_iff, and_assoc] at hb
 have h_gr := hb
 exact ⟨vC h_gr, trivial⟩
theorem Zd2 (c : RV) (n : Nat) (hn : n ≤ 8) (g : Nat → Int × Int) (m : Nat) (h : Nat → Int × Int) : rT7 c n (fun i => (g i).1) (fun i => (g i).2) m (fun i => (h i).1) (fun i => (h i).2) = enc (rA7 n m) (rV7 c n g m h) := by
 unfold rT7 rA7 rV7
 rw [Qih rfl, ← Q1a c.o hn g]
 unfold hL c4
 simp only [enc, List.append_assoc, List.append_nil]
 rfl
theorem Zdj {c : RV} {n m : Nat} (g : Nat → Int × Int) {h : Nat → Int × Int} (hc : Qfz c) (hb : rB7 c n m (fun i => (h i).1) (fun i => (h i).2) = false) : vok (rA7 n m) (rV7 c n g m h) := by
 simp only [rB7, Qei, Bool.or_eq_false_iff, and_assoc] at hb
 obtain ⟨h_bs, h_bg, hb⟩ := hb
 unfold rA7 rV7
 rw [Qej rfl]
 exact ⟨⟨vC h_bs, vC h_bg, trivial⟩, Zha g hc.2.2.2.2.2.2.2.2.2 hb⟩
theorem Zd1 (c : RV) (n : Nat) (g : Nat → Int × Int) (m : Nat) (h : Nat → Int × Int) : rT8 c n (fun i => (g i).1) (fun i => (g i).2) m (fun i => (h i).1) (fun i => (h i).2) = enc (rA8 n m) (rV8 c n g m h) := by
 unfold rT8 rA8 rV8
 rw [Qih rfl, ← Q6u, ← be1]
 rfl
theorem Zdi {c : RV} {n m : Nat} (g : Nat → Int × Int) {h : Nat → Int × Int} (hc : Qfz c) (hb : rB8 c n m (fun i => (h i).1) (fun i => (h i).2) = false) : vok (rA8 n m) (rV8 c n g m h) := by
 simp only [rB8, Bool.or_eq_false_iff] at hb
 unfold rA8 rV8
 rw [Qej rfl]
 refine ⟨⟨⟨⟨by omega, ?_⟩, ?_⟩, trivial⟩, Q6s hb.2⟩
 · have := Qhh hb.1
   show (m : Int) < 256
   omega
 · have := Qhh hb.1
   exact decide_eq_false (by omega)
theorem Zd0 (c : RV) (n : Nat) (g : Nat → Int × Int) (m : Nat) (h : Nat → Int × Int) : rT9 c n (fun i => (g i).1) (fun i => (g i).2) m (fun i => (h i).1) (fun i => (h i).2) = enc (rA9 n m) (rV9 c n g m h) := by
 unfold rT9 rA9 rV9
 try unfold hL
 try unfold Qe3
 try unfold Qdu
 try unfold c4
 try unfold i8
 simp only [Qe0, enc, List.append_assoc, List.append_nil]
 try rfl
theorem Zdh {c : RV} {n m : Nat} (g : Nat → Int × Int) {h : Nat → Int × Int} (hc : Qfz c) (hb : rB9 c n m (fun i => (h i).1) (fun i => (h i).2) = false) : vok (rA9 n m) (rV9 c n g m h) := by
 simp only [rB9, Qei, Bool.or_eq_false_iff, and_assoc] at hb
 obtain ⟨h_bs, h_bg, h_htv, h_x0v, h_x1v⟩ := hb
 obtain ⟨_, _, _, _, _, i_htv, i_x0v, i_x1v, _, _⟩ := hc
 exact ⟨vC h_bs, vC h_bg, vF, vM i_htv h_htv, vF, vM i_x0v h_x0v, vF, vM i_x1v h_x1v, vF, trivial⟩
theorem Q55 (c : RV) (n : Nat) (g : Nat → Int × Int) (m : Nat) (h : Nat → Int × Int) : Q6n c n (fun i => (g i).1) (fun i => (g i).2) m (fun i => (h i).1) (fun i => (h i).2) = enc (Zeb n m) (Zhz c n g m h) := by
 unfold Q6n Zeb Zhz
 try unfold hL
 try unfold Qe3
 try unfold Qdu
 try unfold c4
 try unfold i8
 simp only [Qe0, enc, List.append_assoc, List.append_nil]
 try rfl
theorem Q53 {c : RV} {n m : Nat} (g : Nat → Int × Int) {h : Nat → Int × Int} (hc : Qfz c) (hb : Q4q c n m (fun i => (h i).1) (fun i => (h i).2) = false) : vok (Zeb n m) (Zhz c n g m h) := by
 simp only [Q4q, Qei, Bool.or_eq_false_iff, and_assoc] at hb
 have h_cnt := hb
 exact ⟨vC h_cnt, trivial⟩
theorem Zdz {s : ByteArray} {n m : Nat} (g h : Nat → Int × Int) (hk : rdT s 0 1 = 1) (he : rdT s (0 + 1 + 4) 1 = 0) (hv : vok (atR 1 0 n m) (rds s 0 (atR 1 0 n m))) : rds s 0 (atR 1 0 n m) = vsR 1 0 (qV1 s 0) n g m h ∧ (Qal (qV1 s 0).id 2147483647 = false ∧ rB1 (qV1 s 0) n m (fun i => (h i).1) (fun i => (h i).2) = false) ∧ Qfz (qV1 s 0) := by
 have hv : okA (aKd 0) (rdT s (0) 1) ∧ okA aC (rdT s (0 + 1) 4) ∧ okA aE (rdT s (0 + 1 + 4) 1) ∧ okA aC (rdT s (0 + 1 + 4 + 1) 4) ∧ okA aC (rdT s (0 + 1 + 4 + 1 + 4) 4) ∧ okA aV (rdT s (0 + 1 + 4 + 1 + 4 + 4) 8) ∧ True := hv
 obtain ⟨v_k, v_id, v_e, v_bs, v_bg, v_ver, _⟩ := hv
 refine ⟨?_, ?_, ?_⟩
 · show [rdT s 0 1, rdT s (0 + 1) 4, rdT s (0 + 1 + 4) 1, rdT s (0 + 1 + 4 + 1) 4, rdT s (0 + 1 + 4 + 1 + 4) 4, rdT s (0 + 1 + 4 + 1 + 4 + 4) 8] = [1, rdT s (0 + 1) 4 % 4294967296, 0, rdT s (0 + 1 + 4 + 1) 4 % 4294967296, rdT s (0 + 1 + 4 + 1 + 4) 4 % 4294967296, rdT s (0 + 1 + 4 + 1 + 4 + 4) 8 % 18446744073709551616]
   rw [gC v_id.1.1 v_id.2, gC v_bs.1.1 v_bs.2, gC v_bg.1.1 v_bg.2, gV v_ver.1.1 v_ver.2, hk, he]
 · refine ⟨mC v_id, ?_⟩
   simp only [rB1, Qei, Bool.or_eq_false_iff, and_assoc]
   exact ⟨mC v_bs, mC v_bg, mV v_ver⟩
 · exact ⟨iC v_id, iC v_bs, iC v_bg, iV' v_ver, i0, i0, i0, i0, i0, Qnh⟩
theorem Zdy {s : ByteArray} {n m : Nat} (g h : Nat → Int × Int) (hk : rdT s 0 1 = 2) (he : rdT s (0 + 1 + 4) 1 = 0) (hv : vok (atR 2 0 n m) (rds s 0 (atR 2 0 n m))) : rds s 0 (atR 2 0 n m) = vsR 2 0 (qV2 s 0) n g m h ∧ (Qal (qV2 s 0).id 2147483647 = false ∧ rB2 (qV2 s 0) n m (fun i => (h i).1) (fun i => (h i).2) = false) ∧ Qfz (qV2 s 0) := by
 have hv : okA (aKd 0) (rdT s (0) 1) ∧ okA aC (rdT s (0 + 1) 4) ∧ okA aE (rdT s (0 + 1 + 4) 1) ∧ okA aC (rdT s (0 + 1 + 4 + 1) 4) ∧ okA aC (rdT s (0 + 1 + 4 + 1 + 4) 4) ∧ True := hv
 obtain ⟨v_k, v_id, v_e, v_bs, v_bg, _⟩ := hv
 refine ⟨?_, ?_, ?_⟩
 · show [rdT s 0 1, rdT s (0 + 1) 4, rdT s (0 + 1 + 4) 1, rdT s (0 + 1 + 4 + 1) 4, rdT s (0 + 1 + 4 + 1 + 4) 4] = [2, rdT s (0 + 1) 4 % 4294967296, 0, rdT s (0 + 1 + 4 + 1) 4 % 4294967296, rdT s (0 + 1 + 4 + 1 + 4) 4 % 4294967296]
   rw [gC v_id.1.1 v_id.2, gC v_bs.1.1 v_bs.2, gC v_bg.1.1 v_bg.2, hk, he]
 · refine ⟨mC v_id, ?_⟩
   simp only [rB2, Qei, Bool.or_eq_false_iff, and_assoc]
   exact ⟨mC v_bs, mC v_bg⟩
 · exact ⟨iC v_id, iC v_bs, iC v_bg, i0, i0, i0, i0, i0, i0, Qnh⟩
theorem Zdx {s : ByteArray} {n m : Nat} (g h : Nat → Int × Int) (hk : rdT s 0 1 = 3) (he : rdT s (0 + 1 + 4) 1 = 0) (hv : vok (atR 3 0 n m) (rds s 0 (atR 3 0 n m))) : rds s 0 (atR 3 0 n m) = vsR 3 0 (qV3 s 0) n g m h ∧ (Qal (qV3 s 0).id 2147483647 = false ∧ rB3 (qV3 s 0) n m (fun i => (h i).1) (fun i => (h i).2) = false) ∧ Qfz (qV3 s 0) := by
 have hv : okA (aKd 0) (rdT s (0) 1) ∧ okA aC (rdT s (0 + 1) 4) ∧ okA aE (rdT s (0 + 1 + 4) 1) ∧ okA aC (rdT s (0 + 1 + 4 + 1) 4) ∧ okA aC (rdT s (0 + 1 + 4 + 1 + 4) 4) ∧ okA aV (rdT s (0 + 1 + 4 + 1 + 4 + 4) 8) ∧ True := hv
 obtain ⟨v_k, v_id, v_e, v_bs, v_bg, v_ver, _⟩ := hv
 refine ⟨?_, ?_, ?_⟩
 · show [rdT s 0 1, rdT s (0 + 1) 4, rdT s (0 + 1 + 4) 1, rdT s (0 + 1 + 4 + 1) 4, rdT s (0 + 1 + 4 + 1 + 4) 4, rdT s (0 + 1 + 4 + 1 + 4 + 4) 8] = [3, rdT s (0 + 1) 4 % 4294967296, 0, rdT s (0 + 1 + 4 + 1) 4 % 4294967296, rdT s (0 + 1 + 4 + 1 + 4) 4 % 4294967296, rdT s (0 + 1 + 4 + 1 + 4 + 4) 8 % 18446744073709551616]
   rw [gC v_id.1.1 v_id.2, gC v_bs.1.1 v_bs.2, gC v_bg.1.1 v_bg.2, gV v_ver.1.1 v_ver.2, hk, he]
 · refine ⟨mC v_id, ?_⟩
   simp only [rB3, Qei, Bool.or_eq_false_iff, and_assoc]
   exact ⟨mC v_bs, mC v_bg, mV v_ver⟩
 · exact ⟨iC v_id, iC v_bs, iC v_bg, iV' v_ver, i0, i0, i0, i0, i0, Qnh⟩
theorem Zdw {s : ByteArray} {n m : Nat} (g h : Nat → Int × Int) (hk : rdT s 0 1 = 4) (he : rdT s (0 + 1 + 4) 1 = 0) (hv : vok (atR 4 0 n m) (rds s 0 (atR 4 0 n m))) : rds s 0 (atR 4 0 n m) = vsR 4 0 (qV4 s 0) n g m h ∧ (Qal (qV4 s 0).id 2147483647 = false ∧ rB4 (qV4 s 0) n m (fun i => (h i).1) (fun i => (h i).2) = false) ∧ Qfz (qV4 s 0) := by
 have hv : okA (aKd 0) (rdT s (0) 1) ∧ okA aC (rdT s (0 + 1) 4) ∧ okA aE (rdT s (0 + 1 + 4) 1) ∧ okA aC (rdT s (0 + 1 + 4 + 1) 4) ∧ okA aC (rdT s (0 + 1 + 4 + 1 + 4) 4) ∧ okA aV (rdT s (0 + 1 + 4 + 1 + 4 + 4) 8) ∧ okA aC (rdT s (0 + 1 + 4 + 1 + 4 + 4 + 8) 4) ∧ True := hv
 obtain ⟨v_k, v_id, v_e, v_bs, v_bg, v_ver, v_gr, _⟩ := hv
 refine ⟨?_, ?_, ?_⟩
 · show [rdT s 0 1, rdT s (0 + 1) 4, rdT s (0 + 1 + 4) 1, rdT s (0 + 1 + 4 + 1) 4, rdT s (0 + 1 + 4 + 1 + 4) 4, rdT s (0 + 1 + 4 + 1 + 4 + 4) 8, rdT s (0 + 1 + 4 + 1 + 4 + 4 + 8) 4] = [4, rdT s (0 + 1) 4 % 4294967296, 0, rdT s (0 + 1 + 4 + 1) 4 % 4294967296, rdT s (0 + 1 + 4 + 1 + 4) 4 % 4294967296, rdT s (0 + 1 + 4 + 1 + 4 + 4) 8 % 18446744073709551616, rdT s (0 + 1 + 4 + 1 + 4 + 4 + 8) 4 % 4294967296]
   rw [gC v_id.1.1 v_id.2, gC v_bs.1.1 v_bs.2, gC v_bg.1.1 v_bg.2, gV v_ver.1.1 v_ver.2, gC v_gr.1.1 v_gr.2, hk, he]
 · refine ⟨mC v_id, ?_⟩
   simp only [rB4, Qei, Bool.or_eq_false_iff, and_assoc]
   exact ⟨mC v_bs, mC v_bg, mV v_ver, mC v_gr⟩
 · exact ⟨iC v_id, iC v_bs, iC v_bg, iV' v_ver, iC v_gr, i0, i0, i0, i0, Qnh⟩
theorem Zdv {s : ByteArray} {n m : Nat} (g h : Nat → Int × Int) (hk : rdT s 0 1 = 5) (he : rdT s (0 + 1 + 4) 1 = 0) (hv : vok (atR 5 0 n m) (rds s 0 (atR 5 0 n m))) : rds s 0 (atR 5 0 n m) = vsR 5 0 (qV5 s 0) n g m h ∧ (Qal (qV5 s 0).id 2147483647 = false ∧ rB5 (qV5 s 0) n m (fun i => (h i).1) (fun i => (h i).2) = false) ∧ Qfz (qV5 s 0) := by
 have hv : okA (aKd 0) (rdT s (0) 1) ∧ okA aC (rdT s (0 + 1) 4) ∧ okA aE (rdT s (0 + 1 + 4) 1) ∧ okA aC (rdT s (0 + 1 + 4 + 1) 4) ∧ True := hv
 obtain ⟨v_k, v_id, v_e, v_gr, _⟩ := hv
 refine ⟨?_, ?_, ?_⟩
 · show [rdT s 0 1, rdT s (0 + 1) 4, rdT s (0 + 1 + 4) 1, rdT s (0 + 1 + 4 + 1) 4] = [5, rdT s (0 + 1) 4 % 4294967296, 0, rdT s (0 + 1 + 4 + 1) 4 % 4294967296]
   rw [gC v_id.1.1 v_id.2, gC v_gr.1.1 v_gr.2, hk, he]
 · refine ⟨mC v_id, ?_⟩
   simp only [rB5, Qei, Bool.or_eq_false_iff, and_assoc]
   exact mC v_gr
 · exact ⟨iC v_id, i0, i0, i0, iC v_gr, i0, i0, i0, i0, Qnh⟩
theorem Zdu {s : ByteArray} {n m : Nat} (g h : Nat → Int × Int) (hk : rdT s 0 1 = 6) (he : rdT s (0 + 1 + 4) 1 = 0) (hv : vok (atR 6 0 n m) (rds s 0 (atR 6 0 n m))) : rds s 0 (atR 6 0 n m) = vsR 6 0 (qV6 s 0) n g m h ∧ (Qal (qV6 s 0).id 2147483647 = false ∧ rB6 (qV6 s 0) n m (fun i => (h i).1) (fun i => (h i).2) = false) ∧ Qfz (qV6 s 0) := by
 have hv : okA (aKd 0) (rdT s (0) 1) ∧ okA aC (rdT s (0 + 1) 4) ∧ okA aE (rdT s (0 + 1 + 4) 1) ∧ okA aC (rdT s (0 + 1 + 4 + 1) 4) ∧ True := hv
 obtain ⟨v_k, v_id, v_e, v_gr, _⟩ := hv
 refine ⟨?_, ?_, ?_⟩
 · show [rdT s 0 1, rdT s (0 + 1) 4, rdT s (0 + 1 + 4) 1, rdT s (0 + 1 + 4 + 1) 4] = [6, rdT s (0 + 1) 4 % 4294967296, 0, rdT s (0 + 1 + 4 + 1) 4 % 4294967296]
   rw [gC v_id.1.1 v_id.2, gC v_gr.1.1 v_gr.2, hk, he]
 · refine ⟨mC v_id, ?_⟩
   simp only [rB6, Qei, Bool.or_eq_false_iff, and_assoc]
   exact mC v_gr
 · exact ⟨iC v_id, i0, i0, i0, iC v_gr, i0, i0, i0, i0, Qnh⟩
theorem Zdr {s : ByteArray} {n m : Nat} (g h : Nat → Int × Int) (hk : rdT s 0 1 = 9) (he : rdT s (0 + 1 + 4) 1 = 0) (hv : vok (atR 9 0 n m) (rds s 0 (atR 9 0 n m))) : rds s 0 (atR 9 0 n m) = vsR 9 0 (qV9 s 0) n g m h ∧ (Qal (qV9 s 0).id 2147483647 = false ∧ rB9 (qV9 s 0) n m (fun i => (h i).1) (fun i => (h i).2) = false) ∧ Qfz (qV9 s 0) := by
 have hv : okA (aKd 0) (rdT s (0) 1) ∧ okA aC (rdT s (0 + 1) 4) ∧ okA aE (rdT s (0 + 1 + 4) 1) ∧ okA aC (rdT s (0 + 1 + 4 + 1) 4) ∧ okA aC (rdT s (0 + 1 + 4 + 1 + 4) 4) ∧ okA aF (rdT s (0 + 1 + 4 + 1 + 4 + 4) 1) ∧ okA aM (rdT s (0 + 1 + 4 + 1 + 4 + 4 + 1) 8) ∧ okA aF (rdT s (0 + 1 + 4 + 1 + 4 + 4 + 1 + 8) 1) ∧ okA aM (rdT s (0 + 1 + 4 + 1 + 4 + 4 + 1 + 8 + 1) 8) ∧ okA aF (rdT s (0 + 1 + 4 + 1 + 4 + 4 + 1 + 8 + 1 + 8) 1) ∧ okA aM (rdT s (0 + 1 + 4 + 1 + 4 + 4 + 1 + 8 + 1 + 8 + 1) 8) ∧ okA aF (rdT s (0 + 1 + 4 + 1 + 4 + 4 + 1 + 8 + 1 + 8 + 1 + 8) 1) ∧ True := hv
 obtain ⟨v_k, v_id, v_e, v_bs, v_bg, v_hit, v_htv, v_htf, v_x0v, v_x0f, v_x1v, v_x1f, _⟩ := hv
 refine ⟨?_, ?_, ?_⟩
 · show [rdT s 0 1, rdT s (0 + 1) 4, rdT s (0 + 1 + 4) 1, rdT s (0 + 1 + 4 + 1) 4, rdT s (0 + 1 + 4 + 1 + 4) 4, rdT s (0 + 1 + 4 + 1 + 4 + 4) 1, rdT s (0 + 1 + 4 + 1 + 4 + 4 + 1) 8, rdT s (0 + 1 + 4 + 1 + 4 + 4 + 1 + 8) 1, rdT s (0 + 1 + 4 + 1 + 4 + 4 + 1 + 8 + 1) 8, rdT s (0 + 1 + 4 + 1 + 4 + 4 + 1 + 8 + 1 + 8) 1, rdT s (0 + 1 + 4 + 1 + 4 + 4 + 1 + 8 + 1 + 8 + 1) 8, rdT s (0 + 1 + 4 + 1 + 4 + 4 + 1 + 8 + 1 + 8 + 1 + 8) 1] = [9, rdT s (0 + 1) 4 % 4294967296, 0, rdT s (0 + 1 + 4 + 1) 4 % 4294967296, rdT s (0 + 1 + 4 + 1 + 4) 4 % 4294967296, flN (rdF s (0 + 1 + 4 + 1 + 4 + 4)), rdI s (0 + 1 + 4 + 1 + 4 + 4 + 1) % 18446744073709551616, flN (rdF s (0 + 1 + 4 + 1 + 4 + 4 + 1 + 8)), rdI s (0 + 1 + 4 + 1 + 4 + 4 + 1 + 8 + 1) % 18446744073709551616, flN (rdF s (0 + 1 + 4 + 1 + 4 + 4 + 1 + 8 + 1 + 8)), rdI s (0 + 1 + 4 + 1 + 4 + 4 + 1 + 8 + 1 + 8 + 1) % 18446744073709551616, flN (rdF s (0 + 1 + 4 + 1 + 4 + 4 + 1 + 8 + 1 + 8 + 1 + 8))]
   rw [gC v_id.1.1 v_id.2, gC v_bs.1.1 v_bs.2, gC v_bg.1.1 v_bg.2, gF v_hit.2, gI' (s := s) (p := 0 + 1 + 4 + 1 + 4 + 4 + 1), gF v_htf.2, gI' (s := s) (p := 0 + 1 + 4 + 1 + 4 + 4 + 1 + 8 + 1), gF v_x0f.2, gI' (s := s) (p := 0 + 1 + 4 + 1 + 4 + 4 + 1 + 8 + 1 + 8 + 1), gF v_x1f.2, hk, he]
 · refine ⟨mC v_id, ?_⟩
   simp only [rB9, Qei, Bool.or_eq_false_iff, and_assoc]
   exact ⟨mC v_bs, mC v_bg, mM v_htv, mM v_x0v, mM v_x1v⟩
 · exact ⟨iC v_id, iC v_bs, iC v_bg, i0, i0, Qbe _ _, Qbe _ _, Qbe _ _, i0, Qnh⟩
theorem Q54 {s : ByteArray} {n m : Nat} (g h : Nat → Int × Int) (hk : rdT s 0 1 = 10) (he : rdT s (0 + 1 + 4) 1 = 0) (hv : vok (atR 10 0 n m) (rds s 0 (atR 10 0 n m))) : rds s 0 (atR 10 0 n m) = vsR 10 0 (Za9 s 0) n g m h ∧ (Qal (Za9 s 0).id 2147483647 = false ∧ Q4q (Za9 s 0) n m (fun i => (h i).1) (fun i => (h i).2) = false) ∧ Qfz (Za9 s 0) := by
 have hv : okA (aKd 0) (rdT s (0) 1) ∧ okA aC (rdT s (0 + 1) 4) ∧ okA aE (rdT s (0 + 1 + 4) 1) ∧ okA aC (rdT s (0 + 1 + 4 + 1) 4) ∧ True := hv
 obtain ⟨v_k, v_id, v_e, v_cnt, _⟩ := hv
 refine ⟨?_, ?_, ?_⟩
 · show [rdT s 0 1, rdT s (0 + 1) 4, rdT s (0 + 1 + 4) 1, rdT s (0 + 1 + 4 + 1) 4] = [10, rdT s (0 + 1) 4 % 4294967296, 0, rdT s (0 + 1 + 4 + 1) 4 % 4294967296]
   rw [gC v_id.1.1 v_id.2, gC v_cnt.1.1 v_cnt.2, hk, he]
 · refine ⟨mC v_id, ?_⟩
   simp only [Q4q, Qei, Bool.or_eq_false_iff, and_assoc]
   exact mC v_cnt
 · exact ⟨iC v_id, i0, i0, i0, i0, i0, i0, i0, iC v_cnt, Qnh⟩
theorem Zdt {s : ByteArray} {m : Nat} (h : Nat → Int × Int) (hk : rdT s 0 1 = 7) (he : rdT s (0 + 1 + 4) 1 = 0) (hv : vok (atR 7 0 (shC s (0 + 1 + 4 + 1 + 4 + 4)) m) (rds s 0 (atR 7 0 (shC s (0 + 1 + 4 + 1 + 4 + 4)) m))) : rds s 0 (atR 7 0 (shC s (0 + 1 + 4 + 1 + 4 + 4)) m) = vsR 7 0 (qV7 s 0) (shC s (0 + 1 + 4 + 1 + 4 + 4)) (Qf6 s (shA (0 + 1 + 4 + 1 + 4 + 4))) m h ∧ (Qal (qV7 s 0).id 2147483647 = false ∧ rB7 (qV7 s 0) (shC s (0 + 1 + 4 + 1 + 4 + 4)) m (fun i => (h i).1) (fun i => (h i).2) = false) ∧ Qfz (qV7 s 0) := by
 have hA : atR 7 0 (shC s (0 + 1 + 4 + 1 + 4 + 4)) m = [aKd 0, aC, aE, aC, aC] ++ boA (shC s (0 + 1 + 4 + 1 + 4 + 4)) := rfl
 have hR : rds s 0 (atR 7 0 (shC s (0 + 1 + 4 + 1 + 4 + 4)) m) = [rdT s (0) 1, rdT s (0 + 1) 4, rdT s (0 + 1 + 4) 1, rdT s (0 + 1 + 4 + 1) 4, rdT s (0 + 1 + 4 + 1 + 4) 4] ++ rds s (0 + 1 + 4 + 1 + 4 + 4) (boA (shC s (0 + 1 + 4 + 1 + 4 + 4))) := by
   rw [hA, Qhe]
   rfl
 rw [hR, hA, Qej rfl] at hv
 obtain ⟨hv, hv2⟩ := hv
 have hv : okA (aKd 0) (rdT s (0) 1) ∧ okA aC (rdT s (0 + 1) 4) ∧ okA aE (rdT s (0 + 1 + 4) 1) ∧ okA aC (rdT s (0 + 1 + 4 + 1) 4) ∧ okA aC (rdT s (0 + 1 + 4 + 1 + 4) 4) ∧ True := hv
 obtain ⟨v_k, v_id, v_e, v_bs, v_bg, _⟩ := hv
 obtain ⟨b1, b2, b3⟩ := Q7e hv2
 refine ⟨?_, ⟨mC v_id, ?_⟩, ?_⟩
 · rw [hR, b1]
   show [rdT s (0) 1, rdT s (0 + 1) 4, rdT s (0 + 1 + 4) 1, rdT s (0 + 1 + 4 + 1) 4, rdT s (0 + 1 + 4 + 1 + 4) 4] ++ _ = [7, rdT s (0 + 1) 4 % 4294967296, 0, rdT s (0 + 1 + 4 + 1) 4 % 4294967296, rdT s (0 + 1 + 4 + 1 + 4) 4 % 4294967296] ++ Zc5 (bdV s (0 + 1 + 4 + 1 + 4 + 4)) (shC s (0 + 1 + 4 + 1 + 4 + 4)) (Qf6 s (shA (0 + 1 + 4 + 1 + 4 + 4)))
   rw [gC v_id.1.1 v_id.2, gC v_bs.1.1 v_bs.2, gC v_bg.1.1 v_bg.2, hk, he]
 · simp only [rB7, Qei, Bool.or_eq_false_iff, and_assoc]
   exact ⟨mC v_bs, mC v_bg, b2⟩
 · exact ⟨iC v_id, iC v_bs, iC v_bg, i0, i0, i0, i0, i0, i0, b3⟩
theorem Zds {s : ByteArray} {n : Nat} (g : Nat → Int × Int) (hk : rdT s 0 1 = 8) (he : rdT s (0 + 1 + 4) 1 = 0) (hv : vok (atR 8 0 n (hdC s 0)) (rds s 0 (atR 8 0 n (hdC s 0)))) : rds s 0 (atR 8 0 n (hdC s 0)) = vsR 8 0 (qV8 s 0) n g (hdC s 0) (Qv0 s (0 + 1 + 4 + 1 + 1)) ∧ (Qal (qV8 s 0).id 2147483647 = false ∧ rB8 (qV8 s 0) n (hdC s 0) (fun i => (Qv0 s (0 + 1 + 4 + 1 + 1) i).1) (fun i => (Qv0 s (0 + 1 + 4 + 1 + 1) i).2) = false) ∧ Qfz (qV8 s 0) := by
 have hA : atR 8 0 n (hdC s 0) = [aKd 0, aC, aE, aHs] ++ hsA (hdC s 0) := rfl
 have hR : rds s 0 (atR 8 0 n (hdC s 0)) = [rdT s (0) 1, rdT s (0 + 1) 4, rdT s (0 + 1 + 4) 1, rdT s (0 + 1 + 4 + 1) 1] ++ rds s (0 + 1 + 4 + 1 + 1) (hsA (hdC s 0)) := by
   rw [hA, Qhe]
   rfl
 rw [hR, hA, Qej rfl] at hv
 obtain ⟨hv, hv2⟩ := hv
 have hv : okA (aKd 0) (rdT s (0) 1) ∧ okA aC (rdT s (0 + 1) 4) ∧ okA aE (rdT s (0 + 1 + 4) 1) ∧ okA aHs (rdT s (0 + 1 + 4 + 1) 1) ∧ True := hv
 obtain ⟨v_k, v_id, v_e, v_m, _⟩ := hv
 obtain ⟨b1, b2⟩ := Q6t hv2
 have hm : rdT s (0 + 1 + 4 + 1) 1 = ((hdC s 0 : Nat) : Int) := by
   unfold hdC
   have := v_m.1.1
   omega
 refine ⟨?_, ⟨mC v_id, ?_⟩, ?_⟩
 · rw [hR, b1]
   show [rdT s (0) 1, rdT s (0 + 1) 4, rdT s (0 + 1 + 4) 1, rdT s (0 + 1 + 4 + 1) 1] ++ _ = [8, rdT s (0 + 1) 4 % 4294967296, 0, ((hdC s 0 : Nat) : Int)] ++ Q0j _ _
   rw [gC v_id.1.1 v_id.2, hk, he, hm]
 · simp only [rB8, Bool.or_eq_false_iff]
   refine ⟨?_, b2⟩
   rw [← hm]
   exact Qjm ⟨v_m.1.1, by have := of_decide_eq_false v_m.2; omega⟩
 · exact ⟨iC v_id, i0, i0, i0, i0, i0, i0, i0, i0, Qnh⟩
theorem Zdq {s : ByteArray} {k e : Int} {n m : Nat} (g h : Nat → Int × Int) (hk : rdT s 0 1 = k) (he : rdT s (0 + 1 + 4) 1 = e) (h0 : e ≠ 0) (hv : vok (atR k e n m) (rds s 0 (atR k e n m))) : rds s 0 (atR k e n m) = vsR k e (qVN s 0) n g m h ∧ (Qal (qVN s 0).id 2147483647 = false ∧ (e = 14 → Qal (qVN s 0).ver 1099511627776 = false)) ∧ Qfz (qVN s 0) := by
 unfold atR vsR rAK rVK at *
 rw [Qhu h0] at *
 by_cases h14 : e = 14
 · subst h14
   have hv : okA (aKd 0) (rdT s (0) 1) ∧ okA aC (rdT s (0 + 1) 4) ∧ okA aE (rdT s (0 + 1 + 4) 1) ∧ okA aV (rdT s (0 + 1 + 4 + 1) 8) ∧ True := hv
   obtain ⟨v_k, v_id, v_e, v_ver, _⟩ := hv
   have ev : (qVN s 0).ver = rdT s (0 + 1 + 4 + 1) 8 := by
     show vrN s 0 = _
     unfold vrN
     rw [he]
     rfl
   refine ⟨?_, ⟨mC v_id, fun _ => by rw [ev]; exact mV v_ver⟩, iC v_id, i0, i0, by rw [ev]; exact iV' v_ver, i0, i0, i0, i0, i0, Qnh⟩
   rw [ev]
   show [rdT s 0 1, rdT s (0 + 1) 4, rdT s (0 + 1 + 4) 1, rdT s (0 + 1 + 4 + 1) 8] = [k, rdT s (0 + 1) 4 % 4294967296, 14, rdT s (0 + 1 + 4 + 1) 8 % 18446744073709551616]
   rw [gC v_id.1.1 v_id.2, gV v_ver.1.1 v_ver.2, hk, he]
 · rw [Qhu h14] at *
   have hv : okA (aKd 0) (rdT s (0) 1) ∧ okA aC (rdT s (0 + 1) 4) ∧ okA aE (rdT s (0 + 1 + 4) 1) ∧ True := hv
   obtain ⟨v_k, v_id, v_e, _⟩ := hv
   have ev : (qVN s 0).ver = 0 := by
     show vrN s 0 = _
     unfold vrN
     rw [he, Qhu h14]
     rfl
   refine ⟨?_, ⟨mC v_id, fun hc => absurd hc h14⟩, iC v_id, i0, i0, by rw [ev]; exact i0, i0, i0, i0, i0, i0, Qnh⟩
   show [rdT s 0 1, rdT s (0 + 1) 4, rdT s (0 + 1 + 4) 1] = [k, rdT s (0 + 1) 4 % 4294967296, e]
   rw [gC v_id.1.1 v_id.2, hk, he]
theorem Qgr {b : Bool} {x y : Prop} (h : b = false) (hy : y) : sel b x y := by subst h; exact hy
theorem Qts {a : ShB} {n : Nat} {g h : Nat → Int × Int} (e : ∀ i, i < n → g i = h i) : Qey a n g a n h = true := by
 unfold Qey
 rw [Qk7, Bool.true_and]
 unfold Qfs
 rw [Nat.beq_refl, Bool.true_and]
 exact List.all_eq_true.2 fun i hi => by
   rw [e i (List.mem_range.1 hi)]
   unfold eqP
   rw [beq_self_eq_true, beq_self_eq_true]; rfl
theorem bv_eq {a b : BV} (h : Zeg a b = true) (hs : Qcp (Qb0 a) (Qb0 b) = true) : a = b := by
 simp only [Zeg, Bool.and_eq_true, beq_iff_eq, and_assoc] at h
 simp only [Qcp, Qb0, Bool.and_eq_true, beq_iff_eq] at hs
 obtain ⟨e_p0v, e_p0f, e_p1v, e_p1f, e_p2v, e_p2f, e_p3v, e_p3f, e_v0v, e_v0f, e_v1v, e_v1f, e_w0v, e_w0f, e_m0v, e_m0f, e_m1v, e_m1f, e_st, e_asl, e_flt, e_bv⟩ := h
 obtain ⟨e_sk, e_sr, e_sw, e_sh⟩ := hs
 obtain ⟨a_sk, a_sr, a_sw, a_sh, a_p0v, a_p0f, a_p1v, a_p1f, a_p2v, a_p2f, a_p3v, a_p3f, a_v0v, a_v0f, a_v1v, a_v1f, a_w0v, a_w0f, a_m0v, a_m0f, a_m1v, a_m1f, a_st, a_asl, a_flt, a_bv⟩ := a
 obtain ⟨b_sk, b_sr, b_sw, b_sh, b_p0v, b_p0f, b_p1v, b_p1f, b_p2v, b_p2f, b_p3v, b_p3f, b_v0v, b_v0f, b_v1v, b_v1f, b_w0v, b_w0f, b_m0v, b_m0f, b_m1v, b_m1f, b_st, b_asl, b_flt, b_bv⟩ := b
 simp only at e_sk e_sr e_sw e_sh e_p0v e_p0f e_p1v e_p1f e_p2v e_p2f e_p3v e_p3f e_v0v e_v0f e_v1v e_v1f e_w0v e_w0f e_m0v e_m0f e_m1v e_m1f e_st e_asl e_flt e_bv
 subst e_sk e_sr e_sw e_sh e_p0v e_p0f e_p1v e_p1f e_p2v e_p2f e_p3v e_p3f e_v0v e_v0f e_v1v e_v1f e_w0v e_w0f e_m0v e_m0f e_m1v e_m1f e_st e_asl e_flt e_bv
 rfl
theorem Zad (k e : Int) (c : RV) : Qbo k k e e c c true true = true := by
 unfold Qbo
 simp only [beq_self_eq_true, Bool.and_true, Bool.true_and]
theorem Zc6 (a : BV) : Qbj a a true = true := by
 unfold Qbj Zeg
 simp only [beq_self_eq_true, Bool.and_true, Bool.true_and]
theorem Q47 {k e : Int} {c : RV} {n : Nat} {g : Nat → Int × Int} {m : Nat} {h : Nat → Int × Int} (h1 : uRK k e c = c) (hn : ¬ (e = 0 ∧ k = 7) → n = 0) (hm' : ¬ (e = 0 ∧ k = 8) → m = 0) (hk : k = 0 → c.id = 0 ∧ e ≠ 0 ∧ e ≠ 14) : Qgc k e c n g m h = true := by
 unfold Qgc
 rw [h1]
 have a1 : (!(k == 0) || (c.id == 0 && (!(e == 0) && !(e == 14)))) = true := by
   by_cases h0 : k = 0
   · obtain ⟨b1, b2, b3⟩ := hk h0
     rw [b1, Qhu b2, Qhu b3]
     cases k == 0 <;> rfl
   · rw [Qhu h0]; rfl
 have a2 : (bif e == 0 && k == 7 then Qey (Qb0 c.o) n g (Qb0 c.o) n g else Qcp (Qb0 c.o) (Qb0 c.o) && Nat.beq n 0) = true := by
   cases h7 : (e == 0 && k == 7) with
   | true => exact Qts fun _ _ => rfl
   | false =>
     rw [hn (fun hc => by rw [hc.1, hc.2] at h7; cases h7), Qk7]
     rfl
 have a3 : (bif e == 0 && k == 8 then Qfs m h m h else Nat.beq m 0) = true := by
   cases h8 : (e == 0 && k == 8) with
   | true => exact Qpd m h
   | false =>
     rw [hm' (fun hc => by rw [hc.1, hc.2] at h8; cases h8)]
     rfl
 rw [a1, a2, a3, Zc6, Zad]
 rfl
theorem vE {x : Int} (h : Qal x 14 = false) : (0 ≤ x ∧ x < 256 ^ aE.n) ∧ aE.bd x = false := by
 have h := Qhh h
 exact ⟨⟨h.1, by show x < 256; omega⟩, decide_eq_false (by omega)⟩
theorem Zhv {k e : Int} {c : RV} {n : Nat} (g : Nat → Int × Int) {m : Nat} {h : Nat → Int × Int} (hk : 0 ≤ k ∧ k ≤ 10) (hk1 : e = 0 → 1 ≤ k ∧ k ≤ 10) (hc : Qfz c) (hb : Qgd k e c n m h = false) : vok (atR k e n m) (vsR k e c n g m h) := by
 have hb : rpB e c (rBK k e c n m (fun i => (h i).1) (fun i => (h i).2)) = false := hb
 simp only [rpB, Bool.or_eq_false_iff] at hb
 obtain ⟨b1, b2, b3⟩ := hb
 refine ⟨vKd (by omega) hk.1 hk.2, vC b1, vE b2, ?_⟩
 by_cases h0 : e = 0
 · subst h0
   have hk2 := hk1 rfl
   rcases Q3z hk2 with z | z | z | z | z | z | z | z | z | z <;> subst z
   · exact Zdp (n := n) (m := m) (h := h) g hc b3
   · exact Zdo (n := n) (m := m) (h := h) g hc b3
   · exact Zdn (n := n) (m := m) (h := h) g hc b3
   · exact Zdm (n := n) (m := m) (h := h) g hc b3
   · exact Zdl (n := n) (m := m) (h := h) g hc b3
   · exact Zdk (n := n) (m := m) (h := h) g hc b3
   · exact Zdj (n := n) (m := m) (h := h) g hc b3
   · exact Zdi (n := n) (m := m) (h := h) g hc b3
   · exact Zdh (n := n) (m := m) (h := h) g hc b3
   · exact Q53 (n := n) (m := m) (h := h) g hc b3
 · unfold rAK rVK
   unfold rBK at b3
   rw [Qhu h0] at b3 ⊢
   by_cases h14 : e = 14
   · subst h14
     exact ⟨vV b3, trivial⟩
   · rw [Qhu h14]
     trivial
theorem Zg9 {k e : Int} {c : RV} {n : Nat} {g : Nat → Int × Int} {m : Nat} {h : Nat → Int × Int} (hk1 : e = 0 → 1 ≤ k ∧ k ≤ 10) (hn : e = 0 → k = 7 → n ≤ 8) : byt (Qh9 k e c n g m h) = enc (atR k e n m) (vsR k e c n g m h) := by
 have hT : rTK k e c n (fun i => (g i).1) (fun i => (g i).2) m (fun i => (h i).1) (fun i => (h i).2) = enc (rAK k e n m) (rVK k e c n g m h) := by
   by_cases h0 : e = 0
   · subst h0
     rcases Q3z (hk1 rfl) with z | z | z | z | z | z | z | z | z | z <;> subst z
     · exact Zd8 c n g m h
     · exact Zd7 c n g m h
     · exact Zd6 c n g m h
     · exact Zd5 c n g m h
     · exact Zd4 c n g m h
     · exact Zd3 c n g m h
     · exact Zd2 c n (hn rfl rfl) g m h
     · exact Zd1 c n g m h
     · exact Zd0 c n g m h
     · exact Q55 c n g m h
   · unfold rTK rAK rVK
     rw [Qhu h0]
     by_cases h14 : e = 14
     · subst h14
       show i8 c.ver = be _ 8 ++ []
       rw [List.append_nil]
       rfl
     · rw [Qhu h14]
       rfl
 have hL : Zaw k e c n g m h = enc (atR k e n m) (vsR k e c n g m h) := by
   unfold Zaw rpL atR vsR
   rw [hT, ← be1, ← be1]
   rfl
 rw [Q4l hk1, hL]
 exact Qrn (Qri _ _)
theorem Zhh {c : RV} {n m : Nat} {h : Nat → Int × Int} (hb : Qgd 7 0 c n m h = false) : n ≤ 8 := by
 have hb : rpB 0 c (rB7 c n m (fun i => (h i).1) (fun i => (h i).2)) = false := hb
 simp only [rpB, rB7, Bool.or_eq_false_iff] at hb
 exact bo_n hb.2.2.2
theorem Zhi {c : RV} {n m : Nat} {h : Nat → Int × Int} (hb : Qgd 8 0 c n m h = false) : m ≤ 64 := by
 have hb : rpB 0 c (rB8 c n m (fun i => (h i).1) (fun i => (h i).2)) = false := hb
 simp only [rpB, rB8, Bool.or_eq_false_iff] at hb
 have := Qhh hb.2.2.1
 omega
theorem Q4g {s : ByteArray} (hb : (rpP s 0).bad = false) : (0 ≤ rdT s 0 1 ∧ rdT s 0 1 ≤ 10) ∧ (n1P s 0).bad = false ∧ (n2P s 0).bad = false ∧ (rdT s (0 + 1 + 4) 1 = 0 → 1 ≤ rdT s 0 1 ∧ rdT s 0 1 ≤ 10) := by
 have g1 := Qck hb
 have g2 := Qck g1.2
 have g3 := Qck g2.2
 have g4 := Qck g3.2
 have g5 := Qck g4.2
 have hk := Q6r g1.1
 refine ⟨hk, g3.1, g5.1, fun he => ?_⟩
 have := n2_k g5.1 he
 omega
theorem Zjr {s : ByteArray} {k : Int} (h : (n1P s k).bad = false) (hk : rdT s k 1 = 0) : rdT s (k + 1) 4 = 0 := by
 have h : (!(rdT s k 1 != 0 || rdT s (k + 1) 4 == 0)) = false := h
 rw [hk] at h
 have h : (!(rdT s (k + 1) 4 == 0)) = false := h
 cases hb : (rdT s (k + 1) 4 == 0) with
 | true => exact beq_iff_eq.1 hb
 | false => rw [hb] at h; cases h
theorem n2_e {s : ByteArray} {k : Int} (h : (n2P s k).bad = false) (hk : rdT s k 1 = 0) : rdT s (k + 1 + 4) 1 ≠ 0 ∧ rdT s (k + 1 + 4) 1 ≠ 14 := by
 have h : (!(rdT s k 1 != 0 || (rdT s (k + 1 + 4) 1 != 0 && rdT s (k + 1 + 4) 1 != 14))) = false := h
 rw [hk] at h
 refine ⟨fun he => ?_, fun he => ?_⟩
 · rw [he] at h; cases h
 · rw [he] at h; cases h
theorem Zjo {s : ByteArray} (h : (Q4n s 0).bad = false) : uR9 (qV9 s 0) = qV9 s 0 := by
 have h : (!(rdF s (0 + 1 + 4 + 1 + 4 + 4) || ((rdI s (0 + 1 + 4 + 1 + 4 + 4 + 1) == 0 && rdF s (0 + 1 + 4 + 1 + 4 + 4 + 1 + 8) == false && (rdI s (0 + 1 + 4 + 1 + 4 + 4 + 1 + 8 + 1) == 0 && rdF s (0 + 1 + 4 + 1 + 4 + 4 + 1 + 8 + 1 + 8) == false && (rdI s (0 + 1 + 4 + 1 + 4 + 4 + 1 + 8 + 1 + 8 + 1) == 0 && rdF s (0 + 1 + 4 + 1 + 4 + 4 + 1 + 8 + 1 + 8 + 1 + 8) == false))) && (rdT s (0 + 1 + 4 + 1) 4 == 0 && rdT s (0 + 1 + 4 + 1 + 4) 4 == 0)))) = false := h
 unfold qV9 uR9
 cases hh : rdF s (0 + 1 + 4 + 1 + 4 + 4) with
 | true => rfl
 | false =>
   rw [hh, Bool.false_or] at h
   have h := Zjq h
   simp only [Bool.and_eq_true, beq_iff_eq] at h
   obtain ⟨⟨⟨z1, z2⟩, ⟨z3, z4⟩, z5, z6⟩, z7, z8⟩ := h
   rw [z1, z2, z3, z4, z5, z6, z7, z8]
   rfl
theorem Qzx (s : ByteArray) (p : Int) : I64 (rdT s p 4) := by
 have h := Qez s p 4
 have h2 : rdT s p 4 < 4294967296 := h.2
 exact ⟨by omega, by omega⟩
theorem Qr9 {s : ByteArray} (hb : (rpP s 0).bad = false) : (Qfz (rpV s 0) ∧ (rpN s 0 ≤ 8 ∧ rpM s 0 ≤ 64) ∧ (∀ i, I64 (Qj2 s 0 i).1 ∧ I64 (Qj2 s 0 i).2) ∧ ∀ i, I64 (Qi0 s 0 i).1 ∧ I64 (Qi0 s 0 i).2) ∧ Qhd (rdT s 0 1) (rdT s (0 + 1 + 4) 1) (rpV s 0) (rpN s 0) (Qj2 s 0) (rpM s 0) (Qi0 s 0) = 0 ∧ Qhw (rdT s 0 1) (rdT s (0 + 1 + 4) 1) (rpV s 0) (rpN s 0) (Qj2 s 0) (rpM s 0) (Qi0 s 0) = s := by
 obtain ⟨hk, h1, h2, hk1⟩ := Q4g hb
 rw [Zaf rfl rfl hk1 h1 h2] at hb
 obtain ⟨⟨d1, d2⟩, d3, d4⟩ := Qqu (k := 0) hb (Nat.zero_le _)
 have d4 : vok (atR (rdT s 0 1) (rdT s (0 + 1 + 4) 1) (rpN s 0) (rpM s 0)) (rds s 0 (atR (rdT s 0 1) (rdT s (0 + 1 + 4) 1) (rpN s 0) (rpM s 0))) := d4
 have main : (rds s 0 (atR (rdT s 0 1) (rdT s (0 + 1 + 4) 1) (rpN s 0) (rpM s 0)) = vsR (rdT s 0 1) (rdT s (0 + 1 + 4) 1) (rpV s 0) (rpN s 0) (Qj2 s 0) (rpM s 0) (Qi0 s 0) ∧ Qal (rpV s 0).id 2147483647 = false ∧ rBK (rdT s 0 1) (rdT s (0 + 1 + 4) 1) (rpV s 0) (rpN s 0) (rpM s 0) (fun i => (Qi0 s 0 i).1) (fun i => (Qi0 s 0 i).2) = false) ∧ Qfz (rpV s 0) ∧ (uRK (rdT s 0 1) (rdT s (0 + 1 + 4) 1) (rpV s 0) = rpV s 0 ∧ (¬ (rdT s (0 + 1 + 4) 1 = 0 ∧ rdT s 0 1 = 7) → rpN s 0 = 0) ∧ (¬ (rdT s (0 + 1 + 4) 1 = 0 ∧ rdT s 0 1 = 8) → rpM s 0 = 0)) ∧ (rpV s 0).id = rdT s (0 + 1) 4 ∧ (enP s ((0 + atL (atR (rdT s 0 1) (rdT s (0 + 1 + 4) 1) (rpN s 0) (rpM s 0)) : Nat) : Int)).bad = false := by
   by_cases he : rdT s (0 + 1 + 4) 1 = 0
   · rcases Q3z (hk1 he) with z | z | z | z | z | z | z | z | z | z
     · have eV : rpV s 0 = qV1 s 0 := by unfold rpV; rw [z, he]; rfl
       have eN : rpN s 0 = 0 := by unfold rpN; rw [z, he]; rfl
       have eM : rpM s 0 = 0 := by unfold rpM; rw [z, he]; rfl
       rw [z, he, eN, eM] at d2 d4
       rw [z, he, eV, eN, eM]
       obtain ⟨a1, ⟨a2, a3⟩, a4⟩ := Zdz (Qj2 s 0) (Qi0 s 0) z he d4
       exact ⟨⟨a1, a2, a3⟩, a4, ⟨rfl, fun hc => rfl, fun hc => rfl⟩, rfl, d2⟩
     · have eV : rpV s 0 = qV2 s 0 := by unfold rpV; rw [z, he]; rfl
       have eN : rpN s 0 = 0 := by unfold rpN; rw [z, he]; rfl
       have eM : rpM s 0 = 0 := by unfold rpM; rw [z, he]; rfl
       rw [z, he, eN, eM] at d2 d4
       rw [z, he, eV, eN, eM]
       obtain ⟨a1, ⟨a2, a3⟩, a4⟩ := Zdy (Qj2 s 0) (Qi0 s 0) z he d4
       exact ⟨⟨a1, a2, a3⟩, a4, ⟨rfl, fun hc => rfl, fun hc => rfl⟩, rfl, d2⟩
     · have eV : rpV s 0 = qV3 s 0 := by unfold rpV; rw [z, he]; rfl
       have eN : rpN s 0 = 0 := by unfold rpN; rw [z, he]; rfl
       have eM : rpM s 0 = 0 := by unfold rpM; rw [z, he]; rfl
       rw [z, he, eN, eM] at d2 d4
       rw [z, he, eV, eN, eM]
       obtain ⟨a1, ⟨a2, a3⟩, a4⟩ := Zdx (Qj2 s 0) (Qi0 s 0) z he d4
       exact ⟨⟨a1, a2, a3⟩, a4, ⟨rfl, fun hc => rfl, fun hc => rfl⟩, rfl, d2⟩
     · have eV : rpV s 0 = qV4 s 0 := by unfold rpV; rw [z, he]; rfl
       have eN : rpN s 0 = 0 := by unfold rpN; rw [z, he]; rfl
       have eM : rpM s 0 = 0 := by unfold rpM; rw [z, he]; rfl
       rw [z, he, eN, eM] at d2 d4
       rw [z, he, eV, eN, eM]
       obtain ⟨a1, ⟨a2, a3⟩, a4⟩ := Zdw (Qj2 s 0) (Qi0 s 0) z he d4
       exact ⟨⟨a1, a2, a3⟩, a4, ⟨rfl, fun hc => rfl, fun hc => rfl⟩, rfl, d2⟩
     · have eV : rpV s 0 = qV5 s 0 := by unfold rpV; rw [z, he]; rfl
       have eN : rpN s 0 = 0 := by unfold rpN; rw [z, he]; rfl
       have eM : rpM s 0 = 0 := by unfold rpM; rw [z, he]; rfl
       rw [z, he, eN, eM] at d2 d4
       rw [z, he, eV, eN, eM]
       obtain ⟨a1, ⟨a2, a3⟩, a4⟩ := Zdv (Qj2 s 0) (Qi0 s 0) z he d4
       exact ⟨⟨a1, a2, a3⟩, a4, ⟨rfl, fun hc => rfl, fun hc => rfl⟩, rfl, d2⟩
     · have eV : rpV s 0 = qV6 s 0 := by unfold rpV; rw [z, he]; rfl
       have eN : rpN s 0 = 0 := by unfold rpN; rw [z, he]; rfl
       have eM : rpM s 0 = 0 := by unfold rpM; rw [z, he]; rfl
       rw [z, he, eN, eM] at d2 d4
       rw [z, he, eV, eN, eM]
       obtain ⟨a1, ⟨a2, a3⟩, a4⟩ := Zdu (Qj2 s 0) (Qi0 s 0) z he d4
       exact ⟨⟨a1, a2, a3⟩, a4, ⟨rfl, fun hc => rfl, fun hc => rfl⟩, rfl, d2⟩
     · have eV : rpV s 0 = qV7 s 0 := by unfold rpV; rw [z, he]; rfl
       have eN : rpN s 0 = shC s (0 + 1 + 4 + 1 + 4 + 4) := by unfold rpN; rw [z, he]; rfl
       have eM : rpM s 0 = 0 := by unfold rpM; rw [z, he]; rfl
       rw [z, he, eN, eM] at d2 d4
       rw [z, he, eV, eN, eM]
       obtain ⟨a1, ⟨a2, a3⟩, a4⟩ := Zdt (Qi0 s 0) z he d4
       exact ⟨⟨a1, a2, a3⟩, a4, ⟨rfl, fun hc => absurd ⟨rfl, rfl⟩ hc, fun hc => rfl⟩, rfl, d2⟩
     · have eV : rpV s 0 = qV8 s 0 := by unfold rpV; rw [z, he]; rfl
       have eN : rpN s 0 = 0 := by unfold rpN; rw [z, he]; rfl
       have eM : rpM s 0 = hdC s 0 := by unfold rpM; rw [z, he]; rfl
       rw [z, he, eN, eM] at d2 d4
       rw [z, he, eV, eN, eM]
       obtain ⟨a1, ⟨a2, a3⟩, a4⟩ := Zds (Qj2 s 0) z he d4
       exact ⟨⟨a1, a2, a3⟩, a4, ⟨rfl, fun hc => rfl, fun hc => absurd ⟨rfl, rfl⟩ hc⟩, rfl, d2⟩
     · have eV : rpV s 0 = qV9 s 0 := by unfold rpV; rw [z, he]; rfl
       have eN : rpN s 0 = 0 := by unfold rpN; rw [z, he]; rfl
       have eM : rpM s 0 = 0 := by unfold rpM; rw [z, he]; rfl
       rw [z, he, eN, eM] at d2 d4
       rw [z, he, eV, eN, eM]
       obtain ⟨a1, ⟨a2, a3⟩, a4⟩ := Zdr (Qj2 s 0) (Qi0 s 0) z he d4
       exact ⟨⟨a1, a2, a3⟩, a4, ⟨Zjo (Qck d2).1, fun hc => rfl, fun hc => rfl⟩, rfl, (Qck d2).2⟩
     · have eV : rpV s 0 = Za9 s 0 := by unfold rpV; rw [z, he]; rfl
       have eN : rpN s 0 = 0 := by unfold rpN; rw [z, he]; rfl
       have eM : rpM s 0 = 0 := by unfold rpM; rw [z, he]; rfl
       rw [z, he, eN, eM] at d2 d4
       rw [z, he, eV, eN, eM]
       obtain ⟨a1, ⟨a2, a3⟩, a4⟩ := Q54 (Qj2 s 0) (Qi0 s 0) z he d4
       exact ⟨⟨a1, a2, a3⟩, a4, ⟨rfl, fun hc => rfl, fun hc => rfl⟩, rfl, d2⟩
   · have eV : rpV s 0 = qVN s 0 := by unfold rpV; rw [Qhu he]; rfl
     have eN : rpN s 0 = 0 := by unfold rpN; rw [Qhu he]; rfl
     have eM : rpM s 0 = 0 := by unfold rpM; rw [Qhu he]; rfl
     obtain ⟨a1, ⟨a2, a3⟩, a4⟩ := Zdq (Qj2 s 0) (Qi0 s 0) rfl rfl he d4
     have d2 : (enP s ((0 + atL (atR (rdT s 0 1) (rdT s (0 + 1 + 4) 1) (rpN s 0) (rpM s 0)) : Nat) : Int)).bad = false := by
       have d2' := d2
       unfold Zh1 at d2'
       rw [Qhu he] at d2'
       exact d2'
     rw [eV]
     refine ⟨⟨a1, a2, ?_⟩, a4, ⟨?_, fun _ => eN, fun _ => eM⟩, rfl, d2⟩
     · unfold rBK
       rw [Qhu he]
       by_cases h14 : rdT s (0 + 1 + 4) 1 = 14
       · rw [h14]
         exact a3 h14
       · rw [Qhu h14]
         rfl
     · unfold uRK
       rw [Qhu he]
       show uRN _ (qVN s 0) = qVN s 0
       unfold uRN qVN vrN
       by_cases h14 : rdT s (0 + 1 + 4) 1 = 14
       · rw [h14]
         rfl
       · rw [Qhu h14]
         rfl
 obtain ⟨⟨m1, m2, m3⟩, m4, ⟨m5, m6, m7⟩, m8, m9⟩ := main
 have hbad : Qgd (rdT s 0 1) (rdT s (0 + 1 + 4) 1) (rpV s 0) (rpN s 0) (rpM s 0) (Qi0 s 0) = false := by
   unfold Qgd rpB
   rw [m2, m3, Bool.or_false, Bool.false_or]
   have v_e : (0 ≤ rdT s (0 + 1 + 4) 1 ∧ rdT s (0 + 1 + 4) 1 < 256 ^ aE.n) ∧ aE.bd (rdT s (0 + 1 + 4) 1) = false := d4.2.2.1
   exact Qjm ⟨v_e.1.1, by have := of_decide_eq_false v_e.2; omega⟩
 have hform : Qgc (rdT s 0 1) (rdT s (0 + 1 + 4) 1) (rpV s 0) (rpN s 0) (Qj2 s 0) (rpM s 0) (Qi0 s 0) = true := Q47 m5 m6 m7 fun h0 => ⟨by rw [m8]; exact Zjr h1 h0, n2_e h2 h0⟩
 have hE : Qhd (rdT s 0 1) (rdT s (0 + 1 + 4) 1) (rpV s 0) (rpN s 0) (Qj2 s 0) (rpM s 0) (Qi0 s 0) = 0 := by
   unfold Qhd Qj3
   rw [decide_eq_true hk.1, decide_eq_true hk.2, hform, hbad]
   rfl
 have hn7 : rdT s (0 + 1 + 4) 1 = 0 → rdT s 0 1 = 7 → rpN s 0 ≤ 8 := fun x0 x7 => by
   rw [x0, x7] at hbad
   exact Zhh hbad
 have hn : rpN s 0 ≤ 8 := by
   by_cases hc : rdT s (0 + 1 + 4) 1 = 0 ∧ rdT s 0 1 = 7
   · exact hn7 hc.1 hc.2
   · rw [m6 hc]; omega
 have hm : rpM s 0 ≤ 64 := by
   by_cases hc : rdT s (0 + 1 + 4) 1 = 0 ∧ rdT s 0 1 = 8
   · rw [hc.1, hc.2] at hbad
     exact Zhi hbad
   · rw [m7 hc]; omega
 refine ⟨⟨m4, ⟨hn, hm⟩, fun i => ⟨Qbe _ _, Qbe _ _⟩, fun i => ⟨Qzx _ _, Qzx _ _⟩⟩, hE, ?_⟩
 rw [Zav hE]
 apply Qro
 rw [Zg9 hk1 hn7, ← m1]
 have d3 : enc (atR (rdT s 0 1) (rdT s (0 + 1 + 4) 1) (rpN s 0) (rpM s 0)) (rds s 0 (atR (rdT s 0 1) (rdT s (0 + 1 + 4) 1) (rpN s 0) (rpM s 0))) = ((byt s).drop 0).take (atL (atR (rdT s 0 1) (rdT s (0 + 1 + 4) 1) (rpN s 0) (rpM s 0))) := d3
 have hz := en_f m9
 rw [d3, List.drop_zero, List.take_of_length_le (by rw [Qmd]; omega)]
def Zen : List SV := Qvg ++ (zN ++ zN ++ zN ++ zN) ++ (zN ++ zN) ++ zN ++ (zN ++ zN) ++ [iV 0, bV false, bV false, iV 0]
def zBo : SV := .agg Zen
def Qsa : SV := .agg ([iV 10, iV 7, iV 0, iV 0, iV 0, iV 0, iV 0] ++ Zen ++ [Qa8] ++ [bV false] ++ zN ++ (zN ++ zN) ++ [iV 3])
def repLs : List Int := [10] ++ (c4 7 ++ ([0] ++ c4 3))
def ΓK0 : Qb6 := Qap Qaq 72 (Qda (sAt [zSh, zSh] (bV true)))
def ΓK1 : Qb6 := Qap (Qap Qaq 81 (Qda (sAt [zBo, zBo] (bV true)))) 82 (Qda (sAt [Qa8, Qa8] (bV true)))
theorem Q2o (R : SV→Prop) : (Qeu Try.prog Qaq Qas Try.f77 [Qsa] R) = (R (SV.agg [(yI 10),(yI 7),zI,zI,zI,zI,zI,zI,zI,zI,zI,zS,zI,zF,zI,zF,zI,zF,zI,zF,zI,zF,zI,zF,zI,zF,zI,zF,zI,zF,zI,zF,zF,zI,zS,zF,zI,zF,zI,zF,zI,zF,(yI 3)])):=by kernel_rfl
theorem Ziu (R : SV→Prop) : (Qeu Try.prog Qaq (ΛZ Try.f82 13) Try.f82 [Qa8,Qa8] R) = ((∃ x : Nat,(((x : Nat) = 0)∧((zI = (yI ((↑x : Int))))∧True)))∧(∀ x : Nat,(((x : Nat) = 0)→(R (yF true))))):=by kernel_rfl
theorem Qyo (R : SV→Prop) : (Qeu Try.prog ΓK0 Qas Try.f81 [zBo,zBo] R) = (([(SV.agg [zI,zI,zI,zI,zS]),(SV.agg [zI,zI,zI,zI,zS])] = [(SV.agg [zI,zI,zI,zI,zS]),(SV.agg [zI,zI,zI,zI,zS])])∧(R (yF true))):=by kernel_rfl
theorem Qyn (R : SV→Prop) : (Qeu Try.prog ΓK1 Qas Try.f36 [Qsa,Qsa] R) = (([(SV.agg [zI,zI,zI,zI,zS,zI,zF,zI,zF,zI,zF,zI,zF,zI,zF,zI,zF,zI,zF,zI,zF,zI,zF,zI,zF,zF,zI]),(SV.agg [zI,zI,zI,zI,zS,zI,zF,zI,zF,zI,zF,zI,zF,zI,zF,zI,zF,zI,zF,zI,zF,zI,zF,zI,zF,zF,zI])] = [(SV.agg [zI,zI,zI,zI,zS,zI,zF,zI,zF,zI,zF,zI,zF,zI,zF,zI,zF,zI,zF,zI,zF,zI,zF,zI,zF,zF,zI]),(SV.agg [zI,zI,zI,zI,zS,zI,zF,zI,zF,zI,zF,zI,zF,zI,zF,zI,zF,zI,zF,zI,zF,zI,zF,zI,zF,zF,zI])])∧(([zS,zS] = [zS,zS])∧(R (yF true)))):=by kernel_rfl
def ΓK3 : Qb6 := Qap Q77 118 (Qca true Qnt)
theorem Q25 (b : Bool) : (Qa6 Try.prog ΓK3 Qas Try.f78 [.vp 0 0,Qsa] (Qac (fB (some b))) 64 (fun y h' => Qbh (fB (some b)) (apE (.fresh (some b)) 0 True 10 repLs false) y h')) =
((I64 10)∧(∀ c : Nat,((((Qaf 1 (1 + c) {elem:=5,size:=1,rw:=true,lock:=false,lit:=false,flat:=true,n:=1,row:=fun i => [yU ((fun i => List.getD [10] i 0) i)],ext:=1 + c})∧((1 : Nat) ≤ M0))∧(I64 7))∧(∀ c_1 : Nat,((((Qaf 5 (5 + c_1) {elem:=5,size:=1,rw:=true,lock:=false,lit:=false,flat:=true,n:=5,row:=fun i => [yU (apG 1 (fun i => SE.Qad [yU ((fun i => List.getD [10] i 0) i)]) (be 7 4) i)],ext:=5 + c_1})∧((5 : Nat) ≤ M0))∧(I64 0))∧(∀ c_2 : Nat,((((Qaf 6 (6 + c_2) {elem:=5,size:=1,rw:=true,lock:=false,lit:=false,flat:=true,n:=6,row:=fun i => [yU (apG 5 (fun i => SE.Qad [yU (apG 1 (fun i => SE.Qad [yU ((fun i => List.getD [10] i 0) i)]) (be 7 4) i)]) [0] i)],ext:=6 + c_2})∧((6 : Nat) ≤ M0))∧(I64 3))∧(∀ c_3 : Nat,(∃ c_4 : Nat,(True∧((((1 : Nat) = 1)∧(((1 : Nat) ≤ 1)∧(((SV.sl 464 1 0 10 (10 + c_3)) = (SV.sl 464 1 0 10 (10 + c_4)))∧((yF (b||false||false||false||false)) = (yF (b||false))))))∧(((10 : Nat) = 10)∧((((10 + c_4) : Nat) ≤ (10 + c_3))∧(∀ i : Nat,(((i : Nat) < 10)→([(yU (apG 6 (fun i => SE.Qad [yU (apG 5 (fun i => SE.Qad [yU (apG 1 (fun i => SE.Qad [yU ((fun i => List.getD [10] i 0) i)]) (be 7 4) i)]) [0] i)]) (be 3 4) i))] = [(yU (List.getD repLs i 0))])))))))))))))))) := by kernel_rfl
def Qtv (args : List SV) (bs : List Blk) : Option Eff := match args with
 | [.vp 0 0, x] => match Qmt bs with
   | some (.fresh (some b)) => some (apE (.fresh (some b)) 0 (x = Qsa) 10 repLs false)
   | _ => none
 | _ => none
def ΓK2 : Qb6 := Qap (Qap (Qap (Qap Qaq 77 (Qda (sAt [Qsa] Qsa))) 36 (Qda (sAt [Qsa, Qsa] (bV true)))) 78 (Qca true Qtv)) 71 (Qca true Qvs)
@[reducible] noncomputable def Qek  := (SV.agg [(SV.v (.int .i64 10)),(SV.v (.int .i64 7)),zI,zI,zI,zI,zI,zI,zI,zI,zI,zS,zI,zF,zI,zF,zI,zF,zI,zF,zI,zF,zI,zF,zI,zF,zI,zF,zI,zF,zI,zF,zF,zI,zS,zF,zI,zF,zI,zF,zI,zF,(SV.v (.int .i64 3))])
theorem Q8y (R : SV→Prop) : (Qeu Try.prog ΓK2 Qas Try.f32 [Qsa] R) =
(([(Qek)] = [(Qek)])∧(([(Qek),(Qek)] = [(Qek),(Qek)])∧(((Qek) = (Qek))∧(∀ c : Nat,((Qaf 10 (10 + c) {elem:=5,size:=1,rw:=true,lock:=false,lit:=false,flat:=true,n:=10,row:=fun i => [yU ((fun i => List.getD repLs i 0) i)],ext:=10 + c})∧(R (SV.tup [(SV.v (.string (Qcd 10 fun i => [yU (SE.Qad [yU ((fun i => List.getD repLs i 0) i)])]))),zI]))))))) := by kernel_rfl
theorem Qut : Qb2 Try.prog 77 (sAt [Qsa] Qsa) := Qgv Qax Try.func77 (by kernel_rfl) (by kernel_rfl) (by rw [Q2o]; kernel_rfl)
theorem Q6b : Qb2 Try.prog 82 (sAt [Qa8, Qa8] (bV true)) := Qgv Qax Try.func82 (by kernel_rfl) (by kernel_rfl) (Eq.mpr (Ziu _) ⟨⟨0, rfl, rfl, trivial⟩, fun _ _ => rfl⟩)
theorem Q74 : ∀ f g, ΓK0 f = some g → g.ok Try.prog f := Qah Qax (Qdl Try.func72 (by kernel_rfl) (by kernel_rfl) Qmr)
theorem Qs6 : Qb2 Try.prog 81 (sAt [zBo, zBo] (bV true)) := Qgv Q74 Try.func81 (by kernel_rfl) (by kernel_rfl) (Λ := Qas) (by rw [Qyo]; exact ⟨rfl, rfl⟩)
theorem Q73 : ∀ f g, ΓK1 f = some g → g.ok Try.prog f := Qah (Qah Qax (Qdl Try.func81 (by kernel_rfl) (by kernel_rfl) Qs6)) (Qdl Try.func82 (by kernel_rfl) (by kernel_rfl) Q6b)
theorem Qs5 : Qb2 Try.prog 36 (sAt [Qsa, Qsa] (bV true)) := Qgv Q73 Try.func36 (by kernel_rfl) (by kernel_rfl) (Λ := Qas) (by rw [Qyn]; exact ⟨rfl, rfl, rfl⟩)
theorem Q71 : ∀ f g, ΓK3 f = some g → g.ok Try.prog f := Qah Qlk (Qcf Try.func118 (by kernel_rfl) (by kernel_rfl) Qgl)
theorem Q5w (x : Int) (M : List Int) (i : Nat) : apG 1 (fun i => ([x] : List Int).getD i 0) M i = ([x] ++ M).getD i 0 := by
 by_cases h1 : i < 1
 · have : i = 0 := by omega
   subst this; rfl
 · obtain ⟨j, rfl⟩ : ∃ j, i = j + 1 := ⟨i - 1, by omega⟩
   rw [Qf5 h1, Nat.add_sub_cancel]
   rfl
theorem Zau (i : Nat) : apG 6 (apG 5 (apG 1 (fun i => ([10] : List Int).getD i 0) (be 7 4)) [0]) (be 3 4) i = repLs.getD i 0 := by
 rw [Qay (n := 5) (m := 6) (L := [0]) rfl, Qay (n := 1) (m := 5) (by rw [Qol]), Q5w]
 rfl
def Qzw : ByteArray := ⟨#[6, 0, 0, 0, 1, 0, 0, 0, 2]⟩
def Qzv : ByteArray := ⟨#[10, 0, 0, 0, 7, 0, 0, 0, 0, 3]⟩
theorem Zax : (Qcd 9 fun i => [SV.v (.int .u8 (relL.getD i 0))]) = Qzw := by kernel_rfl
theorem Zat : (Qcd 10 fun i => [SV.v (.int .u8 (repLs.getD i 0))]) = Qzv := by kernel_rfl
theorem Q12 : Qb2 Try.prog 24 (sAt [Qsb] (.tup [Qe4 Qzw, iV 0])) := Qgv Q75 Try.func24 (by kernel_rfl) (by kernel_rfl) (Λ := Qas) (by
 rw [Zfl]
 repeat (first | unfold Qga)
 exact ⟨rfl, rfl, rfl, fun c => ⟨Qaa _ _ _ (by omega), congrArg (fun z => SV.tup [SV.v (.string z), SV.v (.int .i64 0)]) Zax⟩⟩)
theorem Quy : Qbt Try.prog 78 Qtv := Qc0 hm Q71 Try.func78 (Λ := fun _ _ => Qas) fun args bs e hs hp => by
 unfold Qtv at hs
 split at hs <;> try (cases hs; done)
 rename_i x
 split at hs <;> try (cases hs; done)
 rename_i b hw
 cases hs
 have hx : x = Qsa := hp
 subst hx
 refine ⟨_, Qdo hw, Eq.mpr (Q25 b) ⟨⟨by omega, by omega⟩, fun c => ⟨⟨⟨Qaa _ _ _ (by omega), by show 1 ≤ 1099511627776; omega⟩, ⟨by omega, by omega⟩⟩, fun c1 => ⟨⟨⟨Qaa _ _ _ (by omega), by show 5 ≤ 1099511627776; omega⟩, ⟨by omega, by omega⟩⟩, fun c2 => ⟨⟨⟨Qaa _ _ _ (by omega), by show 6 ≤ 1099511627776; omega⟩, ⟨by omega, by omega⟩⟩, fun c3 => Qb9 rfl (by simp) fun i hi => Zau i⟩⟩⟩⟩⟩
theorem Q72 : ∀ f g, ΓK2 f = some g → g.ok Try.prog f := Qah (Qah (Qah (Qah Qax (Qdl Try.func77 (by kernel_rfl) (by kernel_rfl) Qut)) (Qdl Try.func36 (by kernel_rfl) (by kernel_rfl) Qs5)) (Qcf Try.func78 (by kernel_rfl) (by kernel_rfl) Quy)) (Qcf Try.func71 (by kernel_rfl) (by kernel_rfl) Qtc)
theorem Qxk : Qb2 Try.prog 32 (sAt [Qsa] (.tup [Qe4 Qzv, iV 0])) := Qgv Q72 Try.func32 (by kernel_rfl) (by kernel_rfl) (Λ := Qas) (by
 rw [Q8y]
 repeat (first | unfold Qek)
 exact ⟨rfl, rfl, rfl, fun c => ⟨Qaa _ _ _ (by omega), congrArg (fun z => SV.tup [SV.v (.string z), SV.v (.int .i64 0)]) Zat⟩⟩)
def frT (s : ByteArray) : ByteArray := bif Nat.beq s.size 0 then emp else bif Nat.blt 2048 s.size then emp else strOfNums (be (s.size : Int) 4) ++ s
def frE (s : ByteArray) : Int := bif Nat.beq s.size 0 then 7 else bif Nat.blt 2048 s.size then 6 else 0
def Qqs : List SV → Option (Option Prop × SV)
 | [.v (.string s)] => some (some (s.size < 4294967296), .tup [Qe4 (frT s), iV (frE s)])
 | _ => none
def ΓA0 : Qb6 := Qap (Qap (Qap (Qap (Qap (Qap Qaq 24 (Qda (sAt [Qsb] (.tup [Qe4 Qzw, iV 0])))) 38 (Qca true Qzh)) 32 (Qda (sAt [Qsa] (.tup [Qe4 Qzv, iV 0])))) 21 (Qda Qqs)) 16 (Qda Zaa)) 18 (Qda Zab)
theorem Q9j (R : SV→Prop) : (Qeu Try.prog ΓA0 Qas Try.f20 [] R) = (([(SV.agg [(yI 6),(yI 1),zI,zI,zI,zI,zI,zI,zI,zS,zI,zF,zI,zF,zI,zF,zI,zF,zI,zF,zI,zF,zI,zF,zI,zF,zI,zF,zI,zF,zI,zF,zI,zF,(yI 2),zI,zI,zI,zI,zI,zI,zI,zI])] = [(SV.agg [(yI 6),(yI 1),zI,zI,zI,zI,zI,zI,zI,zS,zI,zF,zI,zF,zI,zF,zI,zF,zI,zF,zI,zF,zI,zF,zI,zF,zI,zF,zI,zF,zI,zF,zI,zF,(yI 2),zI,zI,zI,zI,zI,zI,zI,zI])])∧(({data:=#[10,0,0,0,7]} = cntStr)∧(([(SV.agg [(yI 10),(yI 7),zI,zI,zI,zI,zI,zI,zI,zI,zI,zS,zI,zF,zI,zF,zI,zF,zI,zF,zI,zF,zI,zF,zI,zF,zI,zF,zI,zF,zI,zF,zF,zI,zS,zF,zI,zF,zI,zF,zI,zF,(yI 3)])] = [(SV.agg [(yI 10),(yI 7),zI,zI,zI,zI,zI,zI,zI,zI,zI,zS,zI,zF,zI,zF,zI,zF,zI,zF,zI,zF,zI,zF,zI,zF,zI,zF,zI,zF,zI,zF,zF,zI,zS,zF,zI,zF,zI,zF,zI,zF,(yI 3)])])∧(((2 : Nat) < 4294967296)∧(((((-9223372036854775808) : Int) ≤ 9)∧((9 : Int) < 9223372036854775808))∧(R (yF true))))))):=by kernel_rfl
def Qzq : List SV → Option (Option Prop × SV)
 | [] => some (none, bV true)
 | _ => none
theorem Zgu (s : ByteArray) : Qio s = .tup [Qe4 (frT s), iV (frE s)] := by
 unfold Qio frT frE
 cases Nat.beq s.size 0 with
 | true => rfl
 | false => cases Nat.blt 2048 s.size <;> rfl
theorem Qzk (s : ByteArray) : Qvr [.v (.string s)] = Qqs [.v (.string s)] := by
 show some (some (s.size < 4294967296), Qio s) = _
 rw [Zgu]
 rfl
theorem Q0q {f : FuncId} (h : Qb2 Try.prog f Qvr) : Qb2 Try.prog f Qqs := fun args p x hs hp => by
 refine h args p x ?_ hp
 rw [← hs]
 unfold Qqs at hs
 split at hs
 · exact Qzk _
 · cases hs
theorem Q8c : ∀ f g, ΓA0 f = some g → g.ok Try.prog f := Qah (Qah (Qah (Qah (Qah (Qah Qax (Qdl Try.func24 (by kernel_rfl) (by kernel_rfl) Q12)) (Qcf Try.func38 (by kernel_rfl) (by kernel_rfl) Qxm)) (Qdl Try.func32 (by kernel_rfl) (by kernel_rfl) Qxk)) (Qdl Try.func21 (by kernel_rfl) (by kernel_rfl) (Q0q Qxs))) (Qdl Try.func16 (by kernel_rfl) (by kernel_rfl) Q1x)) (Qdl Try.func18 (by kernel_rfl) (by kernel_rfl) Q1y)
theorem Qx2 : Qb2 Try.prog 20 (sAt [] (bV true)) := Qgv Q8c Try.func20 (by kernel_rfl) (by kernel_rfl) (Λ := Qas) (by
 rw [Q9j]
 exact ⟨rfl, rfl, rfl, by omega, ⟨by omega, by omega⟩, rfl⟩)
theorem Qvc : Qb2 Try.prog 20 Qzq := fun args p x hs hp => by
 unfold Qzq at hs
 split at hs
 · cases hs
   exact Qx2 [] (some ([] = [])) (bV true) rfl (fun q hq => by cases hq; rfl)
 · cases hs
theorem Qm8 (g : Nat → Int × Int) : (fun i => gi [SV.v (.int .i64 (g (0 + i)).1), SV.v (.int .i64 (g (0 + i)).2)]) = g := by
 funext i
 rw [Nat.zero_add]
 rfl
theorem Qhq {n : Nat} {g : Nat → Int × Int} (hn : n < 1099511627776) (hg : ∀ i, I64 (g i).1 ∧ I64 (g i).2) : Qam n n fun y => [SV.v (.int .i64 (g (0 + y)).1), SV.v (.int .i64 (g (0 + y)).2)] := ⟨okAll_rows.2 fun i hi => by rw [Nat.zero_add]; exact hg i, rfl, hn⟩
theorem Q44 {k : Int} (h : 1 ≤ k ∧ k ≤ 10) : I64 k := ⟨by omega, by omega⟩
noncomputable def Zh7 : Qb6 := Qap (Qap (Qap (Qap (Qap (Qap (Qap Qaq 38 (Qca false Qtx)) 24 (Qmv Qzn)) 54 (Qca false Qtw)) 32 (Qmv Q97)) 55 (Qca false Qty)) 56 (Qmv Qzo)) 20 (Qda Qzq)
@[reducible] noncomputable def Qp8 (s : ByteArray) (R : SV→Prop) := ((((ByteArray.size s) : Nat) ≤ 1099511627776)∧(∀ c_2 : Nat,(sel (Q15 s == 0) ((Q09 (rbV s) (rbN s) (rbN s) fun y => [SV.v (.int .i64 (Prod.fst (Qf6 s 26 (0 + y)))),SV.v (.int .i64 (Prod.snd (Qf6 s 26 (0 + y))))])∧(sel (boE (rbV s) (rbN s) != 0) (R zF) (sel (Qhf s != (↑(ByteArray.size (Q7c (rbV s) (rbN s) fun i => gi [SV.v (.int .i64 (Prod.fst (Qf6 s 26 (0 + i)))),SV.v (.int .i64 (Prod.snd (Qf6 s 26 (0 + i))))])) : Int)) (R zF) (sel (decide (Qhf s > (↑(ByteArray.size s) : Int))) (R zF) ((((0 : Int) ≤ 0)∧(((0 : Int) ≤ (Option.getD (some (Qhf s)) (↑(ByteArray.size s) : Int)))∧(((Option.getD (some (Qhf s)) (↑(ByteArray.size s) : Int)) : Int) ≤ ((↑(ByteArray.size s) : Int)))))∧(sel (!ByteArray.extract s 0 (Int.toNat (Option.getD (some (Qhf s)) (↑(ByteArray.size s) : Int))) == Q7c (rbV s) (rbN s) fun i => gi [SV.v (.int .i64 (Prod.fst (Qf6 s 26 (0 + i)))),SV.v (.int .i64 (Prod.snd (Qf6 s 26 (0 + i))))]) (R zF) (sel (Qhf s != IntKind.wrap IntKind.i64 (120 + IntKind.wrap IntKind.i64 (16 * (↑(rbN s) : Int)))) (R zF) (R (SV.v (.bool true)))))))))) (R (SV.v (.bool true))))))
@[reducible] noncomputable def Qp7 (s : ByteArray) (R : SV→Prop) := ((((ByteArray.size s) : Nat) ≤ 1099511627776)∧(∀ c_1 : RC,(sel (Q14 s == 0) ((Qvy (rqK s) (rqE s) (rqV s) (rqN s) (rqN s) (rqM s) (rqM s) (fun y => [SV.v (.int .i64 (Prod.fst (Qj2 s 0 (0 + y)))),SV.v (.int .i64 (Prod.snd (Qj2 s 0 (0 + y))))]) fun y => [SV.v (.int .i64 (Prod.fst (Qi0 s 0 (0 + y)))),SV.v (.int .i64 (Prod.snd (Qi0 s 0 (0 + y))))])∧(sel (!(Qhw (rqK s) (rqE s) (rqV s) (rqN s) (fun i => gi [SV.v (.int .i64 (Prod.fst (Qj2 s 0 (0 + i)))),SV.v (.int .i64 (Prod.snd (Qj2 s 0 (0 + i))))]) (rqM s) fun i => gi [SV.v (.int .i64 (Prod.fst (Qi0 s 0 (0 + i)))),SV.v (.int .i64 (Prod.snd (Qi0 s 0 (0 + i))))]) == s) (R zF) (sel ((Qhd (rqK s) (rqE s) (rqV s) (rqN s) (fun i => gi [SV.v (.int .i64 (Prod.fst (Qj2 s 0 (0 + i)))),SV.v (.int .i64 (Prod.snd (Qj2 s 0 (0 + i))))]) (rqM s) fun i => gi [SV.v (.int .i64 (Prod.fst (Qi0 s 0 (0 + i)))),SV.v (.int .i64 (Prod.snd (Qi0 s 0 (0 + i))))]) != 0) (R zF) (Qp8 s R)))) (Qp8 s R))))
theorem Ze8 (s : ByteArray) (R : SV→Prop) : (Qa6 Try.prog Zh7 Qas Try.f15 [.v (.string s)] (Qa0 []) 64 (fun y _ => R y)) =
(sel (decide ((↑(ByteArray.size s) : Int) > 1000)) (R (yF true)) ((((ByteArray.size s) : Nat) ≤ 1099511627776)∧(∀ c : Nat,(sel (rkE s == 0) ((Q02 (rkK s) (rkV s) (rkN s) (rkN s) fun y => [yI (Prod.fst (Qzt s (0 + y))),yI (Prod.snd (Qzt s (0 + y)))])∧(sel (!(Qe5 (rkK s) (rkV s) (rkN s) fun i => gi [yI (Prod.fst (Qzt s (0 + i))),yI (Prod.snd (Qzt s (0 + i)))]) == s) (R zF) (sel ((Qe6 (rkK s) (rkV s) (rkN s) fun i => gi [yI (Prod.fst (Qzt s (0 + i))),yI (Prod.snd (Qzt s (0 + i)))]) != 0) (R zF) (Qp7 s R)))) (Qp7 s R))))) := by kernel_rfl
def Gd (p : Pz) : Prop := p.bad = true → p.er ≠ 0
theorem Qc9 {a b : Pz} (ha : Gd a) (hb : Gd b) : Gd (a.seq b) := fun h => by
 unfold Pz.seq at h ⊢
 cases hc : a.bad with
 | true =>
   rw [hc] at h
   exact ha hc
 | false =>
   rw [hc] at h
   exact hb h
theorem Qsm {b : Bool} {e : Int} (h : e ≠ 0) : Gd ⟨b, e⟩ := fun _ => h
theorem Zgq {e : Int} : Gd ⟨false, e⟩ := fun h => by cases h
theorem Q6x {b : Bool} {x y : Pz} (hx : Gd x) (hy : Gd y) : Gd (bif b then x else y) := by
 cases b
 · exact hy
 · exact hx
theorem Qo4 {s : ByteArray} {k n : Int} : Gd (tkP s k n) := Qsm (by decide)
theorem Qob {s : ByteArray} {k m n : Int} : Gd (upP s k m n) := Qc9 Qo4 (Qsm (by decide))
theorem Qua {s : ByteArray} {k : Int} : Gd (nuP s k) := Qc9 Qo4 (Qc9 (Qsm (by decide)) Qob)
theorem Q46 {s : ByteArray} {k : Int} : Gd (vcP s k) := Qc9 Qua Qua
theorem Zbs {s : ByteArray} {k : Int} : Gd (psP s k) := Qc9 Q46 (Qc9 Qua Qua)
theorem Zbt {s : ByteArray} {k : Int} : Gd (haP s k) := Qc9 Qob Qob
theorem Zbq {s : ByteArray} {k : Int} : Gd (spP s k) := Qc9 Qo4 Qo4
theorem Q6v {s : ByteArray} {k : Int} : ∀ n, Gd (Qoy s k n)
 | 0 => Zgq
 | n + 1 => Qc9 (Q6v n) Zbq
theorem Zbr {s : ByteArray} {k : Int} : Gd (shP s k) := Qc9 Qob (Qc9 Qo4 (Qc9 Qo4 (Qc9 Qo4 (Qc9 Qob (Q6v _)))))
theorem Q6w {s : ByteArray} {k : Int} : ∀ n, Gd (Qrw s k n)
 | 0 => Zgq
 | n + 1 => Qc9 (Q6w n) Zbt
theorem Zbu {s : ByteArray} {k : Int} : Gd (enP s k) := Qsm (by decide)
theorem Zgr {s : ByteArray} {k l : Int} : Gd (kiP s k l) := Qc9 Qo4 (Qsm (by decide))
theorem Zgs {s : ByteArray} {k : Int} : Gd (bdP s k) := by
 unfold bdP
 repeat (first | with_reducible exact Zbr | with_reducible exact Zbs | with_reducible exact Q46 | with_reducible exact Qua | with_reducible exact Qob | with_reducible exact Zbu | with_reducible refine Qc9 ?_ ?_)
theorem Zjt {s : ByteArray} {k : Int} : Gd (caP s k) := by
 unfold caP
 refine Qc9 Zgr (Qc9 Qob ?_)
 unfold caR cP1 cP2 cP3 cP4 cP5 cP6 cP7 cP8 cP9 Zef
 repeat (first | with_reducible exact Zbu | with_reducible exact Qob | with_reducible exact Qo4 | with_reducible exact Qua | with_reducible exact Q46 | with_reducible exact Zbs | with_reducible exact Zbt | with_reducible exact Zbq | with_reducible exact Zbr | with_reducible refine Q6x ?_ ?_ | with_reducible refine Qc9 ?_ ?_)
theorem Zgp {s : ByteArray} {k : Int} : Gd (Q4n s k) := Qsm (by decide)
theorem Zgo {s : ByteArray} {k : Int} : Gd (rpP s k) := by
 unfold rpP
 refine Qc9 Zgr (Qc9 Qob (Qc9 (Qsm (by decide)) (Qc9 Qob (Qc9 (Qsm (by decide)) ?_))))
 unfold rpR qP1 qP2 qP3 qP4 qP5 qP6 qP7 qP8 qP9 Zec qPN
 repeat (first | with_reducible exact Zbu | with_reducible exact Qob | with_reducible exact Qo4 | with_reducible exact Qua | with_reducible exact Q46 | with_reducible exact Zbs | with_reducible exact Zbt | with_reducible exact Zbq | with_reducible exact Zbr | with_reducible exact Zgs | with_reducible exact Q6w _ | with_reducible exact Zgp | with_reducible refine Q6x ?_ ?_ | with_reducible refine Qc9 ?_ ?_)
theorem ok_of {p : Pz} (hg : Gd p) {e : Int} (he : e = bif p.bad then p.er else 0) (h : e = 0) : p.bad = false := by
 cases hb : p.bad with
 | false => rfl
 | true =>
   rw [hb, cond_true] at he
   exact absurd (he.symm.trans h) (hg hb)
theorem Q1b (n : Nat) : atL (boA n) = 120 + 16 * n := by
 unfold boA
 rw [Qom, Qom, Qns]
 show 26 + (16 * n + 94) = _
 omega
theorem Q5v (s : ByteArray) : Qip s 0 = ((120 + 16 * shC s 0 : Nat) : Int) := by
 unfold Qip Qag shA
 omega
theorem Q5u {s : ByteArray} (hb : (bdP s 0).bad = false) : (Qx6 (bdV s 0) ∧ shC s 0 ≤ 8) ∧ (Qd4 (bdV s 0) (shC s 0) = false ∧ 120 + 16 * shC s 0 ≤ s.size) ∧ byt (Qum (bdV s 0) (shC s 0) (Qf6 s (shA 0))) = (byt s).take (120 + 16 * shC s 0) := by
 have hr : (Qgx s pOk 0 (boA (shC s 0))).bad = false := by
   rw [← Q7g (F := pOk), Qa1 hb]
   rfl
 obtain ⟨⟨d1, _⟩, d3, d4⟩ := Qqu (k := 0) hr (Nat.zero_le _)
 have d4 : vok (boA (shC s 0)) (rds s 0 (boA (shC s 0))) := d4
 have d3 : enc (boA (shC s 0)) (rds s 0 (boA (shC s 0))) = ((byt s).drop 0).take (atL (boA (shC s 0))) := d3
 obtain ⟨b1, b2, b3⟩ := Q7e d4
 have hn := bo_n b2
 rw [Nat.zero_add, Q1b] at d1
 refine ⟨⟨b3, hn⟩, ⟨b2, d1⟩, ?_⟩
 rw [List.drop_zero, Q1b, b1, ← Q1a _ hn] at d3
 rw [← d3]
 have hl : (boL (bdV s 0) (shC s 0) (fun i => (Qf6 s (shA 0) i).1) (fun i => (Qf6 s (shA 0) i).2)).length = boN (shC s 0) := by
   unfold boL boN
   rw [List.length_append, Qgw]
   rfl
 unfold Qum
 rw [Qkv, ← hl, Qk0]
 exact Qrn fun x hx => by
   rw [Q1a _ hn] at hx
   exact Qri _ _ x hx
theorem Q7s : ∀ f g, Zh7 f = some g → g.ok Try.prog f := Qah (Qah (Qah (Qah (Qah (Qah (Qah Qax (Qcf Try.func38 (by kernel_rfl) (by kernel_rfl) Qu0)) (Qnv Try.func24 (by kernel_rfl) (by kernel_rfl) Qxz)) (Qcf Try.func54 (by kernel_rfl) (by kernel_rfl) Quz)) (Qnv Try.func32 (by kernel_rfl) (by kernel_rfl) Q1q)) (Qcf Try.func55 (by kernel_rfl) (by kernel_rfl) Qu1)) (Qnv Try.func56 (by kernel_rfl) (by kernel_rfl) Qx0)) (Qdl Try.func20 (by kernel_rfl) (by kernel_rfl) Qvc)
theorem Qrq {s : ByteArray} (hsz : s.size ≤ 1000) (hb : (Q15 s == 0) = true) : (Q09 (rbV s) (rbN s) (rbN s) fun y => [SV.v (Value.int IntKind.i64 (Prod.fst (Qf6 s 26 (0 + y)))), SV.v (Value.int IntKind.i64 (Prod.snd (Qf6 s 26 (0 + y))))]) ∧
   (sel (boE (rbV s) (rbN s) != 0) (SV.v (Value.bool false) = bV true)
   (sel (Qhf s != (↑(ByteArray.size (Q7c (rbV s) (rbN s) (Qf6 s 26))) : Int)) (SV.v (Value.bool false) = bV true)
   (sel (decide (Qhf s > (↑(ByteArray.size s) : Int))) (SV.v (Value.bool false) = bV true) ((((0 : Int) ≤ 0) ∧ (((0 : Int) ≤ (Option.getD (some (Qhf s)) (↑(ByteArray.size s) : Int))) ∧ (((Option.getD (some (Qhf s)) (↑(ByteArray.size s) : Int)) : Int) ≤ ((↑(ByteArray.size s) : Int))))) ∧
   (sel (!ByteArray.extract s 0 (Int.toNat (Option.getD (some (Qhf s)) (↑(ByteArray.size s) : Int))) == Q7c (rbV s) (rbN s) (Qf6 s 26)) (SV.v (Value.bool false) = bV true)
   (sel (Qhf s != IntKind.wrap IntKind.i64 (120 + IntKind.wrap IntKind.i64 (16 * (↑(rbN s) : Int)))) (SV.v (Value.bool false) = bV true) (SV.v (Value.bool true) = bV true))))))) := by
 have ok : (bdP s 0).bad = false := ok_of Zgs (e := Q15 s) rfl (by simpa using hb)
 obtain ⟨⟨f1, f2⟩, ⟨f3, f4⟩, f5⟩ := Q5u ok
 have e1 : rbV s = bdV s 0 := by unfold rbV; rw [ok]; rfl
 have e2 : rbN s = shC s 0 := by unfold rbN; rw [ok]; rfl
 have e3 : Qhf s = ((120 + 16 * shC s 0 : Nat) : Int) := by unfold Qhf; rw [ok]; exact Q5v s
 have f5 : byt (Qum (bdV s 0) (shC s 0) (Qf6 s 26)) = (byt s).take (120 + 16 * shC s 0) := f5
 have eT : Q7c (bdV s 0) (shC s 0) (Qf6 s 26) = Qum (bdV s 0) (shC s 0) (Qf6 s 26) := by unfold Q7c; rw [f3]; rfl
 have eE : boE (bdV s 0) (shC s 0) = 0 := by unfold boE; rw [f3]; rfl
 rw [e1, e2, e3, eT, eE]
 generalize Qum (bdV s 0) (shC s 0) (Qf6 s 26) = t at f5 ⊢
 have hl : t.size = 120 + 16 * shC s 0 := by
   rw [← Qmd, f5, List.length_take, Qmd]
   omega
 have hx : s.extract 0 (120 + 16 * shC s 0) = t := Qro (by rw [Qul, List.drop_zero, f5])
 generalize shC s 0 = n at *
 rw [show Option.getD (some ((120 + 16 * n : Nat) : Int)) (s.size : Int) = ((120 + 16 * n : Nat) : Int) from rfl, Int.toNat_natCast, hx, hl]
 have w : IntKind.i64.wrap (120 + IntKind.i64.wrap (16 * (n : Int))) = ((120 + 16 * n : Nat) : Int) := by
   rw [Qbn (n := 16 * (n : Int)) ⟨by omega, by omega⟩, Qbn ⟨by omega, by omega⟩]
   omega
 rw [w]
 exact ⟨⟨Qhq (by omega) fun i => ⟨Qbe _ _, Qbe _ _⟩, f1, by omega⟩, Qgr rfl (Qgr (by simp) (Qgr (decide_eq_false (by omega)) ⟨⟨Int.le_refl _, by omega, by omega⟩, Qgr (by rw [show (t == t) = true from (Qwh _ _).2 rfl]; rfl) (Qgr (by simp) rfl)⟩))⟩
theorem Qvz (s : ByteArray) (p : Int) : I64 (rdT s p 1) := by
 have h := Qez s p 1
 have h2 : rdT s p 1 < 256 := h.2
 exact ⟨by omega, by omega⟩
theorem Qwv (s : ByteArray) : Qa6 Try.prog Zh7 Qas Try.f15 [.v (.string s)] (Qa0 []) 64 (fun y _ => y = bV true) := by
 rw [Ze8]
 repeat (first | unfold Qp7 | unfold Qp8)
 rw [Qm8 (Qzt s), Qm8 (Qj2 s 0), Qm8 (Qi0 s 0), Qm8 (Qf6 s 26)]
 refine Qab (fun _ => rfl) fun hle => ?_
 have hle := of_decide_eq_false hle
 have hsz : s.size ≤ 1000 := by omega
 refine ⟨by omega, fun c => Qab (fun hc => ?_) fun _ => ?_⟩
 · have ok : (caP s 0).bad = false := ok_of Zjt (e := rkE s) rfl (by simpa using hc)
   obtain ⟨⟨k1, k2, k3, k4⟩, k5, k6⟩ := Q5e ok
   have e1 : rkK s = rdT s 0 1 := by unfold rkK; rw [ok]; rfl
   have e2 : rkV s = caV s 0 := by unfold rkV; rw [ok]; rfl
   have e3 : rkN s = caN s 0 := by unfold rkN; rw [ok]; rfl
   have e4 : Qzt s = Qoi s 0 := rfl
   rw [e1, e2, e3, e4, k5, k6]
   refine ⟨⟨Qhq (by omega) k4, k2, Q44 k1, by omega⟩, Qgr (by rw [show (s == s) = true from (Qwh _ _).2 rfl]; rfl) (Qgr rfl ?_)⟩
   refine ⟨by omega, fun c1 => Qab (fun hr => ?_) fun _ => ⟨by omega, fun c2 => Qab (fun hb => Qrq hsz hb) fun _ => rfl⟩⟩
   have okr : (rpP s 0).bad = false := ok_of Zgo (e := Q14 s) rfl (by simpa using hr)
   obtain ⟨⟨m1, ⟨m2, m2'⟩, m3, m4⟩, m5, m6⟩ := Qr9 okr
   have q1 : rqK s = rdT s 0 1 := by unfold rqK; rw [okr]; rfl
   have q2 : rqE s = rdT s (0 + 1 + 4) 1 := by unfold rqE; rw [okr]; rfl
   have q3 : rqV s = rpV s 0 := by unfold rqV; rw [okr]; rfl
   have q4 : rqN s = rpN s 0 := by unfold rqN; rw [okr]; rfl
   have q5 : rqM s = rpM s 0 := by unfold rqM; rw [okr]; rfl
   rw [q1, q2, q3, q4, q5, m5, m6]
   exact ⟨⟨⟨Qhq (by omega) m3, Qhq (by omega) m4⟩, ⟨m1, Qvz s _, Qvz s _⟩, by omega, by omega⟩, Qgr (by rw [show (s == s) = true from (Qwh _ _).2 rfl]; rfl) (Qgr rfl ⟨by omega, fun c2 => Qab (fun hb => Qrq hsz hb) fun _ => rfl⟩)⟩
 · refine ⟨by omega, fun c1 => Qab (fun hr => ?_) fun _ => ⟨by omega, fun c2 => Qab (fun hb => Qrq hsz hb) fun _ => rfl⟩⟩
   have okr : (rpP s 0).bad = false := ok_of Zgo (e := Q14 s) rfl (by simpa using hr)
   obtain ⟨⟨m1, ⟨m2, m2'⟩, m3, m4⟩, m5, m6⟩ := Qr9 okr
   have q1 : rqK s = rdT s 0 1 := by unfold rqK; rw [okr]; rfl
   have q2 : rqE s = rdT s (0 + 1 + 4) 1 := by unfold rqE; rw [okr]; rfl
   have q3 : rqV s = rpV s 0 := by unfold rqV; rw [okr]; rfl
   have q4 : rqN s = rpN s 0 := by unfold rqN; rw [okr]; rfl
   have q5 : rqM s = rpM s 0 := by unfold rqM; rw [okr]; rfl
   rw [q1, q2, q3, q4, q5, m5, m6]
   exact ⟨⟨⟨Qhq (by omega) m3, Qhq (by omega) m4⟩, ⟨m1, Qvz s _, Qvz s _⟩, by omega, by omega⟩, Qgr (by rw [show (s == s) = true from (Qwh _ _).2 rfl]; rfl) (Qgr rfl ⟨by omega, fun c2 => Qab (fun hb => Qrq hsz hb) fun _ => rfl⟩)⟩
def Q6k : List SV → List Ro → Option (Option Prop × SV)
 | [.v (.string s)], [] => some (some True, bV true)
 | _, _ => none
theorem Qxl : Qcj Try.prog 15 Q6k := Qdg hm Q7s Try.func15 (Λ := fun _ _ => Qas) fun args bs p x hs hp => by
 unfold Q6k at hs
 split at hs <;> try (cases hs; done)
 rename_i s
 have hs := Option.some.inj hs
 obtain ⟨rfl, rfl⟩ := Prod.mk.inj hs
 exact ⟨rfl, [], trivial, Qwv s⟩
end Go.Proofs.Ytjdldadmaaeimaa
end
