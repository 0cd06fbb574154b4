/-
  What the proof uses, part 14.
-/
import Derived.Test.YtjdldadmaaeimaaZs13
set_option maxRecDepth 100000
set_option linter.unusedSimpArgs false
set_option linter.unusedVariables false

section
namespace Go.Proofs.Ytjdldadmaaeimaa
open Go.SE Go.RowKit
theorem gI_win' {e m n x : Nat} {g : Nat → Int} {wh : Bool} : gI (winBlk { elem := e, size := 1, rw := false, lock := false, lit := false, flat := true, n := m, row := fun i => [.v (.int .i64 (g i))], ext := x, whole := wh } 1 0 n) = g := gI_win (e := e) (m := m) (n := n) (x := x) (g := g) (wh := wh)
theorem srEnd_le (n : Nat) (g : Nat → Int) (a : Int) : a + 5 ≤ srEnd n g a ∧ srEnd n g a ≤ a + 21 := by
  have h8 := srC_le n g a
  have e : srEnd n g a = a + 1 + 1 + 1 + 1 + 1 + 2 * (srC n g a : Int) := rfl
  omega
theorem ΓSf_ok : ∀ f g, ΓSf f = some g → g.ok Try.prog f := addCtr_ok ΓSd_ok (hp_ok Try.func62 (by kernel_rfl) (by kernel_rfl) SShape_spec)
theorem sbody_vc {n cap e x : Nat} {g : Nat → Int} {a : Int} {wh : Bool} (hg : gOk n g) (h0 : 0 ≤ a) (h1 : a ≤ 4611686018427380000) : vcFn Try.prog ΓSf noΛ Try.f90 [.vp 0 0] (heapOf [srB n cap a, niB e n g x wh]) 64 (fun y h' => FinE [srB n cap a, niB e n g x wh] (srBdE True n cap g a) y h') := by
  have h_vc := vcSBody n cap e n x g a wh
  repeat (first | unfold vcSBody_4 at h_vc | unfold vcSBody_3 at h_vc | unfold vcSBody_2 at h_vc | unfold vcSBody_1 at h_vc)
  refine Eq.mpr h_vc ?_
  have hE := srEnd_le n g a
  rw [gI_win]
  have hni := niPre_win (e := e) (m := n) (x := x) (wh := wh) hg
  exact ⟨⟨hni, by show (0 : Int) ≤ a; omega, by show ((a) : Int) ≤ 4611686018427387000; omega⟩, fun c => ⟨⟨⟨hni, by show (0 : Int) ≤ srEnd n g (a); omega, by show ((srEnd n g (a) + 1 + 1 + 1 + 1) : Int) ≤ 4611686018427387904; omega⟩, trivial⟩, ⟨⟨⟨hni, by show (0 : Int) ≤ srEnd n g (a) + 1 + 1 + 1 + 1; omega, by show ((srEnd n g (a) + 1 + 1 + 1 + 1 + 1 + 1) : Int) ≤ 4611686018427387904; omega⟩, trivial⟩, ⟨⟨⟨hni, by show (0 : Int) ≤ srEnd n g (a) + 1 + 1 + 1 + 1 + 1 + 1; omega, by show ((srEnd n g (a) + 1 + 1 + 1 + 1 + 1 + 1 + 1) : Int) ≤ 4611686018427387904; omega⟩, trivial⟩, ⟨⟨⟨hni, by show (0 : Int) ≤ srEnd n g (a) + 1 + 1 + 1 + 1 + 1 + 1 + 1; omega, by show ((srEnd n g (a) + 1 + 1 + 1 + 1 + 1 + 1 + 1 + 1) : Int) ≤ 4611686018427387904; omega⟩, trivial⟩, ⟨⟨⟨hni, by show (0 : Int) ≤ srEnd n g (a) + 1 + 1 + 1 + 1 + 1 + 1 + 1 + 1; omega, by show ((srEnd n g (a) + 1 + 1 + 1 + 1 + 1 + 1 + 1 + 1 + 1) : Int) ≤ 4611686018427387904; omega⟩, trivial⟩, ⟨⟨⟨hni, by show (0 : Int) ≤ srEnd n g (a) + 1 + 1 + 1 + 1 + 1 + 1 + 1 + 1 + 1; omega, by show ((srEnd n g (a) + 1 + 1 + 1 + 1 + 1 + 1 + 1 + 1 + 1 + 1) : Int) ≤ 4611686018427387904; omega⟩, by omega, by omega⟩, ⟨⟨⟨hni, by show (0 : Int) ≤ srEnd n g (a) + 1 + 1 + 1 + 1 + 1 + 1 + 1 + 1 + 1 + 1; omega, by show ((srEnd n g (a) + 1 + 1 + 1 + 1 + 1 + 1 + 1 + 1 + 1 + 1 + 1) : Int) ≤ 4611686018427387904; omega⟩, by omega, by omega⟩, ⟨⟨⟨hni, by show (0 : Int) ≤ srEnd n g (a) + 1 + 1 + 1 + 1 + 1 + 1 + 1 + 1 + 1 + 1 + 1; omega, by show ((srEnd n g (a) + 1 + 1 + 1 + 1 + 1 + 1 + 1 + 1 + 1 + 1 + 1 + 1) : Int) ≤ 4611686018427387904; omega⟩, by omega, by omega⟩, ⟨⟨⟨hni, by show (0 : Int) ≤ srEnd n g (a) + 1 + 1 + 1 + 1 + 1 + 1 + 1 + 1 + 1 + 1 + 1 + 1; omega, by show ((srEnd n g (a) + 1 + 1 + 1 + 1 + 1 + 1 + 1 + 1 + 1 + 1 + 1 + 1 + 1) : Int) ≤ 4611686018427387904; omega⟩, by omega, by omega⟩, ⟨c, by repeat (first | exact rfl | refine ⟨rfl, ?_⟩ | refine ⟨⟨rfl, rfl, rfl, rfl⟩, ?_⟩), ⟨rfl, Nat.le_refl _, rfl, rfl⟩, rfl, Nat.le_refl _, fun _ _ => rfl⟩⟩⟩⟩⟩⟩⟩⟩⟩⟩⟩
theorem SBody_spec : HpSpec Try.prog 90 sSrBd := hp_spec hm ΓSf_ok Try.func90 (Λ := fun _ _ => noΛ) fun args bs e hs hp => by
  unfold sSrBd at hs
  split at hs <;> try (cases hs; done)
  rename_i S D
  split at hs <;> try (cases hs; done)
  rename_i n cap a hS
  obtain ⟨ha, he⟩ := bif_some hs
  subst he
  rw [Bool.and_eq_true] at ha
  obtain ⟨h1, h2, h3⟩ := hp
  exact ⟨[srB n cap a, niB D.elem n (gI D) D.ext D.whole], ⟨same_srB ha.1 hS, same_niB ha.2 h1, trivial⟩, sbody_vc (niPre_ok h1) h2 h3⟩
theorem ΓSg_ok : ∀ f g, ΓSg f = some g → g.ok Try.prog f := addCtr_ok (addCtr_ok ΓSd_ok (hp_ok Try.func90 (by kernel_rfl) (by kernel_rfl) SBody_spec)) (pure_ok Try.func39 (by kernel_rfl) (by kernel_rfl) ModH_spec)
theorem eoE_rng (err : Int) : 0 ≤ eoE err ∧ eoE err ≤ 14 := by
  have e : md err 29 = err % 29 := hide_eq _
  have e2 : eoE err = max 0 (md err 29 - 14) := hide_eq _
  rw [e2]
  omega
theorem rhC_int (n : Nat) (g : Nat → Int) : frV 64 (nxV n g (0 + 1)) = (rhC n g : Int) := by
  have h := fr_rng (m := 64) (by omega) (nxV n g (0 + 1))
  have e : rhC n g = (frV 64 (nxV n g (0 + 1))).toNat := hide_eq _
  omega
theorem rhC_le (n : Nat) (g : Nat → Int) : rhC n g ≤ 64 := by
  have h := fr_rng (m := 64) (by omega) (nxV n g (0 + 1))
  have e : rhC n g = (frV 64 (nxV n g (0 + 1))).toNat := hide_eq _
  omega
theorem replyOf_vc {kind err : Int} {n cap e x : Nat} {g : Nat → Int} {wh : Bool} (hk : I64 kind) (herr : I64 err) (hg : gOk n g) : vcFn Try.prog ΓSg (ΛRo kind err n cap e n x g wh) Try.f53 [.v (.int .i64 kind), .v (.int .i64 err), .sl 0 1 0 n cap] (heapOf [niB e n g x wh]) 64 (fun y h' => FinE [niB e n g x wh] (roE True kind err n g) y h') := by
  have h_vc := vcReplyOf kind err n cap e n x g wh
  repeat (first | unfold vcReplyOf_13 at h_vc | unfold vcReplyOf_12 at h_vc | unfold vcReplyOf_11 at h_vc | unfold vcReplyOf_10 at h_vc | unfold vcReplyOf_9 at h_vc | unfold vcReplyOf_8 at h_vc | unfold vcReplyOf_7 at h_vc | unfold vcReplyOf_6 at h_vc | unfold vcReplyOf_5 at h_vc | unfold vcReplyOf_4 at h_vc | unfold vcReplyOf_3 at h_vc | unfold vcReplyOf_2 at h_vc | unfold vcReplyOf_1 at h_vc)
  refine Eq.mpr h_vc ?_
  have hK := coK_rng kind
  have hw : IntKind.i64.wrap (1 + md kind 10) = coK kind := wrap_i64 ⟨by unfold coK at hK; omega, by unfold coK at hK; omega⟩
  have hw2 : max 0 (IntKind.i64.wrap (md err 29 - 14)) = eoE err := by
    have e1 : md err 29 = err % 29 := hide_eq _
    have e2 : eoE err = max 0 (md err 29 - 14) := hide_eq _
    rw [wrap_i64 ⟨by omega, by omega⟩, e2]
  rw [gI_win, hw, hw2]
  try rw [show gW e n x n g wh = g from gI_win']
  have hni := niPre_win (e := e) (m := n) (x := x) (wh := wh) hg
  have hc : ∀ (e : Nat) (wh : Bool), (Nat.beq 1 1 && false == false && !false && !false && (true || !true) && !false && !false && (Nat.beq e 0 || Nat.beq e e) && (!wh || wh)) = true := fun e wh => by
    rw [show Nat.beq e e = true from Nat.beq_refl e, Bool.or_true]; cases wh <;> rfl
  refine ⟨⟨hk, by omega, by omega⟩, ⟨⟨hni, by omega, by omega⟩, by omega, by omega⟩, ⟨herr, by omega, by omega⟩, sel_of (fun h14 => ⟨⟨⟨hni, by omega, by omega⟩, by omega, by omega⟩, 0, trivial, trivial, ⟨rfl, Nat.le_refl _, rfl, ?_⟩, selT_of (hc _ _) ⟨rfl, Nat.le_refl _, fun _ _ => rfl⟩, rfl, Nat.le_refl _, fun _ _ => ?_⟩) fun h14 => ⟨0, trivial, trivial, ⟨rfl, Nat.le_refl _, rfl, ?_⟩, selT_of (hc _ _) ⟨rfl, Nat.le_refl _, fun _ _ => rfl⟩, rfl, Nat.le_refl _, fun _ _ => ?_⟩, fun _ _ => ?_⟩
  · have hp : rpos err = 2 := by unfold rpos; rw [h14]; rfl
    rw [hp]
  · have hv : rvr err n g = frV 1099511627776 (nxV n g (0 + 1)) := by unfold rvr; rw [h14]; rfl
    rw [hv]
    rfl
  · have hp : rpos err = 1 := by unfold rpos; rw [h14]; rfl
    rw [hp]
  · have hv : rvr err n g = 0 := by unfold rvr; rw [h14]; rfl
    rw [hv]
    rfl
  refine sel_of (fun h0 => ?_) fun h0 => ?_
  · have hE0 : (eoE err == 0) = false := by simpa using h0
    have eV : roV kind err n g = wVN err n g := by unfold roV; rw [hE0]; rfl
    have eN : roN kind err n g = 0 := by unfold roN; rw [hE0]; rfl
    have eM : roM kind err n g = 0 := by unfold roM; rw [hE0]; rfl
    rw [eV, eN, eM]
    exact ⟨⟨0, 0⟩, by repeat (first | exact rfl | refine ⟨rfl, ?_⟩ | refine ⟨⟨rfl, rfl, rfl, rfl⟩, ?_⟩), ⟨rfl, rfl, trivial⟩, ⟨rfl, rfl, trivial⟩, trivial⟩
  have hE : eoE err = 0 := by simpa using h0
  have hv0 : rvr err n g = 0 := by unfold rvr; rw [hE]; rfl
  have hp0 : rpos err = 0 + 1 := by unfold rpos; rw [hE]; rfl
  rw [hp0]
  try rw [hv0]
  have hEb := srEnd_le n g (0 + 1 + 1 + 1)
  rcases coK_cases kind with h | h | h | h | h | h | h | h | h | h
  · have eV : roV kind err n g = wV1 n g := by unfold roV; rw [hE, h]; rfl
    have eN : roN kind err n g = 0 := by unfold roN; rw [hE, h]; rfl
    have eM : roM kind err n g = 0 := by unfold roM; rw [hE, h]; rfl
    rw [eV, eN, eM, h]
    exact selT_of rfl <| ⟨⟨⟨hni, by show (0 : Int) ≤ 0 + 1; omega, by show ((0 + 1 + 1 + 1) : Int) ≤ 4611686018427387904; omega⟩, trivial⟩, ⟨⟨⟨hni, by show (0 : Int) ≤ 0 + 1 + 1 + 1; omega, by show ((0 + 1 + 1 + 1 + 1) : Int) ≤ 4611686018427387904; omega⟩, by omega, by omega⟩, selF_of rfl <| ⟨⟨0, 0⟩, by repeat (first | exact rfl | refine ⟨rfl, ?_⟩ | refine ⟨⟨rfl, rfl, rfl, rfl⟩, ?_⟩), ⟨rfl, rfl, trivial⟩, ⟨rfl, rfl, trivial⟩, trivial⟩⟩⟩
  · have eV : roV kind err n g = wV2 n g := by unfold roV; rw [hE, h]; rfl
    have eN : roN kind err n g = 0 := by unfold roN; rw [hE, h]; rfl
    have eM : roM kind err n g = 0 := by unfold roM; rw [hE, h]; rfl
    rw [eV, eN, eM, h]
    exact selF_of rfl <| selF_of rfl <| selF_of rfl <| selT_of rfl <| ⟨⟨⟨hni, by show (0 : Int) ≤ 0 + 1; omega, by show ((0 + 1 + 1 + 1) : Int) ≤ 4611686018427387904; omega⟩, trivial⟩, ⟨⟨0, 0⟩, by repeat (first | exact rfl | refine ⟨rfl, ?_⟩ | refine ⟨⟨rfl, rfl, rfl, rfl⟩, ?_⟩), ⟨rfl, rfl, trivial⟩, ⟨rfl, rfl, trivial⟩, trivial⟩⟩
  · have eV : roV kind err n g = wV3 n g := by unfold roV; rw [hE, h]; rfl
    have eN : roN kind err n g = 0 := by unfold roN; rw [hE, h]; rfl
    have eM : roM kind err n g = 0 := by unfold roM; rw [hE, h]; rfl
    rw [eV, eN, eM, h]
    exact selF_of rfl <| selT_of rfl <| ⟨⟨⟨hni, by show (0 : Int) ≤ 0 + 1; omega, by show ((0 + 1 + 1 + 1) : Int) ≤ 4611686018427387904; omega⟩, trivial⟩, ⟨⟨⟨hni, by show (0 : Int) ≤ 0 + 1 + 1 + 1; omega, by show ((0 + 1 + 1 + 1 + 1) : Int) ≤ 4611686018427387904; omega⟩, by omega, by omega⟩, selF_of rfl <| ⟨⟨0, 0⟩, by repeat (first | exact rfl | refine ⟨rfl, ?_⟩ | refine ⟨⟨rfl, rfl, rfl, rfl⟩, ?_⟩), ⟨rfl, rfl, trivial⟩, ⟨rfl, rfl, trivial⟩, trivial⟩⟩⟩
  · have eV : roV kind err n g = wV4 n g := by unfold roV; rw [hE, h]; rfl
    have eN : roN kind err n g = 0 := by unfold roN; rw [hE, h]; rfl
    have eM : roM kind err n g = 0 := by unfold roM; rw [hE, h]; rfl
    rw [eV, eN, eM, h]
    exact selF_of rfl <| selF_of rfl <| selT_of rfl <| ⟨⟨⟨hni, by show (0 : Int) ≤ 0 + 1; omega, by show ((0 + 1 + 1 + 1) : Int) ≤ 4611686018427387904; omega⟩, trivial⟩, ⟨⟨⟨hni, by show (0 : Int) ≤ 0 + 1 + 1 + 1; omega, by show ((0 + 1 + 1 + 1 + 1) : Int) ≤ 4611686018427387904; omega⟩, by omega, by omega⟩, selT_of rfl <| ⟨⟨⟨hni, by show (0 : Int) ≤ 0 + 1 + 1 + 1 + 1; omega, by show ((0 + 1 + 1 + 1 + 1 + 1) : Int) ≤ 4611686018427387904; omega⟩, by omega, by omega⟩, ⟨⟨0, 0⟩, by repeat (first | exact rfl | refine ⟨rfl, ?_⟩ | refine ⟨⟨rfl, rfl, rfl, rfl⟩, ?_⟩), ⟨rfl, rfl, trivial⟩, ⟨rfl, rfl, trivial⟩, trivial⟩⟩⟩⟩
  · have eV : roV kind err n g = wV5 n g := by unfold roV; rw [hE, h]; rfl
    have eN : roN kind err n g = 0 := by unfold roN; rw [hE, h]; rfl
    have eM : roM kind err n g = 0 := by unfold roM; rw [hE, h]; rfl
    rw [eV, eN, eM, h]
    exact selF_of rfl <| selF_of rfl <| selF_of rfl <| selF_of rfl <| selT_of rfl <| ⟨⟨⟨hni, by show (0 : Int) ≤ 0 + 1; omega, by show ((0 + 1 + 1) : Int) ≤ 4611686018427387904; omega⟩, by omega, by omega⟩, ⟨⟨0, 0⟩, by repeat (first | exact rfl | refine ⟨rfl, ?_⟩ | refine ⟨⟨rfl, rfl, rfl, rfl⟩, ?_⟩), ⟨rfl, rfl, trivial⟩, ⟨rfl, rfl, trivial⟩, trivial⟩⟩
  · have eV : roV kind err n g = wV6 n g := by unfold roV; rw [hE, h]; rfl
    have eN : roN kind err n g = 0 := by unfold roN; rw [hE, h]; rfl
    have eM : roM kind err n g = 0 := by unfold roM; rw [hE, h]; rfl
    rw [eV, eN, eM, h]
    exact selF_of rfl <| selF_of rfl <| selF_of rfl <| selF_of rfl <| selF_of rfl <| selT_of rfl <| ⟨⟨⟨hni, by show (0 : Int) ≤ 0 + 1; omega, by show ((0 + 1 + 1) : Int) ≤ 4611686018427387904; omega⟩, by omega, by omega⟩, ⟨⟨0, 0⟩, by repeat (first | exact rfl | refine ⟨rfl, ?_⟩ | refine ⟨⟨rfl, rfl, rfl, rfl⟩, ?_⟩), ⟨rfl, rfl, trivial⟩, ⟨rfl, rfl, trivial⟩, trivial⟩⟩
  · have eV : roV kind err n g = wV7 n g := by unfold roV; rw [hE, h]; rfl
    have eN : roN kind err n g = srC n g (0 + 1 + 1 + 1) := by unfold roN; rw [hE, h]; rfl
    have eM : roM kind err n g = 0 := by unfold roM; rw [hE, h]; rfl
    rw [eV, eN, eM, h]
    exact selF_of rfl <| selF_of rfl <| selF_of rfl <| selF_of rfl <| selF_of rfl <| selF_of rfl <| selT_of rfl <| ⟨⟨⟨hni, by show (0 : Int) ≤ 0 + 1; omega, by show ((0 + 1 + 1 + 1) : Int) ≤ 4611686018427387904; omega⟩, trivial⟩, ⟨⟨hni, by show (0 : Int) ≤ 0 + 1 + 1 + 1; omega, by show ((0 + 1 + 1 + 1) : Int) ≤ 4611686018427380000; omega⟩, fun c => ⟨⟨c, 0⟩, by repeat (first | exact rfl | refine ⟨rfl, ?_⟩ | refine ⟨⟨rfl, rfl, rfl, rfl⟩, ?_⟩), ⟨rfl, Nat.le_refl _, fun _ _ => rfl⟩, ⟨rfl, rfl, trivial⟩, trivial⟩⟩⟩
  · have eV : roV kind err n g = wV8 n g := by unfold roV; rw [hE, h]; rfl
    have eN : roN kind err n g = 0 := by unfold roN; rw [hE, h]; rfl
    have eM : roM kind err n g = rhC n g := by unfold roM; rw [hE, h]; rfl
    rw [eV, eN, eM, h]
    have hC := rhC_int n g
    have hC64 := rhC_le n g
    refine selF_of rfl <| selF_of rfl <| selF_of rfl <| selF_of rfl <| selF_of rfl <| selF_of rfl <| selF_of rfl <| selT_of rfl <| ⟨⟨⟨hni, by show (0 : Int) ≤ 0 + 1; omega, by show ((0 + 1 + 1) : Int) ≤ 4611686018427387904; omega⟩, by omega, by omega⟩, ⟨⟨0, 0⟩, ⟨Nat.zero_le _, Nat.le_refl _⟩, int_mk ?_, ⟨rfl, Nat.le_refl _, rfl, int_mk ?_⟩, selT_of (hc _ _) ⟨rfl, Nat.le_refl _, fun _ _ => rfl⟩, ⟨rfl, Nat.le_refl _, by repeat (first | exact rfl | refine ⟨rfl, ?_⟩ | refine ⟨⟨rfl, rfl, rfl, rfl⟩, ?_⟩)⟩, ⟨rfl, rfl, trivial⟩, trivial⟩, fun z hz => sel_of (fun hlt => ?_) fun hge => ?_⟩
    · show frV 64 (nxV n g (0 + 1)) = (rhC n g : Int) - ((0 : Nat) : Int)
      omega
    · show (0 + 1 + 1 : Int) = 2 + 2 * ((0 : Nat) : Int)
      omega
    · obtain ⟨hz1, hz2⟩ := hz
      have hlt := of_decide_eq_true hlt
      have hlt : z.i < rhC n g := by omega
      refine ⟨⟨⟨hni, by omega, by show (2 + 2 * (z.i : Int) + 1 + 1) ≤ _; omega⟩, trivial⟩, ⟨by omega, by omega, fun _ _ => trivial⟩, fun c => ⟨⟨z.i + 1, z.i + 1 + c⟩, ⟨⟨hlt, by show z.i + 1 ≤ z.i + 1 + c; omega⟩, int_mk ?_, ⟨rfl, Nat.le_refl _, rfl, int_mk ?_⟩, selT_of (hc _ _) ⟨rfl, Nat.le_refl _, fun _ _ => rfl⟩, ⟨rfl, Nat.le_refl _, by repeat (first | exact rfl | refine ⟨rfl, ?_⟩ | refine ⟨⟨rfl, rfl, rfl, rfl⟩, ?_⟩)⟩, rfl, Nat.le_refl _, fun i hi => ?_⟩, by show rhC n g - (z.i + 1) < rhC n g - z.i; omega⟩⟩
      · show IntKind.i64.wrap _ = (rhC n g : Int) - ((z.i + 1 : Nat) : Int)
        rw [wrap_i64 ⟨by omega, by omega⟩]; omega
      · show 2 + 2 * (z.i : Int) + 1 + 1 = 2 + 2 * ((z.i + 1 : Nat) : Int)
        omega
      · have hi : i < z.i + 1 := hi
        by_cases hik : i < z.i
        · rw [blt_true hik, Nat.zero_add]
          rfl
        · have hik : i = z.i := by omega
          subst hik
          rw [blt_false (Nat.lt_irrefl _)]
          rfl
    · obtain ⟨hz1, hz2⟩ := hz
      have hge := of_decide_eq_false hge
      have hn : z.i = rhC n g := by omega
      rw [hn] at hz2 ⊢
      refine ⟨⟨0, z.c - rhC n g⟩, ?_, ⟨rfl, rfl, trivial⟩, rfl, by show rhC n g + (z.c - rhC n g) ≤ z.c; omega, fun _ _ => rfl⟩
      have hcc : rhC n g + (z.c - rhC n g) = z.c := by omega
      have hsl : SV.sl 40 2 0 (rhC n g) z.c = SV.sl 40 2 0 (rhC n g) (rhC n g + (z.c - rhC n g)) := by rw [hcc]
      repeat (first | exact rfl | refine ⟨rfl, ?_⟩ | refine ⟨⟨rfl, rfl, rfl, rfl⟩, ?_⟩ | refine ⟨hsl, ?_⟩)
  · have eV : roV kind err n g = wV9 n g := by unfold roV; rw [hE, h]; rfl
    have eN : roN kind err n g = 0 := by unfold roN; rw [hE, h]; rfl
    have eM : roM kind err n g = 0 := by unfold roM; rw [hE, h]; rfl
    rw [eV, eN, eM, h]
    refine selF_of rfl <| selF_of rfl <| selF_of rfl <| selF_of rfl <| selF_of rfl <| selF_of rfl <| selF_of rfl <| selF_of rfl <| selT_of rfl <| ⟨⟨⟨hni, by show (0 : Int) ≤ 0 + 1; omega, by show ((0 + 1 + 1) : Int) ≤ 4611686018427387904; omega⟩, by omega, by omega⟩, sel_of (fun hh => ?_) fun hh => ?_⟩
    · have e9 : wV9 n g = wVh n g := by
        unfold wV9
        rw [show decide (0 < frV 2 (nxV n g (0 + 1))) = true from hh]
        rfl
      rw [e9]
      exact ⟨⟨⟨hni, by show (0 : Int) ≤ 0 + 1 + 1; omega, by show ((0 + 1 + 1 + 1 + 1) : Int) ≤ 4611686018427387904; omega⟩, trivial⟩, ⟨⟨⟨hni, by show (0 : Int) ≤ 0 + 1 + 1 + 1 + 1; omega, by show ((0 + 1 + 1 + 1 + 1 + 1) : Int) ≤ 4611686018427387904; omega⟩, trivial⟩, ⟨⟨⟨hni, by show (0 : Int) ≤ 0 + 1 + 1 + 1 + 1 + 1; omega, by show ((0 + 1 + 1 + 1 + 1 + 1 + 1 + 1) : Int) ≤ 4611686018427387904; omega⟩, trivial⟩, ⟨⟨0, 0⟩, by repeat (first | exact rfl | refine ⟨rfl, ?_⟩ | refine ⟨⟨rfl, rfl, rfl, rfl⟩, ?_⟩), ⟨rfl, rfl, trivial⟩, ⟨rfl, rfl, trivial⟩, trivial⟩⟩⟩⟩
    · have e9 : wV9 n g = wV8 n g := by
        unfold wV9
        rw [show decide (0 < frV 2 (nxV n g (0 + 1))) = false from hh]
        rfl
      rw [e9]
      exact ⟨⟨0, 0⟩, by repeat (first | exact rfl | refine ⟨rfl, ?_⟩ | refine ⟨⟨rfl, rfl, rfl, rfl⟩, ?_⟩), ⟨rfl, rfl, trivial⟩, ⟨rfl, rfl, trivial⟩, trivial⟩
  · have eV : roV kind err n g = wV10 n g := by unfold roV; rw [hE, h]; rfl
    have eN : roN kind err n g = 0 := by unfold roN; rw [hE, h]; rfl
    have eM : roM kind err n g = 0 := by unfold roM; rw [hE, h]; rfl
    rw [eV, eN, eM, h]
    exact selF_of rfl <| selF_of rfl <| selF_of rfl <| selF_of rfl <| selF_of rfl <| selF_of rfl <| selF_of rfl <| selF_of rfl <| selF_of rfl <| selT_of rfl <| ⟨⟨⟨hni, by show (0 : Int) ≤ 0 + 1; omega, by show ((0 + 1 + 1) : Int) ≤ 4611686018427387904; omega⟩, by omega, by omega⟩, ⟨⟨0, 0⟩, by repeat (first | exact rfl | refine ⟨rfl, ?_⟩ | refine ⟨⟨rfl, rfl, rfl, rfl⟩, ?_⟩), ⟨rfl, rfl, trivial⟩, ⟨rfl, rfl, trivial⟩, trivial⟩⟩
theorem ReplyOf_spec : HpSpec Try.prog 53 sReplyOf := hp_spec hm ΓSg_ok Try.func53 (Λ := fun args bs => match args, bs with
    | [.v (.int _ kind), .v (.int _ err), .sl _ _ _ n cap], [D] => ΛRo kind err n cap D.elem n D.ext (gI D) D.whole
    | _, _ => noΛ) fun args bs e hs hp => by
  unfold sReplyOf at hs
  split at hs <;> try (cases hs; done)
  rename_i kind err n cap D
  obtain ⟨ha, he⟩ := bif_some hs
  subst he
  obtain ⟨h1, h2, h3⟩ := hp
  exact ⟨[niB D.elem n (gI D) D.ext D.whole], ⟨same_niB ha h1, trivial⟩, replyOf_vc h2 h3 (niPre_ok h1)⟩
end Go.Proofs.Ytjdldadmaaeimaa
end
section
namespace Go.Proofs.Ytjdldadmaaeimaa
open Go.SE Go.RowKit
def poB (b : BV) : List Int := vecL b.p0v b.p0f b.p1v b.p1f ++ (numL b.p2v b.p2f ++ numL b.p3v b.p3f)
def voB (b : BV) : List Int := vecL b.v0v b.v0f b.v1v b.v1f
def wmB (b : BV) : List Int := numL b.w0v b.w0f ++ numL b.m0v b.m0f ++ numL b.m1v b.m1f
def bmk (b : BV) : Int := (bif b.asl then 1 else 0) + (bif b.flt then 2 else 0)
def boT (b : BV) : List Int := poB b ++ (voB b ++ (wmB b ++ (c4 b.st ++ ([bmk b] ++ i8 b.bv))))
def boL (b : BV) (n : Nat) (x y : Nat → Int) : List Int := shL b.sk b.sr b.sw b.sh n x y ++ boT b
def boN (n : Nat) : Nat := shN n + 94
def boBad (b : BV) (n : Nat) : Bool := shBad b.sk n || ((isMin b.p0v || isMin b.p1v || (isMin b.p2v || isMin b.p3v)) || ((isMin b.v0v || isMin b.v1v) || ((isMin b.w0v || isMin b.m0v || isMin b.m1v) || (notIn b.st 2147483647 || notIn b.bv 1099511627776))))
def bvOk (b : BV) : Prop := I64 b.sk ∧ I64 b.sr ∧ I64 b.sw ∧ I64 b.sh ∧ I64 b.p0v ∧ I64 b.p1v ∧ I64 b.p2v ∧ I64 b.p3v ∧ I64 b.v0v ∧ I64 b.v1v ∧ I64 b.w0v ∧ I64 b.m0v ∧ I64 b.m1v ∧ I64 b.st ∧ I64 b.bv
def rvOk (c : RV) : Prop := I64 c.id ∧ I64 c.bs ∧ I64 c.bg ∧ I64 c.ver ∧ I64 c.gr ∧ I64 c.htv ∧ I64 c.x0v ∧ I64 c.x1v ∧ I64 c.cnt ∧ bvOk c.o
def NB2 : Nat := 800000000
def ΓPb : Ctrs := addCtr (addCtr ΓG0 118 (hpCtr true sSmall)) 97 (hpCtr true sShape)
@[reducible] noncomputable def vcBodyU_1 (n0 : Nat) (g : Nat→Int) (o : BV) (n : Nat) (x : Nat→Int) (y : Nat→Int) := (fun i => SE.byteOf [SV.v (.int .u8 (apG (n0 + shN n + 36 + 18) (fun i => SE.byteOf [SV.v (.int .u8 (apG (n0 + shN n + 36) (fun i => SE.byteOf [SV.v (.int .u8 (apG (n0 + shN n) (fun i => SE.byteOf [SV.v (.int .u8 (apG n0 (fun i => SE.byteOf [SV.v (.int .u8 (g i))]) (shL (BV.sk o) (BV.sr o) (BV.sw o) (BV.sh o) n (fun i => pX [SV.v (.int .i64 (x (0 + i))),SV.v (.int .i64 (y (0 + i)))]) fun i => pY [SV.v (.int .i64 (x (0 + i))),SV.v (.int .i64 (y (0 + i)))]) i))]) (vecL (BV.p0v o) (BV.p0f o) (BV.p1v o) (BV.p1f o)++(numL (BV.p2v o) (BV.p2f o)++numL (BV.p3v o) (BV.p3f o))) i))]) (vecL (BV.v0v o) (BV.v0f o) (BV.v1v o) (BV.v1f o)) i))]) (numsL (fun i => nV [SV.v (.int .i64 (bop (Nat.beq (0 + i) 0) (BV.w0v o) (bop (Nat.beq (0 + i) 1) (BV.m0v o) (BV.m1v o)))),SV.v (.bool (bop (Nat.beq (0 + i) 0) (BV.w0f o) (bop (Nat.beq (0 + i) 1) (BV.m0f o) (BV.m1f o))))]) (fun i => nF [SV.v (.int .i64 (bop (Nat.beq (0 + i) 0) (BV.w0v o) (bop (Nat.beq (0 + i) 1) (BV.m0v o) (BV.m1v o)))),SV.v (.bool (bop (Nat.beq (0 + i) 0) (BV.w0f o) (bop (Nat.beq (0 + i) 1) (BV.m0f o) (BV.m1f o))))]) 3) i))])
@[reducible] noncomputable def vcBodyU_2 (b : Bool) (o : BV) (n : Nat) := ((SV.v (.bool (b||shBad (BV.sk o) n||(isMin (BV.p0v o)||isMin (BV.p1v o)||(isMin (BV.p2v o)||isMin (BV.p3v o)))||(isMin (BV.v0v o)||isMin (BV.v1v o))||anyMin (fun i => nV [SV.v (.int .i64 (bop (Nat.beq (0 + i) 0) (BV.w0v o) (bop (Nat.beq (0 + i) 1) (BV.m0v o) (BV.m1v o)))),SV.v (.bool (bop (Nat.beq (0 + i) 0) (BV.w0f o) (bop (Nat.beq (0 + i) 1) (BV.m0f o) (BV.m1f o))))]) 3||notIn (BV.st o) 2147483647||false||notIn (BV.bv o) 1099511627776))) = (SV.v (.bool (b||boBad o n))))
@[reducible] noncomputable def vcBodyU_3 (n0 : Nat) (g : Nat→Int) (o : BV) (n : Nat) (x : Nat→Int) (y : Nat→Int) := (fun i => SE.byteOf [SV.v (.int .u8 (apG (n0 + shN n + 36 + 18 + 27) (vcBodyU_1 n0 g o n x y) (be (BV.st o % 4294967296) 4) i))])
@[reducible] noncomputable def vcBodyU_4 (n0 : Nat) (g : Nat→Int) (o : BV) (n : Nat) (x : Nat→Int) (y : Nat→Int) := (fun i => SE.byteOf [SV.v (.int .u8 (apG n0 (fun i => SE.byteOf [SV.v (.int .u8 (g i))]) (shL (BV.sk o) (BV.sr o) (BV.sw o) (BV.sh o) n (fun i => pX [SV.v (.int .i64 (x (0 + i))),SV.v (.int .i64 (y (0 + i)))]) fun i => pY [SV.v (.int .i64 (x (0 + i))),SV.v (.int .i64 (y (0 + i)))]) i))])
theorem vcBodyU (b : Bool) (n0 : Nat) (g : Nat→Int) (c : Nat) (o : BV) (e n m cap xt : Nat) (x y : Nat→Int) (wh : Bool) : (vcFn Try.prog ΓPb noΛ Try.f93 [.vp 0 0,boS o (.sl 2 2 0 n cap)] (heapOf [wB (some b) false (.sl 1 1 0 n0 c),bG n0 g c,ptB e m x y xt wh]) 64 (fun y' h' => FinE [wB (some b) false (.sl 1 1 0 n0 c),bG n0 g c,ptB e m x y xt wh] (apE (.used (some b) n0 g c True) 0 True (boN n) (boL o n x y) (boBad o n)) y' h')) =
((((bytesOk n0 c {elem:=5,size:=1,rw:=true,lock:=false,lit:=false,flat:=true,n:=n0,row:=fun i => [SV.v (.int .u8 (g i))],ext:=c})∧((n0 : Nat) ≤ NB1))∧((((I64 (BV.sk o))∧((I64 (BV.sr o))∧((I64 (BV.sw o))∧(I64 (BV.sh o)))))∧(((n : Nat) = n)∧((n : Nat) < 100)))∧(∀ i : Nat,(((i : Nat) < n)→(isPair [SV.v (.int .i64 (x (0 + i))),SV.v (.int .i64 (y (0 + i)))])))))∧(∀ c_1 : Nat,((((bytesOk (n0 + shN n) (n0 + shN n + c_1) {elem:=5,size:=1,rw:=true,lock:=false,lit:=false,flat:=true,n:=n0 + shN n,row:=fun i => [SV.v (.int .u8 (apG n0 (fun i => SE.byteOf [SV.v (.int .u8 (g i))]) (shL (BV.sk o) (BV.sr o) (BV.sw o) (BV.sh o) n (fun i => pX [SV.v (.int .i64 (x (0 + i))),SV.v (.int .i64 (y (0 + i)))]) fun i => pY [SV.v (.int .i64 (x (0 + i))),SV.v (.int .i64 (y (0 + i)))]) i))],ext:=n0 + shN n + c_1})∧(((n0 + shN n) : Nat) ≤ NB0))∧((I64 (BV.p0v o))∧((I64 (BV.p1v o))∧((I64 (BV.p2v o))∧(I64 (BV.p3v o))))))∧(∀ c_2 : Nat,((((bytesOk (n0 + shN n + 36) (n0 + shN n + 36 + c_2) {elem:=5,size:=1,rw:=true,lock:=false,lit:=false,flat:=true,n:=n0 + shN n + 36,row:=fun i => [SV.v (.int .u8 (apG (n0 + shN n) (vcBodyU_4 n0 g o n x y) (vecL (BV.p0v o) (BV.p0f o) (BV.p1v o) (BV.p1f o)++(numL (BV.p2v o) (BV.p2f o)++numL (BV.p3v o) (BV.p3f o))) i))],ext:=n0 + shN n + 36 + c_2})∧(((n0 + shN n + 36) : Nat) ≤ NB0))∧((I64 (BV.v0v o))∧(I64 (BV.v1v o))))∧(∀ c_3 : Nat,((((bytesOk (n0 + shN n + 36 + 18) (n0 + shN n + 36 + 18 + c_3) {elem:=5,size:=1,rw:=true,lock:=false,lit:=false,flat:=true,n:=n0 + shN n + 36 + 18,row:=fun i => [SV.v (.int .u8 (apG (n0 + shN n + 36) (fun i => SE.byteOf [SV.v (.int .u8 (apG (n0 + shN n) (vcBodyU_4 n0 g o n x y) (vecL (BV.p0v o) (BV.p0f o) (BV.p1v o) (BV.p1f o)++(numL (BV.p2v o) (BV.p2f o)++numL (BV.p3v o) (BV.p3f o))) i))]) (vecL (BV.v0v o) (BV.v0f o) (BV.v1v o) (BV.v1f o)) i))],ext:=n0 + shN n + 36 + 18 + c_3})∧(((n0 + shN n + 36 + 18) : Nat) ≤ NB0))∧(((3 : Nat) = 3)∧(((1 : Nat) ≤ 3)∧(((3 : Nat) ≤ 100)∧(∀ i : Nat,(((i : Nat) < 3)→(isNum [SV.v (.int .i64 (bop (Nat.beq (0 + i) 0) (BV.w0v o) (bop (Nat.beq (0 + i) 1) (BV.m0v o) (BV.m1v o)))),SV.v (.bool (bop (Nat.beq (0 + i) 0) (BV.w0f o) (bop (Nat.beq (0 + i) 1) (BV.m0f o) (BV.m1f o))))])))))))∧(∀ c_4 : Nat,((((bytesOk (n0 + shN n + 36 + 18 + 27) (n0 + shN n + 36 + 18 + 27 + c_4) {elem:=5,size:=1,rw:=true,lock:=false,lit:=false,flat:=true,n:=n0 + shN n + 36 + 18 + 27,row:=fun i => [SV.v (.int .u8 (apG (n0 + shN n + 36 + 18) (fun i => SE.byteOf [SV.v (.int .u8 (apG (n0 + shN n + 36) (fun i => SE.byteOf [SV.v (.int .u8 (apG (n0 + shN n) (vcBodyU_4 n0 g o n x y) (vecL (BV.p0v o) (BV.p0f o) (BV.p1v o) (BV.p1f o)++(numL (BV.p2v o) (BV.p2f o)++numL (BV.p3v o) (BV.p3f o))) i))]) (vecL (BV.v0v o) (BV.v0f o) (BV.v1v o) (BV.v1f o)) i))]) (numsL (fun i => nV [SV.v (.int .i64 (bop (Nat.beq (0 + i) 0) (BV.w0v o) (bop (Nat.beq (0 + i) 1) (BV.m0v o) (BV.m1v o)))),SV.v (.bool (bop (Nat.beq (0 + i) 0) (BV.w0f o) (bop (Nat.beq (0 + i) 1) (BV.m0f o) (BV.m1f o))))]) (fun i => nF [SV.v (.int .i64 (bop (Nat.beq (0 + i) 0) (BV.w0v o) (bop (Nat.beq (0 + i) 1) (BV.m0v o) (BV.m1v o)))),SV.v (.bool (bop (Nat.beq (0 + i) 0) (BV.w0f o) (bop (Nat.beq (0 + i) 1) (BV.m0f o) (BV.m1f o))))]) 3) i))],ext:=n0 + shN n + 36 + 18 + 27 + c_4})∧(((n0 + shN n + 36 + 18 + 27) : Nat) ≤ M0))∧(I64 (BV.st o)))∧(∀ c_5 : Nat,(sel (BV.asl o) (sel (BV.flt o) ((((bytesOk (n0 + shN n + 36 + 18 + 27 + 4) (n0 + shN n + 36 + 18 + 27 + 4 + c_5) {elem:=5,size:=1,rw:=true,lock:=false,lit:=false,flat:=true,n:=n0 + shN n + 36 + 18 + 27 + 4,row:=fun i => [SV.v (.int .u8 (apG (n0 + shN n + 36 + 18 + 27) (vcBodyU_1 n0 g o n x y) (be (BV.st o % 4294967296) 4) i))],ext:=n0 + shN n + 36 + 18 + 27 + 4 + c_5})∧(((n0 + shN n + 36 + 18 + 27 + 4) : Nat) ≤ M0))∧(I64 3))∧(∀ c_6 : Nat,((((bytesOk (n0 + shN n + 36 + 18 + 27 + 4 + 1) (n0 + shN n + 36 + 18 + 27 + 4 + 1 + c_6) {elem:=5,size:=1,rw:=true,lock:=false,lit:=false,flat:=true,n:=n0 + shN n + 36 + 18 + 27 + 4 + 1,row:=fun i => [SV.v (.int .u8 (apG (n0 + shN n + 36 + 18 + 27 + 4) (vcBodyU_3 n0 g o n x y) [3] i))],ext:=n0 + shN n + 36 + 18 + 27 + 4 + 1 + c_6})∧(((n0 + shN n + 36 + 18 + 27 + 4 + 1) : Nat) ≤ M0))∧(I64 (BV.bv o)))∧(∀ c_7 : Nat,(∃ c_8 : Nat,(True∧((((1 : Nat) = 1)∧(((1 : Nat) ≤ 1)∧(((SV.sl 440 1 0 (n0 + shN n + 36 + 18 + 27 + 4 + 1 + 8) (n0 + shN n + 36 + 18 + 27 + 4 + 1 + 8 + c_7)) = (SV.sl 440 1 0 (n0 + boN n) (n0 + boN n + c_8)))∧(vcBodyU_2 b o n))))∧((((n0 + shN n + 36 + 18 + 27 + 4 + 1 + 8) : Nat) = (n0 + boN n))∧((((n0 + boN n + c_8) : Nat) ≤ (n0 + shN n + 36 + 18 + 27 + 4 + 1 + 8 + c_7))∧(∀ i : Nat,(((i : Nat) < (n0 + boN n))→([(SV.v (.int .u8 (apG (n0 + shN n + 36 + 18 + 27 + 4 + 1) (fun i => SE.byteOf [SV.v (.int .u8 (apG (n0 + shN n + 36 + 18 + 27 + 4) (vcBodyU_3 n0 g o n x y) [3] i))]) (be (BV.bv o % 18446744073709551616) 8) i)))] = [(SV.v (.int .u8 (apG n0 g (boL o n x y) i)))])))))))))))) ((((bytesOk (n0 + shN n + 36 + 18 + 27 + 4) (n0 + shN n + 36 + 18 + 27 + 4 + c_5) {elem:=5,size:=1,rw:=true,lock:=false,lit:=false,flat:=true,n:=n0 + shN n + 36 + 18 + 27 + 4,row:=fun i => [SV.v (.int .u8 (apG (n0 + shN n + 36 + 18 + 27) (vcBodyU_1 n0 g o n x y) (be (BV.st o % 4294967296) 4) i))],ext:=n0 + shN n + 36 + 18 + 27 + 4 + c_5})∧(((n0 + shN n + 36 + 18 + 27 + 4) : Nat) ≤ M0))∧(I64 1))∧(∀ c_6 : Nat,((((bytesOk (n0 + shN n + 36 + 18 + 27 + 4 + 1) (n0 + shN n + 36 + 18 + 27 + 4 + 1 + c_6) {elem:=5,size:=1,rw:=true,lock:=false,lit:=false,flat:=true,n:=n0 + shN n + 36 + 18 + 27 + 4 + 1,row:=fun i => [SV.v (.int .u8 (apG (n0 + shN n + 36 + 18 + 27 + 4) (vcBodyU_3 n0 g o n x y) [1] i))],ext:=n0 + shN n + 36 + 18 + 27 + 4 + 1 + c_6})∧(((n0 + shN n + 36 + 18 + 27 + 4 + 1) : Nat) ≤ M0))∧(I64 (BV.bv o)))∧(∀ c_7 : Nat,(∃ c_8 : Nat,(True∧((((1 : Nat) = 1)∧(((1 : Nat) ≤ 1)∧(((SV.sl 440 1 0 (n0 + shN n + 36 + 18 + 27 + 4 + 1 + 8) (n0 + shN n + 36 + 18 + 27 + 4 + 1 + 8 + c_7)) = (SV.sl 440 1 0 (n0 + boN n) (n0 + boN n + c_8)))∧(vcBodyU_2 b o n))))∧((((n0 + shN n + 36 + 18 + 27 + 4 + 1 + 8) : Nat) = (n0 + boN n))∧((((n0 + boN n + c_8) : Nat) ≤ (n0 + shN n + 36 + 18 + 27 + 4 + 1 + 8 + c_7))∧(∀ i : Nat,(((i : Nat) < (n0 + boN n))→([(SV.v (.int .u8 (apG (n0 + shN n + 36 + 18 + 27 + 4 + 1) (fun i => SE.byteOf [SV.v (.int .u8 (apG (n0 + shN n + 36 + 18 + 27 + 4) (vcBodyU_3 n0 g o n x y) [1] i))]) (be (BV.bv o % 18446744073709551616) 8) i)))] = [(SV.v (.int .u8 (apG n0 g (boL o n x y) i)))]))))))))))))) (sel (BV.flt o) ((((bytesOk (n0 + shN n + 36 + 18 + 27 + 4) (n0 + shN n + 36 + 18 + 27 + 4 + c_5) {elem:=5,size:=1,rw:=true,lock:=false,lit:=false,flat:=true,n:=n0 + shN n + 36 + 18 + 27 + 4,row:=fun i => [SV.v (.int .u8 (apG (n0 + shN n + 36 + 18 + 27) (vcBodyU_1 n0 g o n x y) (be (BV.st o % 4294967296) 4) i))],ext:=n0 + shN n + 36 + 18 + 27 + 4 + c_5})∧(((n0 + shN n + 36 + 18 + 27 + 4) : Nat) ≤ M0))∧(I64 2))∧(∀ c_6 : Nat,((((bytesOk (n0 + shN n + 36 + 18 + 27 + 4 + 1) (n0 + shN n + 36 + 18 + 27 + 4 + 1 + c_6) {elem:=5,size:=1,rw:=true,lock:=false,lit:=false,flat:=true,n:=n0 + shN n + 36 + 18 + 27 + 4 + 1,row:=fun i => [SV.v (.int .u8 (apG (n0 + shN n + 36 + 18 + 27 + 4) (vcBodyU_3 n0 g o n x y) [2] i))],ext:=n0 + shN n + 36 + 18 + 27 + 4 + 1 + c_6})∧(((n0 + shN n + 36 + 18 + 27 + 4 + 1) : Nat) ≤ M0))∧(I64 (BV.bv o)))∧(∀ c_7 : Nat,(∃ c_8 : Nat,(True∧((((1 : Nat) = 1)∧(((1 : Nat) ≤ 1)∧(((SV.sl 440 1 0 (n0 + shN n + 36 + 18 + 27 + 4 + 1 + 8) (n0 + shN n + 36 + 18 + 27 + 4 + 1 + 8 + c_7)) = (SV.sl 440 1 0 (n0 + boN n) (n0 + boN n + c_8)))∧(vcBodyU_2 b o n))))∧((((n0 + shN n + 36 + 18 + 27 + 4 + 1 + 8) : Nat) = (n0 + boN n))∧((((n0 + boN n + c_8) : Nat) ≤ (n0 + shN n + 36 + 18 + 27 + 4 + 1 + 8 + c_7))∧(∀ i : Nat,(((i : Nat) < (n0 + boN n))→([(SV.v (.int .u8 (apG (n0 + shN n + 36 + 18 + 27 + 4 + 1) (fun i => SE.byteOf [SV.v (.int .u8 (apG (n0 + shN n + 36 + 18 + 27 + 4) (vcBodyU_3 n0 g o n x y) [2] i))]) (be (BV.bv o % 18446744073709551616) 8) i)))] = [(SV.v (.int .u8 (apG n0 g (boL o n x y) i)))])))))))))))) ((((bytesOk (n0 + shN n + 36 + 18 + 27 + 4) (n0 + shN n + 36 + 18 + 27 + 4 + c_5) {elem:=5,size:=1,rw:=true,lock:=false,lit:=false,flat:=true,n:=n0 + shN n + 36 + 18 + 27 + 4,row:=fun i => [SV.v (.int .u8 (apG (n0 + shN n + 36 + 18 + 27) (vcBodyU_1 n0 g o n x y) (be (BV.st o % 4294967296) 4) i))],ext:=n0 + shN n + 36 + 18 + 27 + 4 + c_5})∧(((n0 + shN n + 36 + 18 + 27 + 4) : Nat) ≤ M0))∧(I64 0))∧(∀ c_6 : Nat,((((bytesOk (n0 + shN n + 36 + 18 + 27 + 4 + 1) (n0 + shN n + 36 + 18 + 27 + 4 + 1 + c_6) {elem:=5,size:=1,rw:=true,lock:=false,lit:=false,flat:=true,n:=n0 + shN n + 36 + 18 + 27 + 4 + 1,row:=fun i => [SV.v (.int .u8 (apG (n0 + shN n + 36 + 18 + 27 + 4) (vcBodyU_3 n0 g o n x y) [0] i))],ext:=n0 + shN n + 36 + 18 + 27 + 4 + 1 + c_6})∧(((n0 + shN n + 36 + 18 + 27 + 4 + 1) : Nat) ≤ M0))∧(I64 (BV.bv o)))∧(∀ c_7 : Nat,(∃ c_8 : Nat,(True∧((((1 : Nat) = 1)∧(((1 : Nat) ≤ 1)∧(((SV.sl 440 1 0 (n0 + shN n + 36 + 18 + 27 + 4 + 1 + 8) (n0 + shN n + 36 + 18 + 27 + 4 + 1 + 8 + c_7)) = (SV.sl 440 1 0 (n0 + boN n) (n0 + boN n + c_8)))∧(vcBodyU_2 b o n))))∧((((n0 + shN n + 36 + 18 + 27 + 4 + 1 + 8) : Nat) = (n0 + boN n))∧((((n0 + boN n + c_8) : Nat) ≤ (n0 + shN n + 36 + 18 + 27 + 4 + 1 + 8 + c_7))∧(∀ i : Nat,(((i : Nat) < (n0 + boN n))→([(SV.v (.int .u8 (apG (n0 + shN n + 36 + 18 + 27 + 4 + 1) (fun i => SE.byteOf [SV.v (.int .u8 (apG (n0 + shN n + 36 + 18 + 27 + 4) (vcBodyU_3 n0 g o n x y) [0] i))]) (be (BV.bv o % 18446744073709551616) 8) i)))] = [(SV.v (.int .u8 (apG n0 g (boL o n x y) i)))])))))))))))))))))))))))) := by kernel_rfl
def sBody (args : List SV) (bs : List Blk) : Option Eff := match args with
  | [.vp 0 0, .agg l] => match cellsOfB l, bs with
    | some (o, .sl 2 2 0 n _), [B, D, S] => match wrOf [B, D] with
      | some (.used (some b) n0 g c p) => bif okB S then some (apE (.used (some b) n0 g c p) NB2 (bvOk o ∧ spPre n S ∧ n < 100) (boN n) (boL o n (gX S) (gY S)) (boBad o n)) else none
      | _ => none
    | _, _ => none
  | _ => none
def hsL (u v : Nat → Int) : Nat → List Int
  | 0 => []
  | n + 1 => hsL u v n ++ hL (u n) (v n)
def anyH (u v : Nat → Int) : Nat → Bool
  | 0 => false
  | n + 1 => anyH u v n || hBad (u n) (v n)
def rT1 (c : RV) (n : Nat) (x y : Nat → Int) (m : Nat) (u v : Nat → Int) : List Int := hL c.bs c.bg ++ i8 c.ver
def rN1 (n m : Nat) : Nat := 16
def rB1 (c : RV) (n : Nat) (m : Nat) (u v : Nat → Int) : Bool := hBad c.bs c.bg || notIn c.ver 1099511627776
def rT2 (c : RV) (n : Nat) (x y : Nat → Int) (m : Nat) (u v : Nat → Int) : List Int := hL c.bs c.bg
def rN2 (n m : Nat) : Nat := 8
def rB2 (c : RV) (n : Nat) (m : Nat) (u v : Nat → Int) : Bool := hBad c.bs c.bg
def rT3 (c : RV) (n : Nat) (x y : Nat → Int) (m : Nat) (u v : Nat → Int) : List Int := hL c.bs c.bg ++ i8 c.ver
def rN3 (n m : Nat) : Nat := 16
def rB3 (c : RV) (n : Nat) (m : Nat) (u v : Nat → Int) : Bool := hBad c.bs c.bg || notIn c.ver 1099511627776
def rT4 (c : RV) (n : Nat) (x y : Nat → Int) (m : Nat) (u v : Nat → Int) : List Int := hL c.bs c.bg ++ (i8 c.ver ++ c4 c.gr)
def rN4 (n m : Nat) : Nat := 20
def rB4 (c : RV) (n : Nat) (m : Nat) (u v : Nat → Int) : Bool := hBad c.bs c.bg || (notIn c.ver 1099511627776 || notIn c.gr 2147483647)
def rT5 (c : RV) (n : Nat) (x y : Nat → Int) (m : Nat) (u v : Nat → Int) : List Int := c4 c.gr
def rN5 (n m : Nat) : Nat := 4
def rB5 (c : RV) (n : Nat) (m : Nat) (u v : Nat → Int) : Bool := notIn c.gr 2147483647
def rT6 (c : RV) (n : Nat) (x y : Nat → Int) (m : Nat) (u v : Nat → Int) : List Int := c4 c.gr
def rN6 (n m : Nat) : Nat := 4
def rB6 (c : RV) (n : Nat) (m : Nat) (u v : Nat → Int) : Bool := notIn c.gr 2147483647
def rT7 (c : RV) (n : Nat) (x y : Nat → Int) (m : Nat) (u v : Nat → Int) : List Int := hL c.bs c.bg ++ boL c.o n x y
def rN7 (n m : Nat) : Nat := 8 + boN n
def rB7 (c : RV) (n : Nat) (m : Nat) (u v : Nat → Int) : Bool := hBad c.bs c.bg || boBad c.o n
def rT8 (c : RV) (n : Nat) (x y : Nat → Int) (m : Nat) (u v : Nat → Int) : List Int := [(m : Int) % 256] ++ hsL u v m
def rN8 (n m : Nat) : Nat := 1 + 8 * m
def rB8 (c : RV) (n : Nat) (m : Nat) (u v : Nat → Int) : Bool := notIn (m : Int) 64 || anyH u v m
def rT9 (c : RV) (n : Nat) (x y : Nat → Int) (m : Nat) (u v : Nat → Int) : List Int := hL c.bs c.bg ++ (flB c.hit ++ (numL c.htv c.htf ++ numL c.x0v c.x0f ++ numL c.x1v c.x1f))
def rN9 (n m : Nat) : Nat := 36
def rB9 (c : RV) (n : Nat) (m : Nat) (u v : Nat → Int) : Bool := hBad c.bs c.bg || (isMin c.htv || isMin c.x0v || isMin c.x1v)
def rT10 (c : RV) (n : Nat) (x y : Nat → Int) (m : Nat) (u v : Nat → Int) : List Int := c4 c.cnt
def rN10 (n m : Nat) : Nat := 4
def rB10 (c : RV) (n : Nat) (m : Nat) (u v : Nat → Int) : Bool := notIn c.cnt 2147483647
def rNK (k e : Int) (n m : Nat) : Nat := bif e == 0 then (bif decide (k = 1) then rN1 n m else (bif decide (k = 2) then rN2 n m else (bif decide (k = 3) then rN3 n m else (bif decide (k = 4) then rN4 n m else (bif decide (k = 5) then rN5 n m else (bif decide (k = 6) then rN6 n m else (bif decide (k = 7) then rN7 n m else (bif decide (k = 8) then rN8 n m else (bif decide (k = 9) then rN9 n m else (bif decide (k = 10) then rN10 n m else (0))))))))))) else (bif e == 14 then 8 else 0)
def rTK (k e : Int) (c : RV) (n : Nat) (x y : Nat → Int) (m : Nat) (u v : Nat → Int) : List Int := bif e == 0 then (bif decide (k = 1) then rT1 c n x y m u v else (bif decide (k = 2) then rT2 c n x y m u v else (bif decide (k = 3) then rT3 c n x y m u v else (bif decide (k = 4) then rT4 c n x y m u v else (bif decide (k = 5) then rT5 c n x y m u v else (bif decide (k = 6) then rT6 c n x y m u v else (bif decide (k = 7) then rT7 c n x y m u v else (bif decide (k = 8) then rT8 c n x y m u v else (bif decide (k = 9) then rT9 c n x y m u v else (bif decide (k = 10) then rT10 c n x y m u v else ([]))))))))))) else (bif e == 14 then i8 c.ver else [])
def rBK (k e : Int) (c : RV) (n m : Nat) (u v : Nat → Int) : Bool := bif e == 0 then (bif decide (k = 1) then rB1 c n m u v else (bif decide (k = 2) then rB2 c n m u v else (bif decide (k = 3) then rB3 c n m u v else (bif decide (k = 4) then rB4 c n m u v else (bif decide (k = 5) then rB5 c n m u v else (bif decide (k = 6) then rB6 c n m u v else (bif decide (k = 7) then rB7 c n m u v else (bif decide (k = 8) then rB8 c n m u v else (bif decide (k = 9) then rB9 c n m u v else (bif decide (k = 10) then rB10 c n m u v else (false))))))))))) else (bif e == 14 then notIn c.ver 1099511627776 else false)
def rpL (k e : Int) (c : RV) (T : List Int) : List Int := [k % 256] ++ (c4 c.id ++ ([e % 256] ++ T))
def rpB (e : Int) (c : RV) (b : Bool) : Bool := notIn c.id 2147483647 || (notIn e 14 || b)
def ΓPr : Ctrs := addCtr (addCtr ΓG0 118 (hpCtr true sSmall)) 93 (hpCtr true sBody)
noncomputable def ΛRw8 (b : Bool) (L : List Int) (m : Nat) (u v : Nat → Int) : Nat → Option LoopSpec := addLoopN noΛ Try.f78 1 NX (fun z => z.i ≤ m ∧ 7 + 8 * z.i ≤ z.c) (fun z => m - z.i) [(90, fun z => .v (.int .i64 z.i))] [(0, fun z => wB (some (b || anyH u v z.i)) false (.sl 40 1 0 (7 + 8 * z.i) z.c))] [(40, fun z => bG (7 + 8 * z.i) (fun i => (L ++ hsL u v z.i).getD i 0) z.c, inVar 0 0)]
theorem vcRw1 (b : Bool) (c : RV) (e1 n cap xt : Nat) (x y : Nat→Int) (wh : Bool) (e2 m cp xt2 : Nat) (u v : Nat→Int) (wh2 : Bool) : (vcFn Try.prog ΓPr noΛ Try.f78 [.vp 0 0,reS 1 0 c (.sl 1 2 0 n cap) (.sl 2 2 0 m cp)] (heapOf [wB (some b) true nilS,ptB e1 n x y xt wh,ptB e2 m u v xt2 wh2]) 64 (fun y' h' => FinE [wB (some b) true nilS,ptB e1 n x y xt wh,ptB e2 m u v xt2 wh2] (apE (.fresh (some b)) 0 True (6 + rN1 n m) (rpL 1 0 c (rT1 c n x y m u v)) (rpB 0 c (rB1 c n m u v))) y' h')) =
((I64 1)∧(∀ c_1 : Nat,((((bytesOk 1 (1 + c_1) {elem:=5,size:=1,rw:=true,lock:=false,lit:=false,flat:=true,n:=1,row:=fun i => [SV.v (.int .u8 ((fun i => List.getD [1] i 0) i))],ext:=1 + c_1})∧((1 : Nat) ≤ M0))∧(I64 (RV.id c)))∧(∀ c_2 : Nat,((((bytesOk 5 (5 + c_2) {elem:=5,size:=1,rw:=true,lock:=false,lit:=false,flat:=true,n:=5,row:=fun i => [SV.v (.int .u8 (apG 1 (fun i => SE.byteOf [SV.v (.int .u8 ((fun i => List.getD [1] i 0) i))]) (be (RV.id c % 4294967296) 4) i))],ext:=5 + c_2})∧((5 : Nat) ≤ M0))∧(I64 0))∧(∀ c_3 : Nat,((((bytesOk 6 (6 + c_3) {elem:=5,size:=1,rw:=true,lock:=false,lit:=false,flat:=true,n:=6,row:=fun i => [SV.v (.int .u8 (apG 5 (fun i => SE.byteOf [SV.v (.int .u8 (apG 1 (fun i => SE.byteOf [SV.v (.int .u8 ((fun i => List.getD [1] i 0) i))]) (be (RV.id c % 4294967296) 4) i))]) [0] i))],ext:=6 + c_3})∧((6 : Nat) ≤ NB0))∧((I64 (RV.bs c))∧(I64 (RV.bg c))))∧(∀ c_4 : Nat,((((bytesOk 14 (14 + c_4) {elem:=5,size:=1,rw:=true,lock:=false,lit:=false,flat:=true,n:=14,row:=fun i => [SV.v (.int .u8 (apG 6 (fun i => SE.byteOf [SV.v (.int .u8 (apG 5 (fun i => SE.byteOf [SV.v (.int .u8 (apG 1 (fun i => SE.byteOf [SV.v (.int .u8 ((fun i => List.getD [1] i 0) i))]) (be (RV.id c % 4294967296) 4) i))]) [0] i))]) (c4 (RV.bs c)++c4 (RV.bg c)) i))],ext:=14 + c_4})∧((14 : Nat) ≤ M0))∧(I64 (RV.ver c)))∧(∀ c_5 : Nat,(∃ c_6 : Nat,(True∧((((1 : Nat) = 1)∧(((1 : Nat) ≤ 1)∧(((SV.sl 368 1 0 22 (22 + c_5)) = (SV.sl 368 1 0 22 (6 + rN1 n m + c_6)))∧((SV.v (.bool (b||false||notIn (RV.id c) 2147483647||false||(notIn (RV.bs c) 2147483647||notIn (RV.bg c) 2147483647)||notIn (RV.ver c) 1099511627776))) = (SV.v (.bool (b||rpB 0 c (rB1 c n m u v))))))))∧(((22 : Nat) = (6 + rN1 n m))∧((((6 + rN1 n m + c_6) : Nat) ≤ (22 + c_5))∧(∀ i : Nat,(((i : Nat) < (6 + rN1 n m))→([(SV.v (.int .u8 (apG 14 (fun i => SE.byteOf [SV.v (.int .u8 (apG 6 (fun i => SE.byteOf [SV.v (.int .u8 (apG 5 (fun i => SE.byteOf [SV.v (.int .u8 (apG 1 (fun i => SE.byteOf [SV.v (.int .u8 ((fun i => List.getD [1] i 0) i))]) (be (RV.id c % 4294967296) 4) i))]) [0] i))]) (c4 (RV.bs c)++c4 (RV.bg c)) i))]) (be (RV.ver c % 18446744073709551616) 8) i)))] = [(SV.v (.int .u8 (List.getD (rpL 1 0 c (rT1 c n x y m u v)) i 0)))])))))))))))))))))) := by kernel_rfl
theorem vcRw2 (b : Bool) (c : RV) (e1 n cap xt : Nat) (x y : Nat→Int) (wh : Bool) (e2 m cp xt2 : Nat) (u v : Nat→Int) (wh2 : Bool) : (vcFn Try.prog ΓPr noΛ Try.f78 [.vp 0 0,reS 2 0 c (.sl 1 2 0 n cap) (.sl 2 2 0 m cp)] (heapOf [wB (some b) true nilS,ptB e1 n x y xt wh,ptB e2 m u v xt2 wh2]) 64 (fun y' h' => FinE [wB (some b) true nilS,ptB e1 n x y xt wh,ptB e2 m u v xt2 wh2] (apE (.fresh (some b)) 0 True (6 + rN2 n m) (rpL 2 0 c (rT2 c n x y m u v)) (rpB 0 c (rB2 c n m u v))) y' h')) =
((I64 2)∧(∀ c_1 : Nat,((((bytesOk 1 (1 + c_1) {elem:=5,size:=1,rw:=true,lock:=false,lit:=false,flat:=true,n:=1,row:=fun i => [SV.v (.int .u8 ((fun i => List.getD [2] i 0) i))],ext:=1 + c_1})∧((1 : Nat) ≤ M0))∧(I64 (RV.id c)))∧(∀ c_2 : Nat,((((bytesOk 5 (5 + c_2) {elem:=5,size:=1,rw:=true,lock:=false,lit:=false,flat:=true,n:=5,row:=fun i => [SV.v (.int .u8 (apG 1 (fun i => SE.byteOf [SV.v (.int .u8 ((fun i => List.getD [2] i 0) i))]) (be (RV.id c % 4294967296) 4) i))],ext:=5 + c_2})∧((5 : Nat) ≤ M0))∧(I64 0))∧(∀ c_3 : Nat,((((bytesOk 6 (6 + c_3) {elem:=5,size:=1,rw:=true,lock:=false,lit:=false,flat:=true,n:=6,row:=fun i => [SV.v (.int .u8 (apG 5 (fun i => SE.byteOf [SV.v (.int .u8 (apG 1 (fun i => SE.byteOf [SV.v (.int .u8 ((fun i => List.getD [2] i 0) i))]) (be (RV.id c % 4294967296) 4) i))]) [0] i))],ext:=6 + c_3})∧((6 : Nat) ≤ NB0))∧((I64 (RV.bs c))∧(I64 (RV.bg c))))∧(∀ c_4 : Nat,(∃ c_5 : Nat,(True∧((((1 : Nat) = 1)∧(((1 : Nat) ≤ 1)∧(((SV.sl 352 1 0 14 (14 + c_4)) = (SV.sl 352 1 0 14 (6 + rN2 n m + c_5)))∧((SV.v (.bool (b||false||notIn (RV.id c) 2147483647||false||(notIn (RV.bs c) 2147483647||notIn (RV.bg c) 2147483647)))) = (SV.v (.bool (b||rpB 0 c (rB2 c n m u v))))))))∧(((14 : Nat) = (6 + rN2 n m))∧((((6 + rN2 n m + c_5) : Nat) ≤ (14 + c_4))∧(∀ i : Nat,(((i : Nat) < (6 + rN2 n m))→([(SV.v (.int .u8 (apG 6 (fun i => SE.byteOf [SV.v (.int .u8 (apG 5 (fun i => SE.byteOf [SV.v (.int .u8 (apG 1 (fun i => SE.byteOf [SV.v (.int .u8 ((fun i => List.getD [2] i 0) i))]) (be (RV.id c % 4294967296) 4) i))]) [0] i))]) (c4 (RV.bs c)++c4 (RV.bg c)) i)))] = [(SV.v (.int .u8 (List.getD (rpL 2 0 c (rT2 c n x y m u v)) i 0)))])))))))))))))))) := by kernel_rfl
theorem vcRw3 (b : Bool) (c : RV) (e1 n cap xt : Nat) (x y : Nat→Int) (wh : Bool) (e2 m cp xt2 : Nat) (u v : Nat→Int) (wh2 : Bool) : (vcFn Try.prog ΓPr noΛ Try.f78 [.vp 0 0,reS 3 0 c (.sl 1 2 0 n cap) (.sl 2 2 0 m cp)] (heapOf [wB (some b) true nilS,ptB e1 n x y xt wh,ptB e2 m u v xt2 wh2]) 64 (fun y' h' => FinE [wB (some b) true nilS,ptB e1 n x y xt wh,ptB e2 m u v xt2 wh2] (apE (.fresh (some b)) 0 True (6 + rN3 n m) (rpL 3 0 c (rT3 c n x y m u v)) (rpB 0 c (rB3 c n m u v))) y' h')) =
((I64 3)∧(∀ c_1 : Nat,((((bytesOk 1 (1 + c_1) {elem:=5,size:=1,rw:=true,lock:=false,lit:=false,flat:=true,n:=1,row:=fun i => [SV.v (.int .u8 ((fun i => List.getD [3] i 0) i))],ext:=1 + c_1})∧((1 : Nat) ≤ M0))∧(I64 (RV.id c)))∧(∀ c_2 : Nat,((((bytesOk 5 (5 + c_2) {elem:=5,size:=1,rw:=true,lock:=false,lit:=false,flat:=true,n:=5,row:=fun i => [SV.v (.int .u8 (apG 1 (fun i => SE.byteOf [SV.v (.int .u8 ((fun i => List.getD [3] i 0) i))]) (be (RV.id c % 4294967296) 4) i))],ext:=5 + c_2})∧((5 : Nat) ≤ M0))∧(I64 0))∧(∀ c_3 : Nat,((((bytesOk 6 (6 + c_3) {elem:=5,size:=1,rw:=true,lock:=false,lit:=false,flat:=true,n:=6,row:=fun i => [SV.v (.int .u8 (apG 5 (fun i => SE.byteOf [SV.v (.int .u8 (apG 1 (fun i => SE.byteOf [SV.v (.int .u8 ((fun i => List.getD [3] i 0) i))]) (be (RV.id c % 4294967296) 4) i))]) [0] i))],ext:=6 + c_3})∧((6 : Nat) ≤ NB0))∧((I64 (RV.bs c))∧(I64 (RV.bg c))))∧(∀ c_4 : Nat,((((bytesOk 14 (14 + c_4) {elem:=5,size:=1,rw:=true,lock:=false,lit:=false,flat:=true,n:=14,row:=fun i => [SV.v (.int .u8 (apG 6 (fun i => SE.byteOf [SV.v (.int .u8 (apG 5 (fun i => SE.byteOf [SV.v (.int .u8 (apG 1 (fun i => SE.byteOf [SV.v (.int .u8 ((fun i => List.getD [3] i 0) i))]) (be (RV.id c % 4294967296) 4) i))]) [0] i))]) (c4 (RV.bs c)++c4 (RV.bg c)) i))],ext:=14 + c_4})∧((14 : Nat) ≤ M0))∧(I64 (RV.ver c)))∧(∀ c_5 : Nat,(∃ c_6 : Nat,(True∧((((1 : Nat) = 1)∧(((1 : Nat) ≤ 1)∧(((SV.sl 368 1 0 22 (22 + c_5)) = (SV.sl 368 1 0 22 (6 + rN3 n m + c_6)))∧((SV.v (.bool (b||false||notIn (RV.id c) 2147483647||false||(notIn (RV.bs c) 2147483647||notIn (RV.bg c) 2147483647)||notIn (RV.ver c) 1099511627776))) = (SV.v (.bool (b||rpB 0 c (rB3 c n m u v))))))))∧(((22 : Nat) = (6 + rN3 n m))∧((((6 + rN3 n m + c_6) : Nat) ≤ (22 + c_5))∧(∀ i : Nat,(((i : Nat) < (6 + rN3 n m))→([(SV.v (.int .u8 (apG 14 (fun i => SE.byteOf [SV.v (.int .u8 (apG 6 (fun i => SE.byteOf [SV.v (.int .u8 (apG 5 (fun i => SE.byteOf [SV.v (.int .u8 (apG 1 (fun i => SE.byteOf [SV.v (.int .u8 ((fun i => List.getD [3] i 0) i))]) (be (RV.id c % 4294967296) 4) i))]) [0] i))]) (c4 (RV.bs c)++c4 (RV.bg c)) i))]) (be (RV.ver c % 18446744073709551616) 8) i)))] = [(SV.v (.int .u8 (List.getD (rpL 3 0 c (rT3 c n x y m u v)) i 0)))])))))))))))))))))) := by kernel_rfl
@[reducible] noncomputable def vcRw4_1 (c : RV) := (fun i => SE.byteOf [SV.v (.int .u8 (apG 1 (fun i => SE.byteOf [SV.v (.int .u8 ((fun i => List.getD [4] i 0) i))]) (be (RV.id c % 4294967296) 4) i))])
theorem vcRw4 (b : Bool) (c : RV) (e1 n cap xt : Nat) (x y : Nat→Int) (wh : Bool) (e2 m cp xt2 : Nat) (u v : Nat→Int) (wh2 : Bool) : (vcFn Try.prog ΓPr noΛ Try.f78 [.vp 0 0,reS 4 0 c (.sl 1 2 0 n cap) (.sl 2 2 0 m cp)] (heapOf [wB (some b) true nilS,ptB e1 n x y xt wh,ptB e2 m u v xt2 wh2]) 64 (fun y' h' => FinE [wB (some b) true nilS,ptB e1 n x y xt wh,ptB e2 m u v xt2 wh2] (apE (.fresh (some b)) 0 True (6 + rN4 n m) (rpL 4 0 c (rT4 c n x y m u v)) (rpB 0 c (rB4 c n m u v))) y' h')) =
((I64 4)∧(∀ c_1 : Nat,((((bytesOk 1 (1 + c_1) {elem:=5,size:=1,rw:=true,lock:=false,lit:=false,flat:=true,n:=1,row:=fun i => [SV.v (.int .u8 ((fun i => List.getD [4] i 0) i))],ext:=1 + c_1})∧((1 : Nat) ≤ M0))∧(I64 (RV.id c)))∧(∀ c_2 : Nat,((((bytesOk 5 (5 + c_2) {elem:=5,size:=1,rw:=true,lock:=false,lit:=false,flat:=true,n:=5,row:=fun i => [SV.v (.int .u8 (apG 1 (fun i => SE.byteOf [SV.v (.int .u8 ((fun i => List.getD [4] i 0) i))]) (be (RV.id c % 4294967296) 4) i))],ext:=5 + c_2})∧((5 : Nat) ≤ M0))∧(I64 0))∧(∀ c_3 : Nat,((((bytesOk 6 (6 + c_3) {elem:=5,size:=1,rw:=true,lock:=false,lit:=false,flat:=true,n:=6,row:=fun i => [SV.v (.int .u8 (apG 5 (vcRw4_1 c) [0] i))],ext:=6 + c_3})∧((6 : Nat) ≤ NB0))∧((I64 (RV.bs c))∧(I64 (RV.bg c))))∧(∀ c_4 : Nat,((((bytesOk 14 (14 + c_4) {elem:=5,size:=1,rw:=true,lock:=false,lit:=false,flat:=true,n:=14,row:=fun i => [SV.v (.int .u8 (apG 6 (fun i => SE.byteOf [SV.v (.int .u8 (apG 5 (vcRw4_1 c) [0] i))]) (c4 (RV.bs c)++c4 (RV.bg c)) i))],ext:=14 + c_4})∧((14 : Nat) ≤ M0))∧(I64 (RV.ver c)))∧(∀ c_5 : Nat,((((bytesOk 22 (22 + c_5) {elem:=5,size:=1,rw:=true,lock:=false,lit:=false,flat:=true,n:=22,row:=fun i => [SV.v (.int .u8 (apG 14 (fun i => SE.byteOf [SV.v (.int .u8 (apG 6 (fun i => SE.byteOf [SV.v (.int .u8 (apG 5 (vcRw4_1 c) [0] i))]) (c4 (RV.bs c)++c4 (RV.bg c)) i))]) (be (RV.ver c % 18446744073709551616) 8) i))],ext:=22 + c_5})∧((22 : Nat) ≤ M0))∧(I64 (RV.gr c)))∧(∀ c_6 : Nat,(∃ c_7 : Nat,(True∧((((1 : Nat) = 1)∧(((1 : Nat) ≤ 1)∧(((SV.sl 432 1 0 26 (26 + c_6)) = (SV.sl 432 1 0 26 (6 + rN4 n m + c_7)))∧((SV.v (.bool (b||false||notIn (RV.id c) 2147483647||false||(notIn (RV.bs c) 2147483647||notIn (RV.bg c) 2147483647)||notIn (RV.ver c) 1099511627776||notIn (RV.gr c) 2147483647))) = (SV.v (.bool (b||rpB 0 c (rB4 c n m u v))))))))∧(((26 : Nat) = (6 + rN4 n m))∧((((6 + rN4 n m + c_7) : Nat) ≤ (26 + c_6))∧(∀ i : Nat,(((i : Nat) < (6 + rN4 n m))→([(SV.v (.int .u8 (apG 22 (fun i => SE.byteOf [SV.v (.int .u8 (apG 14 (fun i => SE.byteOf [SV.v (.int .u8 (apG 6 (fun i => SE.byteOf [SV.v (.int .u8 (apG 5 (vcRw4_1 c) [0] i))]) (c4 (RV.bs c)++c4 (RV.bg c)) i))]) (be (RV.ver c % 18446744073709551616) 8) i))]) (be (RV.gr c % 4294967296) 4) i)))] = [(SV.v (.int .u8 (List.getD (rpL 4 0 c (rT4 c n x y m u v)) i 0)))])))))))))))))))))))) := by kernel_rfl
theorem vcRw5 (b : Bool) (c : RV) (e1 n cap xt : Nat) (x y : Nat→Int) (wh : Bool) (e2 m cp xt2 : Nat) (u v : Nat→Int) (wh2 : Bool) : (vcFn Try.prog ΓPr noΛ Try.f78 [.vp 0 0,reS 5 0 c (.sl 1 2 0 n cap) (.sl 2 2 0 m cp)] (heapOf [wB (some b) true nilS,ptB e1 n x y xt wh,ptB e2 m u v xt2 wh2]) 64 (fun y' h' => FinE [wB (some b) true nilS,ptB e1 n x y xt wh,ptB e2 m u v xt2 wh2] (apE (.fresh (some b)) 0 True (6 + rN5 n m) (rpL 5 0 c (rT5 c n x y m u v)) (rpB 0 c (rB5 c n m u v))) y' h')) =
((I64 5)∧(∀ c_1 : Nat,((((bytesOk 1 (1 + c_1) {elem:=5,size:=1,rw:=true,lock:=false,lit:=false,flat:=true,n:=1,row:=fun i => [SV.v (.int .u8 ((fun i => List.getD [5] i 0) i))],ext:=1 + c_1})∧((1 : Nat) ≤ M0))∧(I64 (RV.id c)))∧(∀ c_2 : Nat,((((bytesOk 5 (5 + c_2) {elem:=5,size:=1,rw:=true,lock:=false,lit:=false,flat:=true,n:=5,row:=fun i => [SV.v (.int .u8 (apG 1 (fun i => SE.byteOf [SV.v (.int .u8 ((fun i => List.getD [5] i 0) i))]) (be (RV.id c % 4294967296) 4) i))],ext:=5 + c_2})∧((5 : Nat) ≤ M0))∧(I64 0))∧(∀ c_3 : Nat,((((bytesOk 6 (6 + c_3) {elem:=5,size:=1,rw:=true,lock:=false,lit:=false,flat:=true,n:=6,row:=fun i => [SV.v (.int .u8 (apG 5 (fun i => SE.byteOf [SV.v (.int .u8 (apG 1 (fun i => SE.byteOf [SV.v (.int .u8 ((fun i => List.getD [5] i 0) i))]) (be (RV.id c % 4294967296) 4) i))]) [0] i))],ext:=6 + c_3})∧((6 : Nat) ≤ M0))∧(I64 (RV.gr c)))∧(∀ c_4 : Nat,(∃ c_5 : Nat,(True∧((((1 : Nat) = 1)∧(((1 : Nat) ≤ 1)∧(((SV.sl 400 1 0 10 (10 + c_4)) = (SV.sl 400 1 0 10 (6 + rN5 n m + c_5)))∧((SV.v (.bool (b||false||notIn (RV.id c) 2147483647||false||notIn (RV.gr c) 2147483647))) = (SV.v (.bool (b||rpB 0 c (rB5 c n m u v))))))))∧(((10 : Nat) = (6 + rN5 n m))∧((((6 + rN5 n m + c_5) : Nat) ≤ (10 + c_4))∧(∀ i : Nat,(((i : Nat) < (6 + rN5 n m))→([(SV.v (.int .u8 (apG 6 (fun i => SE.byteOf [SV.v (.int .u8 (apG 5 (fun i => SE.byteOf [SV.v (.int .u8 (apG 1 (fun i => SE.byteOf [SV.v (.int .u8 ((fun i => List.getD [5] i 0) i))]) (be (RV.id c % 4294967296) 4) i))]) [0] i))]) (be (RV.gr c % 4294967296) 4) i)))] = [(SV.v (.int .u8 (List.getD (rpL 5 0 c (rT5 c n x y m u v)) i 0)))])))))))))))))))) := by kernel_rfl
theorem vcRw6 (b : Bool) (c : RV) (e1 n cap xt : Nat) (x y : Nat→Int) (wh : Bool) (e2 m cp xt2 : Nat) (u v : Nat→Int) (wh2 : Bool) : (vcFn Try.prog ΓPr noΛ Try.f78 [.vp 0 0,reS 6 0 c (.sl 1 2 0 n cap) (.sl 2 2 0 m cp)] (heapOf [wB (some b) true nilS,ptB e1 n x y xt wh,ptB e2 m u v xt2 wh2]) 64 (fun y' h' => FinE [wB (some b) true nilS,ptB e1 n x y xt wh,ptB e2 m u v xt2 wh2] (apE (.fresh (some b)) 0 True (6 + rN6 n m) (rpL 6 0 c (rT6 c n x y m u v)) (rpB 0 c (rB6 c n m u v))) y' h')) =
((I64 6)∧(∀ c_1 : Nat,((((bytesOk 1 (1 + c_1) {elem:=5,size:=1,rw:=true,lock:=false,lit:=false,flat:=true,n:=1,row:=fun i => [SV.v (.int .u8 ((fun i => List.getD [6] i 0) i))],ext:=1 + c_1})∧((1 : Nat) ≤ M0))∧(I64 (RV.id c)))∧(∀ c_2 : Nat,((((bytesOk 5 (5 + c_2) {elem:=5,size:=1,rw:=true,lock:=false,lit:=false,flat:=true,n:=5,row:=fun i => [SV.v (.int .u8 (apG 1 (fun i => SE.byteOf [SV.v (.int .u8 ((fun i => List.getD [6] i 0) i))]) (be (RV.id c % 4294967296) 4) i))],ext:=5 + c_2})∧((5 : Nat) ≤ M0))∧(I64 0))∧(∀ c_3 : Nat,((((bytesOk 6 (6 + c_3) {elem:=5,size:=1,rw:=true,lock:=false,lit:=false,flat:=true,n:=6,row:=fun i => [SV.v (.int .u8 (apG 5 (fun i => SE.byteOf [SV.v (.int .u8 (apG 1 (fun i => SE.byteOf [SV.v (.int .u8 ((fun i => List.getD [6] i 0) i))]) (be (RV.id c % 4294967296) 4) i))]) [0] i))],ext:=6 + c_3})∧((6 : Nat) ≤ M0))∧(I64 (RV.gr c)))∧(∀ c_4 : Nat,(∃ c_5 : Nat,(True∧((((1 : Nat) = 1)∧(((1 : Nat) ≤ 1)∧(((SV.sl 400 1 0 10 (10 + c_4)) = (SV.sl 400 1 0 10 (6 + rN6 n m + c_5)))∧((SV.v (.bool (b||false||notIn (RV.id c) 2147483647||false||notIn (RV.gr c) 2147483647))) = (SV.v (.bool (b||rpB 0 c (rB6 c n m u v))))))))∧(((10 : Nat) = (6 + rN6 n m))∧((((6 + rN6 n m + c_5) : Nat) ≤ (10 + c_4))∧(∀ i : Nat,(((i : Nat) < (6 + rN6 n m))→([(SV.v (.int .u8 (apG 6 (fun i => SE.byteOf [SV.v (.int .u8 (apG 5 (fun i => SE.byteOf [SV.v (.int .u8 (apG 1 (fun i => SE.byteOf [SV.v (.int .u8 ((fun i => List.getD [6] i 0) i))]) (be (RV.id c % 4294967296) 4) i))]) [0] i))]) (be (RV.gr c % 4294967296) 4) i)))] = [(SV.v (.int .u8 (List.getD (rpL 6 0 c (rT6 c n x y m u v)) i 0)))])))))))))))))))) := by kernel_rfl
theorem vcRw7 (b : Bool) (c : RV) (e1 n cap xt : Nat) (x y : Nat→Int) (wh : Bool) (e2 m cp xt2 : Nat) (u v : Nat→Int) (wh2 : Bool) : (vcFn Try.prog ΓPr noΛ Try.f78 [.vp 0 0,reS 7 0 c (.sl 1 2 0 n cap) (.sl 2 2 0 m cp)] (heapOf [wB (some b) true nilS,ptB e1 n x y xt wh,ptB e2 m u v xt2 wh2]) 64 (fun y' h' => FinE [wB (some b) true nilS,ptB e1 n x y xt wh,ptB e2 m u v xt2 wh2] (apE (.fresh (some b)) 0 True (6 + rN7 n m) (rpL 7 0 c (rT7 c n x y m u v)) (rpB 0 c (rB7 c n m u v))) y' h')) =
((I64 7)∧(∀ c_1 : Nat,((((bytesOk 1 (1 + c_1) {elem:=5,size:=1,rw:=true,lock:=false,lit:=false,flat:=true,n:=1,row:=fun i => [SV.v (.int .u8 ((fun i => List.getD [7] i 0) i))],ext:=1 + c_1})∧((1 : Nat) ≤ M0))∧(I64 (RV.id c)))∧(∀ c_2 : Nat,((((bytesOk 5 (5 + c_2) {elem:=5,size:=1,rw:=true,lock:=false,lit:=false,flat:=true,n:=5,row:=fun i => [SV.v (.int .u8 (apG 1 (fun i => SE.byteOf [SV.v (.int .u8 ((fun i => List.getD [7] i 0) i))]) (be (RV.id c % 4294967296) 4) i))],ext:=5 + c_2})∧((5 : Nat) ≤ M0))∧(I64 0))∧(∀ c_3 : Nat,((((bytesOk 6 (6 + c_3) {elem:=5,size:=1,rw:=true,lock:=false,lit:=false,flat:=true,n:=6,row:=fun i => [SV.v (.int .u8 (apG 5 (fun i => SE.byteOf [SV.v (.int .u8 (apG 1 (fun i => SE.byteOf [SV.v (.int .u8 ((fun i => List.getD [7] i 0) i))]) (be (RV.id c % 4294967296) 4) i))]) [0] i))],ext:=6 + c_3})∧((6 : Nat) ≤ NB0))∧((I64 (RV.bs c))∧(I64 (RV.bg c))))∧(∀ c_4 : Nat,((((bytesOk 14 (14 + c_4) {elem:=5,size:=1,rw:=true,lock:=false,lit:=false,flat:=true,n:=14,row:=fun i => [SV.v (.int .u8 (apG 6 (fun i => SE.byteOf [SV.v (.int .u8 (apG 5 (fun i => SE.byteOf [SV.v (.int .u8 (apG 1 (fun i => SE.byteOf [SV.v (.int .u8 ((fun i => List.getD [7] i 0) i))]) (be (RV.id c % 4294967296) 4) i))]) [0] i))]) (c4 (RV.bs c)++c4 (RV.bg c)) i))],ext:=14 + c_4})∧((14 : Nat) ≤ NB2))∧((bvOk (RV.o c))∧((spPre n (winBlk (ptB e1 n x y xt wh) 2 0 n))∧((n : Nat) < 100))))∧(∀ c_5 : Nat,(∃ c_6 : Nat,(True∧((((1 : Nat) = 1)∧(((1 : Nat) ≤ 1)∧(((SV.sl 448 1 0 (14 + boN n) (14 + boN n + c_5)) = (SV.sl 448 1 0 (6 + rN7 n m) (6 + rN7 n m + c_6)))∧((SV.v (.bool (b||false||notIn (RV.id c) 2147483647||false||(notIn (RV.bs c) 2147483647||notIn (RV.bg c) 2147483647)||boBad (RV.o c) n))) = (SV.v (.bool (b||rpB 0 c (rB7 c n m u v))))))))∧((((14 + boN n) : Nat) = (6 + rN7 n m))∧((((6 + rN7 n m + c_6) : Nat) ≤ (14 + boN n + c_5))∧(∀ i : Nat,(((i : Nat) < (6 + rN7 n m))→([(SV.v (.int .u8 (apG 14 (fun i => SE.byteOf [SV.v (.int .u8 (apG 6 (fun i => SE.byteOf [SV.v (.int .u8 (apG 5 (fun i => SE.byteOf [SV.v (.int .u8 (apG 1 (fun i => SE.byteOf [SV.v (.int .u8 ((fun i => List.getD [7] i 0) i))]) (be (RV.id c % 4294967296) 4) i))]) [0] i))]) (c4 (RV.bs c)++c4 (RV.bg c)) i))]) (boL (RV.o c) n (gX (winBlk (ptB e1 n x y xt wh) 2 0 n)) (gY (winBlk (ptB e1 n x y xt wh) 2 0 n))) i)))] = [(SV.v (.int .u8 (List.getD (rpL 7 0 c (rT7 c n x y m u v)) i 0)))])))))))))))))))))) := by kernel_rfl
theorem vcRw8 (b : Bool) (c : RV) (e1 n cap xt : Nat) (x y : Nat→Int) (wh : Bool) (e2 m cp xt2 : Nat) (u v : Nat→Int) (wh2 : Bool) : (vcFn Try.prog ΓPr (ΛRw8 (b||(notIn c.id 2147483647||notIn (m : Int) 64)) ([8]++(c4 c.id++([0]++[(m : Int) % 256]))) m u v) Try.f78 [.vp 0 0,reS 8 0 c (.sl 1 2 0 n cap) (.sl 2 2 0 m cp)] (heapOf [wB (some b) true nilS,ptB e1 n x y xt wh,ptB e2 m u v xt2 wh2]) 64 (fun y' h' => FinE [wB (some b) true nilS,ptB e1 n x y xt wh,ptB e2 m u v xt2 wh2] (apE (.fresh (some b)) 0 True (6 + rN8 n m) (rpL 8 0 c (rT8 c n x y m u v)) (rpB 0 c (rB8 c n m u v))) y' h')) =
((I64 8)∧(∀ c_1 : Nat,((((bytesOk 1 (1 + c_1) {elem:=5,size:=1,rw:=true,lock:=false,lit:=false,flat:=true,n:=1,row:=fun i => [SV.v (.int .u8 ((fun i => List.getD [8] i 0) i))],ext:=1 + c_1})∧((1 : Nat) ≤ M0))∧(I64 (RV.id c)))∧(∀ c_2 : Nat,((((bytesOk 5 (5 + c_2) {elem:=5,size:=1,rw:=true,lock:=false,lit:=false,flat:=true,n:=5,row:=fun i => [SV.v (.int .u8 (apG 1 (fun i => SE.byteOf [SV.v (.int .u8 ((fun i => List.getD [8] i 0) i))]) (be (RV.id c % 4294967296) 4) i))],ext:=5 + c_2})∧((5 : Nat) ≤ M0))∧(I64 0))∧(∀ c_3 : Nat,((((bytesOk 6 (6 + c_3) {elem:=5,size:=1,rw:=true,lock:=false,lit:=false,flat:=true,n:=6,row:=fun i => [SV.v (.int .u8 (apG 5 (fun i => SE.byteOf [SV.v (.int .u8 (apG 1 (fun i => SE.byteOf [SV.v (.int .u8 ((fun i => List.getD [8] i 0) i))]) (be (RV.id c % 4294967296) 4) i))]) [0] i))],ext:=6 + c_3})∧((6 : Nat) ≤ M0))∧(I64 (↑m : Int)))∧(∀ c_4 : Nat,((∃ x_1 : NX,(((((NX.i x_1) : Nat) ≤ m)∧(((7 + 8 * NX.i x_1) : Nat) ≤ (NX.c x_1)))∧((zI = (SV.v (.int .i64 ((↑(NX.i x_1) : Int)))))∧((((1 : Nat) = 1)∧(((1 : Nat) ≤ 1)∧(((SV.sl 440 1 0 7 (7 + c_4)) = (SV.sl 440 1 0 (7 + 8 * NX.i x_1) (NX.c x_1)))∧((SV.v (.bool (b||false||notIn (RV.id c) 2147483647||false||notIn (↑m : Int) 64))) = (SV.v (.bool (b||(notIn (RV.id c) 2147483647||notIn (↑m : Int) 64)||anyH u v (NX.i x_1))))))))∧(((7 : Nat) = (7 + 8 * NX.i x_1))∧((((NX.c x_1) : Nat) ≤ (7 + c_4))∧(∀ i : Nat,(((i : Nat) < (7 + 8 * NX.i x_1))→([(SV.v (.int .u8 (apG 6 (fun i => SE.byteOf [SV.v (.int .u8 (apG 5 (fun i => SE.byteOf [SV.v (.int .u8 (apG 1 (fun i => SE.byteOf [SV.v (.int .u8 ((fun i => List.getD [8] i 0) i))]) (be (RV.id c % 4294967296) 4) i))]) [0] i))]) [(↑m : Int) % 256] i)))] = [(SV.v (.int .u8 (List.getD ([8]++(c4 (RV.id c)++([0]++[(↑m : Int) % 256]))++hsL u v (NX.i x_1)) i 0)))])))))))))∧(∀ x_1 : NX,(((((NX.i x_1) : Nat) ≤ m)∧(((7 + 8 * NX.i x_1) : Nat) ≤ (NX.c x_1)))→(sel (decide ((↑(NX.i x_1) : Int) < (↑m : Int))) ((((0 : Int) ≤ ((↑(NX.i x_1) : Int)))∧((((↑(NX.i x_1) : Int)) : Int) < ((↑m : Int))))∧((((bytesOk (7 + 8 * NX.i x_1) (NX.c x_1) {elem:=5,size:=1,rw:=true,lock:=false,lit:=false,flat:=true,n:=7 + 8 * NX.i x_1,row:=fun i => [SV.v (.int .u8 ((fun i => List.getD ([8]++(c4 (RV.id c)++([0]++[(↑m : Int) % 256]))++hsL u v (NX.i x_1)) i 0) i))],ext:=NX.c x_1})∧(((7 + 8 * NX.i x_1) : Nat) ≤ NB0))∧((I64 (u (0 + Int.toNat (↑(NX.i x_1) : Int))))∧(I64 (v (0 + Int.toNat (↑(NX.i x_1) : Int))))))∧(∀ c_5 : Nat,(∃ x' : NX,((((((NX.i x') : Nat) ≤ m)∧(((7 + 8 * NX.i x') : Nat) ≤ (NX.c x')))∧(((SV.v (.int .i64 (IntKind.wrap IntKind.i64 ((↑(NX.i x_1) : Int) + 1)))) = (SV.v (.int .i64 ((↑(NX.i x') : Int)))))∧((((1 : Nat) = 1)∧(((1 : Nat) ≤ 1)∧(((SV.sl 536 1 0 (7 + 8 * NX.i x_1 + 8) (7 + 8 * NX.i x_1 + 8 + c_5)) = (SV.sl 536 1 0 (7 + 8 * NX.i x') (NX.c x')))∧((SV.v (.bool (b||(notIn (RV.id c) 2147483647||notIn (↑m : Int) 64)||anyH u v (NX.i x_1)||(notIn (u (0 + Int.toNat (↑(NX.i x_1) : Int))) 2147483647||notIn (v (0 + Int.toNat (↑(NX.i x_1) : Int))) 2147483647)))) = (SV.v (.bool (b||(notIn (RV.id c) 2147483647||notIn (↑m : Int) 64)||anyH u v (NX.i x'))))))))∧((((7 + 8 * NX.i x_1 + 8) : Nat) = (7 + 8 * NX.i x'))∧((((NX.c x') : Nat) ≤ (7 + 8 * NX.i x_1 + 8 + c_5))∧(∀ i : Nat,(((i : Nat) < (7 + 8 * NX.i x'))→([(SV.v (.int .u8 (apG (7 + 8 * NX.i x_1) (fun i => SE.byteOf [SV.v (.int .u8 ((fun i => List.getD ([8]++(c4 (RV.id c)++([0]++[(↑m : Int) % 256]))++hsL u v (NX.i x_1)) i 0) i))]) (c4 (u (0 + Int.toNat (↑(NX.i x_1) : Int)))++c4 (v (0 + Int.toNat (↑(NX.i x_1) : Int)))) i)))] = [(SV.v (.int .u8 (List.getD ([8]++(c4 (RV.id c)++([0]++[(↑m : Int) % 256]))++hsL u v (NX.i x')) i 0)))]))))))))∧(((m - NX.i x') : Nat) < (m - NX.i x_1))))))) (∃ c_5 : Nat,(True∧((((1 : Nat) = 1)∧(((1 : Nat) ≤ 1)∧(((SV.sl 40 1 0 (7 + 8 * NX.i x_1) (NX.c x_1)) = (SV.sl 40 1 0 (6 + rN8 n m) (6 + rN8 n m + c_5)))∧((SV.v (.bool (b||(notIn (RV.id c) 2147483647||notIn (↑m : Int) 64)||anyH u v (NX.i x_1)))) = (SV.v (.bool (b||rpB 0 c (rB8 c n m u v))))))))∧((((7 + 8 * NX.i x_1) : Nat) = (6 + rN8 n m))∧((((6 + rN8 n m + c_5) : Nat) ≤ (NX.c x_1))∧(∀ i : Nat,(((i : Nat) < (6 + rN8 n m))→([(SV.v (.int .u8 (List.getD ([8]++(c4 (RV.id c)++([0]++[(↑m : Int) % 256]))++hsL u v (NX.i x_1)) i 0)))] = [(SV.v (.int .u8 (List.getD (rpL 8 0 c (rT8 c n x y m u v)) i 0)))])))))))))))))))))))) := by kernel_rfl
@[reducible] noncomputable def vcRw9_1 (c : RV) := (fun i => SE.byteOf [SV.v (.int .u8 (apG 1 (fun i => SE.byteOf [SV.v (.int .u8 ((fun i => List.getD [9] i 0) i))]) (be (RV.id c % 4294967296) 4) i))])
theorem vcRw9 (b : Bool) (c : RV) (e1 n cap xt : Nat) (x y : Nat→Int) (wh : Bool) (e2 m cp xt2 : Nat) (u v : Nat→Int) (wh2 : Bool) : (vcFn Try.prog ΓPr noΛ Try.f78 [.vp 0 0,reS 9 0 c (.sl 1 2 0 n cap) (.sl 2 2 0 m cp)] (heapOf [wB (some b) true nilS,ptB e1 n x y xt wh,ptB e2 m u v xt2 wh2]) 64 (fun y' h' => FinE [wB (some b) true nilS,ptB e1 n x y xt wh,ptB e2 m u v xt2 wh2] (apE (.fresh (some b)) 0 True (6 + rN9 n m) (rpL 9 0 c (rT9 c n x y m u v)) (rpB 0 c (rB9 c n m u v))) y' h')) =
((I64 9)∧(∀ c_1 : Nat,((((bytesOk 1 (1 + c_1) {elem:=5,size:=1,rw:=true,lock:=false,lit:=false,flat:=true,n:=1,row:=fun i => [SV.v (.int .u8 ((fun i => List.getD [9] i 0) i))],ext:=1 + c_1})∧((1 : Nat) ≤ M0))∧(I64 (RV.id c)))∧(∀ c_2 : Nat,((((bytesOk 5 (5 + c_2) {elem:=5,size:=1,rw:=true,lock:=false,lit:=false,flat:=true,n:=5,row:=fun i => [SV.v (.int .u8 (apG 1 (fun i => SE.byteOf [SV.v (.int .u8 ((fun i => List.getD [9] i 0) i))]) (be (RV.id c % 4294967296) 4) i))],ext:=5 + c_2})∧((5 : Nat) ≤ M0))∧(I64 0))∧(∀ c_3 : Nat,((((bytesOk 6 (6 + c_3) {elem:=5,size:=1,rw:=true,lock:=false,lit:=false,flat:=true,n:=6,row:=fun i => [SV.v (.int .u8 (apG 5 (vcRw9_1 c) [0] i))],ext:=6 + c_3})∧((6 : Nat) ≤ NB0))∧((I64 (RV.bs c))∧(I64 (RV.bg c))))∧(∀ c_4 : Nat,((((bytesOk 14 (14 + c_4) {elem:=5,size:=1,rw:=true,lock:=false,lit:=false,flat:=true,n:=14,row:=fun i => [SV.v (.int .u8 (apG 6 (fun i => SE.byteOf [SV.v (.int .u8 (apG 5 (vcRw9_1 c) [0] i))]) (c4 (RV.bs c)++c4 (RV.bg c)) i))],ext:=14 + c_4})∧((14 : Nat) ≤ M0))∧True)∧(∀ c_5 : Nat,((((bytesOk 15 (15 + c_5) {elem:=5,size:=1,rw:=true,lock:=false,lit:=false,flat:=true,n:=15,row:=fun i => [SV.v (.int .u8 (apG 14 (fun i => SE.byteOf [SV.v (.int .u8 (apG 6 (fun i => SE.byteOf [SV.v (.int .u8 (apG 5 (vcRw9_1 c) [0] i))]) (c4 (RV.bs c)++c4 (RV.bg c)) i))]) [bif RV.hit c then 1 else 0] i))],ext:=15 + c_5})∧((15 : Nat) ≤ NB0))∧(((3 : Nat) = 3)∧(((1 : Nat) ≤ 3)∧(((3 : Nat) ≤ 100)∧(∀ i : Nat,(((i : Nat) < 3)→(isNum [SV.v (.int .i64 (bop (Nat.beq (0 + i) 0) (RV.htv c) (bop (Nat.beq (0 + i) 1) (RV.x0v c) (RV.x1v c)))),SV.v (.bool (bop (Nat.beq (0 + i) 0) (RV.htf c) (bop (Nat.beq (0 + i) 1) (RV.x0f c) (RV.x1f c))))])))))))∧(∀ c_6 : Nat,(∃ c_7 : Nat,(True∧((((1 : Nat) = 1)∧(((1 : Nat) ≤ 1)∧(((SV.sl 600 1 0 42 (42 + c_6)) = (SV.sl 600 1 0 42 (6 + rN9 n m + c_7)))∧((SV.v (.bool (b||false||notIn (RV.id c) 2147483647||false||(notIn (RV.bs c) 2147483647||notIn (RV.bg c) 2147483647)||false||anyMin (fun i => nV [SV.v (.int .i64 (bop (Nat.beq (0 + i) 0) (RV.htv c) (bop (Nat.beq (0 + i) 1) (RV.x0v c) (RV.x1v c)))),SV.v (.bool (bop (Nat.beq (0 + i) 0) (RV.htf c) (bop (Nat.beq (0 + i) 1) (RV.x0f c) (RV.x1f c))))]) 3))) = (SV.v (.bool (b||rpB 0 c (rB9 c n m u v))))))))∧(((42 : Nat) = (6 + rN9 n m))∧((((6 + rN9 n m + c_7) : Nat) ≤ (42 + c_6))∧(∀ i : Nat,(((i : Nat) < (6 + rN9 n m))→([(SV.v (.int .u8 (apG 15 (fun i => SE.byteOf [SV.v (.int .u8 (apG 14 (fun i => SE.byteOf [SV.v (.int .u8 (apG 6 (fun i => SE.byteOf [SV.v (.int .u8 (apG 5 (vcRw9_1 c) [0] i))]) (c4 (RV.bs c)++c4 (RV.bg c)) i))]) [bif RV.hit c then 1 else 0] i))]) (numsL (fun i => nV [SV.v (.int .i64 (bop (Nat.beq (0 + i) 0) (RV.htv c) (bop (Nat.beq (0 + i) 1) (RV.x0v c) (RV.x1v c)))),SV.v (.bool (bop (Nat.beq (0 + i) 0) (RV.htf c) (bop (Nat.beq (0 + i) 1) (RV.x0f c) (RV.x1f c))))]) (fun i => nF [SV.v (.int .i64 (bop (Nat.beq (0 + i) 0) (RV.htv c) (bop (Nat.beq (0 + i) 1) (RV.x0v c) (RV.x1v c)))),SV.v (.bool (bop (Nat.beq (0 + i) 0) (RV.htf c) (bop (Nat.beq (0 + i) 1) (RV.x0f c) (RV.x1f c))))]) 3) i)))] = [(SV.v (.int .u8 (List.getD (rpL 9 0 c (rT9 c n x y m u v)) i 0)))])))))))))))))))))))) := by kernel_rfl
theorem vcRw10 (b : Bool) (c : RV) (e1 n cap xt : Nat) (x y : Nat→Int) (wh : Bool) (e2 m cp xt2 : Nat) (u v : Nat→Int) (wh2 : Bool) : (vcFn Try.prog ΓPr noΛ Try.f78 [.vp 0 0,reS 10 0 c (.sl 1 2 0 n cap) (.sl 2 2 0 m cp)] (heapOf [wB (some b) true nilS,ptB e1 n x y xt wh,ptB e2 m u v xt2 wh2]) 64 (fun y' h' => FinE [wB (some b) true nilS,ptB e1 n x y xt wh,ptB e2 m u v xt2 wh2] (apE (.fresh (some b)) 0 True (6 + rN10 n m) (rpL 10 0 c (rT10 c n x y m u v)) (rpB 0 c (rB10 c n m u v))) y' h')) =
((I64 10)∧(∀ c_1 : Nat,((((bytesOk 1 (1 + c_1) {elem:=5,size:=1,rw:=true,lock:=false,lit:=false,flat:=true,n:=1,row:=fun i => [SV.v (.int .u8 ((fun i => List.getD [10] i 0) i))],ext:=1 + c_1})∧((1 : Nat) ≤ M0))∧(I64 (RV.id c)))∧(∀ c_2 : Nat,((((bytesOk 5 (5 + c_2) {elem:=5,size:=1,rw:=true,lock:=false,lit:=false,flat:=true,n:=5,row:=fun i => [SV.v (.int .u8 (apG 1 (fun i => SE.byteOf [SV.v (.int .u8 ((fun i => List.getD [10] i 0) i))]) (be (RV.id c % 4294967296) 4) i))],ext:=5 + c_2})∧((5 : Nat) ≤ M0))∧(I64 0))∧(∀ c_3 : Nat,((((bytesOk 6 (6 + c_3) {elem:=5,size:=1,rw:=true,lock:=false,lit:=false,flat:=true,n:=6,row:=fun i => [SV.v (.int .u8 (apG 5 (fun i => SE.byteOf [SV.v (.int .u8 (apG 1 (fun i => SE.byteOf [SV.v (.int .u8 ((fun i => List.getD [10] i 0) i))]) (be (RV.id c % 4294967296) 4) i))]) [0] i))],ext:=6 + c_3})∧((6 : Nat) ≤ M0))∧(I64 (RV.cnt c)))∧(∀ c_4 : Nat,(∃ c_5 : Nat,(True∧((((1 : Nat) = 1)∧(((1 : Nat) ≤ 1)∧(((SV.sl 464 1 0 10 (10 + c_4)) = (SV.sl 464 1 0 10 (6 + rN10 n m + c_5)))∧((SV.v (.bool (b||false||notIn (RV.id c) 2147483647||false||notIn (RV.cnt c) 2147483647))) = (SV.v (.bool (b||rpB 0 c (rB10 c n m u v))))))))∧(((10 : Nat) = (6 + rN10 n m))∧((((6 + rN10 n m + c_5) : Nat) ≤ (10 + c_4))∧(∀ i : Nat,(((i : Nat) < (6 + rN10 n m))→([(SV.v (.int .u8 (apG 6 (fun i => SE.byteOf [SV.v (.int .u8 (apG 5 (fun i => SE.byteOf [SV.v (.int .u8 (apG 1 (fun i => SE.byteOf [SV.v (.int .u8 ((fun i => List.getD [10] i 0) i))]) (be (RV.id c % 4294967296) 4) i))]) [0] i))]) (be (RV.cnt c % 4294967296) 4) i)))] = [(SV.v (.int .u8 (List.getD (rpL 10 0 c (rT10 c n x y m u v)) i 0)))])))))))))))))))) := by kernel_rfl
@[reducible] noncomputable def vcRwP_1 (k : Int) (c : RV) := (fun i => SE.byteOf [SV.v (.int .u8 (apG 1 (fun i => SE.byteOf [SV.v (.int .u8 ((fun i => List.getD [k % 256] i 0) i))]) (be (RV.id c % 4294967296) 4) i))])
theorem vcRwP (k : Int) (a : Nat) (b : Bool) (c : RV) (e1 n cap xt : Nat) (x y : Nat→Int) (wh : Bool) (e2 m cp xt2 : Nat) (u v : Nat→Int) (wh2 : Bool) : (vcFn Try.prog ΓPr noΛ Try.f78 [.vp 0 0,reS k (Int.ofNat (a + 1)) c (.sl 1 2 0 n cap) (.sl 2 2 0 m cp)] (heapOf [wB (some b) true nilS,ptB e1 n x y xt wh,ptB e2 m u v xt2 wh2]) 64 (fun y' h' => FinE [wB (some b) true nilS,ptB e1 n x y xt wh,ptB e2 m u v xt2 wh2] (apE (.fresh (some b)) 0 True (6 + (bif Int.ofNat (a + 1) == 14 then 8 else 0)) (rpL k (Int.ofNat (a + 1)) c ((bif Int.ofNat (a + 1) == 14 then i8 c.ver else []))) (rpB (Int.ofNat (a + 1)) c ((bif Int.ofNat (a + 1) == 14 then notIn c.ver 1099511627776 else false)))) y' h')) =
((I64 k)∧(∀ c_1 : Nat,((((bytesOk 1 (1 + c_1) {elem:=5,size:=1,rw:=true,lock:=false,lit:=false,flat:=true,n:=1,row:=fun i => [SV.v (.int .u8 ((fun i => List.getD [k % 256] i 0) i))],ext:=1 + c_1})∧((1 : Nat) ≤ M0))∧(I64 (RV.id c)))∧(∀ c_2 : Nat,((((bytesOk 5 (5 + c_2) {elem:=5,size:=1,rw:=true,lock:=false,lit:=false,flat:=true,n:=5,row:=fun i => [SV.v (.int .u8 (apG 1 (fun i => SE.byteOf [SV.v (.int .u8 ((fun i => List.getD [k % 256] i 0) i))]) (be (RV.id c % 4294967296) 4) i))],ext:=5 + c_2})∧((5 : Nat) ≤ M0))∧(I64 (Int.ofNat (a + 1))))∧(∀ c_3 : Nat,(sel (Int.ofNat (a + 1) == 14) ((((bytesOk 6 (6 + c_3) {elem:=5,size:=1,rw:=true,lock:=false,lit:=false,flat:=true,n:=6,row:=fun i => [SV.v (.int .u8 (apG 5 (vcRwP_1 k c) [Int.ofNat (a + 1) % 256] i))],ext:=6 + c_3})∧((6 : Nat) ≤ M0))∧(I64 (RV.ver c)))∧(∀ c_4 : Nat,(∃ c_5 : Nat,(True∧((((1 : Nat) = 1)∧(((1 : Nat) ≤ 1)∧(((SV.sl 232 1 0 14 (14 + c_4)) = (SV.sl 232 1 0 (6 + bif Int.ofNat (a + 1) == 14 then 8 else 0) ((6 + bif Int.ofNat (a + 1) == 14 then 8 else 0) + c_5)))∧((SV.v (.bool (b||false||notIn (RV.id c) 2147483647||notIn (Int.ofNat (a + 1)) 14||notIn (RV.ver c) 1099511627776))) = (SV.v (.bool (b||rpB (Int.ofNat (a + 1)) c (bif Int.ofNat (a + 1) == 14 then notIn (RV.ver c) 1099511627776 else false))))))))∧(((14 : Nat) = (6 + bif Int.ofNat (a + 1) == 14 then 8 else 0))∧(((((6 + bif Int.ofNat (a + 1) == 14 then 8 else 0) + c_5) : Nat) ≤ (14 + c_4))∧(∀ i : Nat,(((i : Nat) < (6 + bif Int.ofNat (a + 1) == 14 then 8 else 0))→([(SV.v (.int .u8 (apG 6 (fun i => SE.byteOf [SV.v (.int .u8 (apG 5 (vcRwP_1 k c) [Int.ofNat (a + 1) % 256] i))]) (be (RV.ver c % 18446744073709551616) 8) i)))] = [(SV.v (.int .u8 (List.getD (rpL k (Int.ofNat (a + 1)) c (bif Int.ofNat (a + 1) == 14 then i8 (RV.ver c) else [])) i 0)))])))))))))) (∃ c_4 : Nat,(True∧((((1 : Nat) = 1)∧(((1 : Nat) ≤ 1)∧(((SV.sl 176 1 0 6 (6 + c_3)) = (SV.sl 176 1 0 (6 + bif Int.ofNat (a + 1) == 14 then 8 else 0) ((6 + bif Int.ofNat (a + 1) == 14 then 8 else 0) + c_4)))∧((SV.v (.bool (b||false||notIn (RV.id c) 2147483647||notIn (Int.ofNat (a + 1)) 14))) = (SV.v (.bool (b||rpB (Int.ofNat (a + 1)) c (bif Int.ofNat (a + 1) == 14 then notIn (RV.ver c) 1099511627776 else false))))))))∧(((6 : Nat) = (6 + bif Int.ofNat (a + 1) == 14 then 8 else 0))∧(((((6 + bif Int.ofNat (a + 1) == 14 then 8 else 0) + c_4) : Nat) ≤ (6 + c_3))∧(∀ i : Nat,(((i : Nat) < (6 + bif Int.ofNat (a + 1) == 14 then 8 else 0))→([(SV.v (.int .u8 (apG 5 (vcRwP_1 k c) [Int.ofNat (a + 1) % 256] i)))] = [(SV.v (.int .u8 (List.getD (rpL k (Int.ofNat (a + 1)) c (bif Int.ofNat (a + 1) == 14 then i8 (RV.ver c) else [])) i 0)))]))))))))))))))) := by kernel_rfl
theorem vcRwM (k : Int) (a : Nat) (b : Bool) (c : RV) (e1 n cap xt : Nat) (x y : Nat→Int) (wh : Bool) (e2 m cp xt2 : Nat) (u v : Nat→Int) (wh2 : Bool) : (vcFn Try.prog ΓPr noΛ Try.f78 [.vp 0 0,reS k (Int.negSucc a) c (.sl 1 2 0 n cap) (.sl 2 2 0 m cp)] (heapOf [wB (some b) true nilS,ptB e1 n x y xt wh,ptB e2 m u v xt2 wh2]) 64 (fun y' h' => FinE [wB (some b) true nilS,ptB e1 n x y xt wh,ptB e2 m u v xt2 wh2] (apE (.fresh (some b)) 0 True (6 + 0) (rpL k (Int.negSucc a) c ([])) (rpB (Int.negSucc a) c (false))) y' h')) =
((I64 k)∧(∀ c_1 : Nat,((((bytesOk 1 (1 + c_1) {elem:=5,size:=1,rw:=true,lock:=false,lit:=false,flat:=true,n:=1,row:=fun i => [SV.v (.int .u8 ((fun i => List.getD [k % 256] i 0) i))],ext:=1 + c_1})∧((1 : Nat) ≤ M0))∧(I64 (RV.id c)))∧(∀ c_2 : Nat,((((bytesOk 5 (5 + c_2) {elem:=5,size:=1,rw:=true,lock:=false,lit:=false,flat:=true,n:=5,row:=fun i => [SV.v (.int .u8 (apG 1 (fun i => SE.byteOf [SV.v (.int .u8 ((fun i => List.getD [k % 256] i 0) i))]) (be (RV.id c % 4294967296) 4) i))],ext:=5 + c_2})∧((5 : Nat) ≤ M0))∧(I64 (Int.negSucc a)))∧(∀ c_3 : Nat,(∃ c_4 : Nat,(True∧((((1 : Nat) = 1)∧(((1 : Nat) ≤ 1)∧(((SV.sl 176 1 0 6 (6 + c_3)) = (SV.sl 176 1 0 6 (6 + c_4)))∧((SV.v (.bool (b||false||notIn (RV.id c) 2147483647||notIn (Int.negSucc a) 14))) = (SV.v (.bool (b||rpB (Int.negSucc a) c false)))))))∧(((6 : Nat) = 6)∧((((6 + c_4) : Nat) ≤ (6 + c_3))∧(∀ i : Nat,(((i : Nat) < 6)→([(SV.v (.int .u8 (apG 5 (fun i => SE.byteOf [SV.v (.int .u8 (apG 1 (fun i => SE.byteOf [SV.v (.int .u8 ((fun i => List.getD [k % 256] i 0) i))]) (be (RV.id c % 4294967296) 4) i))]) [Int.negSucc a % 256] i)))] = [(SV.v (.int .u8 (List.getD (rpL k (Int.negSucc a) c []) i 0)))])))))))))))))) := by kernel_rfl
end Go.Proofs.Ytjdldadmaaeimaa
end
section
namespace Go.Proofs.Ytjdldadmaaeimaa
open Go.SE Go.RowKit
def rdL (L : List Int) (k : Nat) : Nat → Int
  | 0 => 0
  | i + 1 => rdL L k i * 256 + L.getD (k + i) 0
structure At where
  n : Nat
  bd : Int → Bool
  er : Int
def runA (s : ByteArray) (fin : Int → Pz) : Int → List At → Pz
  | k, [] => fin k
  | k, a :: l => (tkP s k a.n).seq (Pz.seq ⟨a.bd (rdT s k a.n), a.er⟩ (runA s fin (k + a.n) l))
def rds (s : ByteArray) : Int → List At → List Int
  | _, [] => []
  | k, a :: l => rdT s k a.n :: rds s (k + a.n) l
def atL : List At → Nat
  | [] => 0
  | a :: l => a.n + atL l
def enc : List At → List Int → List Int
  | a :: l, v :: vs => be v a.n ++ enc l vs
  | _, _ => []
def vok : List At → List Int → Prop
  | a :: l, v :: vs => ((0 ≤ v ∧ v < 256 ^ a.n) ∧ a.bd v = false) ∧ vok l vs
  | [], [] => True
  | _, _ => False
theorem rdT_byt (s : ByteArray) {k : Int} (hk : 0 ≤ k) : ∀ n : Nat, rdT s k n = rdL (byt s) k.toNat n
  | 0 => rfl
  | n + 1 => by
    simp only [rdT, rdL]
    rw [rdT_byt s hk n, byt_get]
theorem rdL_left {A B : List Int} {k : Nat} : ∀ {n : Nat}, k + n ≤ A.length → rdL (A ++ B) k n = rdL A k n
  | 0, _ => rfl
  | n + 1, h => by
    simp only [rdL]
    rw [rdL_left (by omega)]
    have : (A ++ B).getD (k + n) 0 = A.getD (k + n) 0 := by
      simp only [List.getD]
      rw [List.getElem?_append_left (by omega)]
    rw [this]
theorem rdL_right {A B : List Int} {k : Nat} : ∀ {n : Nat}, rdL (A ++ B) (A.length + k) n = rdL B k n
  | 0 => rfl
  | n + 1 => by
    simp only [rdL]
    rw [rdL_right]
    have : (A ++ B).getD (A.length + k + n) 0 = B.getD (k + n) 0 := by
      simp only [List.getD]
      rw [List.getElem?_append_right (by omega)]
      congr 2
      omega
    rw [this]
theorem be_snoc (v : Int) (n : Nat) : be v (n + 1) = be (v / 256) n ++ [v % 256] := by
  unfold be
  rw [beT_succ]
  congr 1
  · unfold beT
    refine List.map_congr_left fun j hj => ?_
    have hj := List.mem_range.1 hj
    unfold byteAt
    rw [show 8 * (n + 1 - 1 - j) = 8 * (n - 1 - j) + 8 by omega, Int.pow_add, Int.mul_comm, ← Int.ediv_ediv_of_nonneg (by decide)]
    rfl
  · unfold byteAt
    rw [show 8 * (n + 1 - 1 - n) = 0 by omega]
    simp
theorem rdL_be : ∀ (n : Nat) (v : Int), 0 ≤ v → v < 256 ^ n → rdL (be v n) 0 n = v
  | 0, v, h0, h1 => by
    have : v < 1 := h1
    simp only [rdL]; omega
  | n + 1, v, h0, h1 => by
    have hp : (256 : Int) ^ (n + 1) = 256 ^ n * 256 := Int.pow_succ 256 n
    have ih := rdL_be n (v / 256) (Int.ediv_nonneg h0 (by decide)) (Int.ediv_lt_of_lt_mul (by decide) (by rw [← hp]; exact h1))
    simp only [rdL]
    rw [be_snoc, rdL_left (by rw [be_len]; omega), ih]
    have : (be (v / 256) n ++ [v % 256]).getD (0 + n) 0 = v % 256 := by
      simp only [List.getD]
      rw [List.getElem?_append_right (by rw [be_len]; omega), be_len]
      simp
    rw [this]
    omega
theorem be_rdL {L : List Int} {k : Nat} (hb : ∀ x ∈ L, 0 ≤ x ∧ x < 256) : ∀ n : Nat, k + n ≤ L.length → be (rdL L k n) n = (L.drop k).take n
  | 0, _ => rfl
  | n + 1, h => by
    have ih := be_rdL (k := k) hb n (by omega)
    have hlt : k + n < L.length := by omega
    have hg : L.getD (k + n) 0 = L[k + n] := by simp [List.getD, List.getElem?_eq_getElem hlt]
    have hx := hb L[k + n] (List.getElem_mem hlt)
    rw [be_snoc]
    simp only [rdL]
    rw [hg]
    rw [show (rdL L k n * 256 + L[k + n]) / 256 = rdL L k n by omega, show (rdL L k n * 256 + L[k + n]) % 256 = L[k + n] by omega, ih]
    rw [List.take_add_one, List.getElem?_drop, List.getElem?_eq_getElem hlt]
    rfl
theorem rdL_rng {L : List Int} (hb : ∀ x ∈ L, 0 ≤ x ∧ x < 256) (k : Nat) : ∀ n : Nat, 0 ≤ rdL L k n ∧ rdL L k n < 256 ^ n
  | 0 => ⟨Int.le_refl _, by show (0 : Int) < 1; omega⟩
  | n + 1 => by
    obtain ⟨h1, h2⟩ := rdL_rng hb k n
    have hx : 0 ≤ L.getD (k + n) 0 ∧ L.getD (k + n) 0 < 256 := by
      simp only [List.getD]
      cases h : L[k + n]? with
      | none => exact ⟨Int.le_refl _, by decide⟩
      | some x => exact hb x (List.mem_of_getElem? h)
    simp only [rdL]
    rw [Int.pow_succ]
    omega
theorem be_rng (v : Int) (n : Nat) : ∀ x ∈ be v n, 0 ≤ x ∧ x < 256 := fun x hx => by
  unfold be beT byteAt at hx
  obtain ⟨i, _, rfl⟩ := List.mem_map.1 hx
  omega
theorem enc_rng : ∀ (l : List At) (vs : List Int), ∀ x ∈ enc l vs, 0 ≤ x ∧ x < 256
  | [], _, x, hx => by simp [enc] at hx
  | a :: l, [], x, hx => by simp [enc] at hx
  | a :: l, v :: vs, x, hx => by
    simp only [enc, List.mem_append] at hx
    rcases hx with hx | hx
    · exact be_rng _ _ x hx
    · exact enc_rng l vs x hx
theorem enc_len : ∀ {l : List At} {vs : List Int}, vok l vs → (enc l vs).length = atL l
  | [], [], _ => rfl
  | a :: l, v :: vs, h => by
    simp only [enc, atL, List.length_append, be_len]
    rw [enc_len h.2]
  | [], _ :: _, h => h.elim
  | _ :: _, [], h => h.elim
theorem tk_is {s : ByteArray} {k n : Int} (h : k + n ≤ (s.size : Int)) : (tkP s k n).bad = false := decide_eq_false (by omega)
theorem tk_no {s : ByteArray} {k n : Int} (h : (s.size : Int) < k + n) : (tkP s k n).bad = true ∧ (tkP s k n).er = 7 := ⟨decide_eq_true (by omega), rfl⟩
theorem run_enc {s : ByteArray} {X : List Int} {fin : Int → Pz} : ∀ {l : List At} {vs : List Int} {P : List Int}, byt s = P ++ (enc l vs ++ X) → vok l vs → runA s fin (P.length : Int) l = fin ((P.length + atL l : Nat) : Int) ∧ rds s (P.length : Int) l = vs
  | [], [], P, hs, hv => ⟨rfl, rfl⟩
  | [], _ :: _, P, hs, hv => hv.elim
  | _ :: _, [], P, hs, hv => hv.elim
  | a :: l, v :: vs, P, hs, hv => by
    obtain ⟨⟨⟨h0, h1⟩, h2⟩, h3⟩ := hv
    have hs' : byt s = P ++ (be v a.n ++ (enc l vs ++ X)) := by rw [hs]; simp only [enc, List.append_assoc]
    have hsz : s.size = P.length + (a.n + (enc l vs ++ X).length) := by
      rw [← byt_len, hs', List.length_append, List.length_append, be_len]
    have hr : rdT s (P.length : Int) a.n = v := by
      rw [rdT_byt s (by omega), Int.toNat_natCast, hs', show P.length = P.length + 0 from rfl, rdL_right, rdL_left (by rw [be_len]; omega)]
      exact rdL_be a.n v h0 h1
    have ih := run_enc (s := s) (X := X) (fin := fin) (l := l) (vs := vs) (P := P ++ be v a.n) (by rw [hs', List.append_assoc]) h3
    rw [List.length_append, be_len] at ih
    have e1 : ((P.length + a.n : Nat) : Int) = (P.length : Int) + (a.n : Int) := by omega
    rw [e1] at ih
    constructor
    · simp only [runA]
      rw [seq_ok (tk_is (by omega)), hr, seq_ok (a := ⟨a.bd v, a.er⟩) h2, ih.1]
      simp only [atL]
      rw [Nat.add_assoc]
    · simp only [rds]
      rw [hr, ih.2]
theorem run_dec {s : ByteArray} {fin : Int → Pz} : ∀ {l : List At} {k : Nat}, (runA s fin (k : Int) l).bad = false → k ≤ s.size → (k + atL l ≤ s.size ∧ (fin ((k + atL l : Nat) : Int)).bad = false) ∧ enc l (rds s (k : Int) l) = ((byt s).drop k).take (atL l) ∧ vok l (rds s (k : Int) l)
  | [], k, h, hk => ⟨⟨hk, h⟩, by simp [enc, atL], trivial⟩
  | a :: l, k, h, hk => by
    simp only [runA] at h
    obtain ⟨h1, h2⟩ := seq_f h
    obtain ⟨h2, h3⟩ := seq_f h2
    have hf := tk_f h1
    have e1 : (k : Int) + (a.n : Int) = ((k + a.n : Nat) : Int) := by omega
    rw [e1] at h3
    obtain ⟨⟨i1, i2⟩, i3, i4⟩ := run_dec h3 (by omega)
    have hr : rdT s (k : Int) a.n = rdL (byt s) k a.n := by rw [rdT_byt s (by omega), Int.toNat_natCast]
    have hR := byt_range s
    refine ⟨⟨by simp only [atL]; omega, by simp only [atL]; rw [← Nat.add_assoc]; exact i2⟩, ?_, ?_⟩
    · simp only [rds, enc, atL]
      rw [e1, i3, hr, be_rdL hR _ (by rw [byt_len]; omega), List.take_add, List.drop_drop]
    · simp only [rds, vok]
      rw [e1]
      refine ⟨⟨?_, h2⟩, i4⟩
      rw [hr]
      exact rdL_rng hR k a.n
theorem run_cut {s t : ByteArray} {fin fin' : Int → Pz} {m : Nat} (ht : byt t = (byt s).take m) (hm : t.size = m) : ∀ {l : List At} {k : Nat}, (runA s fin (k : Int) l).bad = false → k ≤ m → m < k + atL l → (runA t fin' (k : Int) l).bad = true ∧ (runA t fin' (k : Int) l).er = 7
  | [], k, h, hk, hl => by simp only [atL] at hl; omega
  | a :: l, k, h, hk, hl => by
    simp only [runA] at h ⊢
    obtain ⟨h1, h2⟩ := seq_f h
    obtain ⟨h2, h3⟩ := seq_f h2
    have e1 : (k : Int) + (a.n : Int) = ((k + a.n : Nat) : Int) := by omega
    by_cases hc : k + a.n ≤ m
    · have hr : rdT t (k : Int) a.n = rdT s (k : Int) a.n := by
        rw [rdT_byt t (by omega), rdT_byt s (by omega), Int.toNat_natCast, ht]
        conv => rhs; rw [← List.take_append_drop m (byt s)]
        rw [rdL_left]
        have := byt_len t
        rw [ht] at this
        omega
      rw [seq_ok (tk_is (by omega)), hr, seq_ok (a := ⟨a.bd (rdT s k a.n), a.er⟩) h2]
      rw [e1] at h3 ⊢
      exact run_cut ht hm h3 hc (by simp only [atL] at hl; omega)
    · have hn := tk_no (s := t) (k := k) (n := a.n) (by omega)
      have := seq_no (b := Pz.seq ⟨a.bd (rdT t k a.n), a.er⟩ (runA t fin' (k + a.n) l)) hn.1
      exact ⟨this.1, this.2.symm.trans hn.2⟩
theorem runA_app {s : ByteArray} {fin : Int → Pz} : ∀ {l1 l2 : List At} {k : Int}, runA s fin k (l1 ++ l2) = runA s (fun k' => runA s fin k' l2) k l1
  | [], l2, k => rfl
  | a :: l1, l2, k => by
    simp only [List.cons_append, runA]
    rw [runA_app]
theorem seq_assoc (a b c : Pz) : (a.seq b).seq c = a.seq (b.seq c) := by
  obtain ⟨ab, ae⟩ := a
  obtain ⟨bb, bi⟩ := b
  cases ab <;> rfl
theorem atL_app : ∀ (l1 l2 : List At), atL (l1 ++ l2) = atL l1 + atL l2
  | [], l2 => by simp [atL]
  | a :: l1, l2 => by simp only [List.cons_append, atL, atL_app l1 l2, Nat.add_assoc]
theorem rds_app {s : ByteArray} : ∀ {l1 l2 : List At} {k : Int}, rds s k (l1 ++ l2) = rds s k l1 ++ rds s (k + (atL l1 : Int)) l2
  | [], l2, k => by simp [rds, atL]
  | a :: l1, l2, k => by
    simp only [List.cons_append, rds, atL]
    rw [rds_app, show k + (a.n : Int) + (atL l1 : Int) = k + ((a.n + atL l1 : Nat) : Int) by omega]
theorem enc_app : ∀ {l1 l2 : List At} {v1 v2 : List Int}, v1.length = l1.length → enc (l1 ++ l2) (v1 ++ v2) = enc l1 v1 ++ enc l2 v2
  | [], l2, [], v2, _ => rfl
  | [], l2, _ :: _, v2, h => by simp at h
  | _ :: _, l2, [], v2, h => by simp at h
  | a :: l1, l2, v :: v1, v2, h => by
    simp only [List.cons_append, enc]
    rw [enc_app (by simpa using h), List.append_assoc]
theorem vok_app : ∀ {l1 l2 : List At} {v1 v2 : List Int}, v1.length = l1.length → (vok (l1 ++ l2) (v1 ++ v2) ↔ vok l1 v1 ∧ vok l2 v2)
  | [], l2, [], v2, _ => by simp [vok]
  | [], l2, _ :: _, v2, h => by simp at h
  | _ :: _, l2, [], v2, h => by simp at h
  | a :: l1, l2, v :: v1, v2, h => by
    simp only [List.cons_append, vok]
    rw [vok_app (by simpa using h)]
    simp only [and_assoc]
end Go.Proofs.Ytjdldadmaaeimaa
end
section
namespace Go.Proofs.Ytjdldadmaaeimaa
open Go.SE Go.RowKit
def aI : At := ⟨8, fun _ => false, 4⟩
def aC : At := ⟨4, fun v => decide (2147483647 < v), 4⟩
def aV : At := ⟨8, fun v => decide (1099511627776 < v), 4⟩
def aF : At := ⟨1, fun v => decide (1 < v), 4⟩
def aS : At := ⟨1, fun v => decide (255 < v), 4⟩
def aN : At := ⟨1, fun v => decide (8 < v), 4⟩
def aM : At := ⟨8, fun v => IntKind.i64.wrap v == -9223372036854775808, 4⟩
def aKd (low : Int) : At := ⟨1, fun v => !(decide (low ≤ v) && decide (v ≤ 10)), 8⟩
def flN (b : Bool) : Int := bif b then 1 else 0
def spA : Nat → List At
  | 0 => []
  | n + 1 => spA n ++ [aI, aI]
def spVs (g : Nat → Int × Int) : Nat → List Int
  | 0 => []
  | n + 1 => spVs g n ++ [(g n).1 % 18446744073709551616, (g n).2 % 18446744073709551616]
theorem be1 (v : Int) : be v 1 = [v % 256] := by rw [be_snoc]; rfl
theorem flN_be (f : Bool) : flB f = be (flN f) 1 := by rw [be1]; cases f <;> rfl
theorem spt_run {s : ByteArray} {k : Int} : ∀ {n : Nat} {F : Int → Pz}, (sptP s k n).seq (F (k + 16 * (n : Int))) = runA s F k (spA n)
  | 0, F => by
    rw [show k + 16 * ((0 : Nat) : Int) = k by omega]
    rfl
  | n + 1, F => by
    simp only [sptP, spA]
    rw [seq_assoc, runA_app, ← spt_run (n := n) (F := fun k' => runA s F k' [aI, aI])]
    show _ = (sptP s k n).seq ((tkP s (k + 16 * (n : Int)) 8).seq ((tkP s (k + 16 * (n : Int) + 8) 8).seq (F (k + 16 * (n : Int) + 8 + 8))))
    unfold spP
    rw [seq_assoc, show k + 16 * ((n + 1 : Nat) : Int) = k + 16 * (n : Int) + 8 + 8 by omega]
theorem sh_run {s : ByteArray} {k : Int} {F : Int → Pz} : (shP s k).seq (F (shEnd s k)) = runA s F k ([aS, aI, aI, aI, aN] ++ spA (shC s k)) := by
  rw [runA_app]
  unfold shP upP
  simp only [seq_assoc]
  unfold shEnd
  rw [spt_run (n := shC s k) (F := F)]
  rfl
theorem spA_len : ∀ n : Nat, atL (spA n) = 16 * n
  | 0 => rfl
  | n + 1 => by
    simp only [spA]
    rw [atL_app, spA_len n]
    show 16 * n + 16 = _
    omega
theorem spA_length : ∀ n : Nat, (spA n).length = 2 * n
  | 0 => rfl
  | n + 1 => by simp only [spA, List.length_append, spA_length n, List.length_cons, List.length_nil]; omega
theorem spVs_length (g : Nat → Int × Int) : ∀ n : Nat, (spVs g n).length = 2 * n
  | 0 => rfl
  | n + 1 => by simp only [spVs, List.length_append, spVs_length g n, List.length_cons, List.length_nil]; omega
theorem spots_enc (g : Nat → Int × Int) : ∀ n : Nat, spotsL (fun i => (g i).1) (fun i => (g i).2) n = enc (spA n) (spVs g n)
  | 0 => rfl
  | n + 1 => by
    simp only [spotsL, spA, spVs]
    rw [enc_app (by rw [spVs_length, spA_length]), spots_enc g n]
    simp only [enc, List.append_nil]
    rfl
theorem spots_vok (g : Nat → Int × Int) : ∀ n : Nat, vok (spA n) (spVs g n)
  | 0 => trivial
  | n + 1 => by
    simp only [spA, spVs]
    rw [vok_app (by rw [spVs_length, spA_length])]
    refine ⟨spots_vok g n, ⟨⟨Int.emod_nonneg _ (by decide), Int.emod_lt_of_pos _ (by decide)⟩, rfl⟩, ⟨⟨Int.emod_nonneg _ (by decide), Int.emod_lt_of_pos _ (by decide)⟩, rfl⟩, trivial⟩
theorem wrap_mod {x : Int} (h : I64 x) : IntKind.i64.wrap (x % 18446744073709551616) = x := by
  obtain ⟨h1, h2⟩ := h
  rw [wrap_i64e]
  omega
theorem mod_wrap {x : Int} (h0 : 0 ≤ x) (h1 : x < 18446744073709551616) : IntKind.i64.wrap x % 18446744073709551616 = x := by
  rw [wrap_i64e]
  omega
theorem fC {r x : Int} (h : r = x % 4294967296) (hx : 0 ≤ x ∧ x ≤ 2147483647) : r = x := by omega
theorem fV {r x : Int} (h : r = x % 18446744073709551616) (hx : 0 ≤ x ∧ x ≤ 1099511627776) : r = x := by omega
theorem fI {s : ByteArray} {p x : Int} (h : rdT s p 8 = x % 18446744073709551616) (hx : I64 x) : rdI s p = x := by rw [rdI_eq, h, wrap_mod hx]
theorem fF {s : ByteArray} {p : Int} {f : Bool} (h : rdT s p 1 = flN f) : rdF s p = f := by
  unfold rdF
  rw [h]
  cases f <;> rfl
theorem gC {r : Int} (h0 : 0 ≤ r) (h1 : decide (2147483647 < r) = false) : r % 4294967296 = r := by
  have := of_decide_eq_false h1
  omega
theorem gV {r : Int} (h0 : 0 ≤ r) (h1 : decide (1099511627776 < r) = false) : r % 18446744073709551616 = r := by
  have := of_decide_eq_false h1
  omega
theorem gI' {s : ByteArray} {p : Int} : rdI s p % 18446744073709551616 = rdT s p 8 := by
  have h := rdT_rng s p 8
  rw [rdI_eq]
  exact mod_wrap h.1 h.2
theorem gF {s : ByteArray} {p : Int} (h1 : decide (1 < rdT s p 1) = false) : flN (rdF s p) = rdT s p 1 := by
  have h := rdT_rng s p 1
  have h1 := of_decide_eq_false h1
  unfold rdF flN
  by_cases h2 : rdT s p 1 = 1
  · rw [h2]; rfl
  · rw [show (rdT s p 1 == 1) = false by simpa using h2]
    show 0 = _
    omega
end Go.Proofs.Ytjdldadmaaeimaa
end
section
namespace Go.Proofs.Ytjdldadmaaeimaa
open Go.SE Go.RowKit
theorem notIn_f {x m : Int} (h : notIn x m = false) : 0 ≤ x ∧ x ≤ m := by
  unfold notIn at h
  have h : (decide (0 ≤ x) && decide (x ≤ m)) = true := by
    cases hb : (decide (0 ≤ x) && decide (x ≤ m)) with
    | true => rfl
    | false => rw [hb] at h; cases h
  rw [Bool.and_eq_true] at h
  exact ⟨of_decide_eq_true h.1, of_decide_eq_true h.2⟩
theorem notIn_of {x m : Int} (h : 0 ≤ x ∧ x ≤ m) : notIn x m = false := by
  unfold notIn
  rw [decide_eq_true h.1, decide_eq_true h.2]
  rfl
theorem vC {x : Int} (h : notIn x 2147483647 = false) : (0 ≤ x % 4294967296 ∧ x % 4294967296 < 256 ^ aC.n) ∧ aC.bd (x % 4294967296) = false := by
  have h := notIn_f h
  have e : x % 4294967296 = x := by omega
  rw [e]
  exact ⟨⟨h.1, by show x < 4294967296; omega⟩, decide_eq_false (by omega)⟩
theorem vV {x : Int} (h : notIn x 1099511627776 = false) : (0 ≤ x % 18446744073709551616 ∧ x % 18446744073709551616 < 256 ^ aV.n) ∧ aV.bd (x % 18446744073709551616) = false := by
  have h := notIn_f h
  have e : x % 18446744073709551616 = x := by omega
  rw [e]
  exact ⟨⟨h.1, by show x < 18446744073709551616; omega⟩, decide_eq_false (by omega)⟩
theorem vI {x : Int} : (0 ≤ x % 18446744073709551616 ∧ x % 18446744073709551616 < 256 ^ aI.n) ∧ aI.bd (x % 18446744073709551616) = false :=
  ⟨⟨Int.emod_nonneg _ (by decide), Int.emod_lt_of_pos _ (by decide)⟩, rfl⟩
theorem vM {x : Int} (hx : I64 x) (h : isMin x = false) : (0 ≤ x % 18446744073709551616 ∧ x % 18446744073709551616 < 256 ^ aM.n) ∧ aM.bd (x % 18446744073709551616) = false :=
  ⟨⟨Int.emod_nonneg _ (by decide), Int.emod_lt_of_pos _ (by decide)⟩, by
    show (IntKind.i64.wrap (x % 18446744073709551616) == -9223372036854775808) = false
    rw [wrap_mod hx]
    exact h⟩
theorem vF {f : Bool} : (0 ≤ flN f ∧ flN f < 256 ^ aF.n) ∧ aF.bd (flN f) = false := by cases f <;> exact ⟨⟨by decide, by decide⟩, rfl⟩
theorem vS {x : Int} (h : notIn x 255 = false) : (0 ≤ x ∧ x < 256 ^ aS.n) ∧ aS.bd x = false := by
  have h := notIn_f h
  exact ⟨⟨h.1, by show x < 256; omega⟩, decide_eq_false (by omega)⟩
theorem vN {n : Nat} (h : notIn (n : Int) 8 = false) : (0 ≤ (n : Int) ∧ (n : Int) < 256 ^ aN.n) ∧ aN.bd (n : Int) = false := by
  have h := notIn_f h
  exact ⟨⟨h.1, by show (n : Int) < 256; omega⟩, decide_eq_false (by omega)⟩
theorem vKd {k low : Int} (h0 : 0 ≤ low) (h1 : low ≤ k) (h2 : k ≤ 10) : (0 ≤ k ∧ k < 256 ^ (aKd low).n) ∧ (aKd low).bd k = false :=
  ⟨⟨by omega, by show k < 256; omega⟩, by
    show (!(decide (low ≤ k) && decide (k ≤ 10))) = false
    rw [decide_eq_true h1, decide_eq_true h2]
    rfl⟩
theorem rds_length {s : ByteArray} : ∀ {l : List At} {k : Int}, (rds s k l).length = l.length
  | [], _ => rfl
  | a :: l, k => by simp only [rds, List.length_cons, rds_length]
theorem spots_back {s : ByteArray} {k : Int} {g : Nat → Int × Int} : ∀ {n : Nat}, rds s k (spA n) = spVs g n → (∀ i, i < n → I64 (g i).1 ∧ I64 (g i).2) → ∀ i, i < n → rdSp s k i = g i
  | 0, _, _, i, hi => absurd hi (Nat.not_lt_zero _)
  | n + 1, h, hg, i, hi => by
    simp only [spA, spVs] at h
    rw [rds_app] at h
    obtain ⟨h1, h2⟩ := List.append_inj h (by rw [rds_length, spA_length, spVs_length])
    by_cases hin : i = n
    · subst hin
      rw [spA_len] at h2
      simp only [rds, List.cons.injEq, and_true] at h2
      have e1 : k + ((16 * i : Nat) : Int) = k + 16 * (i : Int) := by omega
      rw [e1] at h2
      have g1 := fI h2.1 (hg i hi).1
      have g2 : rdI s (k + 16 * (i : Int) + 8) = (g i).2 := fI h2.2 (hg i hi).2
      unfold rdSp
      rw [g1, g2]
    · exact spots_back h1 (fun m hm => hg m (by omega)) i (by omega)
theorem spots_is {s : ByteArray} {k : Int} : ∀ n : Nat, spVs (rdSp s k) n = rds s k (spA n)
  | 0 => rfl
  | n + 1 => by
    simp only [spA, spVs]
    rw [rds_app, spots_is n, spA_len]
    congr 1
    simp only [rds]
    have e1 : k + ((16 * n : Nat) : Int) = k + 16 * (n : Int) := by omega
    rw [e1]
    show [rdI s (k + 16 * (n : Int)) % 18446744073709551616, rdI s (k + 16 * (n : Int) + 8) % 18446744073709551616] = _
    rw [gI', gI']
    rfl
end Go.Proofs.Ytjdldadmaaeimaa
end
section
namespace Go.Proofs.Ytjdldadmaaeimaa
open Go.SE Go.RowKit
theorem sameP_self (n : Nat) (g : Nat → Int × Int) : sameP n g n g = true := by
  unfold sameP
  rw [Nat.beq_refl, Bool.true_and]
  exact List.all_eq_true.2 fun i _ => by unfold eqP; rw [beq_self_eq_true, beq_self_eq_true]; rfl
theorem eqSh_self (a : ShB) : eqSh a a = true := by
  unfold eqSh
  simp only [beq_self_eq_true, Bool.and_self]
end Go.Proofs.Ytjdldadmaaeimaa
end
section
namespace Go.Proofs.Ytjdldadmaaeimaa
open Go.SE Go.RowKit
theorem mC {r : Int} (h : (0 ≤ r ∧ r < 256 ^ aC.n) ∧ aC.bd r = false) : notIn r 2147483647 = false := notIn_of ⟨h.1.1, by have := of_decide_eq_false h.2; omega⟩
theorem mV {r : Int} (h : (0 ≤ r ∧ r < 256 ^ aV.n) ∧ aV.bd r = false) : notIn r 1099511627776 = false := notIn_of ⟨h.1.1, by have := of_decide_eq_false h.2; omega⟩
theorem mS {r : Int} (h : (0 ≤ r ∧ r < 256 ^ aS.n) ∧ aS.bd r = false) : notIn r 255 = false := notIn_of ⟨h.1.1, by have := of_decide_eq_false h.2; omega⟩
theorem mN {r : Int} {n : Nat} (e : r = (n : Int)) (h : (0 ≤ r ∧ r < 256 ^ aN.n) ∧ aN.bd r = false) : notIn (n : Int) 8 = false := by
  subst e
  exact notIn_of ⟨h.1.1, by have := of_decide_eq_false h.2; omega⟩
theorem mM {s : ByteArray} {p : Int} (h : (0 ≤ rdT s p 8 ∧ rdT s p 8 < 256 ^ aM.n) ∧ aM.bd (rdT s p 8) = false) : isMin (rdI s p) = false := by
  rw [rdI_eq]
  exact h.2
theorem iC {r : Int} (h : (0 ≤ r ∧ r < 256 ^ aC.n) ∧ aC.bd r = false) : I64 r := by
  have := of_decide_eq_false h.2
  exact ⟨by omega, by omega⟩
theorem iV' {r : Int} (h : (0 ≤ r ∧ r < 256 ^ aV.n) ∧ aV.bd r = false) : I64 r := by
  have := of_decide_eq_false h.2
  exact ⟨by omega, by omega⟩
theorem iS {r : Int} (h : (0 ≤ r ∧ r < 256 ^ aS.n) ∧ aS.bd r = false) : I64 r := by
  have := of_decide_eq_false h.2
  exact ⟨by omega, by omega⟩
theorem rdI_rng (s : ByteArray) (p : Int) : I64 (rdI s p) := by
  have h := rdT_rng s p 8
  have h2 : rdT s p 8 < 18446744073709551616 := h.2
  rw [rdI_eq, wrap_i64e]
  unfold I64
  omega
theorem i0 : I64 0 := ⟨by decide, by decide⟩
theorem en_f {s : ByteArray} {k : Nat} (h : (enP s (k : Int)).bad = false) : k = s.size := by
  have h : (!((k : Int) == (s.size : Int))) = false := h
  have : ((k : Int) == (s.size : Int)) = true := by
    cases hb : ((k : Int) == (s.size : Int)) with
    | true => rfl
    | false => rw [hb] at h; cases h
  have := beq_iff_eq.1 this
  omega
end Go.Proofs.Ytjdldadmaaeimaa
end
section
namespace Go.Proofs.Ytjdldadmaaeimaa
open Go.SE Go.RowKit
def aE : At := ⟨1, fun v => decide (14 < v), 4⟩
def aK3 : At := ⟨1, fun v => decide (3 < v), 4⟩
def aHs : At := ⟨1, fun v => decide (64 < v), 4⟩
def boA (n : Nat) : List At := [aS, aI, aI, aI, aN] ++ (spA n ++ [aM, aF, aM, aF, aM, aF, aM, aF, aM, aF, aM, aF, aM, aF, aM, aF, aM, aF, aC, aK3, aV])
def boVs (b : BV) (n : Nat) (g : Nat → Int × Int) : List Int := [b.sk, b.sr % 18446744073709551616, b.sw % 18446744073709551616, b.sh % 18446744073709551616, (n : Int)] ++ (spVs g n ++ [b.p0v % 18446744073709551616, flN b.p0f, b.p1v % 18446744073709551616, flN b.p1f, b.p2v % 18446744073709551616, flN b.p2f, b.p3v % 18446744073709551616, flN b.p3f, b.v0v % 18446744073709551616, flN b.v0f, b.v1v % 18446744073709551616, flN b.v1f, b.w0v % 18446744073709551616, flN b.w0f, b.m0v % 18446744073709551616, flN b.m0f, b.m1v % 18446744073709551616, flN b.m1f, b.st % 4294967296, bmk b, b.bv % 18446744073709551616])
def hsA : Nat → List At
  | 0 => []
  | n + 1 => hsA n ++ [aC, aC]
def hsVs (h : Nat → Int × Int) : Nat → List Int
  | 0 => []
  | n + 1 => hsVs h n ++ [(h n).1 % 4294967296, (h n).2 % 4294967296]
def rA1 (n m : Nat) : List At := [aC, aC, aV]
def rV1 (c : RV) (n : Nat) (g : Nat → Int × Int) (m : Nat) (h : Nat → Int × Int) : List Int := [c.bs % 4294967296, c.bg % 4294967296, c.ver % 18446744073709551616]
def rA2 (n m : Nat) : List At := [aC, aC]
def rV2 (c : RV) (n : Nat) (g : Nat → Int × Int) (m : Nat) (h : Nat → Int × Int) : List Int := [c.bs % 4294967296, c.bg % 4294967296]
def rA3 (n m : Nat) : List At := [aC, aC, aV]
def rV3 (c : RV) (n : Nat) (g : Nat → Int × Int) (m : Nat) (h : Nat → Int × Int) : List Int := [c.bs % 4294967296, c.bg % 4294967296, c.ver % 18446744073709551616]
def rA4 (n m : Nat) : List At := [aC, aC, aV, aC]
def rV4 (c : RV) (n : Nat) (g : Nat → Int × Int) (m : Nat) (h : Nat → Int × Int) : List Int := [c.bs % 4294967296, c.bg % 4294967296, c.ver % 18446744073709551616, c.gr % 4294967296]
def rA5 (n m : Nat) : List At := [aC]
def rV5 (c : RV) (n : Nat) (g : Nat → Int × Int) (m : Nat) (h : Nat → Int × Int) : List Int := [c.gr % 4294967296]
def rA6 (n m : Nat) : List At := [aC]
def rV6 (c : RV) (n : Nat) (g : Nat → Int × Int) (m : Nat) (h : Nat → Int × Int) : List Int := [c.gr % 4294967296]
def rA7 (n m : Nat) : List At := [aC, aC] ++ boA n
def rV7 (c : RV) (n : Nat) (g : Nat → Int × Int) (m : Nat) (h : Nat → Int × Int) : List Int := [c.bs % 4294967296, c.bg % 4294967296] ++ boVs c.o n g
def rA8 (n m : Nat) : List At := [aHs] ++ hsA m
def rV8 (c : RV) (n : Nat) (g : Nat → Int × Int) (m : Nat) (h : Nat → Int × Int) : List Int := [(m : Int)] ++ hsVs h m
def rA9 (n m : Nat) : List At := [aC, aC, aF, aM, aF, aM, aF, aM, aF]
def rV9 (c : RV) (n : Nat) (g : Nat → Int × Int) (m : Nat) (h : Nat → Int × Int) : List Int := [c.bs % 4294967296, c.bg % 4294967296, flN c.hit, c.htv % 18446744073709551616, flN c.htf, c.x0v % 18446744073709551616, flN c.x0f, c.x1v % 18446744073709551616, flN c.x1f]
def rA10 (n m : Nat) : List At := [aC]
def rV10 (c : RV) (n : Nat) (g : Nat → Int × Int) (m : Nat) (h : Nat → Int × Int) : List Int := [c.cnt % 4294967296]
def rAK (k e : Int) (n m : Nat) : List At := bif e == 0 then (bif k == 1 then rA1 n m else (bif k == 2 then rA2 n m else (bif k == 3 then rA3 n m else (bif k == 4 then rA4 n m else (bif k == 5 then rA5 n m else (bif k == 6 then rA6 n m else (bif k == 7 then rA7 n m else (bif k == 8 then rA8 n m else (bif k == 9 then rA9 n m else (rA10 n m)))))))))) else (bif e == 14 then [aV] else [])
def rVK (k e : Int) (c : RV) (n : Nat) (g : Nat → Int × Int) (m : Nat) (h : Nat → Int × Int) : List Int := bif e == 0 then (bif k == 1 then rV1 c n g m h else (bif k == 2 then rV2 c n g m h else (bif k == 3 then rV3 c n g m h else (bif k == 4 then rV4 c n g m h else (bif k == 5 then rV5 c n g m h else (bif k == 6 then rV6 c n g m h else (bif k == 7 then rV7 c n g m h else (bif k == 8 then rV8 c n g m h else (bif k == 9 then rV9 c n g m h else (rV10 c n g m h)))))))))) else (bif e == 14 then [c.ver % 18446744073709551616] else [])
def atR (k e : Int) (n m : Nat) : List At := aKd 0 :: aC :: aE :: rAK k e n m
def vsR (k e : Int) (c : RV) (n : Nat) (g : Nat → Int × Int) (m : Nat) (h : Nat → Int × Int) : List Int := k :: c.id % 4294967296 :: e :: rVK k e c n g m h
noncomputable def finR (s : ByteArray) (k e : Int) : Int → Pz := fun p => bif e == 0 && k == 9 then (rayP s 0).seq (enP s p) else enP s p
theorem bd_run {s : ByteArray} {k : Int} {F : Int → Pz} : (bdP s k).seq (F (bdEnd s k)) = runA s F k (boA (shC s k)) := by
  have e : ∀ e : Int, (psP s (e)).seq ((vcP s (e + 8 + 1 + 8 + 1 + 8 + 1 + 8 + 1)).seq ((nuP s (e + 8 + 1 + 8 + 1 + 8 + 1 + 8 + 1 + 8 + 1 + 8 + 1)).seq ((nuP s (e + 8 + 1 + 8 + 1 + 8 + 1 + 8 + 1 + 8 + 1 + 8 + 1 + 8 + 1)).seq ((nuP s (e + 8 + 1 + 8 + 1 + 8 + 1 + 8 + 1 + 8 + 1 + 8 + 1 + 8 + 1 + 8 + 1)).seq ((upP s (e + 8 + 1 + 8 + 1 + 8 + 1 + 8 + 1 + 8 + 1 + 8 + 1 + 8 + 1 + 8 + 1 + 8 + 1) 2147483647 4).seq ((upP s (e + 8 + 1 + 8 + 1 + 8 + 1 + 8 + 1 + 8 + 1 + 8 + 1 + 8 + 1 + 8 + 1 + 8 + 1 + 4) 3 1).seq ((upP s (e + 8 + 1 + 8 + 1 + 8 + 1 + 8 + 1 + 8 + 1 + 8 + 1 + 8 + 1 + 8 + 1 + 8 + 1 + 4 + 1) 1099511627776 8).seq (F (e + 8 + 1 + 8 + 1 + 8 + 1 + 8 + 1 + 8 + 1 + 8 + 1 + 8 + 1 + 8 + 1 + 8 + 1 + 4 + 1 + 8))))))))) = runA s F e [aM, aF, aM, aF, aM, aF, aM, aF, aM, aF, aM, aF, aM, aF, aM, aF, aM, aF, aC, aK3, aV] := fun e => by
    unfold psP vcP nuP upP
    simp only [seq_assoc, rdI_eq]
    rfl
  unfold boA
  rw [← List.append_assoc, runA_app, ← sh_run (F := fun e => runA s F e [aM, aF, aM, aF, aM, aF, aM, aF, aM, aF, aM, aF, aM, aF, aM, aF, aM, aF, aC, aK3, aV]), ← e]
  unfold bdP bdEnd
  simp only [seq_assoc]
theorem hds_run {s : ByteArray} {k : Int} : ∀ {n : Nat} {F : Int → Pz}, (hdsP s k n).seq (F (k + 8 * (n : Int))) = runA s F k (hsA n)
  | 0, F => by
    rw [show k + 8 * ((0 : Nat) : Int) = k by omega]
    rfl
  | n + 1, F => by
    simp only [hdsP, hsA]
    rw [seq_assoc, runA_app, ← hds_run (n := n) (F := fun k' => runA s F k' [aC, aC])]
    unfold haP upP
    rw [show k + 8 * ((n + 1 : Nat) : Int) = k + 8 * (n : Int) + 4 + 4 by omega]
    simp only [seq_assoc]
    rfl
theorem qP1_run (s : ByteArray) (n m : Nat) : qP1 s 0 = runA s (enP s) (0 + 1 + 4 + 1) (rA1 n m) := by
  unfold qP1 rA1
  try unfold haP
  try unfold vcP
  try unfold nuP
  try unfold upP
  try simp only [seq_assoc]
  try simp only [rdI_eq]
  rfl
theorem qP2_run (s : ByteArray) (n m : Nat) : qP2 s 0 = runA s (enP s) (0 + 1 + 4 + 1) (rA2 n m) := by
  unfold qP2 rA2
  try unfold haP
  try unfold vcP
  try unfold nuP
  try unfold upP
  try simp only [seq_assoc]
  try simp only [rdI_eq]
  rfl
theorem qP3_run (s : ByteArray) (n m : Nat) : qP3 s 0 = runA s (enP s) (0 + 1 + 4 + 1) (rA3 n m) := by
  unfold qP3 rA3
  try unfold haP
  try unfold vcP
  try unfold nuP
  try unfold upP
  try simp only [seq_assoc]
  try simp only [rdI_eq]
  rfl
theorem qP4_run (s : ByteArray) (n m : Nat) : qP4 s 0 = runA s (enP s) (0 + 1 + 4 + 1) (rA4 n m) := by
  unfold qP4 rA4
  try unfold haP
  try unfold vcP
  try unfold nuP
  try unfold upP
  try simp only [seq_assoc]
  try simp only [rdI_eq]
  rfl
theorem qP5_run (s : ByteArray) (n m : Nat) : qP5 s 0 = runA s (enP s) (0 + 1 + 4 + 1) (rA5 n m) := by
  unfold qP5 rA5
  try unfold haP
  try unfold vcP
  try unfold nuP
  try unfold upP
  try simp only [seq_assoc]
  try simp only [rdI_eq]
  rfl
theorem qP6_run (s : ByteArray) (n m : Nat) : qP6 s 0 = runA s (enP s) (0 + 1 + 4 + 1) (rA6 n m) := by
  unfold qP6 rA6
  try unfold haP
  try unfold vcP
  try unfold nuP
  try unfold upP
  try simp only [seq_assoc]
  try simp only [rdI_eq]
  rfl
theorem qP7_run (s : ByteArray) (m : Nat) : qP7 s 0 = runA s (enP s) (0 + 1 + 4 + 1) (rA7 (shC s (0 + 1 + 4 + 1 + 4 + 4)) m) := by
  unfold qP7 rA7
  rw [bd_run (F := enP s), runA_app]
  unfold haP upP
  simp only [seq_assoc]
  rfl
theorem qP8_run (s : ByteArray) (n : Nat) : qP8 s 0 = runA s (enP s) (0 + 1 + 4 + 1) (rA8 n (hdC s 0)) := by
  unfold qP8 rA8
  rw [hds_run (F := enP s), runA_app]
  unfold upP
  simp only [seq_assoc]
  rfl
theorem qP9_run (s : ByteArray) (n m : Nat) : qP9 s 0 = runA s (fun p => (rayP s 0).seq (enP s p)) (0 + 1 + 4 + 1) (rA9 n m) := by
  unfold qP9 rA9
  try unfold haP
  try unfold vcP
  try unfold nuP
  try unfold upP
  try simp only [seq_assoc]
  try simp only [rdI_eq]
  rfl
theorem qP10_run (s : ByteArray) (n m : Nat) : qP10 s 0 = runA s (enP s) (0 + 1 + 4 + 1) (rA10 n m) := by
  unfold qP10 rA10
  try unfold haP
  try unfold vcP
  try unfold nuP
  try unfold upP
  try simp only [seq_assoc]
  try simp only [rdI_eq]
  rfl
theorem ten_b {k : Int} (h : 1 ≤ k ∧ k ≤ 10) : k = 1 ∨ k = 2 ∨ k = 3 ∨ k = 4 ∨ k = 5 ∨ k = 6 ∨ k = 7 ∨ k = 8 ∨ k = 9 ∨ k = 10 := by omega
theorem eq_no {a b : Int} (h : a ≠ b) : (a == b) = false := by simpa using h
theorem rpR_run {s : ByteArray} {k e : Int} (hk : rdT s 0 1 = k) (he : rdT s (0 + 1 + 4) 1 = e) (h : e = 0 → 1 ≤ k ∧ k ≤ 10) : rpR s 0 = runA s (finR s k e) (0 + 1 + 4 + 1) (rAK k e (rpN s 0) (rpM s 0)) := by
  unfold rpR rpN rpM
  rw [hk, he]
  by_cases h0 : e = 0
  · subst h0
    rcases ten_b (h rfl) with x | x | x | x | x | x | x | x | x | x <;> subst x
    · exact qP1_run s 0 0
    · exact qP2_run s 0 0
    · exact qP3_run s 0 0
    · exact qP4_run s 0 0
    · exact qP5_run s 0 0
    · exact qP6_run s 0 0
    · exact qP7_run s 0
    · exact qP8_run s 0
    · exact qP9_run s 0 0
    · exact qP10_run s 0 0
  · unfold rAK finR
    rw [eq_no h0]
    show qPN s 0 = runA s (enP s) _ (bif e == 14 then [aV] else [])
    unfold qPN
    rw [he]
    by_cases h14 : e = 14
    · subst h14
      unfold upP
      show ((tkP s (0 + 1 + 4 + 1) 8).seq _).seq _ = _
      simp only [seq_assoc]
      rfl
    · rw [eq_no h14]
      rfl
theorem rpP_run {s : ByteArray} {k e : Int} (hk : rdT s 0 1 = k) (he : rdT s (0 + 1 + 4) 1 = e) (h : e = 0 → 1 ≤ k ∧ k ≤ 10) (h1 : (n1P s 0).bad = false) (h2 : (n2P s 0).bad = false) : rpP s 0 = runA s (finR s k e) 0 (atR k e (rpN s 0) (rpM s 0)) := by
  unfold rpP
  rw [seq_ok h1, seq_ok h2, rpR_run hk he h]
  unfold kiP upP atR
  simp only [seq_assoc, runA]
  rfl
end Go.Proofs.Ytjdldadmaaeimaa
end
section
namespace Go.Proofs.Ytjdldadmaaeimaa
open Go.SE Go.RowKit
@[reducible] def okA (a : At) (v : Int) : Prop := (0 ≤ v ∧ v < 256 ^ a.n) ∧ a.bd v = false
theorem bmk_be (b : BV) : [bmk b] = be (bmk b) 1 := by
  rw [be1]
  unfold bmk
  cases b.asl <;> cases b.flt <;> rfl
theorem vMk {b : BV} : (0 ≤ bmk b ∧ bmk b < 256 ^ aK3.n) ∧ aK3.bd (bmk b) = false := by
  unfold bmk
  cases b.asl <;> cases b.flt <;> exact ⟨⟨by decide, by decide⟩, rfl⟩
theorem mk_four {v : Int} (h0 : 0 ≤ v) (h1 : decide (3 < v) = false) : v = 0 ∨ v = 1 ∨ v = 2 ∨ v = 3 := by
  have := of_decide_eq_false h1
  omega
theorem fMk1 {r : Int} {b : BV} (h : r = bmk b) : mk1 r = b.asl := by
  subst h
  unfold bmk
  cases b.asl <;> cases b.flt <;> rfl
theorem fMk2 {r : Int} {b : BV} (h : r = bmk b) : mk2 r = b.flt := by
  subst h
  unfold bmk
  cases b.asl <;> cases b.flt <;> rfl
theorem gMk {v : Int} (h0 : 0 ≤ v) (h1 : decide (3 < v) = false) : (bif mk1 v then 1 else 0) + (bif mk2 v then 2 else 0) = v := by
  rcases mk_four h0 h1 with h | h | h | h <;> subst h <;> rfl
theorem hs_length (h : Nat → Int × Int) : ∀ n : Nat, (hsVs h n).length = (hsA n).length
  | 0 => rfl
  | n + 1 => by simp only [hsVs, hsA, List.length_append, hs_length h n, List.length_cons, List.length_nil]
theorem hsA_len : ∀ n : Nat, atL (hsA n) = 8 * n
  | 0 => rfl
  | n + 1 => by
    simp only [hsA]
    rw [atL_app, hsA_len n]
    show 8 * n + 8 = _
    omega
theorem hs_enc (h : Nat → Int × Int) : ∀ n : Nat, hsL (fun i => (h i).1) (fun i => (h i).2) n = enc (hsA n) (hsVs h n)
  | 0 => rfl
  | n + 1 => by
    simp only [hsL, hsA, hsVs]
    rw [enc_app (hs_length h n), hs_enc h n]
    simp only [enc, List.append_nil]
    rfl
theorem hs_vok {h : Nat → Int × Int} : ∀ {n : Nat}, anyH (fun i => (h i).1) (fun i => (h i).2) n = false → vok (hsA n) (hsVs h n)
  | 0, _ => trivial
  | n + 1, e => by
    simp only [anyH, hBad, Bool.or_eq_false_iff] at e
    simp only [hsA, hsVs]
    rw [vok_app (hs_length h n)]
    exact ⟨hs_vok e.1, vC e.2.1, vC e.2.2, trivial⟩
theorem hs_back {s : ByteArray} {k : Int} {h : Nat → Int × Int} : ∀ {n : Nat}, rds s k (hsA n) = hsVs h n → anyH (fun i => (h i).1) (fun i => (h i).2) n = false → ∀ i, i < n → rdHd s k i = h i
  | 0, _, _, i, hi => absurd hi (Nat.not_lt_zero _)
  | n + 1, e, ha, i, hi => by
    simp only [anyH, hBad, Bool.or_eq_false_iff] at ha
    simp only [hsA, hsVs] at e
    rw [rds_app] at e
    obtain ⟨h1, h2⟩ := List.append_inj e (by rw [rds_length, hs_length])
    by_cases hin : i = n
    · subst hin
      rw [hsA_len] at h2
      simp only [rds, List.cons.injEq, and_true] at h2
      have e1 : k + ((8 * i : Nat) : Int) = k + 8 * (i : Int) := by omega
      rw [e1] at h2
      have g1 : rdT s (k + 8 * (i : Int)) 4 = (h i).1 := fC h2.1 (notIn_f ha.2.1)
      have g2 : rdT s (k + 8 * (i : Int) + 4) 4 = (h i).2 := fC h2.2 (notIn_f ha.2.2)
      unfold rdHd
      rw [g1, g2]
    · exact hs_back h1 ha.1 i (by omega)
theorem hs_fwd {s : ByteArray} {k : Int} : ∀ {n : Nat}, vok (hsA n) (rds s k (hsA n)) → rds s k (hsA n) = hsVs (rdHd s k) n ∧ anyH (fun i => (rdHd s k i).1) (fun i => (rdHd s k i).2) n = false
  | 0, _ => ⟨rfl, rfl⟩
  | n + 1, e => by
    simp only [hsA] at e
    rw [rds_app, vok_app rds_length, hsA_len] at e
    obtain ⟨e1, e2⟩ := e
    obtain ⟨i1, i2⟩ := hs_fwd e1
    have e2 : ((0 ≤ rdT s (k + ((8 * n : Nat) : Int)) 4 ∧ rdT s (k + ((8 * n : Nat) : Int)) 4 < 256 ^ aC.n) ∧ aC.bd (rdT s (k + ((8 * n : Nat) : Int)) 4) = false) ∧ ((0 ≤ rdT s (k + ((8 * n : Nat) : Int) + 4) 4 ∧ rdT s (k + ((8 * n : Nat) : Int) + 4) 4 < 256 ^ aC.n) ∧ aC.bd (rdT s (k + ((8 * n : Nat) : Int) + 4) 4) = false) ∧ True := e2
    have ek : k + ((8 * n : Nat) : Int) = k + 8 * (n : Int) := by omega
    rw [ek] at e2
    obtain ⟨v1, v2, _⟩ := e2
    refine ⟨?_, ?_⟩
    · simp only [hsA, hsVs]
      rw [rds_app, i1, hsA_len, ek]
      show _ ++ [rdT s (k + 8 * (n : Int)) 4, rdT s (k + 8 * (n : Int) + 4) 4] = _ ++ [rdT s (k + 8 * (n : Int)) 4 % 4294967296, rdT s (k + 8 * (n : Int) + 4) 4 % 4294967296]
      rw [gC v1.1.1 v1.2, gC v2.1.1 v2.2]
    · simp only [anyH, hBad]
      rw [i2]
      show (false || (notIn (rdT s (k + 8 * (n : Int)) 4) 2147483647 || notIn (rdT s (k + 8 * (n : Int) + 4) 4) 2147483647)) = false
      rw [mC v1, mC v2]
      rfl
theorem bo_enc (b : BV) {n : Nat} (hn : n ≤ 8) (g : Nat → Int × Int) : boL b n (fun i => (g i).1) (fun i => (g i).2) = enc (boA n) (boVs b n g) := by
  unfold boL boT poB voB wmB boA boVs shL vecL numL i8 c4
  rw [enc_app rfl, enc_app (by rw [spVs_length, spA_length]), ← spots_enc, show Nat.ble n 8 = true from Nat.ble_eq_true_of_le hn, bmk_be]
  simp only [flN_be, enc, cond_true, List.append_assoc, List.append_nil, ← be1]
  rfl
theorem bo_vok {b : BV} {n : Nat} (g : Nat → Int × Int) (hb : bvOk b) (h : boBad b n = false) : vok (boA n) (boVs b n g) := by
  simp only [boBad, shBad, Bool.or_eq_false_iff, and_assoc] at h
  obtain ⟨h_sk, h_n, h_p0v, h_p1v, h_p2v, h_p3v, h_v0v, h_v1v, h_w0v, h_m0v, h_m1v, h_st, h_bv⟩ := h
  obtain ⟨_, _, _, _, i_p0v, i_p1v, i_p2v, i_p3v, i_v0v, i_v1v, i_w0v, i_m0v, i_m1v, _, _⟩ := hb
  unfold boA boVs
  rw [vok_app rfl, vok_app (by rw [spVs_length, spA_length])]
  exact ⟨⟨vS h_sk, vI, vI, vI, vN h_n, trivial⟩, spots_vok g n, vM i_p0v h_p0v, vF, vM i_p1v h_p1v, vF, vM i_p2v h_p2v, vF, vM i_p3v h_p3v, vF, vM i_v0v h_v0v, vF, vM i_v1v h_v1v, vF, vM i_w0v h_w0v, vF, vM i_m0v h_m0v, vF, vM i_m1v h_m1v, vF, vC h_st, vMk, vV h_bv, trivial⟩
theorem bo_n {b : BV} {n : Nat} (h : boBad b n = false) : n ≤ 8 := by
  simp only [boBad, shBad, Bool.or_eq_false_iff] at h
  have := notIn_f h.1.2
  omega
theorem bo_rds {s : ByteArray} {p : Int} {n : Nat} (hC : shC s p = n) : rds s p (boA n) = [rdT s (p) 1, rdT s (p + 1) 8, rdT s (p + 1 + 8) 8, rdT s (p + 1 + 8 + 8) 8, rdT s (p + 1 + 8 + 8 + 8) 1] ++ (rds s (shA p) (spA n) ++ [rdT s (shEnd s p) 8, rdT s (shEnd s p + 8) 1, rdT s (shEnd s p + 8 + 1) 8, rdT s (shEnd s p + 8 + 1 + 8) 1, rdT s (shEnd s p + 8 + 1 + 8 + 1) 8, rdT s (shEnd s p + 8 + 1 + 8 + 1 + 8) 1, rdT s (shEnd s p + 8 + 1 + 8 + 1 + 8 + 1) 8, rdT s (shEnd s p + 8 + 1 + 8 + 1 + 8 + 1 + 8) 1, rdT s (shEnd s p + 8 + 1 + 8 + 1 + 8 + 1 + 8 + 1) 8, rdT s (shEnd s p + 8 + 1 + 8 + 1 + 8 + 1 + 8 + 1 + 8) 1, rdT s (shEnd s p + 8 + 1 + 8 + 1 + 8 + 1 + 8 + 1 + 8 + 1) 8, rdT s (shEnd s p + 8 + 1 + 8 + 1 + 8 + 1 + 8 + 1 + 8 + 1 + 8) 1, rdT s (shEnd s p + 8 + 1 + 8 + 1 + 8 + 1 + 8 + 1 + 8 + 1 + 8 + 1) 8, rdT s (shEnd s p + 8 + 1 + 8 + 1 + 8 + 1 + 8 + 1 + 8 + 1 + 8 + 1 + 8) 1, rdT s (shEnd s p + 8 + 1 + 8 + 1 + 8 + 1 + 8 + 1 + 8 + 1 + 8 + 1 + 8 + 1) 8, rdT s (shEnd s p + 8 + 1 + 8 + 1 + 8 + 1 + 8 + 1 + 8 + 1 + 8 + 1 + 8 + 1 + 8) 1, rdT s (shEnd s p + 8 + 1 + 8 + 1 + 8 + 1 + 8 + 1 + 8 + 1 + 8 + 1 + 8 + 1 + 8 + 1) 8, rdT s (shEnd s p + 8 + 1 + 8 + 1 + 8 + 1 + 8 + 1 + 8 + 1 + 8 + 1 + 8 + 1 + 8 + 1 + 8) 1, rdT s (shEnd s p + 8 + 1 + 8 + 1 + 8 + 1 + 8 + 1 + 8 + 1 + 8 + 1 + 8 + 1 + 8 + 1 + 8 + 1) 4, rdT s (shEnd s p + 8 + 1 + 8 + 1 + 8 + 1 + 8 + 1 + 8 + 1 + 8 + 1 + 8 + 1 + 8 + 1 + 8 + 1 + 4) 1, rdT s (shEnd s p + 8 + 1 + 8 + 1 + 8 + 1 + 8 + 1 + 8 + 1 + 8 + 1 + 8 + 1 + 8 + 1 + 8 + 1 + 4 + 1) 8]) := by
  have hP : p + ((atL [aS, aI, aI, aI, aN] : Nat) : Int) = shA p := by
    unfold shA
    show p + ((29 - 3 : Nat) : Int) = _
    omega
  have hQ : shA p + ((16 * n : Nat) : Int) = shEnd s p := by
    unfold shEnd
    rw [hC]
    omega
  unfold boA
  rw [rds_app, rds_app, spA_len, hP, hQ]
  rfl
theorem bo_back {s : ByteArray} {p : Int} {b : BV} {n : Nat} {g : Nat → Int × Int} (hb : bvOk b) (h : boBad b n = false) (hg : ∀ i, i < n → I64 (g i).1 ∧ I64 (g i).2) (hr : rds s p (boA n) = boVs b n g) : bdV s p = b ∧ shC s p = n ∧ ∀ i, i < n → rdSp s (shA p) i = g i := by
  have hC : shC s p = n := by
    unfold boA boVs at hr
    rw [rds_app] at hr
    have hr := (List.append_inj hr rfl).1
    have hr : [rdT s (p) 1, rdT s (p + 1) 8, rdT s (p + 1 + 8) 8, rdT s (p + 1 + 8 + 8) 8, rdT s (p + 1 + 8 + 8 + 8) 1] = [b.sk, b.sr % 18446744073709551616, b.sw % 18446744073709551616, b.sh % 18446744073709551616, (n : Int)] := hr
    simp only [List.cons.injEq, and_true] at hr
    have := shC_int s p
    rw [hr.2.2.2.2] at this
    omega
  rw [bo_rds hC] at hr
  unfold boVs at hr
  obtain ⟨hr1, hr⟩ := List.append_inj hr rfl
  obtain ⟨hr2, hr3⟩ := List.append_inj hr (by rw [rds_length, spA_length, spVs_length])
  simp only [List.cons.injEq, and_true] at hr1 hr3
  obtain ⟨r_sk, r_sr, r_sw, r_sh, r_n⟩ := hr1
  obtain ⟨r_p0v, r_p0f, r_p1v, r_p1f, r_p2v, r_p2f, r_p3v, r_p3f, r_v0v, r_v0f, r_v1v, r_v1f, r_w0v, r_w0f, r_m0v, r_m0f, r_m1v, r_m1f, r_st, r_mk, r_bv⟩ := hr3
  simp only [boBad, shBad, Bool.or_eq_false_iff, and_assoc] at h
  obtain ⟨h_sk, h_n, h_p0v, h_p1v, h_p2v, h_p3v, h_v0v, h_v1v, h_w0v, h_m0v, h_m1v, h_st, h_bv⟩ := h
  obtain ⟨_, i_sr, i_sw, i_sh, i_p0v, i_p1v, i_p2v, i_p3v, i_v0v, i_v1v, i_w0v, i_m0v, i_m1v, _, _⟩ := hb
  refine ⟨?_, hC, fun i hi => spots_back hr2 hg i hi⟩
  have s4 : shB4 s p = ⟨b.sk, b.sr, b.sw, b.sh⟩ := by
    unfold shB4
    rw [r_sk, fI r_sr i_sr, fI r_sw i_sw, fI r_sh i_sh]
  unfold bdV
  rw [s4, fI r_p0v i_p0v, fF r_p0f, fI r_p1v i_p1v, fF r_p1f, fI r_p2v i_p2v, fF r_p2f, fI r_p3v i_p3v, fF r_p3f, fI r_v0v i_v0v, fF r_v0f, fI r_v1v i_v1v, fF r_v1f, fI r_w0v i_w0v, fF r_w0f, fI r_m0v i_m0v, fF r_m0f, fI r_m1v i_m1v, fF r_m1f, fC r_st (notIn_f h_st), fMk1 r_mk, fMk2 r_mk, fV r_bv (notIn_f h_bv)]
theorem bo_fwd {s : ByteArray} {p : Int} (hv : vok (boA (shC s p)) (rds s p (boA (shC s p)))) : rds s p (boA (shC s p)) = boVs (bdV s p) (shC s p) (rdSp s (shA p)) ∧ boBad (bdV s p) (shC s p) = false ∧ bvOk (bdV s p) := by
  rw [bo_rds rfl] at hv
  unfold boA at hv
  rw [vok_app rfl, vok_app rds_length] at hv
  obtain ⟨hv1, _, hv3⟩ := hv
  have hv1 : okA aS (rdT s (p) 1) ∧ okA aI (rdT s (p + 1) 8) ∧ okA aI (rdT s (p + 1 + 8) 8) ∧ okA aI (rdT s (p + 1 + 8 + 8) 8) ∧ okA aN (rdT s (p + 1 + 8 + 8 + 8) 1) ∧ True := hv1
  obtain ⟨v_sk, v_sr, v_sw, v_sh, v_n, _⟩ := hv1
  have hv3 : okA aM (rdT s (shEnd s p) 8) ∧ okA aF (rdT s (shEnd s p + 8) 1) ∧ okA aM (rdT s (shEnd s p + 8 + 1) 8) ∧ okA aF (rdT s (shEnd s p + 8 + 1 + 8) 1) ∧ okA aM (rdT s (shEnd s p + 8 + 1 + 8 + 1) 8) ∧ okA aF (rdT s (shEnd s p + 8 + 1 + 8 + 1 + 8) 1) ∧ okA aM (rdT s (shEnd s p + 8 + 1 + 8 + 1 + 8 + 1) 8) ∧ okA aF (rdT s (shEnd s p + 8 + 1 + 8 + 1 + 8 + 1 + 8) 1) ∧ okA aM (rdT s (shEnd s p + 8 + 1 + 8 + 1 + 8 + 1 + 8 + 1) 8) ∧ okA aF (rdT s (shEnd s p + 8 + 1 + 8 + 1 + 8 + 1 + 8 + 1 + 8) 1) ∧ okA aM (rdT s (shEnd s p + 8 + 1 + 8 + 1 + 8 + 1 + 8 + 1 + 8 + 1) 8) ∧ okA aF (rdT s (shEnd s p + 8 + 1 + 8 + 1 + 8 + 1 + 8 + 1 + 8 + 1 + 8) 1) ∧ okA aM (rdT s (shEnd s p + 8 + 1 + 8 + 1 + 8 + 1 + 8 + 1 + 8 + 1 + 8 + 1) 8) ∧ okA aF (rdT s (shEnd s p + 8 + 1 + 8 + 1 + 8 + 1 + 8 + 1 + 8 + 1 + 8 + 1 + 8) 1) ∧ okA aM (rdT s (shEnd s p + 8 + 1 + 8 + 1 + 8 + 1 + 8 + 1 + 8 + 1 + 8 + 1 + 8 + 1) 8) ∧ okA aF (rdT s (shEnd s p + 8 + 1 + 8 + 1 + 8 + 1 + 8 + 1 + 8 + 1 + 8 + 1 + 8 + 1 + 8) 1) ∧ okA aM (rdT s (shEnd s p + 8 + 1 + 8 + 1 + 8 + 1 + 8 + 1 + 8 + 1 + 8 + 1 + 8 + 1 + 8 + 1) 8) ∧ okA aF (rdT s (shEnd s p + 8 + 1 + 8 + 1 + 8 + 1 + 8 + 1 + 8 + 1 + 8 + 1 + 8 + 1 + 8 + 1 + 8) 1) ∧ okA aC (rdT s (shEnd s p + 8 + 1 + 8 + 1 + 8 + 1 + 8 + 1 + 8 + 1 + 8 + 1 + 8 + 1 + 8 + 1 + 8 + 1) 4) ∧ okA aK3 (rdT s (shEnd s p + 8 + 1 + 8 + 1 + 8 + 1 + 8 + 1 + 8 + 1 + 8 + 1 + 8 + 1 + 8 + 1 + 8 + 1 + 4) 1) ∧ okA aV (rdT s (shEnd s p + 8 + 1 + 8 + 1 + 8 + 1 + 8 + 1 + 8 + 1 + 8 + 1 + 8 + 1 + 8 + 1 + 8 + 1 + 4 + 1) 8) ∧ True := hv3
  obtain ⟨v_p0v, v_p0f, v_p1v, v_p1f, v_p2v, v_p2f, v_p3v, v_p3f, v_v0v, v_v0f, v_v1v, v_v1f, v_w0v, v_w0f, v_m0v, v_m0f, v_m1v, v_m1f, v_st, v_mk, v_bv, _⟩ := hv3
  refine ⟨?_, ?_, ?_⟩
  · rw [bo_rds rfl]
    show [rdT s (p) 1, rdT s (p + 1) 8, rdT s (p + 1 + 8) 8, rdT s (p + 1 + 8 + 8) 8, rdT s (p + 1 + 8 + 8 + 8) 1] ++ (rds s (shA p) (spA (shC s p)) ++ [rdT s (shEnd s p) 8, rdT s (shEnd s p + 8) 1, rdT s (shEnd s p + 8 + 1) 8, rdT s (shEnd s p + 8 + 1 + 8) 1, rdT s (shEnd s p + 8 + 1 + 8 + 1) 8, rdT s (shEnd s p + 8 + 1 + 8 + 1 + 8) 1, rdT s (shEnd s p + 8 + 1 + 8 + 1 + 8 + 1) 8, rdT s (shEnd s p + 8 + 1 + 8 + 1 + 8 + 1 + 8) 1, rdT s (shEnd s p + 8 + 1 + 8 + 1 + 8 + 1 + 8 + 1) 8, rdT s (shEnd s p + 8 + 1 + 8 + 1 + 8 + 1 + 8 + 1 + 8) 1, rdT s (shEnd s p + 8 + 1 + 8 + 1 + 8 + 1 + 8 + 1 + 8 + 1) 8, rdT s (shEnd s p + 8 + 1 + 8 + 1 + 8 + 1 + 8 + 1 + 8 + 1 + 8) 1, rdT s (shEnd s p + 8 + 1 + 8 + 1 + 8 + 1 + 8 + 1 + 8 + 1 + 8 + 1) 8, rdT s (shEnd s p + 8 + 1 + 8 + 1 + 8 + 1 + 8 + 1 + 8 + 1 + 8 + 1 + 8) 1, rdT s (shEnd s p + 8 + 1 + 8 + 1 + 8 + 1 + 8 + 1 + 8 + 1 + 8 + 1 + 8 + 1) 8, rdT s (shEnd s p + 8 + 1 + 8 + 1 + 8 + 1 + 8 + 1 + 8 + 1 + 8 + 1 + 8 + 1 + 8) 1, rdT s (shEnd s p + 8 + 1 + 8 + 1 + 8 + 1 + 8 + 1 + 8 + 1 + 8 + 1 + 8 + 1 + 8 + 1) 8, rdT s (shEnd s p + 8 + 1 + 8 + 1 + 8 + 1 + 8 + 1 + 8 + 1 + 8 + 1 + 8 + 1 + 8 + 1 + 8) 1, rdT s (shEnd s p + 8 + 1 + 8 + 1 + 8 + 1 + 8 + 1 + 8 + 1 + 8 + 1 + 8 + 1 + 8 + 1 + 8 + 1) 4, rdT s (shEnd s p + 8 + 1 + 8 + 1 + 8 + 1 + 8 + 1 + 8 + 1 + 8 + 1 + 8 + 1 + 8 + 1 + 8 + 1 + 4) 1, rdT s (shEnd s p + 8 + 1 + 8 + 1 + 8 + 1 + 8 + 1 + 8 + 1 + 8 + 1 + 8 + 1 + 8 + 1 + 8 + 1 + 4 + 1) 8]) = [rdT s p 1, rdI s (p + 1) % 18446744073709551616, rdI s (p + 1 + 8) % 18446744073709551616, rdI s (p + 1 + 8 + 8) % 18446744073709551616, ((shC s p : Nat) : Int)] ++ (spVs (rdSp s (shA p)) (shC s p) ++ [rdI s (shEnd s p) % 18446744073709551616, flN (rdF s (shEnd s p + 8)), rdI s (shEnd s p + 8 + 1) % 18446744073709551616, flN (rdF s (shEnd s p + 8 + 1 + 8)), rdI s (shEnd s p + 8 + 1 + 8 + 1) % 18446744073709551616, flN (rdF s (shEnd s p + 8 + 1 + 8 + 1 + 8)), rdI s (shEnd s p + 8 + 1 + 8 + 1 + 8 + 1) % 18446744073709551616, flN (rdF s (shEnd s p + 8 + 1 + 8 + 1 + 8 + 1 + 8)), rdI s (shEnd s p + 8 + 1 + 8 + 1 + 8 + 1 + 8 + 1) % 18446744073709551616, flN (rdF s (shEnd s p + 8 + 1 + 8 + 1 + 8 + 1 + 8 + 1 + 8)), rdI s (shEnd s p + 8 + 1 + 8 + 1 + 8 + 1 + 8 + 1 + 8 + 1) % 18446744073709551616, flN (rdF s (shEnd s p + 8 + 1 + 8 + 1 + 8 + 1 + 8 + 1 + 8 + 1 + 8)), rdI s (shEnd s p + 8 + 1 + 8 + 1 + 8 + 1 + 8 + 1 + 8 + 1 + 8 + 1) % 18446744073709551616, flN (rdF s (shEnd s p + 8 + 1 + 8 + 1 + 8 + 1 + 8 + 1 + 8 + 1 + 8 + 1 + 8)), rdI s (shEnd s p + 8 + 1 + 8 + 1 + 8 + 1 + 8 + 1 + 8 + 1 + 8 + 1 + 8 + 1) % 18446744073709551616, flN (rdF s (shEnd s p + 8 + 1 + 8 + 1 + 8 + 1 + 8 + 1 + 8 + 1 + 8 + 1 + 8 + 1 + 8)), rdI s (shEnd s p + 8 + 1 + 8 + 1 + 8 + 1 + 8 + 1 + 8 + 1 + 8 + 1 + 8 + 1 + 8 + 1) % 18446744073709551616, flN (rdF s (shEnd s p + 8 + 1 + 8 + 1 + 8 + 1 + 8 + 1 + 8 + 1 + 8 + 1 + 8 + 1 + 8 + 1 + 8)), rdT s (shEnd s p + 8 + 1 + 8 + 1 + 8 + 1 + 8 + 1 + 8 + 1 + 8 + 1 + 8 + 1 + 8 + 1 + 8 + 1) 4 % 4294967296, (bif mk1 (rdT s (shEnd s p + 8 + 1 + 8 + 1 + 8 + 1 + 8 + 1 + 8 + 1 + 8 + 1 + 8 + 1 + 8 + 1 + 8 + 1 + 4) 1) then 1 else 0) + (bif mk2 (rdT s (shEnd s p + 8 + 1 + 8 + 1 + 8 + 1 + 8 + 1 + 8 + 1 + 8 + 1 + 8 + 1 + 8 + 1 + 8 + 1 + 4) 1) then 2 else 0), rdT s (shEnd s p + 8 + 1 + 8 + 1 + 8 + 1 + 8 + 1 + 8 + 1 + 8 + 1 + 8 + 1 + 8 + 1 + 8 + 1 + 4 + 1) 8 % 18446744073709551616])
    rw [spots_is, gI' (s := s) (p := p + 1), gI' (s := s) (p := p + 1 + 8), gI' (s := s) (p := p + 1 + 8 + 8), ← shC_int, gI' (s := s) (p := shEnd s p), gF v_p0f.2, gI' (s := s) (p := shEnd s p + 8 + 1), gF v_p1f.2, gI' (s := s) (p := shEnd s p + 8 + 1 + 8 + 1), gF v_p2f.2, gI' (s := s) (p := shEnd s p + 8 + 1 + 8 + 1 + 8 + 1), gF v_p3f.2, gI' (s := s) (p := shEnd s p + 8 + 1 + 8 + 1 + 8 + 1 + 8 + 1), gF v_v0f.2, gI' (s := s) (p := shEnd s p + 8 + 1 + 8 + 1 + 8 + 1 + 8 + 1 + 8 + 1), gF v_v1f.2, gI' (s := s) (p := shEnd s p + 8 + 1 + 8 + 1 + 8 + 1 + 8 + 1 + 8 + 1 + 8 + 1), gF v_w0f.2, gI' (s := s) (p := shEnd s p + 8 + 1 + 8 + 1 + 8 + 1 + 8 + 1 + 8 + 1 + 8 + 1 + 8 + 1), gF v_m0f.2, gI' (s := s) (p := shEnd s p + 8 + 1 + 8 + 1 + 8 + 1 + 8 + 1 + 8 + 1 + 8 + 1 + 8 + 1 + 8 + 1), gF v_m1f.2, gC v_st.1.1 v_st.2, gMk v_mk.1.1 v_mk.2, gV v_bv.1.1 v_bv.2]
  · simp only [boBad, shBad, Bool.or_eq_false_iff, and_assoc]
    exact ⟨mS v_sk, mN (shC_int s p) v_n, mM v_p0v, mM v_p1v, mM v_p2v, mM v_p3v, mM v_v0v, mM v_v1v, mM v_w0v, mM v_m0v, mM v_m1v, mC v_st, mV v_bv⟩
  · exact ⟨iS v_sk, rdI_rng _ _, rdI_rng _ _, rdI_rng _ _, rdI_rng _ _, rdI_rng _ _, rdI_rng _ _, rdI_rng _ _, rdI_rng _ _, rdI_rng _ _, rdI_rng _ _, rdI_rng _ _, rdI_rng _ _, iC v_st, iV' v_bv⟩
theorem zb_ok : bvOk zBV := ⟨i0, i0, i0, i0, i0, i0, i0, i0, i0, i0, i0, i0, i0, i0, i0⟩
theorem R_enc_1 (c : RV) (n : Nat) (g : Nat → Int × Int) (m : Nat) (h : Nat → Int × Int) : rT1 c n (fun i => (g i).1) (fun i => (g i).2) m (fun i => (h i).1) (fun i => (h i).2) = enc (rA1 n m) (rV1 c n g m h) := by
  unfold rT1 rA1 rV1
  try unfold hL
  try unfold vecL
  try unfold numL
  try unfold c4
  try unfold i8
  simp only [flN_be, enc, List.append_assoc, List.append_nil]
  try rfl
theorem R_vok_1 {c : RV} {n m : Nat} (g : Nat → Int × Int) {h : Nat → Int × Int} (hc : rvOk c) (hb : rB1 c n m (fun i => (h i).1) (fun i => (h i).2) = false) : vok (rA1 n m) (rV1 c n g m h) := by
  simp only [rB1, hBad, Bool.or_eq_false_iff, and_assoc] at hb
  obtain ⟨h_bs, h_bg, h_ver⟩ := hb
  exact ⟨vC h_bs, vC h_bg, vV h_ver, trivial⟩
theorem R_enc_2 (c : RV) (n : Nat) (g : Nat → Int × Int) (m : Nat) (h : Nat → Int × Int) : rT2 c n (fun i => (g i).1) (fun i => (g i).2) m (fun i => (h i).1) (fun i => (h i).2) = enc (rA2 n m) (rV2 c n g m h) := by
  unfold rT2 rA2 rV2
  try unfold hL
  try unfold vecL
  try unfold numL
  try unfold c4
  try unfold i8
  simp only [flN_be, enc, List.append_assoc, List.append_nil]
  try rfl
theorem R_vok_2 {c : RV} {n m : Nat} (g : Nat → Int × Int) {h : Nat → Int × Int} (hc : rvOk c) (hb : rB2 c n m (fun i => (h i).1) (fun i => (h i).2) = false) : vok (rA2 n m) (rV2 c n g m h) := by
  simp only [rB2, hBad, Bool.or_eq_false_iff, and_assoc] at hb
  obtain ⟨h_bs, h_bg⟩ := hb
  exact ⟨vC h_bs, vC h_bg, trivial⟩
theorem R_enc_3 (c : RV) (n : Nat) (g : Nat → Int × Int) (m : Nat) (h : Nat → Int × Int) : rT3 c n (fun i => (g i).1) (fun i => (g i).2) m (fun i => (h i).1) (fun i => (h i).2) = enc (rA3 n m) (rV3 c n g m h) := by
  unfold rT3 rA3 rV3
  try unfold hL
  try unfold vecL
  try unfold numL
  try unfold c4
  try unfold i8
  simp only [flN_be, enc, List.append_assoc, List.append_nil]
  try rfl
theorem R_vok_3 {c : RV} {n m : Nat} (g : Nat → Int × Int) {h : Nat → Int × Int} (hc : rvOk c) (hb : rB3 c n m (fun i => (h i).1) (fun i => (h i).2) = false) : vok (rA3 n m) (rV3 c n g m h) := by
  simp only [rB3, hBad, Bool.or_eq_false_iff, and_assoc] at hb
  obtain ⟨h_bs, h_bg, h_ver⟩ := hb
  exact ⟨vC h_bs, vC h_bg, vV h_ver, trivial⟩
theorem R_enc_4 (c : RV) (n : Nat) (g : Nat → Int × Int) (m : Nat) (h : Nat → Int × Int) : rT4 c n (fun i => (g i).1) (fun i => (g i).2) m (fun i => (h i).1) (fun i => (h i).2) = enc (rA4 n m) (rV4 c n g m h) := by
  unfold rT4 rA4 rV4
  try unfold hL
  try unfold vecL
  try unfold numL
  try unfold c4
  try unfold i8
  simp only [flN_be, enc, List.append_assoc, List.append_nil]
  try rfl
theorem R_vok_4 {c : RV} {n m : Nat} (g : Nat → Int × Int) {h : Nat → Int × Int} (hc : rvOk c) (hb : rB4 c n m (fun i => (h i).1) (fun i => (h i).2) = false) : vok (rA4 n m) (rV4 c n g m h) := by
  simp only [rB4, hBad, Bool.or_eq_false_iff, and_assoc] at hb
  obtain ⟨h_bs, h_bg, h_ver, h_gr⟩ := hb
  exact ⟨vC h_bs, vC h_bg, vV h_ver, vC h_gr, trivial⟩
theorem R_enc_5 (c : RV) (n : Nat) (g : Nat → Int × Int) (m : Nat) (h : Nat → Int × Int) : rT5 c n (fun i => (g i).1) (fun i => (g i).2) m (fun i => (h i).1) (fun i => (h i).2) = enc (rA5 n m) (rV5 c n g m h) := by
  unfold rT5 rA5 rV5
  try unfold hL
  try unfold vecL
  try unfold numL
  try unfold c4
  try unfold i8
  simp only [flN_be, enc, List.append_assoc, List.append_nil]
  try rfl
theorem R_vok_5 {c : RV} {n m : Nat} (g : Nat → Int × Int) {h : Nat → Int × Int} (hc : rvOk c) (hb : rB5 c n m (fun i => (h i).1) (fun i => (h i).2) = false) : vok (rA5 n m) (rV5 c n g m h) := by
  simp only [rB5, hBad, Bool.or_eq_false_iff, and_assoc] at hb
  have h_gr := hb
  exact ⟨vC h_gr, trivial⟩
theorem R_enc_6 (c : RV) (n : Nat) (g : Nat → Int × Int) (m : Nat) (h : Nat → Int × Int) : rT6 c n (fun i => (g i).1) (fun i => (g i).2) m (fun i => (h i).1) (fun i => (h i).2) = enc (rA6 n m) (rV6 c n g m h) := by
  unfold rT6 rA6 rV6
  try unfold hL
  try unfold vecL
  try unfold numL
  try unfold c4
  try unfold i8
  simp only [flN_be, enc, List.append_assoc, List.append_nil]
  try rfl
theorem R_vok_6 {c : RV} {n m : Nat} (g : Nat → Int × Int) {h : Nat → Int × Int} (hc : rvOk c) (hb : rB6 c n m (fun i => (h i).1) (fun i => (h i).2) = false) : vok (rA6 n m) (rV6 c n g m h) := by
  simp only [rB6, hBad, Bool.or_eq_false_iff, and_assoc] at hb
  have h_gr := hb
  exact ⟨vC h_gr, trivial⟩
theorem R_enc_7 (c : RV) (n : Nat) (hn : n ≤ 8) (g : Nat → Int × Int) (m : Nat) (h : Nat → Int × Int) : rT7 c n (fun i => (g i).1) (fun i => (g i).2) m (fun i => (h i).1) (fun i => (h i).2) = enc (rA7 n m) (rV7 c n g m h) := by
  unfold rT7 rA7 rV7
  rw [enc_app rfl, ← bo_enc c.o hn g]
  unfold hL c4
  simp only [enc, List.append_assoc, List.append_nil]
  rfl
theorem R_vok_7 {c : RV} {n m : Nat} (g : Nat → Int × Int) {h : Nat → Int × Int} (hc : rvOk c) (hb : rB7 c n m (fun i => (h i).1) (fun i => (h i).2) = false) : vok (rA7 n m) (rV7 c n g m h) := by
  simp only [rB7, hBad, Bool.or_eq_false_iff, and_assoc] at hb
  obtain ⟨h_bs, h_bg, hb⟩ := hb
  unfold rA7 rV7
  rw [vok_app rfl]
  exact ⟨⟨vC h_bs, vC h_bg, trivial⟩, bo_vok g hc.2.2.2.2.2.2.2.2.2 hb⟩
theorem R_enc_8 (c : RV) (n : Nat) (g : Nat → Int × Int) (m : Nat) (h : Nat → Int × Int) : rT8 c n (fun i => (g i).1) (fun i => (g i).2) m (fun i => (h i).1) (fun i => (h i).2) = enc (rA8 n m) (rV8 c n g m h) := by
  unfold rT8 rA8 rV8
  rw [enc_app rfl, ← hs_enc, ← be1]
  rfl
theorem R_vok_8 {c : RV} {n m : Nat} (g : Nat → Int × Int) {h : Nat → Int × Int} (hc : rvOk c) (hb : rB8 c n m (fun i => (h i).1) (fun i => (h i).2) = false) : vok (rA8 n m) (rV8 c n g m h) := by
  simp only [rB8, Bool.or_eq_false_iff] at hb
  unfold rA8 rV8
  rw [vok_app rfl]
  refine ⟨⟨⟨⟨by omega, ?_⟩, ?_⟩, trivial⟩, hs_vok hb.2⟩
  · have := notIn_f hb.1
    show (m : Int) < 256
    omega
  · have := notIn_f hb.1
    exact decide_eq_false (by omega)
theorem R_enc_9 (c : RV) (n : Nat) (g : Nat → Int × Int) (m : Nat) (h : Nat → Int × Int) : rT9 c n (fun i => (g i).1) (fun i => (g i).2) m (fun i => (h i).1) (fun i => (h i).2) = enc (rA9 n m) (rV9 c n g m h) := by
  unfold rT9 rA9 rV9
  try unfold hL
  try unfold vecL
  try unfold numL
  try unfold c4
  try unfold i8
  simp only [flN_be, enc, List.append_assoc, List.append_nil]
  try rfl
theorem R_vok_9 {c : RV} {n m : Nat} (g : Nat → Int × Int) {h : Nat → Int × Int} (hc : rvOk c) (hb : rB9 c n m (fun i => (h i).1) (fun i => (h i).2) = false) : vok (rA9 n m) (rV9 c n g m h) := by
  simp only [rB9, hBad, Bool.or_eq_false_iff, and_assoc] at hb
  obtain ⟨h_bs, h_bg, h_htv, h_x0v, h_x1v⟩ := hb
  obtain ⟨_, _, _, _, _, i_htv, i_x0v, i_x1v, _, _⟩ := hc
  exact ⟨vC h_bs, vC h_bg, vF, vM i_htv h_htv, vF, vM i_x0v h_x0v, vF, vM i_x1v h_x1v, vF, trivial⟩
theorem R_enc_10 (c : RV) (n : Nat) (g : Nat → Int × Int) (m : Nat) (h : Nat → Int × Int) : rT10 c n (fun i => (g i).1) (fun i => (g i).2) m (fun i => (h i).1) (fun i => (h i).2) = enc (rA10 n m) (rV10 c n g m h) := by
  unfold rT10 rA10 rV10
  try unfold hL
  try unfold vecL
  try unfold numL
  try unfold c4
  try unfold i8
  simp only [flN_be, enc, List.append_assoc, List.append_nil]
  try rfl
theorem R_vok_10 {c : RV} {n m : Nat} (g : Nat → Int × Int) {h : Nat → Int × Int} (hc : rvOk c) (hb : rB10 c n m (fun i => (h i).1) (fun i => (h i).2) = false) : vok (rA10 n m) (rV10 c n g m h) := by
  simp only [rB10, hBad, Bool.or_eq_false_iff, and_assoc] at hb
  have h_cnt := hb
  exact ⟨vC h_cnt, trivial⟩
theorem R_back_1 {s : ByteArray} {c : RV} {n m : Nat} {g h : Nat → Int × Int} (hc : rvOk c) (h_id : notIn c.id 2147483647 = false) (hb : rB1 c n m (fun i => (h i).1) (fun i => (h i).2) = false) (hu : uR1 c = c) (hr : rds s 0 (atR 1 0 n m) = vsR 1 0 c n g m h) : (rdT s 0 1 = 1 ∧ rdT s (0 + 1 + 4) 1 = 0) ∧ qV1 s 0 = c := by
  have hr : [rdT s 0 1, rdT s (0 + 1) 4, rdT s (0 + 1 + 4) 1, rdT s (0 + 1 + 4 + 1) 4, rdT s (0 + 1 + 4 + 1 + 4) 4, rdT s (0 + 1 + 4 + 1 + 4 + 4) 8] = [1, c.id % 4294967296, 0, c.bs % 4294967296, c.bg % 4294967296, c.ver % 18446744073709551616] := hr
  simp only [List.cons.injEq, and_true] at hr
  obtain ⟨r_k, r_id, r_e, r_bs, r_bg, r_ver⟩ := hr
  simp only [rB1, hBad, Bool.or_eq_false_iff, and_assoc] at hb
  obtain ⟨h_bs, h_bg, h_ver⟩ := hb
  refine ⟨⟨r_k, r_e⟩, ?_⟩
  rw [← hu]
  unfold qV1
  rw [fC r_id (notIn_f h_id), fC r_bs (notIn_f h_bs), fC r_bg (notIn_f h_bg), fV r_ver (notIn_f h_ver)]
  rfl
theorem R_back_2 {s : ByteArray} {c : RV} {n m : Nat} {g h : Nat → Int × Int} (hc : rvOk c) (h_id : notIn c.id 2147483647 = false) (hb : rB2 c n m (fun i => (h i).1) (fun i => (h i).2) = false) (hu : uR2 c = c) (hr : rds s 0 (atR 2 0 n m) = vsR 2 0 c n g m h) : (rdT s 0 1 = 2 ∧ rdT s (0 + 1 + 4) 1 = 0) ∧ qV2 s 0 = c := by
  have hr : [rdT s 0 1, rdT s (0 + 1) 4, rdT s (0 + 1 + 4) 1, rdT s (0 + 1 + 4 + 1) 4, rdT s (0 + 1 + 4 + 1 + 4) 4] = [2, c.id % 4294967296, 0, c.bs % 4294967296, c.bg % 4294967296] := hr
  simp only [List.cons.injEq, and_true] at hr
  obtain ⟨r_k, r_id, r_e, r_bs, r_bg⟩ := hr
  simp only [rB2, hBad, Bool.or_eq_false_iff, and_assoc] at hb
  obtain ⟨h_bs, h_bg⟩ := hb
  refine ⟨⟨r_k, r_e⟩, ?_⟩
  rw [← hu]
  unfold qV2
  rw [fC r_id (notIn_f h_id), fC r_bs (notIn_f h_bs), fC r_bg (notIn_f h_bg)]
  rfl
theorem R_back_3 {s : ByteArray} {c : RV} {n m : Nat} {g h : Nat → Int × Int} (hc : rvOk c) (h_id : notIn c.id 2147483647 = false) (hb : rB3 c n m (fun i => (h i).1) (fun i => (h i).2) = false) (hu : uR3 c = c) (hr : rds s 0 (atR 3 0 n m) = vsR 3 0 c n g m h) : (rdT s 0 1 = 3 ∧ rdT s (0 + 1 + 4) 1 = 0) ∧ qV3 s 0 = c := by
  have hr : [rdT s 0 1, rdT s (0 + 1) 4, rdT s (0 + 1 + 4) 1, rdT s (0 + 1 + 4 + 1) 4, rdT s (0 + 1 + 4 + 1 + 4) 4, rdT s (0 + 1 + 4 + 1 + 4 + 4) 8] = [3, c.id % 4294967296, 0, c.bs % 4294967296, c.bg % 4294967296, c.ver % 18446744073709551616] := hr
  simp only [List.cons.injEq, and_true] at hr
  obtain ⟨r_k, r_id, r_e, r_bs, r_bg, r_ver⟩ := hr
  simp only [rB3, hBad, Bool.or_eq_false_iff, and_assoc] at hb
  obtain ⟨h_bs, h_bg, h_ver⟩ := hb
  refine ⟨⟨r_k, r_e⟩, ?_⟩
  rw [← hu]
  unfold qV3
  rw [fC r_id (notIn_f h_id), fC r_bs (notIn_f h_bs), fC r_bg (notIn_f h_bg), fV r_ver (notIn_f h_ver)]
  rfl
theorem R_back_4 {s : ByteArray} {c : RV} {n m : Nat} {g h : Nat → Int × Int} (hc : rvOk c) (h_id : notIn c.id 2147483647 = false) (hb : rB4 c n m (fun i => (h i).1) (fun i => (h i).2) = false) (hu : uR4 c = c) (hr : rds s 0 (atR 4 0 n m) = vsR 4 0 c n g m h) : (rdT s 0 1 = 4 ∧ rdT s (0 + 1 + 4) 1 = 0) ∧ qV4 s 0 = c := by
  have hr : [rdT s 0 1, rdT s (0 + 1) 4, rdT s (0 + 1 + 4) 1, rdT s (0 + 1 + 4 + 1) 4, rdT s (0 + 1 + 4 + 1 + 4) 4, rdT s (0 + 1 + 4 + 1 + 4 + 4) 8, rdT s (0 + 1 + 4 + 1 + 4 + 4 + 8) 4] = [4, c.id % 4294967296, 0, c.bs % 4294967296, c.bg % 4294967296, c.ver % 18446744073709551616, c.gr % 4294967296] := hr
  simp only [List.cons.injEq, and_true] at hr
  obtain ⟨r_k, r_id, r_e, r_bs, r_bg, r_ver, r_gr⟩ := hr
  simp only [rB4, hBad, Bool.or_eq_false_iff, and_assoc] at hb
  obtain ⟨h_bs, h_bg, h_ver, h_gr⟩ := hb
  refine ⟨⟨r_k, r_e⟩, ?_⟩
  rw [← hu]
  unfold qV4
  rw [fC r_id (notIn_f h_id), fC r_bs (notIn_f h_bs), fC r_bg (notIn_f h_bg), fV r_ver (notIn_f h_ver), fC r_gr (notIn_f h_gr)]
  rfl
theorem R_back_5 {s : ByteArray} {c : RV} {n m : Nat} {g h : Nat → Int × Int} (hc : rvOk c) (h_id : notIn c.id 2147483647 = false) (hb : rB5 c n m (fun i => (h i).1) (fun i => (h i).2) = false) (hu : uR5 c = c) (hr : rds s 0 (atR 5 0 n m) = vsR 5 0 c n g m h) : (rdT s 0 1 = 5 ∧ rdT s (0 + 1 + 4) 1 = 0) ∧ qV5 s 0 = c := by
  have hr : [rdT s 0 1, rdT s (0 + 1) 4, rdT s (0 + 1 + 4) 1, rdT s (0 + 1 + 4 + 1) 4] = [5, c.id % 4294967296, 0, c.gr % 4294967296] := hr
  simp only [List.cons.injEq, and_true] at hr
  obtain ⟨r_k, r_id, r_e, r_gr⟩ := hr
  simp only [rB5, hBad, Bool.or_eq_false_iff, and_assoc] at hb
  have h_gr := hb
  refine ⟨⟨r_k, r_e⟩, ?_⟩
  rw [← hu]
  unfold qV5
  rw [fC r_id (notIn_f h_id), fC r_gr (notIn_f h_gr)]
  rfl
theorem R_back_6 {s : ByteArray} {c : RV} {n m : Nat} {g h : Nat → Int × Int} (hc : rvOk c) (h_id : notIn c.id 2147483647 = false) (hb : rB6 c n m (fun i => (h i).1) (fun i => (h i).2) = false) (hu : uR6 c = c) (hr : rds s 0 (atR 6 0 n m) = vsR 6 0 c n g m h) : (rdT s 0 1 = 6 ∧ rdT s (0 + 1 + 4) 1 = 0) ∧ qV6 s 0 = c := by
  have hr : [rdT s 0 1, rdT s (0 + 1) 4, rdT s (0 + 1 + 4) 1, rdT s (0 + 1 + 4 + 1) 4] = [6, c.id % 4294967296, 0, c.gr % 4294967296] := hr
  simp only [List.cons.injEq, and_true] at hr
  obtain ⟨r_k, r_id, r_e, r_gr⟩ := hr
  simp only [rB6, hBad, Bool.or_eq_false_iff, and_assoc] at hb
  have h_gr := hb
  refine ⟨⟨r_k, r_e⟩, ?_⟩
  rw [← hu]
  unfold qV6
  rw [fC r_id (notIn_f h_id), fC r_gr (notIn_f h_gr)]
  rfl
theorem R_back_7 {s : ByteArray} {c : RV} {n m : Nat} {g h : Nat → Int × Int} (hc : rvOk c) (h_id : notIn c.id 2147483647 = false) (hb : rB7 c n m (fun i => (h i).1) (fun i => (h i).2) = false) (hu : uR7 c = c) (hg : ∀ i, i < n → I64 (g i).1 ∧ I64 (g i).2) (hr : rds s 0 (atR 7 0 n m) = vsR 7 0 c n g m h) : (rdT s 0 1 = 7 ∧ rdT s (0 + 1 + 4) 1 = 0) ∧ qV7 s 0 = c ∧ shC s (0 + 1 + 4 + 1 + 4 + 4) = n ∧ ∀ i, i < n → rdSp s (shA (0 + 1 + 4 + 1 + 4 + 4)) i = g i := by
  have hr : rds s 0 ([aKd 0, aC, aE, aC, aC] ++ boA n) = [7, c.id % 4294967296, 0, c.bs % 4294967296, c.bg % 4294967296] ++ boVs c.o n g := hr
  rw [rds_app] at hr
  obtain ⟨hr1, hr2⟩ := List.append_inj hr rfl
  have hr1 : [rdT s 0 1, rdT s (0 + 1) 4, rdT s (0 + 1 + 4) 1, rdT s (0 + 1 + 4 + 1) 4, rdT s (0 + 1 + 4 + 1 + 4) 4] = [7, c.id % 4294967296, 0, c.bs % 4294967296, c.bg % 4294967296] := hr1
  simp only [List.cons.injEq, and_true] at hr1
  obtain ⟨r_k, r_id, r_e, r_bs, r_bg⟩ := hr1
  simp only [rB7, hBad, Bool.or_eq_false_iff, and_assoc] at hb
  obtain ⟨h_bs, h_bg, hb⟩ := hb
  obtain ⟨b1, b2, b3⟩ := bo_back hc.2.2.2.2.2.2.2.2.2 hb hg hr2
  have e14 : (0 : Int) + ((atL [aKd 0, aC, aE, aC, aC] : Nat) : Int) = 0 + 1 + 4 + 1 + 4 + 4 := rfl
  rw [e14] at b1 b2 b3
  refine ⟨⟨r_k, r_e⟩, ?_, b2, b3⟩
  rw [← hu]
  unfold qV7
  rw [fC r_id (notIn_f h_id), fC r_bs (notIn_f h_bs), fC r_bg (notIn_f h_bg), b1]
  rfl
theorem R_back_8 {s : ByteArray} {c : RV} {n m : Nat} {g h : Nat → Int × Int} (hc : rvOk c) (h_id : notIn c.id 2147483647 = false) (hb : rB8 c n m (fun i => (h i).1) (fun i => (h i).2) = false) (hu : uR8 c = c) (hr : rds s 0 (atR 8 0 n m) = vsR 8 0 c n g m h) : (rdT s 0 1 = 8 ∧ rdT s (0 + 1 + 4) 1 = 0) ∧ qV8 s 0 = c ∧ hdC s 0 = m ∧ ∀ i, i < m → rdHd s (0 + 1 + 4 + 1 + 1) i = h i := by
  have hr : rds s 0 ([aKd 0, aC, aE, aHs] ++ hsA m) = [8, c.id % 4294967296, 0, (m : Int)] ++ hsVs h m := hr
  rw [rds_app] at hr
  obtain ⟨hr1, hr2⟩ := List.append_inj hr rfl
  have hr1 : [rdT s 0 1, rdT s (0 + 1) 4, rdT s (0 + 1 + 4) 1, rdT s (0 + 1 + 4 + 1) 1] = [8, c.id % 4294967296, 0, (m : Int)] := hr1
  simp only [List.cons.injEq, and_true] at hr1
  obtain ⟨r_k, r_id, r_e, r_m⟩ := hr1
  simp only [rB8, Bool.or_eq_false_iff] at hb
  have hm : hdC s 0 = m := by
    unfold hdC
    rw [r_m]
    omega
  refine ⟨⟨r_k, r_e⟩, ?_, hm, hs_back hr2 hb.2⟩
  rw [← hu]
  unfold qV8
  rw [fC r_id (notIn_f h_id)]
  rfl
theorem R_back_9 {s : ByteArray} {c : RV} {n m : Nat} {g h : Nat → Int × Int} (hc : rvOk c) (h_id : notIn c.id 2147483647 = false) (hb : rB9 c n m (fun i => (h i).1) (fun i => (h i).2) = false) (hu : uR9 c = c) (hr : rds s 0 (atR 9 0 n m) = vsR 9 0 c n g m h) : (rdT s 0 1 = 9 ∧ rdT s (0 + 1 + 4) 1 = 0) ∧ qV9 s 0 = c := by
  have hr : [rdT s 0 1, rdT s (0 + 1) 4, rdT s (0 + 1 + 4) 1, rdT s (0 + 1 + 4 + 1) 4, rdT s (0 + 1 + 4 + 1 + 4) 4, rdT s (0 + 1 + 4 + 1 + 4 + 4) 1, rdT s (0 + 1 + 4 + 1 + 4 + 4 + 1) 8, rdT s (0 + 1 + 4 + 1 + 4 + 4 + 1 + 8) 1, rdT s (0 + 1 + 4 + 1 + 4 + 4 + 1 + 8 + 1) 8, rdT s (0 + 1 + 4 + 1 + 4 + 4 + 1 + 8 + 1 + 8) 1, rdT s (0 + 1 + 4 + 1 + 4 + 4 + 1 + 8 + 1 + 8 + 1) 8, rdT s (0 + 1 + 4 + 1 + 4 + 4 + 1 + 8 + 1 + 8 + 1 + 8) 1] = [9, c.id % 4294967296, 0, c.bs % 4294967296, c.bg % 4294967296, flN c.hit, c.htv % 18446744073709551616, flN c.htf, c.x0v % 18446744073709551616, flN c.x0f, c.x1v % 18446744073709551616, flN c.x1f] := hr
  simp only [List.cons.injEq, and_true] at hr
  obtain ⟨r_k, r_id, r_e, r_bs, r_bg, r_hit, r_htv, r_htf, r_x0v, r_x0f, r_x1v, r_x1f⟩ := hr
  simp only [rB9, hBad, Bool.or_eq_false_iff, and_assoc] at hb
  obtain ⟨h_bs, h_bg, h_htv, h_x0v, h_x1v⟩ := hb
  obtain ⟨_, _, _, _, _, i_htv, i_x0v, i_x1v, _, _⟩ := hc
  refine ⟨⟨r_k, r_e⟩, ?_⟩
  unfold qV9
  rw [fC r_id (notIn_f h_id), fC r_bs (notIn_f h_bs), fC r_bg (notIn_f h_bg), fF r_hit, fI r_htv i_htv, fF r_htf, fI r_x0v i_x0v, fF r_x0f, fI r_x1v i_x1v, fF r_x1f]
  have hz := congrArg RV.ver hu
  have hgr := congrArg RV.gr hu
  have hoo := congrArg RV.o hu
  have hcn := congrArg RV.cnt hu
  obtain ⟨c_id, c_bs, c_bg, c_ver, c_gr, c_o, c_hit, c_htv, c_htf, c_x0v, c_x0f, c_x1v, c_x1f, c_cnt⟩ := c
  simp only [uR9] at hz hgr hoo hcn
  simp only [← hz, ← hgr, ← hoo, ← hcn]
theorem R_back_10 {s : ByteArray} {c : RV} {n m : Nat} {g h : Nat → Int × Int} (hc : rvOk c) (h_id : notIn c.id 2147483647 = false) (hb : rB10 c n m (fun i => (h i).1) (fun i => (h i).2) = false) (hu : uR10 c = c) (hr : rds s 0 (atR 10 0 n m) = vsR 10 0 c n g m h) : (rdT s 0 1 = 10 ∧ rdT s (0 + 1 + 4) 1 = 0) ∧ qV10 s 0 = c := by
  have hr : [rdT s 0 1, rdT s (0 + 1) 4, rdT s (0 + 1 + 4) 1, rdT s (0 + 1 + 4 + 1) 4] = [10, c.id % 4294967296, 0, c.cnt % 4294967296] := hr
  simp only [List.cons.injEq, and_true] at hr
  obtain ⟨r_k, r_id, r_e, r_cnt⟩ := hr
  simp only [rB10, hBad, Bool.or_eq_false_iff, and_assoc] at hb
  have h_cnt := hb
  refine ⟨⟨r_k, r_e⟩, ?_⟩
  rw [← hu]
  unfold qV10
  rw [fC r_id (notIn_f h_id), fC r_cnt (notIn_f h_cnt)]
  rfl
theorem R_back_N {s : ByteArray} {k e : Int} {c : RV} {n m : Nat} {g h : Nat → Int × Int} (he : e ≠ 0) (h_id : notIn c.id 2147483647 = false) (hv : e = 14 → notIn c.ver 1099511627776 = false) (hu : uRN e c = c) (hr : rds s 0 (atR k e n m) = vsR k e c n g m h) : (rdT s 0 1 = k ∧ rdT s (0 + 1 + 4) 1 = e) ∧ qVN s 0 = c := by
  unfold atR vsR rAK rVK at hr
  rw [eq_no he] at hr
  by_cases h14 : e = 14
  · subst h14
    have hr : [rdT s 0 1, rdT s (0 + 1) 4, rdT s (0 + 1 + 4) 1, rdT s (0 + 1 + 4 + 1) 8] = [k, c.id % 4294967296, 14, c.ver % 18446744073709551616] := hr
    simp only [List.cons.injEq, and_true] at hr
    obtain ⟨r_k, r_id, r_e, r_ver⟩ := hr
    refine ⟨⟨r_k, r_e⟩, ?_⟩
    rw [← hu]
    unfold qVN vrN
    rw [r_e, fC r_id (notIn_f h_id), fV r_ver (notIn_f (hv rfl))]
    rfl
  · rw [eq_no h14] at hr
    have hr : [rdT s 0 1, rdT s (0 + 1) 4, rdT s (0 + 1 + 4) 1] = [k, c.id % 4294967296, e] := hr
    simp only [List.cons.injEq, and_true] at hr
    obtain ⟨r_k, r_id, r_e⟩ := hr
    refine ⟨⟨r_k, r_e⟩, ?_⟩
    rw [← hu]
    unfold qVN vrN uRN
    rw [r_e, eq_no h14, fC r_id (notIn_f h_id)]
    rfl
theorem R_fwd_1 {s : ByteArray} {n m : Nat} (g h : Nat → Int × Int) (hk : rdT s 0 1 = 1) (he : rdT s (0 + 1 + 4) 1 = 0) (hv : vok (atR 1 0 n m) (rds s 0 (atR 1 0 n m))) : rds s 0 (atR 1 0 n m) = vsR 1 0 (qV1 s 0) n g m h ∧ (notIn (qV1 s 0).id 2147483647 = false ∧ rB1 (qV1 s 0) n m (fun i => (h i).1) (fun i => (h i).2) = false) ∧ rvOk (qV1 s 0) := by
  have hv : okA (aKd 0) (rdT s (0) 1) ∧ okA aC (rdT s (0 + 1) 4) ∧ okA aE (rdT s (0 + 1 + 4) 1) ∧ okA aC (rdT s (0 + 1 + 4 + 1) 4) ∧ okA aC (rdT s (0 + 1 + 4 + 1 + 4) 4) ∧ okA aV (rdT s (0 + 1 + 4 + 1 + 4 + 4) 8) ∧ True := hv
  obtain ⟨v_k, v_id, v_e, v_bs, v_bg, v_ver, _⟩ := hv
  refine ⟨?_, ?_, ?_⟩
  · show [rdT s 0 1, rdT s (0 + 1) 4, rdT s (0 + 1 + 4) 1, rdT s (0 + 1 + 4 + 1) 4, rdT s (0 + 1 + 4 + 1 + 4) 4, rdT s (0 + 1 + 4 + 1 + 4 + 4) 8] = [1, rdT s (0 + 1) 4 % 4294967296, 0, rdT s (0 + 1 + 4 + 1) 4 % 4294967296, rdT s (0 + 1 + 4 + 1 + 4) 4 % 4294967296, rdT s (0 + 1 + 4 + 1 + 4 + 4) 8 % 18446744073709551616]
    rw [gC v_id.1.1 v_id.2, gC v_bs.1.1 v_bs.2, gC v_bg.1.1 v_bg.2, gV v_ver.1.1 v_ver.2, hk, he]
  · refine ⟨mC v_id, ?_⟩
    simp only [rB1, hBad, Bool.or_eq_false_iff, and_assoc]
    exact ⟨mC v_bs, mC v_bg, mV v_ver⟩
  · exact ⟨iC v_id, iC v_bs, iC v_bg, iV' v_ver, i0, i0, i0, i0, i0, zb_ok⟩
theorem R_fwd_2 {s : ByteArray} {n m : Nat} (g h : Nat → Int × Int) (hk : rdT s 0 1 = 2) (he : rdT s (0 + 1 + 4) 1 = 0) (hv : vok (atR 2 0 n m) (rds s 0 (atR 2 0 n m))) : rds s 0 (atR 2 0 n m) = vsR 2 0 (qV2 s 0) n g m h ∧ (notIn (qV2 s 0).id 2147483647 = false ∧ rB2 (qV2 s 0) n m (fun i => (h i).1) (fun i => (h i).2) = false) ∧ rvOk (qV2 s 0) := by
  have hv : okA (aKd 0) (rdT s (0) 1) ∧ okA aC (rdT s (0 + 1) 4) ∧ okA aE (rdT s (0 + 1 + 4) 1) ∧ okA aC (rdT s (0 + 1 + 4 + 1) 4) ∧ okA aC (rdT s (0 + 1 + 4 + 1 + 4) 4) ∧ True := hv
  obtain ⟨v_k, v_id, v_e, v_bs, v_bg, _⟩ := hv
  refine ⟨?_, ?_, ?_⟩
  · show [rdT s 0 1, rdT s (0 + 1) 4, rdT s (0 + 1 + 4) 1, rdT s (0 + 1 + 4 + 1) 4, rdT s (0 + 1 + 4 + 1 + 4) 4] = [2, rdT s (0 + 1) 4 % 4294967296, 0, rdT s (0 + 1 + 4 + 1) 4 % 4294967296, rdT s (0 + 1 + 4 + 1 + 4) 4 % 4294967296]
    rw [gC v_id.1.1 v_id.2, gC v_bs.1.1 v_bs.2, gC v_bg.1.1 v_bg.2, hk, he]
  · refine ⟨mC v_id, ?_⟩
    simp only [rB2, hBad, Bool.or_eq_false_iff, and_assoc]
    exact ⟨mC v_bs, mC v_bg⟩
  · exact ⟨iC v_id, iC v_bs, iC v_bg, i0, i0, i0, i0, i0, i0, zb_ok⟩
theorem R_fwd_3 {s : ByteArray} {n m : Nat} (g h : Nat → Int × Int) (hk : rdT s 0 1 = 3) (he : rdT s (0 + 1 + 4) 1 = 0) (hv : vok (atR 3 0 n m) (rds s 0 (atR 3 0 n m))) : rds s 0 (atR 3 0 n m) = vsR 3 0 (qV3 s 0) n g m h ∧ (notIn (qV3 s 0).id 2147483647 = false ∧ rB3 (qV3 s 0) n m (fun i => (h i).1) (fun i => (h i).2) = false) ∧ rvOk (qV3 s 0) := by
  have hv : okA (aKd 0) (rdT s (0) 1) ∧ okA aC (rdT s (0 + 1) 4) ∧ okA aE (rdT s (0 + 1 + 4) 1) ∧ okA aC (rdT s (0 + 1 + 4 + 1) 4) ∧ okA aC (rdT s (0 + 1 + 4 + 1 + 4) 4) ∧ okA aV (rdT s (0 + 1 + 4 + 1 + 4 + 4) 8) ∧ True := hv
  obtain ⟨v_k, v_id, v_e, v_bs, v_bg, v_ver, _⟩ := hv
  refine ⟨?_, ?_, ?_⟩
  · show [rdT s 0 1, rdT s (0 + 1) 4, rdT s (0 + 1 + 4) 1, rdT s (0 + 1 + 4 + 1) 4, rdT s (0 + 1 + 4 + 1 + 4) 4, rdT s (0 + 1 + 4 + 1 + 4 + 4) 8] = [3, rdT s (0 + 1) 4 % 4294967296, 0, rdT s (0 + 1 + 4 + 1) 4 % 4294967296, rdT s (0 + 1 + 4 + 1 + 4) 4 % 4294967296, rdT s (0 + 1 + 4 + 1 + 4 + 4) 8 % 18446744073709551616]
    rw [gC v_id.1.1 v_id.2, gC v_bs.1.1 v_bs.2, gC v_bg.1.1 v_bg.2, gV v_ver.1.1 v_ver.2, hk, he]
  · refine ⟨mC v_id, ?_⟩
    simp only [rB3, hBad, Bool.or_eq_false_iff, and_assoc]
    exact ⟨mC v_bs, mC v_bg, mV v_ver⟩
  · exact ⟨iC v_id, iC v_bs, iC v_bg, iV' v_ver, i0, i0, i0, i0, i0, zb_ok⟩
theorem R_fwd_4 {s : ByteArray} {n m : Nat} (g h : Nat → Int × Int) (hk : rdT s 0 1 = 4) (he : rdT s (0 + 1 + 4) 1 = 0) (hv : vok (atR 4 0 n m) (rds s 0 (atR 4 0 n m))) : rds s 0 (atR 4 0 n m) = vsR 4 0 (qV4 s 0) n g m h ∧ (notIn (qV4 s 0).id 2147483647 = false ∧ rB4 (qV4 s 0) n m (fun i => (h i).1) (fun i => (h i).2) = false) ∧ rvOk (qV4 s 0) := by
  have hv : okA (aKd 0) (rdT s (0) 1) ∧ okA aC (rdT s (0 + 1) 4) ∧ okA aE (rdT s (0 + 1 + 4) 1) ∧ okA aC (rdT s (0 + 1 + 4 + 1) 4) ∧ okA aC (rdT s (0 + 1 + 4 + 1 + 4) 4) ∧ okA aV (rdT s (0 + 1 + 4 + 1 + 4 + 4) 8) ∧ okA aC (rdT s (0 + 1 + 4 + 1 + 4 + 4 + 8) 4) ∧ True := hv
  obtain ⟨v_k, v_id, v_e, v_bs, v_bg, v_ver, v_gr, _⟩ := hv
  refine ⟨?_, ?_, ?_⟩
  · show [rdT s 0 1, rdT s (0 + 1) 4, rdT s (0 + 1 + 4) 1, rdT s (0 + 1 + 4 + 1) 4, rdT s (0 + 1 + 4 + 1 + 4) 4, rdT s (0 + 1 + 4 + 1 + 4 + 4) 8, rdT s (0 + 1 + 4 + 1 + 4 + 4 + 8) 4] = [4, rdT s (0 + 1) 4 % 4294967296, 0, rdT s (0 + 1 + 4 + 1) 4 % 4294967296, rdT s (0 + 1 + 4 + 1 + 4) 4 % 4294967296, rdT s (0 + 1 + 4 + 1 + 4 + 4) 8 % 18446744073709551616, rdT s (0 + 1 + 4 + 1 + 4 + 4 + 8) 4 % 4294967296]
    rw [gC v_id.1.1 v_id.2, gC v_bs.1.1 v_bs.2, gC v_bg.1.1 v_bg.2, gV v_ver.1.1 v_ver.2, gC v_gr.1.1 v_gr.2, hk, he]
  · refine ⟨mC v_id, ?_⟩
    simp only [rB4, hBad, Bool.or_eq_false_iff, and_assoc]
    exact ⟨mC v_bs, mC v_bg, mV v_ver, mC v_gr⟩
  · exact ⟨iC v_id, iC v_bs, iC v_bg, iV' v_ver, iC v_gr, i0, i0, i0, i0, zb_ok⟩
theorem R_fwd_5 {s : ByteArray} {n m : Nat} (g h : Nat → Int × Int) (hk : rdT s 0 1 = 5) (he : rdT s (0 + 1 + 4) 1 = 0) (hv : vok (atR 5 0 n m) (rds s 0 (atR 5 0 n m))) : rds s 0 (atR 5 0 n m) = vsR 5 0 (qV5 s 0) n g m h ∧ (notIn (qV5 s 0).id 2147483647 = false ∧ rB5 (qV5 s 0) n m (fun i => (h i).1) (fun i => (h i).2) = false) ∧ rvOk (qV5 s 0) := by
  have hv : okA (aKd 0) (rdT s (0) 1) ∧ okA aC (rdT s (0 + 1) 4) ∧ okA aE (rdT s (0 + 1 + 4) 1) ∧ okA aC (rdT s (0 + 1 + 4 + 1) 4) ∧ True := hv
  obtain ⟨v_k, v_id, v_e, v_gr, _⟩ := hv
  refine ⟨?_, ?_, ?_⟩
  · show [rdT s 0 1, rdT s (0 + 1) 4, rdT s (0 + 1 + 4) 1, rdT s (0 + 1 + 4 + 1) 4] = [5, rdT s (0 + 1) 4 % 4294967296, 0, rdT s (0 + 1 + 4 + 1) 4 % 4294967296]
    rw [gC v_id.1.1 v_id.2, gC v_gr.1.1 v_gr.2, hk, he]
  · refine ⟨mC v_id, ?_⟩
    simp only [rB5, hBad, Bool.or_eq_false_iff, and_assoc]
    exact mC v_gr
  · exact ⟨iC v_id, i0, i0, i0, iC v_gr, i0, i0, i0, i0, zb_ok⟩
theorem R_fwd_6 {s : ByteArray} {n m : Nat} (g h : Nat → Int × Int) (hk : rdT s 0 1 = 6) (he : rdT s (0 + 1 + 4) 1 = 0) (hv : vok (atR 6 0 n m) (rds s 0 (atR 6 0 n m))) : rds s 0 (atR 6 0 n m) = vsR 6 0 (qV6 s 0) n g m h ∧ (notIn (qV6 s 0).id 2147483647 = false ∧ rB6 (qV6 s 0) n m (fun i => (h i).1) (fun i => (h i).2) = false) ∧ rvOk (qV6 s 0) := by
  have hv : okA (aKd 0) (rdT s (0) 1) ∧ okA aC (rdT s (0 + 1) 4) ∧ okA aE (rdT s (0 + 1 + 4) 1) ∧ okA aC (rdT s (0 + 1 + 4 + 1) 4) ∧ True := hv
  obtain ⟨v_k, v_id, v_e, v_gr, _⟩ := hv
  refine ⟨?_, ?_, ?_⟩
  · show [rdT s 0 1, rdT s (0 + 1) 4, rdT s (0 + 1 + 4) 1, rdT s (0 + 1 + 4 + 1) 4] = [6, rdT s (0 + 1) 4 % 4294967296, 0, rdT s (0 + 1 + 4 + 1) 4 % 4294967296]
    rw [gC v_id.1.1 v_id.2, gC v_gr.1.1 v_gr.2, hk, he]
  · refine ⟨mC v_id, ?_⟩
    simp only [rB6, hBad, Bool.or_eq_false_iff, and_assoc]
    exact mC v_gr
  · exact ⟨iC v_id, i0, i0, i0, iC v_gr, i0, i0, i0, i0, zb_ok⟩
theorem R_fwd_9 {s : ByteArray} {n m : Nat} (g h : Nat → Int × Int) (hk : rdT s 0 1 = 9) (he : rdT s (0 + 1 + 4) 1 = 0) (hv : vok (atR 9 0 n m) (rds s 0 (atR 9 0 n m))) : rds s 0 (atR 9 0 n m) = vsR 9 0 (qV9 s 0) n g m h ∧ (notIn (qV9 s 0).id 2147483647 = false ∧ rB9 (qV9 s 0) n m (fun i => (h i).1) (fun i => (h i).2) = false) ∧ rvOk (qV9 s 0) := by
  have hv : okA (aKd 0) (rdT s (0) 1) ∧ okA aC (rdT s (0 + 1) 4) ∧ okA aE (rdT s (0 + 1 + 4) 1) ∧ okA aC (rdT s (0 + 1 + 4 + 1) 4) ∧ okA aC (rdT s (0 + 1 + 4 + 1 + 4) 4) ∧ okA aF (rdT s (0 + 1 + 4 + 1 + 4 + 4) 1) ∧ okA aM (rdT s (0 + 1 + 4 + 1 + 4 + 4 + 1) 8) ∧ okA aF (rdT s (0 + 1 + 4 + 1 + 4 + 4 + 1 + 8) 1) ∧ okA aM (rdT s (0 + 1 + 4 + 1 + 4 + 4 + 1 + 8 + 1) 8) ∧ okA aF (rdT s (0 + 1 + 4 + 1 + 4 + 4 + 1 + 8 + 1 + 8) 1) ∧ okA aM (rdT s (0 + 1 + 4 + 1 + 4 + 4 + 1 + 8 + 1 + 8 + 1) 8) ∧ okA aF (rdT s (0 + 1 + 4 + 1 + 4 + 4 + 1 + 8 + 1 + 8 + 1 + 8) 1) ∧ True := hv
  obtain ⟨v_k, v_id, v_e, v_bs, v_bg, v_hit, v_htv, v_htf, v_x0v, v_x0f, v_x1v, v_x1f, _⟩ := hv
  refine ⟨?_, ?_, ?_⟩
  · show [rdT s 0 1, rdT s (0 + 1) 4, rdT s (0 + 1 + 4) 1, rdT s (0 + 1 + 4 + 1) 4, rdT s (0 + 1 + 4 + 1 + 4) 4, rdT s (0 + 1 + 4 + 1 + 4 + 4) 1, rdT s (0 + 1 + 4 + 1 + 4 + 4 + 1) 8, rdT s (0 + 1 + 4 + 1 + 4 + 4 + 1 + 8) 1, rdT s (0 + 1 + 4 + 1 + 4 + 4 + 1 + 8 + 1) 8, rdT s (0 + 1 + 4 + 1 + 4 + 4 + 1 + 8 + 1 + 8) 1, rdT s (0 + 1 + 4 + 1 + 4 + 4 + 1 + 8 + 1 + 8 + 1) 8, rdT s (0 + 1 + 4 + 1 + 4 + 4 + 1 + 8 + 1 + 8 + 1 + 8) 1] = [9, rdT s (0 + 1) 4 % 4294967296, 0, rdT s (0 + 1 + 4 + 1) 4 % 4294967296, rdT s (0 + 1 + 4 + 1 + 4) 4 % 4294967296, flN (rdF s (0 + 1 + 4 + 1 + 4 + 4)), rdI s (0 + 1 + 4 + 1 + 4 + 4 + 1) % 18446744073709551616, flN (rdF s (0 + 1 + 4 + 1 + 4 + 4 + 1 + 8)), rdI s (0 + 1 + 4 + 1 + 4 + 4 + 1 + 8 + 1) % 18446744073709551616, flN (rdF s (0 + 1 + 4 + 1 + 4 + 4 + 1 + 8 + 1 + 8)), rdI s (0 + 1 + 4 + 1 + 4 + 4 + 1 + 8 + 1 + 8 + 1) % 18446744073709551616, flN (rdF s (0 + 1 + 4 + 1 + 4 + 4 + 1 + 8 + 1 + 8 + 1 + 8))]
    rw [gC v_id.1.1 v_id.2, gC v_bs.1.1 v_bs.2, gC v_bg.1.1 v_bg.2, gF v_hit.2, gI' (s := s) (p := 0 + 1 + 4 + 1 + 4 + 4 + 1), gF v_htf.2, gI' (s := s) (p := 0 + 1 + 4 + 1 + 4 + 4 + 1 + 8 + 1), gF v_x0f.2, gI' (s := s) (p := 0 + 1 + 4 + 1 + 4 + 4 + 1 + 8 + 1 + 8 + 1), gF v_x1f.2, hk, he]
  · refine ⟨mC v_id, ?_⟩
    simp only [rB9, hBad, Bool.or_eq_false_iff, and_assoc]
    exact ⟨mC v_bs, mC v_bg, mM v_htv, mM v_x0v, mM v_x1v⟩
  · exact ⟨iC v_id, iC v_bs, iC v_bg, i0, i0, rdI_rng _ _, rdI_rng _ _, rdI_rng _ _, i0, zb_ok⟩
theorem R_fwd_10 {s : ByteArray} {n m : Nat} (g h : Nat → Int × Int) (hk : rdT s 0 1 = 10) (he : rdT s (0 + 1 + 4) 1 = 0) (hv : vok (atR 10 0 n m) (rds s 0 (atR 10 0 n m))) : rds s 0 (atR 10 0 n m) = vsR 10 0 (qV10 s 0) n g m h ∧ (notIn (qV10 s 0).id 2147483647 = false ∧ rB10 (qV10 s 0) n m (fun i => (h i).1) (fun i => (h i).2) = false) ∧ rvOk (qV10 s 0) := by
  have hv : okA (aKd 0) (rdT s (0) 1) ∧ okA aC (rdT s (0 + 1) 4) ∧ okA aE (rdT s (0 + 1 + 4) 1) ∧ okA aC (rdT s (0 + 1 + 4 + 1) 4) ∧ True := hv
  obtain ⟨v_k, v_id, v_e, v_cnt, _⟩ := hv
  refine ⟨?_, ?_, ?_⟩
  · show [rdT s 0 1, rdT s (0 + 1) 4, rdT s (0 + 1 + 4) 1, rdT s (0 + 1 + 4 + 1) 4] = [10, rdT s (0 + 1) 4 % 4294967296, 0, rdT s (0 + 1 + 4 + 1) 4 % 4294967296]
    rw [gC v_id.1.1 v_id.2, gC v_cnt.1.1 v_cnt.2, hk, he]
  · refine ⟨mC v_id, ?_⟩
    simp only [rB10, hBad, Bool.or_eq_false_iff, and_assoc]
    exact mC v_cnt
  · exact ⟨iC v_id, i0, i0, i0, i0, i0, i0, i0, iC v_cnt, zb_ok⟩
theorem R_fwd_7 {s : ByteArray} {m : Nat} (h : Nat → Int × Int) (hk : rdT s 0 1 = 7) (he : rdT s (0 + 1 + 4) 1 = 0) (hv : vok (atR 7 0 (shC s (0 + 1 + 4 + 1 + 4 + 4)) m) (rds s 0 (atR 7 0 (shC s (0 + 1 + 4 + 1 + 4 + 4)) m))) : rds s 0 (atR 7 0 (shC s (0 + 1 + 4 + 1 + 4 + 4)) m) = vsR 7 0 (qV7 s 0) (shC s (0 + 1 + 4 + 1 + 4 + 4)) (rdSp s (shA (0 + 1 + 4 + 1 + 4 + 4))) m h ∧ (notIn (qV7 s 0).id 2147483647 = false ∧ rB7 (qV7 s 0) (shC s (0 + 1 + 4 + 1 + 4 + 4)) m (fun i => (h i).1) (fun i => (h i).2) = false) ∧ rvOk (qV7 s 0) := by
  have hA : atR 7 0 (shC s (0 + 1 + 4 + 1 + 4 + 4)) m = [aKd 0, aC, aE, aC, aC] ++ boA (shC s (0 + 1 + 4 + 1 + 4 + 4)) := rfl
  have hR : rds s 0 (atR 7 0 (shC s (0 + 1 + 4 + 1 + 4 + 4)) m) = [rdT s (0) 1, rdT s (0 + 1) 4, rdT s (0 + 1 + 4) 1, rdT s (0 + 1 + 4 + 1) 4, rdT s (0 + 1 + 4 + 1 + 4) 4] ++ rds s (0 + 1 + 4 + 1 + 4 + 4) (boA (shC s (0 + 1 + 4 + 1 + 4 + 4))) := by
    rw [hA, rds_app]
    rfl
  rw [hR, hA, vok_app rfl] at hv
  obtain ⟨hv, hv2⟩ := hv
  have hv : okA (aKd 0) (rdT s (0) 1) ∧ okA aC (rdT s (0 + 1) 4) ∧ okA aE (rdT s (0 + 1 + 4) 1) ∧ okA aC (rdT s (0 + 1 + 4 + 1) 4) ∧ okA aC (rdT s (0 + 1 + 4 + 1 + 4) 4) ∧ True := hv
  obtain ⟨v_k, v_id, v_e, v_bs, v_bg, _⟩ := hv
  obtain ⟨b1, b2, b3⟩ := bo_fwd hv2
  refine ⟨?_, ⟨mC v_id, ?_⟩, ?_⟩
  · rw [hR, b1]
    show [rdT s (0) 1, rdT s (0 + 1) 4, rdT s (0 + 1 + 4) 1, rdT s (0 + 1 + 4 + 1) 4, rdT s (0 + 1 + 4 + 1 + 4) 4] ++ _ = [7, rdT s (0 + 1) 4 % 4294967296, 0, rdT s (0 + 1 + 4 + 1) 4 % 4294967296, rdT s (0 + 1 + 4 + 1 + 4) 4 % 4294967296] ++ boVs (bdV s (0 + 1 + 4 + 1 + 4 + 4)) (shC s (0 + 1 + 4 + 1 + 4 + 4)) (rdSp s (shA (0 + 1 + 4 + 1 + 4 + 4)))
    rw [gC v_id.1.1 v_id.2, gC v_bs.1.1 v_bs.2, gC v_bg.1.1 v_bg.2, hk, he]
  · simp only [rB7, hBad, Bool.or_eq_false_iff, and_assoc]
    exact ⟨mC v_bs, mC v_bg, b2⟩
  · exact ⟨iC v_id, iC v_bs, iC v_bg, i0, i0, i0, i0, i0, i0, b3⟩
theorem R_fwd_8 {s : ByteArray} {n : Nat} (g : Nat → Int × Int) (hk : rdT s 0 1 = 8) (he : rdT s (0 + 1 + 4) 1 = 0) (hv : vok (atR 8 0 n (hdC s 0)) (rds s 0 (atR 8 0 n (hdC s 0)))) : rds s 0 (atR 8 0 n (hdC s 0)) = vsR 8 0 (qV8 s 0) n g (hdC s 0) (rdHd s (0 + 1 + 4 + 1 + 1)) ∧ (notIn (qV8 s 0).id 2147483647 = false ∧ rB8 (qV8 s 0) n (hdC s 0) (fun i => (rdHd s (0 + 1 + 4 + 1 + 1) i).1) (fun i => (rdHd s (0 + 1 + 4 + 1 + 1) i).2) = false) ∧ rvOk (qV8 s 0) := by
  have hA : atR 8 0 n (hdC s 0) = [aKd 0, aC, aE, aHs] ++ hsA (hdC s 0) := rfl
  have hR : rds s 0 (atR 8 0 n (hdC s 0)) = [rdT s (0) 1, rdT s (0 + 1) 4, rdT s (0 + 1 + 4) 1, rdT s (0 + 1 + 4 + 1) 1] ++ rds s (0 + 1 + 4 + 1 + 1) (hsA (hdC s 0)) := by
    rw [hA, rds_app]
    rfl
  rw [hR, hA, vok_app rfl] at hv
  obtain ⟨hv, hv2⟩ := hv
  have hv : okA (aKd 0) (rdT s (0) 1) ∧ okA aC (rdT s (0 + 1) 4) ∧ okA aE (rdT s (0 + 1 + 4) 1) ∧ okA aHs (rdT s (0 + 1 + 4 + 1) 1) ∧ True := hv
  obtain ⟨v_k, v_id, v_e, v_m, _⟩ := hv
  obtain ⟨b1, b2⟩ := hs_fwd hv2
  have hm : rdT s (0 + 1 + 4 + 1) 1 = ((hdC s 0 : Nat) : Int) := by
    unfold hdC
    have := v_m.1.1
    omega
  refine ⟨?_, ⟨mC v_id, ?_⟩, ?_⟩
  · rw [hR, b1]
    show [rdT s (0) 1, rdT s (0 + 1) 4, rdT s (0 + 1 + 4) 1, rdT s (0 + 1 + 4 + 1) 1] ++ _ = [8, rdT s (0 + 1) 4 % 4294967296, 0, ((hdC s 0 : Nat) : Int)] ++ hsVs _ _
    rw [gC v_id.1.1 v_id.2, hk, he, hm]
  · simp only [rB8, Bool.or_eq_false_iff]
    refine ⟨?_, b2⟩
    rw [← hm]
    exact notIn_of ⟨v_m.1.1, by have := of_decide_eq_false v_m.2; omega⟩
  · exact ⟨iC v_id, i0, i0, i0, i0, i0, i0, i0, i0, zb_ok⟩
theorem R_fwd_N {s : ByteArray} {k e : Int} {n m : Nat} (g h : Nat → Int × Int) (hk : rdT s 0 1 = k) (he : rdT s (0 + 1 + 4) 1 = e) (h0 : e ≠ 0) (hv : vok (atR k e n m) (rds s 0 (atR k e n m))) : rds s 0 (atR k e n m) = vsR k e (qVN s 0) n g m h ∧ (notIn (qVN s 0).id 2147483647 = false ∧ (e = 14 → notIn (qVN s 0).ver 1099511627776 = false)) ∧ rvOk (qVN s 0) := by
  unfold atR vsR rAK rVK at *
  rw [eq_no h0] at *
  by_cases h14 : e = 14
  · subst h14
    have hv : okA (aKd 0) (rdT s (0) 1) ∧ okA aC (rdT s (0 + 1) 4) ∧ okA aE (rdT s (0 + 1 + 4) 1) ∧ okA aV (rdT s (0 + 1 + 4 + 1) 8) ∧ True := hv
    obtain ⟨v_k, v_id, v_e, v_ver, _⟩ := hv
    have ev : (qVN s 0).ver = rdT s (0 + 1 + 4 + 1) 8 := by
      show vrN s 0 = _
      unfold vrN
      rw [he]
      rfl
    refine ⟨?_, ⟨mC v_id, fun _ => by rw [ev]; exact mV v_ver⟩, iC v_id, i0, i0, by rw [ev]; exact iV' v_ver, i0, i0, i0, i0, i0, zb_ok⟩
    rw [ev]
    show [rdT s 0 1, rdT s (0 + 1) 4, rdT s (0 + 1 + 4) 1, rdT s (0 + 1 + 4 + 1) 8] = [k, rdT s (0 + 1) 4 % 4294967296, 14, rdT s (0 + 1 + 4 + 1) 8 % 18446744073709551616]
    rw [gC v_id.1.1 v_id.2, gV v_ver.1.1 v_ver.2, hk, he]
  · rw [eq_no h14] at *
    have hv : okA (aKd 0) (rdT s (0) 1) ∧ okA aC (rdT s (0 + 1) 4) ∧ okA aE (rdT s (0 + 1 + 4) 1) ∧ True := hv
    obtain ⟨v_k, v_id, v_e, _⟩ := hv
    have ev : (qVN s 0).ver = 0 := by
      show vrN s 0 = _
      unfold vrN
      rw [he, eq_no h14]
      rfl
    refine ⟨?_, ⟨mC v_id, fun hc => absurd hc h14⟩, iC v_id, i0, i0, by rw [ev]; exact i0, i0, i0, i0, i0, i0, zb_ok⟩
    show [rdT s 0 1, rdT s (0 + 1) 4, rdT s (0 + 1 + 4) 1] = [k, rdT s (0 + 1) 4 % 4294967296, e]
    rw [gC v_id.1.1 v_id.2, hk, he]
end Go.Proofs.Ytjdldadmaaeimaa
end
section
namespace Go.Proofs.Ytjdldadmaaeimaa
open Go.SE Go.RowKit
theorem ki_rng {s : ByteArray} {k low : Int} (h : (kiP s k low).bad = false) : low ≤ rdT s k 1 ∧ rdT s k 1 ≤ 10 := by
  have h2 : (!(decide (low ≤ rdT s k 1) && decide (rdT s k 1 ≤ 10))) = false := (seq_f h).2
  cases h3 : (decide (low ≤ rdT s k 1) && decide (rdT s k 1 ≤ 10)) with
  | false => rw [h3] at h2; cases h2
  | true =>
    rw [Bool.and_eq_true] at h3
    exact ⟨of_decide_eq_true h3.1, of_decide_eq_true h3.2⟩
theorem ΓT8_ok : ∀ f g, ΓT8 f = some g → g.ok Try.prog f := addCtr_ok (addCtr_ok (addCtr_ok ΓT6_ok (te_ok Try.func122 (by kernel_rfl) (by kernel_rfl) ShT_spec)) (td_ok Try.func120 (by kernel_rfl) (by kernel_rfl) KindT_spec)) (td_ok Try.func131 (by kernel_rfl) (by kernel_rfl) EndT_spec)
theorem bd_pre {s : ByteArray} {k : Int} (hp : rdPre s k) (h : (bdP s k).bad = false) : rdPre s (bdEnd s k) := by
  have f0 := seq_f h
  have p0 := sh_pre hp f0.1
  have f1 := seq_f f0.2
  have p1 := ps_pre p0 f1.1
  have f2 := seq_f f1.2
  have p2 := vc_pre p1 f2.1
  have f3 := seq_f f2.2
  have p3 := nu_pre p2 f3.1
  have f4 := seq_f f3.2
  have p4 := nu_pre p3 f4.1
  have f5 := seq_f f4.2
  have p5 := nu_pre p4 f5.1
  have f6 := seq_f f5.2
  have p6 := up_pre p5 (by omega) f6.1
  have f7 := seq_f f6.2
  have p7 := up_pre p6 (by omega) f7.1
  have p8 := up_pre p7 (by omega) f7.2
  exact p8
theorem BodyT_spec : HpSpecT Try.prog 92 (sTe bdE) (stTd (p0 bdP)) (spTe bdP) := te_spec ΓT8_ok Try.func92 (Λ := fun _ _ => noΛ) (fun s k h => h) fun s k hp => by
  have h_vc := vcBodyT s k
  repeat (first | unfold vcBodyT_3 at h_vc | unfold vcBodyT_2 at h_vc | unfold vcBodyT_1 at h_vc)
  refine Eq.mpr h_vc ?_
  unfold bdP
  refine sel_of (fun h => ⟨hp, pan (seq_no h)⟩) fun g0 => ⟨hp, fun c => ?_⟩
  have g0 : (shP s (k)).bad = false := g0
  have hp_g0 : rdPre s (shEnd s (k)) := sh_pre hp g0
  rw [seq_ok g0]
  refine sel_of (fun h => ⟨⟨hp_g0, trivial⟩, pan (seq_no h)⟩) fun g1 => ⟨⟨hp_g0, trivial⟩, ?_⟩
  have g1 : (psP s (shEnd s (k))).bad = false := g1
  have hp_g0_g1 : rdPre s (shEnd s (k) + 8 + 1 + 8 + 1 + 8 + 1 + 8 + 1) := ps_pre hp_g0 g1
  rw [seq_ok g1]
  refine sel_of (fun h => ⟨⟨hp_g0_g1, trivial⟩, pan (seq_no h)⟩) fun g2 => ⟨⟨hp_g0_g1, trivial⟩, ?_⟩
  have g2 : (vcP s (shEnd s (k) + 8 + 1 + 8 + 1 + 8 + 1 + 8 + 1)).bad = false := g2
  have hp_g0_g1_g2 : rdPre s (shEnd s (k) + 8 + 1 + 8 + 1 + 8 + 1 + 8 + 1 + 8 + 1 + 8 + 1) := vc_pre hp_g0_g1 g2
  rw [seq_ok g2]
  refine sel_of (fun h => ⟨⟨hp_g0_g1_g2, trivial⟩, pan (seq_no h)⟩) fun g3 => ⟨⟨hp_g0_g1_g2, trivial⟩, ?_⟩
  have g3 : (nuP s (shEnd s (k) + 8 + 1 + 8 + 1 + 8 + 1 + 8 + 1 + 8 + 1 + 8 + 1)).bad = false := g3
  have hp_g0_g1_g2_g3 : rdPre s (shEnd s (k) + 8 + 1 + 8 + 1 + 8 + 1 + 8 + 1 + 8 + 1 + 8 + 1 + 8 + 1) := nu_pre hp_g0_g1_g2 g3
  rw [seq_ok g3]
  refine sel_of (fun h => ⟨⟨hp_g0_g1_g2_g3, trivial⟩, pan (seq_no h)⟩) fun g4 => ⟨⟨hp_g0_g1_g2_g3, trivial⟩, ?_⟩
  have g4 : (nuP s (shEnd s (k) + 8 + 1 + 8 + 1 + 8 + 1 + 8 + 1 + 8 + 1 + 8 + 1 + 8 + 1)).bad = false := g4
  have hp_g0_g1_g2_g3_g4 : rdPre s (shEnd s (k) + 8 + 1 + 8 + 1 + 8 + 1 + 8 + 1 + 8 + 1 + 8 + 1 + 8 + 1 + 8 + 1) := nu_pre hp_g0_g1_g2_g3 g4
  rw [seq_ok g4]
  refine sel_of (fun h => ⟨⟨hp_g0_g1_g2_g3_g4, trivial⟩, pan (seq_no h)⟩) fun g5 => ⟨⟨hp_g0_g1_g2_g3_g4, trivial⟩, ?_⟩
  have g5 : (nuP s (shEnd s (k) + 8 + 1 + 8 + 1 + 8 + 1 + 8 + 1 + 8 + 1 + 8 + 1 + 8 + 1 + 8 + 1)).bad = false := g5
  have hp_g0_g1_g2_g3_g4_g5 : rdPre s (shEnd s (k) + 8 + 1 + 8 + 1 + 8 + 1 + 8 + 1 + 8 + 1 + 8 + 1 + 8 + 1 + 8 + 1 + 8 + 1) := nu_pre hp_g0_g1_g2_g3_g4 g5
  rw [seq_ok g5]
  refine sel_of (fun h => ⟨⟨hp_g0_g1_g2_g3_g4_g5, trivial⟩, pan (seq_no h)⟩) fun g6 => ⟨⟨hp_g0_g1_g2_g3_g4_g5, trivial⟩, ?_⟩
  have g6 : (upP s (shEnd s (k) + 8 + 1 + 8 + 1 + 8 + 1 + 8 + 1 + 8 + 1 + 8 + 1 + 8 + 1 + 8 + 1 + 8 + 1) 2147483647 4).bad = false := g6
  have hp_g0_g1_g2_g3_g4_g5_g6 : rdPre s (shEnd s (k) + 8 + 1 + 8 + 1 + 8 + 1 + 8 + 1 + 8 + 1 + 8 + 1 + 8 + 1 + 8 + 1 + 8 + 1 + 4) := up_pre hp_g0_g1_g2_g3_g4_g5 (by omega) g6
  rw [seq_ok g6]
  refine sel_of (fun h => ⟨⟨hp_g0_g1_g2_g3_g4_g5_g6, ⟨by omega, by omega⟩, by omega⟩, pan (seq_no h)⟩) fun g7 => ⟨⟨hp_g0_g1_g2_g3_g4_g5_g6, ⟨by omega, by omega⟩, by omega⟩, ?_⟩
  have g7 : (upP s (shEnd s (k) + 8 + 1 + 8 + 1 + 8 + 1 + 8 + 1 + 8 + 1 + 8 + 1 + 8 + 1 + 8 + 1 + 8 + 1 + 4) 3 1).bad = false := g7
  have hp_g0_g1_g2_g3_g4_g5_g6_g7 : rdPre s (shEnd s (k) + 8 + 1 + 8 + 1 + 8 + 1 + 8 + 1 + 8 + 1 + 8 + 1 + 8 + 1 + 8 + 1 + 8 + 1 + 4 + 1) := up_pre hp_g0_g1_g2_g3_g4_g5_g6 (by omega) g7
  rw [seq_ok g7]
  refine sel_of (fun h => ⟨⟨hp_g0_g1_g2_g3_g4_g5_g6_g7, trivial⟩, pan ⟨h, rfl⟩⟩) fun h => ⟨⟨hp_g0_g1_g2_g3_g4_g5_g6_g7, trivial⟩, h, c, by repeat (first | exact rfl | refine ⟨rfl, ?_⟩ | refine ⟨⟨rfl, rfl, rfl, rfl⟩, ?_⟩), ⟨rfl, Nat.le_refl _, fun _ _ => rfl⟩, rfl, Nat.le_refl _, fun _ _ => rfl⟩
theorem ΓT9_ok : ∀ f g, ΓT9 f = some g → g.ok Try.prog f := addCtr_ok ΓT8_ok (te_ok Try.func92 (by kernel_rfl) (by kernel_rfl) BodyT_spec)
theorem hds_pre {s : ByteArray} {k : Int} (hp : rdPre s k) : ∀ {i : Nat}, (hdsP s k i).bad = false → rdPre s (k + 8 * (i : Int))
  | 0, _ => by rw [show k + 8 * ((0 : Nat) : Int) = k by omega]; exact hp
  | i + 1, h => by
    have := ha_pre (hds_pre hp (seq_f h).1) (seq_f h).2
    rw [show k + 8 * ((i + 1 : Nat) : Int) = k + 8 * (i : Int) + 4 + 4 by omega]
    exact this
theorem hds_bad {s : ByteArray} {k : Int} {i : Nat} (h1 : (hdsP s k i).bad = false) (h2 : (haP s (k + 8 * (i : Int))).bad = true) : ∀ {n : Nat}, i < n → (hdsP s k n).bad = true ∧ (haP s (k + 8 * (i : Int))).er = (hdsP s k n).er
  | 0, h => absurd h (Nat.not_lt_zero _)
  | n + 1, h => by
    by_cases hi : i = n
    · subst hi
      unfold hdsP
      rw [seq_ok h1]
      exact ⟨h2, rfl⟩
    · have ih := hds_bad h1 h2 (n := n) (by omega)
      unfold hdsP
      have := seq_no (b := haP s (k + 8 * (n : Int))) ih.1
      exact ⟨this.1, ih.2.trans this.2⟩
theorem hds_ok {s : ByteArray} {k : Int} {i : Nat} (h1 : (hdsP s k i).bad = false) (h2 : (haP s (k + 8 * (i : Int))).bad = false) : (hdsP s k (i + 1)).bad = false := by
  unfold hdsP
  rw [seq_ok h1]
  exact h2
theorem seq_bad {a b : Pz} {e : Int} (h : a.bad = true ∧ e = a.er) : (a.seq b).bad = true ∧ e = (a.seq b).er := ⟨(seq_no h.1).1, h.2.trans (seq_no h.1).2⟩
theorem hdC_int (s : ByteArray) (k : Int) : rdT s (k + 1 + 4 + 1) 1 = (hdC s k : Int) := by
  have := (rdT_rng s (k + 1 + 4 + 1) 1).1
  unfold hdC
  omega
theorem n1_of {s : ByteArray} {k : Int} (h : rdT s k 1 ≠ 0 ∨ rdT s (k + 1) 4 = 0) : (n1P s k).bad = false := by
  show (!(rdT s k 1 != 0 || rdT s (k + 1) 4 == 0)) = false
  rcases h with h | h
  · rw [show (rdT s k 1 != 0) = true by simpa using h]; rfl
  · rw [h, show ((0 : Int) == 0) = true from rfl, Bool.or_true]; rfl
theorem n2_of {s : ByteArray} {k : Int} (h : rdT s k 1 ≠ 0 ∨ (rdT s (k + 1 + 4) 1 ≠ 0 ∧ rdT s (k + 1 + 4) 1 ≠ 14)) : (n2P s k).bad = false := by
  show (!(rdT s k 1 != 0 || (rdT s (k + 1 + 4) 1 != 0 && rdT s (k + 1 + 4) 1 != 14))) = false
  rcases h with h | h
  · rw [show (rdT s k 1 != 0) = true by simpa using h]; rfl
  · rw [show (rdT s (k + 1 + 4) 1 != 0) = true by simpa using h.1, show (rdT s (k + 1 + 4) 1 != 14) = true by simpa using h.2, Bool.and_true, Bool.or_true]; rfl
theorem n2_k {s : ByteArray} {k : Int} (h : (n2P s k).bad = false) (he : rdT s (k + 1 + 4) 1 = 0) : rdT s k 1 ≠ 0 := fun hk => by
  have h : (!(rdT s k 1 != 0 || (rdT s (k + 1 + 4) 1 != 0 && rdT s (k + 1 + 4) 1 != 14))) = false := h
  rw [hk, he] at h
  cases h
theorem ReplyT_spec : HpSpecT Try.prog 91 (sTe rpE) (stTd (p0 rpP)) (spTe rpP) := te_spec ΓT9_ok Try.func91 (Λ := ΛRp) (fun s k h => h) fun s k hp => by
  have h_vc := vcReplyT s k
  repeat (first | unfold vcReplyT_18 at h_vc | unfold vcReplyT_17 at h_vc | unfold vcReplyT_16 at h_vc | unfold vcReplyT_15 at h_vc | unfold vcReplyT_14 at h_vc | unfold vcReplyT_13 at h_vc | unfold vcReplyT_12 at h_vc | unfold vcReplyT_11 at h_vc | unfold vcReplyT_10 at h_vc | unfold vcReplyT_9 at h_vc | unfold vcReplyT_8 at h_vc | unfold vcReplyT_7 at h_vc | unfold vcReplyT_6 at h_vc | unfold vcReplyT_5 at h_vc | unfold vcReplyT_4 at h_vc | unfold vcReplyT_3 at h_vc | unfold vcReplyT_2 at h_vc | unfold vcReplyT_1 at h_vc)
  refine Eq.mpr h_vc (sel_of (fun h => ⟨⟨hp, trivial⟩, pan (seq_no h)⟩) fun h1 => ⟨⟨hp, trivial⟩, ?_⟩)
  have h1 : (kiP s k 0).bad = false := h1
  have hk := ki_rng h1
  have p1 : rdPre s (k + 1) := tk_pre hp (by omega) (seq_f h1).1
  rw [show rpP s k = (upP s (k + 1) 2147483647 4).seq ((n1P s k).seq ((upP s (k + 1 + 4) 14 1).seq ((n2P s k).seq (rpR s k)))) from seq_ok h1]
  refine sel_of (fun h => ⟨⟨p1, trivial⟩, pan (seq_no h)⟩) fun h2 => ⟨⟨p1, trivial⟩, ?_⟩
  have h2 : (upP s (k + 1) 2147483647 4).bad = false := h2
  have p2 : rdPre s (k + 1 + 4) := up_pre p1 (by omega) h2
  rw [seq_ok h2]
  refine ⟨sel_of (fun hK => ⟨0, n1_of (.inl (by simpa using hK)), trivial, ⟨rfl, Nat.le_refl _, fun i _ => rfl⟩, ⟨rfl, Nat.le_refl _, fun i _ => rfl⟩⟩) fun hK => sel_of (fun hI => pan (e := 4) (seq_no (a := n1P s k) ?_)) fun hI => ⟨0, n1_of (.inr (by simpa using hI)), trivial, ⟨rfl, Nat.le_refl _, fun i _ => rfl⟩, ⟨rfl, Nat.le_refl _, fun i _ => rfl⟩⟩, fun _ hn1 => ?_⟩
  · show (!(rdT s k 1 != 0 || rdT s (k + 1) 4 == 0)) = true
    rw [show (rdT s k 1 != 0) = false from hK, show (rdT s (k + 1) 4 == 0) = false by simpa using hI]
    rfl
  rw [seq_ok hn1]
  refine sel_of (fun h => ⟨⟨p2, ⟨by omega, by omega⟩, by omega⟩, pan (seq_no h)⟩) fun h3 => ⟨⟨p2, ⟨by omega, by omega⟩, by omega⟩, ?_⟩
  have h3 : (upP s (k + 1 + 4) 14 1).bad = false := h3
  have p3 : rdPre s (k + 1 + 4 + 1) := up_pre p2 (by omega) h3
  rw [seq_ok h3]
  refine ⟨sel_of (fun hK => ⟨0, n2_of (.inl (by simpa using hK)), trivial, ⟨rfl, Nat.le_refl _, fun i _ => rfl⟩, ⟨rfl, Nat.le_refl _, fun i _ => rfl⟩⟩) fun hK => sel_of (fun hE => sel_of (fun h14 => pan (e := 4) (seq_no (a := n2P s k) ?_)) fun h14 => ⟨0, n2_of (.inr ⟨by simpa using hE, by simpa using h14⟩), trivial, ⟨rfl, Nat.le_refl _, fun i _ => rfl⟩, ⟨rfl, Nat.le_refl _, fun i _ => rfl⟩⟩) fun hE => pan (e := 4) (seq_no (a := n2P s k) ?_), fun _ hn2 => ?_⟩
  · show (!(rdT s k 1 != 0 || (rdT s (k + 1 + 4) 1 != 0 && rdT s (k + 1 + 4) 1 != 14))) = true
    rw [show (rdT s k 1 != 0) = false from hK, show (rdT s (k + 1 + 4) 1 != 14) = false by simpa using h14, Bool.and_false]
    rfl
  · show (!(rdT s k 1 != 0 || (rdT s (k + 1 + 4) 1 != 0 && rdT s (k + 1 + 4) 1 != 14))) = true
    rw [show (rdT s k 1 != 0) = false from hK, show (rdT s (k + 1 + 4) 1 != 0) = false from hE, Bool.false_and]
    rfl
  rw [seq_ok hn2]
  have qNo : rdT s (k + 1 + 4) 1 ≠ 0 → rpR s k = qPN s k := fun he => by
    unfold rpR
    rw [show (rdT s (k + 1 + 4) 1 == 0) = false by simpa using he]
    rfl
  refine ⟨sel_of (fun hE => sel_of (fun h => ⟨⟨p3, trivial⟩, pan ?_⟩) fun h => ⟨⟨p3, trivial⟩, 0, fun _ => h, trivial, ⟨rfl, Nat.le_refl _, fun i _ => ?_⟩, ⟨rfl, Nat.le_refl _, fun i _ => ?_⟩⟩) fun hE => ⟨0, fun h => ?_, trivial, ⟨rfl, Nat.le_refl _, fun i _ => ?_⟩, ⟨rfl, Nat.le_refl _, fun i _ => ?_⟩⟩, fun _ h14 => ?_⟩
  · have hE : rdT s (k + 1 + 4) 1 = 14 := by simpa using hE
    rw [qNo (by omega)]
    unfold qPN
    rw [hE]
    exact seq_no h
  · unfold rpA
    rw [hE]
    rfl
  · have hv : vrN s k = rdT s (k + 1 + 4 + 1) 8 := by
      unfold vrN
      rw [hE]
      rfl
    rw [hv]
    rfl
  · rw [h] at hE
    cases hE
  · unfold rpA
    rw [hE]
    rfl
  · have hv : vrN s k = 0 := by
      unfold vrN
      rw [hE]
      rfl
    rw [hv]
  have pA : rdPre s (rpA s k) := by
    unfold rpA
    by_cases h : rdT s (k + 1 + 4) 1 = 14
    · rw [h]
      exact up_pre p3 (by omega) (h14 h)
    · rw [show (rdT s (k + 1 + 4) 1 == 14) = false by simpa using h]
      exact p3
  refine sel_of (fun hE => ?_) fun hE => ?_
  · have hE : rdT s (k + 1 + 4) 1 ≠ 0 := by simpa using hE
    have hE0 : (rdT s (k + 1 + 4) 1 == 0) = false := by simpa using hE
    have hP : rpR s k = enP s (rpA s k) := by
      rw [qNo hE]
      unfold qPN rpA
      by_cases h : rdT s (k + 1 + 4) 1 = 14
      · have := h14 h
        rw [h]
        exact seq_ok this
      · rw [show (rdT s (k + 1 + 4) 1 == 14) = false by simpa using h]
        rfl
    have qV : rpV s k = qVN s k := by unfold rpV; rw [hE0]; rfl
    have qE : rpEnd s k = rpA s k := by unfold rpEnd; rw [hE0]; rfl
    have qN : rpN s k = 0 := by unfold rpN; rw [hE0]; rfl
    have qM : rpM s k = 0 := by unfold rpM; rw [hE0]; rfl
    rw [hP, qV, qE, qN, qM]
    exact sel_of (fun h => ⟨⟨pA, trivial⟩, pan ⟨h, rfl⟩⟩) fun h => ⟨⟨pA, trivial⟩, h, ⟨0, 0⟩, by repeat (first | exact rfl | refine ⟨rfl, ?_⟩ | refine ⟨⟨rfl, rfl, rfl, rfl⟩, ?_⟩), ⟨rfl, Nat.le_refl _, fun i _ => rfl⟩, ⟨rfl, rfl, trivial⟩, ⟨rfl, rfl, trivial⟩, trivial⟩
  have hE : rdT s (k + 1 + 4) 1 = 0 := by simpa using hE
  have hK0 := n2_k hn2 hE
  have hA : rpA s k = k + 1 + 4 + 1 := by unfold rpA; rw [hE]; rfl
  have hV0 : vrN s k = 0 := by unfold vrN; rw [hE]; rfl
  rw [hA] at pA ⊢
  try rw [hV0]
  refine sel_of (fun e1 => ?_) fun e1 => sel_of (fun e3 => ?_) fun e3 => sel_of (fun e2 => ?_) fun e2 => sel_of (fun e4 => ?_) fun e4 => sel_of (fun e5 => ?_) fun e5 => sel_of (fun e6 => ?_) fun e6 => sel_of (fun e7 => ?_) fun e7 => sel_of (fun e8 => ?_) fun e8 => sel_of (fun e9 => ?_) fun e9 => sel_of (fun e10 => ?_) fun e10 => ?_
  · have hK : rdT s k 1 = 1 := by simpa using e1
    have qrpR : rpR s k = qP1 s k := by unfold rpR; rw [hE, hK]; rfl
    have qrpV : rpV s k = qV1 s k := by unfold rpV; rw [hE, hK]; rfl
    have qrpEnd : rpEnd s k = qE1 s k := by unfold rpEnd; rw [hE, hK]; rfl
    have qN : rpN s k = 0 := by unfold rpN; rw [hE, hK]; rfl
    have qM : rpM s k = 0 := by unfold rpM; rw [hE, hK]; rfl
    rw [qrpR, qrpV, qrpEnd, qN, qM]
    unfold qP1
    refine sel_of (fun h => ⟨⟨pA, trivial⟩, pan (seq_no h)⟩) fun g0 => ⟨⟨pA, trivial⟩, ?_⟩
    have g0 : (haP s (k + 1 + 4 + 1)).bad = false := g0
    have pA_g0 : rdPre s (k + 1 + 4 + 1 + 4 + 4) := ha_pre pA g0
    rw [seq_ok g0]
    refine sel_of (fun h => ⟨⟨pA_g0, trivial⟩, pan (seq_no h)⟩) fun g1 => ⟨⟨pA_g0, trivial⟩, ?_⟩
    have g1 : (upP s (k + 1 + 4 + 1 + 4 + 4) 1099511627776 8).bad = false := g1
    have pA_g0_g1 : rdPre s (k + 1 + 4 + 1 + 4 + 4 + 8) := up_pre pA_g0 (by omega) g1
    rw [seq_ok g1]
    exact sel_of (fun h => ⟨⟨pA_g0_g1, trivial⟩, pan ⟨h, rfl⟩⟩) fun h => ⟨⟨pA_g0_g1, trivial⟩, ⟨h, ⟨0, 0⟩, by repeat (first | exact rfl | refine ⟨rfl, ?_⟩ | refine ⟨⟨rfl, rfl, rfl, rfl⟩, ?_⟩), ⟨rfl, Nat.le_refl _, fun _ _ => rfl⟩, ⟨rfl, rfl, trivial⟩, ⟨rfl, rfl, trivial⟩, trivial⟩⟩
  · have hK : rdT s k 1 = 3 := by simpa using e3
    have qrpR : rpR s k = qP3 s k := by unfold rpR; rw [hE, hK]; rfl
    have qrpV : rpV s k = qV3 s k := by unfold rpV; rw [hE, hK]; rfl
    have qrpEnd : rpEnd s k = qE3 s k := by unfold rpEnd; rw [hE, hK]; rfl
    have qN : rpN s k = 0 := by unfold rpN; rw [hE, hK]; rfl
    have qM : rpM s k = 0 := by unfold rpM; rw [hE, hK]; rfl
    rw [qrpR, qrpV, qrpEnd, qN, qM]
    unfold qP3
    refine sel_of (fun h => ⟨⟨pA, trivial⟩, pan (seq_no h)⟩) fun g0 => ⟨⟨pA, trivial⟩, ?_⟩
    have g0 : (haP s (k + 1 + 4 + 1)).bad = false := g0
    have pA_g0 : rdPre s (k + 1 + 4 + 1 + 4 + 4) := ha_pre pA g0
    rw [seq_ok g0]
    refine sel_of (fun h => ⟨⟨pA_g0, trivial⟩, pan (seq_no h)⟩) fun g1 => ⟨⟨pA_g0, trivial⟩, ?_⟩
    have g1 : (upP s (k + 1 + 4 + 1 + 4 + 4) 1099511627776 8).bad = false := g1
    have pA_g0_g1 : rdPre s (k + 1 + 4 + 1 + 4 + 4 + 8) := up_pre pA_g0 (by omega) g1
    rw [seq_ok g1]
    exact sel_of (fun h => ⟨⟨pA_g0_g1, trivial⟩, pan ⟨h, rfl⟩⟩) fun h => ⟨⟨pA_g0_g1, trivial⟩, ⟨h, ⟨0, 0⟩, by repeat (first | exact rfl | refine ⟨rfl, ?_⟩ | refine ⟨⟨rfl, rfl, rfl, rfl⟩, ?_⟩), ⟨rfl, Nat.le_refl _, fun _ _ => rfl⟩, ⟨rfl, rfl, trivial⟩, ⟨rfl, rfl, trivial⟩, trivial⟩⟩
  · have hK : rdT s k 1 = 2 := by simpa using e2
    have qrpR : rpR s k = qP2 s k := by unfold rpR; rw [hE, hK]; rfl
    have qrpV : rpV s k = qV2 s k := by unfold rpV; rw [hE, hK]; rfl
    have qrpEnd : rpEnd s k = qE2 s k := by unfold rpEnd; rw [hE, hK]; rfl
    have qN : rpN s k = 0 := by unfold rpN; rw [hE, hK]; rfl
    have qM : rpM s k = 0 := by unfold rpM; rw [hE, hK]; rfl
    rw [qrpR, qrpV, qrpEnd, qN, qM]
    unfold qP2
    refine sel_of (fun h => ⟨⟨pA, trivial⟩, pan (seq_no h)⟩) fun g0 => ⟨⟨pA, trivial⟩, ?_⟩
    have g0 : (haP s (k + 1 + 4 + 1)).bad = false := g0
    have pA_g0 : rdPre s (k + 1 + 4 + 1 + 4 + 4) := ha_pre pA g0
    rw [seq_ok g0]
    exact sel_of (fun h => ⟨⟨pA_g0, trivial⟩, pan ⟨h, rfl⟩⟩) fun h => ⟨⟨pA_g0, trivial⟩, ⟨h, ⟨0, 0⟩, by repeat (first | exact rfl | refine ⟨rfl, ?_⟩ | refine ⟨⟨rfl, rfl, rfl, rfl⟩, ?_⟩), ⟨rfl, Nat.le_refl _, fun _ _ => rfl⟩, ⟨rfl, rfl, trivial⟩, ⟨rfl, rfl, trivial⟩, trivial⟩⟩
  · have hK : rdT s k 1 = 4 := by simpa using e4
    have qrpR : rpR s k = qP4 s k := by unfold rpR; rw [hE, hK]; rfl
    have qrpV : rpV s k = qV4 s k := by unfold rpV; rw [hE, hK]; rfl
    have qrpEnd : rpEnd s k = qE4 s k := by unfold rpEnd; rw [hE, hK]; rfl
    have qN : rpN s k = 0 := by unfold rpN; rw [hE, hK]; rfl
    have qM : rpM s k = 0 := by unfold rpM; rw [hE, hK]; rfl
    rw [qrpR, qrpV, qrpEnd, qN, qM]
    unfold qP4
    refine sel_of (fun h => ⟨⟨pA, trivial⟩, pan (seq_no h)⟩) fun g0 => ⟨⟨pA, trivial⟩, ?_⟩
    have g0 : (haP s (k + 1 + 4 + 1)).bad = false := g0
    have pA_g0 : rdPre s (k + 1 + 4 + 1 + 4 + 4) := ha_pre pA g0
    rw [seq_ok g0]
    refine sel_of (fun h => ⟨⟨pA_g0, trivial⟩, pan (seq_no h)⟩) fun g1 => ⟨⟨pA_g0, trivial⟩, ?_⟩
    have g1 : (upP s (k + 1 + 4 + 1 + 4 + 4) 1099511627776 8).bad = false := g1
    have pA_g0_g1 : rdPre s (k + 1 + 4 + 1 + 4 + 4 + 8) := up_pre pA_g0 (by omega) g1
    rw [seq_ok g1]
    refine sel_of (fun h => ⟨⟨pA_g0_g1, trivial⟩, pan (seq_no h)⟩) fun g2 => ⟨⟨pA_g0_g1, trivial⟩, ?_⟩
    have g2 : (upP s (k + 1 + 4 + 1 + 4 + 4 + 8) 2147483647 4).bad = false := g2
    have pA_g0_g1_g2 : rdPre s (k + 1 + 4 + 1 + 4 + 4 + 8 + 4) := up_pre pA_g0_g1 (by omega) g2
    rw [seq_ok g2]
    exact sel_of (fun h => ⟨⟨pA_g0_g1_g2, trivial⟩, pan ⟨h, rfl⟩⟩) fun h => ⟨⟨pA_g0_g1_g2, trivial⟩, ⟨h, ⟨0, 0⟩, by repeat (first | exact rfl | refine ⟨rfl, ?_⟩ | refine ⟨⟨rfl, rfl, rfl, rfl⟩, ?_⟩), ⟨rfl, Nat.le_refl _, fun _ _ => rfl⟩, ⟨rfl, rfl, trivial⟩, ⟨rfl, rfl, trivial⟩, trivial⟩⟩
  · have hK : rdT s k 1 = 5 := by simpa using e5
    have qrpR : rpR s k = qP5 s k := by unfold rpR; rw [hE, hK]; rfl
    have qrpV : rpV s k = qV5 s k := by unfold rpV; rw [hE, hK]; rfl
    have qrpEnd : rpEnd s k = qE5 s k := by unfold rpEnd; rw [hE, hK]; rfl
    have qN : rpN s k = 0 := by unfold rpN; rw [hE, hK]; rfl
    have qM : rpM s k = 0 := by unfold rpM; rw [hE, hK]; rfl
    rw [qrpR, qrpV, qrpEnd, qN, qM]
    unfold qP5
    refine sel_of (fun h => ⟨⟨pA, trivial⟩, pan (seq_no h)⟩) fun g0 => ⟨⟨pA, trivial⟩, ?_⟩
    have g0 : (upP s (k + 1 + 4 + 1) 2147483647 4).bad = false := g0
    have pA_g0 : rdPre s (k + 1 + 4 + 1 + 4) := up_pre pA (by omega) g0
    rw [seq_ok g0]
    exact sel_of (fun h => ⟨⟨pA_g0, trivial⟩, pan ⟨h, rfl⟩⟩) fun h => ⟨⟨pA_g0, trivial⟩, ⟨h, ⟨0, 0⟩, by repeat (first | exact rfl | refine ⟨rfl, ?_⟩ | refine ⟨⟨rfl, rfl, rfl, rfl⟩, ?_⟩), ⟨rfl, Nat.le_refl _, fun _ _ => rfl⟩, ⟨rfl, rfl, trivial⟩, ⟨rfl, rfl, trivial⟩, trivial⟩⟩
  · have hK : rdT s k 1 = 6 := by simpa using e6
    have qrpR : rpR s k = qP6 s k := by unfold rpR; rw [hE, hK]; rfl
    have qrpV : rpV s k = qV6 s k := by unfold rpV; rw [hE, hK]; rfl
    have qrpEnd : rpEnd s k = qE6 s k := by unfold rpEnd; rw [hE, hK]; rfl
    have qN : rpN s k = 0 := by unfold rpN; rw [hE, hK]; rfl
    have qM : rpM s k = 0 := by unfold rpM; rw [hE, hK]; rfl
    rw [qrpR, qrpV, qrpEnd, qN, qM]
    unfold qP6
    refine sel_of (fun h => ⟨⟨pA, trivial⟩, pan (seq_no h)⟩) fun g0 => ⟨⟨pA, trivial⟩, ?_⟩
    have g0 : (upP s (k + 1 + 4 + 1) 2147483647 4).bad = false := g0
    have pA_g0 : rdPre s (k + 1 + 4 + 1 + 4) := up_pre pA (by omega) g0
    rw [seq_ok g0]
    exact sel_of (fun h => ⟨⟨pA_g0, trivial⟩, pan ⟨h, rfl⟩⟩) fun h => ⟨⟨pA_g0, trivial⟩, ⟨h, ⟨0, 0⟩, by repeat (first | exact rfl | refine ⟨rfl, ?_⟩ | refine ⟨⟨rfl, rfl, rfl, rfl⟩, ?_⟩), ⟨rfl, Nat.le_refl _, fun _ _ => rfl⟩, ⟨rfl, rfl, trivial⟩, ⟨rfl, rfl, trivial⟩, trivial⟩⟩
  · have hK : rdT s k 1 = 7 := by simpa using e7
    have qrpR : rpR s k = qP7 s k := by unfold rpR; rw [hE, hK]; rfl
    have qrpV : rpV s k = qV7 s k := by unfold rpV; rw [hE, hK]; rfl
    have qrpEnd : rpEnd s k = qE7 s k := by unfold rpEnd; rw [hE, hK]; rfl
    have qN : rpN s k = shC s (k + 1 + 4 + 1 + 4 + 4) := by unfold rpN; rw [hE, hK]; rfl
    have qM : rpM s k = 0 := by unfold rpM; rw [hE, hK]; rfl
    rw [qrpR, qrpV, qrpEnd, qN, qM]
    unfold qP7
    refine sel_of (fun h => ⟨⟨pA, trivial⟩, pan (seq_no h)⟩) fun g0 => ⟨⟨pA, trivial⟩, ?_⟩
    have g0 : (haP s (k + 1 + 4 + 1)).bad = false := g0
    have pA_g0 : rdPre s (k + 1 + 4 + 1 + 4 + 4) := ha_pre pA g0
    rw [seq_ok g0]
    refine sel_of (fun h => ⟨pA_g0, pan (seq_no h)⟩) fun g1 => ⟨pA_g0, fun c => ?_⟩
    have g1 : (bdP s (k + 1 + 4 + 1 + 4 + 4)).bad = false := g1
    have pA_g0_g1 : rdPre s (bdEnd s (k + 1 + 4 + 1 + 4 + 4)) := bd_pre pA_g0 g1
    rw [seq_ok g1]
    exact sel_of (fun h => ⟨⟨pA_g0_g1, trivial⟩, pan ⟨h, rfl⟩⟩) fun h => ⟨⟨pA_g0_g1, trivial⟩, h, ⟨c, 0⟩, by repeat (first | exact rfl | refine ⟨rfl, ?_⟩ | refine ⟨⟨rfl, rfl, rfl, rfl⟩, ?_⟩), ⟨rfl, Nat.le_refl _, fun _ _ => rfl⟩, ⟨rfl, Nat.le_refl _, fun _ _ => rfl⟩, ⟨rfl, rfl, trivial⟩, trivial⟩
  · have hK : rdT s k 1 = 8 := by simpa using e8
    have qrpR : rpR s k = qP8 s k := by unfold rpR; rw [hE, hK]; rfl
    have qrpV : rpV s k = qV8 s k := by unfold rpV; rw [hE, hK]; rfl
    have qrpEnd : rpEnd s k = qE8 s k := by unfold rpEnd; rw [hE, hK]; rfl
    have qN : rpN s k = 0 := by unfold rpN; rw [hE, hK]; rfl
    have qM : rpM s k = hdC s k := by unfold rpM; rw [hE, hK]; rfl
    rw [qrpR, qrpV, qrpEnd, qN, qM]
    unfold qP8
    refine sel_of (fun h => ⟨⟨pA, ⟨by omega, by omega⟩, by omega⟩, pan (seq_no h)⟩) fun h8 => ⟨⟨pA, ⟨by omega, by omega⟩, by omega⟩, ?_⟩
    have h8 : (upP s (k + 1 + 4 + 1) 64 1).bad = false := h8
    have p8 : rdPre s (k + 1 + 4 + 1 + 1) := up_pre pA (by omega) h8
    rw [seq_ok h8]
    have hC := hdC_int s k
    have hC64 : hdC s k ≤ 64 := by
      have := of_decide_eq_false (seq_f h8).2
      have : ¬ (64 : Int) < rdT s (k + 1 + 4 + 1) 1 := this
      omega
    refine ⟨⟨⟨0, 0⟩, ⟨Nat.zero_le _, rfl, Nat.le_refl _⟩, rfl, ⟨rfl, Nat.le_refl _, fun i _ => ?_⟩, ⟨rfl, Nat.le_refl _, by repeat (first | exact rfl | refine ⟨rfl, ?_⟩ | refine ⟨⟨rfl, rfl, rfl, rfl⟩, ?_⟩)⟩, ⟨rfl, rfl, trivial⟩, trivial⟩, fun x hx => sel_of (fun hlt => ?_) fun hge => ?_⟩
    · show [SV.v (.string s), SV.v (.int .i64 (k + 1 + 4 + 1 + 1))] = [SV.v (.string s), SV.v (.int .i64 (k + 1 + 4 + 1 + 1 + 8 * ((0 : Nat) : Int)))]
      rw [show k + 1 + 4 + 1 + 1 + 8 * ((0 : Nat) : Int) = k + 1 + 4 + 1 + 1 by omega]
    · obtain ⟨hx1, hx2, hx3⟩ := hx
      have hlt := of_decide_eq_true hlt
      have hlt : x.i < hdC s k := by omega
      have p9 := hds_pre p8 hx2
      refine sel_of (fun h => ⟨⟨p9, trivial⟩, pan (seq_bad (hds_bad hx2 h hlt))⟩) fun h6 => ⟨⟨p9, trivial⟩, ⟨by omega, by omega, fun _ _ => trivial⟩, fun c => ⟨⟨x.i + 1, x.i + 1 + c⟩, ⟨⟨hlt, hds_ok hx2 h6, by show x.i + 1 ≤ x.i + 1 + c; omega⟩, int_mk (wrap_i64 ⟨by omega, by omega⟩), ⟨rfl, Nat.le_refl _, fun i _ => ?_⟩, ⟨rfl, Nat.le_refl _, by repeat (first | exact rfl | refine ⟨rfl, ?_⟩ | refine ⟨⟨rfl, rfl, rfl, rfl⟩, ?_⟩)⟩, rfl, Nat.le_refl _, fun i hi => ?_⟩, by show hdC s k - (x.i + 1) < hdC s k - x.i; omega⟩⟩
      · show [SV.v (.string s), SV.v (.int .i64 (k + 1 + 4 + 1 + 1 + 8 * (x.i : Int) + 4 + 4))] = [SV.v (.string s), SV.v (.int .i64 (k + 1 + 4 + 1 + 1 + 8 * ((x.i + 1 : Nat) : Int)))]
        rw [show k + 1 + 4 + 1 + 1 + 8 * ((x.i + 1 : Nat) : Int) = k + 1 + 4 + 1 + 1 + 8 * (x.i : Int) + 4 + 4 by omega]
      · have hi : i < x.i + 1 := hi
        by_cases hik : i < x.i
        · rw [blt_true hik, Nat.zero_add]
          rfl
        · have hik : i = x.i := by omega
          subst hik
          rw [blt_false (Nat.lt_irrefl _)]
          rfl
    · obtain ⟨hx1, hx2, hx3⟩ := hx
      have hge := of_decide_eq_false hge
      have hn : x.i = hdC s k := by omega
      rw [hn] at hx2 hx3 ⊢
      have p9 := hds_pre p8 hx2
      rw [seq_ok hx2]
      refine sel_of (fun h => ⟨⟨p9, trivial⟩, pan ⟨h, rfl⟩⟩) fun h => ⟨⟨p9, trivial⟩, h, ⟨0, x.c - hdC s k⟩, ?_, ⟨rfl, Nat.le_refl _, fun _ _ => rfl⟩, ⟨rfl, rfl, trivial⟩, rfl, by show hdC s k + (x.c - hdC s k) ≤ x.c; omega, fun _ _ => rfl⟩
      have hc : hdC s k + (x.c - hdC s k) = x.c := by omega
      have hsl : SV.sl 40 2 0 (hdC s k) x.c = SV.sl 40 2 0 (hdC s k) (hdC s k + (x.c - hdC s k)) := by rw [hc]
      repeat (first | exact rfl | refine ⟨rfl, ?_⟩ | refine ⟨⟨rfl, rfl, rfl, rfl⟩, ?_⟩ | refine ⟨hsl, ?_⟩)
  · have hK : rdT s k 1 = 9 := by simpa using e9
    have qrpR : rpR s k = qP9 s k := by unfold rpR; rw [hE, hK]; rfl
    have qrpV : rpV s k = qV9 s k := by unfold rpV; rw [hE, hK]; rfl
    have qrpEnd : rpEnd s k = qE9 s k := by unfold rpEnd; rw [hE, hK]; rfl
    have qN : rpN s k = 0 := by unfold rpN; rw [hE, hK]; rfl
    have qM : rpM s k = 0 := by unfold rpM; rw [hE, hK]; rfl
    rw [qrpR, qrpV, qrpEnd, qN, qM]
    unfold qP9
    refine sel_of (fun h => ⟨⟨pA, trivial⟩, pan (seq_no h)⟩) fun g0 => ⟨⟨pA, trivial⟩, ?_⟩
    have g0 : (haP s (k + 1 + 4 + 1)).bad = false := g0
    have pA_g0 : rdPre s (k + 1 + 4 + 1 + 4 + 4) := ha_pre pA g0
    rw [seq_ok g0]
    refine sel_of (fun h => ⟨⟨pA_g0, trivial⟩, pan (seq_no h)⟩) fun g1 => ⟨⟨pA_g0, trivial⟩, ?_⟩
    have g1 : (upP s (k + 1 + 4 + 1 + 4 + 4) 1 1).bad = false := g1
    have pA_g0_g1 : rdPre s (k + 1 + 4 + 1 + 4 + 4 + 1) := up_pre pA_g0 (by omega) g1
    rw [seq_ok g1]
    refine sel_of (fun h => ⟨⟨pA_g0_g1, trivial⟩, pan (seq_no h)⟩) fun g2 => ⟨⟨pA_g0_g1, trivial⟩, ?_⟩
    have g2 : (nuP s (k + 1 + 4 + 1 + 4 + 4 + 1)).bad = false := g2
    have pA_g0_g1_g2 : rdPre s (k + 1 + 4 + 1 + 4 + 4 + 1 + 8 + 1) := nu_pre pA_g0_g1 g2
    rw [seq_ok g2]
    refine sel_of (fun h => ⟨⟨pA_g0_g1_g2, trivial⟩, pan (seq_no h)⟩) fun g3 => ⟨⟨pA_g0_g1_g2, trivial⟩, ?_⟩
    have g3 : (vcP s (k + 1 + 4 + 1 + 4 + 4 + 1 + 8 + 1)).bad = false := g3
    have pA_g0_g1_g2_g3 : rdPre s (k + 1 + 4 + 1 + 4 + 4 + 1 + 8 + 1 + 8 + 1 + 8 + 1) := vc_pre pA_g0_g1_g2 g3
    rw [seq_ok g3]
    refine sel_of (fun eh => ?_) fun eh => sel_of (fun ez => sel_of (fun eb => ?_) fun eb => ?_) fun ez => ?_
    · have hr : (rayP s k).bad = false := by
        show (!(rdF s (k + 1 + 4 + 1 + 4 + 4) || ((rdI s (k + 1 + 4 + 1 + 4 + 4 + 1) == 0 && rdF s (k + 1 + 4 + 1 + 4 + 4 + 1 + 8) == false && (rdI s (k + 1 + 4 + 1 + 4 + 4 + 1 + 8 + 1) == 0 && rdF s (k + 1 + 4 + 1 + 4 + 4 + 1 + 8 + 1 + 8) == false && (rdI s (k + 1 + 4 + 1 + 4 + 4 + 1 + 8 + 1 + 8 + 1) == 0 && rdF s (k + 1 + 4 + 1 + 4 + 4 + 1 + 8 + 1 + 8 + 1 + 8) == false))) && (rdT s (k + 1 + 4 + 1) 4 == 0 && rdT s (k + 1 + 4 + 1 + 4) 4 == 0)))) = false
        rw [show rdF s (k + 1 + 4 + 1 + 4 + 4) = true from eh, Bool.true_or]
        rfl
      rw [seq_ok hr]
      exact sel_of (fun h => ⟨⟨pA_g0_g1_g2_g3, trivial⟩, pan ⟨h, rfl⟩⟩) fun h => ⟨⟨pA_g0_g1_g2_g3, trivial⟩, ⟨h, ⟨0, 0⟩, by repeat (first | exact rfl | refine ⟨rfl, ?_⟩ | refine ⟨⟨rfl, rfl, rfl, rfl⟩, ?_⟩), ⟨rfl, Nat.le_refl _, fun _ _ => rfl⟩, ⟨rfl, rfl, trivial⟩, ⟨rfl, rfl, trivial⟩, trivial⟩⟩
    · have hr : (rayP s k).bad = true := by
        show (!(rdF s (k + 1 + 4 + 1 + 4 + 4) || ((rdI s (k + 1 + 4 + 1 + 4 + 4 + 1) == 0 && rdF s (k + 1 + 4 + 1 + 4 + 4 + 1 + 8) == false && (rdI s (k + 1 + 4 + 1 + 4 + 4 + 1 + 8 + 1) == 0 && rdF s (k + 1 + 4 + 1 + 4 + 4 + 1 + 8 + 1 + 8) == false && (rdI s (k + 1 + 4 + 1 + 4 + 4 + 1 + 8 + 1 + 8 + 1) == 0 && rdF s (k + 1 + 4 + 1 + 4 + 4 + 1 + 8 + 1 + 8 + 1 + 8) == false))) && (rdT s (k + 1 + 4 + 1) 4 == 0 && rdT s (k + 1 + 4 + 1 + 4) 4 == 0)))) = true
        have eb : (!(rdT s (k + 1 + 4 + 1) 4 == 0 && rdT s (k + 1 + 4 + 1 + 4) 4 == 0)) = true := eb
        have eb : (rdT s (k + 1 + 4 + 1) 4 == 0 && rdT s (k + 1 + 4 + 1 + 4) 4 == 0) = false := by
          cases hb : (rdT s (k + 1 + 4 + 1) 4 == 0 && rdT s (k + 1 + 4 + 1 + 4) 4 == 0) with
          | false => rfl
          | true => rw [hb] at eb; cases eb
        rw [show rdF s (k + 1 + 4 + 1 + 4 + 4) = false from eh, eb, Bool.and_false]
        rfl
      exact pan (e := 4) (seq_no hr)
    · have hr : (rayP s k).bad = false := by
        show (!(rdF s (k + 1 + 4 + 1 + 4 + 4) || ((rdI s (k + 1 + 4 + 1 + 4 + 4 + 1) == 0 && rdF s (k + 1 + 4 + 1 + 4 + 4 + 1 + 8) == false && (rdI s (k + 1 + 4 + 1 + 4 + 4 + 1 + 8 + 1) == 0 && rdF s (k + 1 + 4 + 1 + 4 + 4 + 1 + 8 + 1 + 8) == false && (rdI s (k + 1 + 4 + 1 + 4 + 4 + 1 + 8 + 1 + 8 + 1) == 0 && rdF s (k + 1 + 4 + 1 + 4 + 4 + 1 + 8 + 1 + 8 + 1 + 8) == false))) && (rdT s (k + 1 + 4 + 1) 4 == 0 && rdT s (k + 1 + 4 + 1 + 4) 4 == 0)))) = false
        have eb : (!(rdT s (k + 1 + 4 + 1) 4 == 0 && rdT s (k + 1 + 4 + 1 + 4) 4 == 0)) = false := eb
        have eb : (rdT s (k + 1 + 4 + 1) 4 == 0 && rdT s (k + 1 + 4 + 1 + 4) 4 == 0) = true := by
          cases hb : (rdT s (k + 1 + 4 + 1) 4 == 0 && rdT s (k + 1 + 4 + 1 + 4) 4 == 0) with
          | true => rfl
          | false => rw [hb] at eb; cases eb
        have ez : (rdF s (k + 1 + 4 + 1 + 4 + 4) == false && (rdI s (k + 1 + 4 + 1 + 4 + 4 + 1) == 0 && rdF s (k + 1 + 4 + 1 + 4 + 4 + 1 + 8) == false && (rdI s (k + 1 + 4 + 1 + 4 + 4 + 1 + 8 + 1) == 0 && rdF s (k + 1 + 4 + 1 + 4 + 4 + 1 + 8 + 1 + 8) == false && (rdI s (k + 1 + 4 + 1 + 4 + 4 + 1 + 8 + 1 + 8 + 1) == 0 && rdF s (k + 1 + 4 + 1 + 4 + 4 + 1 + 8 + 1 + 8 + 1 + 8) == false)))) = true := ez
        rw [Bool.and_eq_true] at ez
        rw [eb, ez.2, Bool.and_true, Bool.or_true]
        rfl
      rw [seq_ok hr]
      exact sel_of (fun h => ⟨⟨pA_g0_g1_g2_g3, trivial⟩, pan ⟨h, rfl⟩⟩) fun h => ⟨⟨pA_g0_g1_g2_g3, trivial⟩, ⟨h, ⟨0, 0⟩, by repeat (first | exact rfl | refine ⟨rfl, ?_⟩ | refine ⟨⟨rfl, rfl, rfl, rfl⟩, ?_⟩), ⟨rfl, Nat.le_refl _, fun _ _ => rfl⟩, ⟨rfl, rfl, trivial⟩, ⟨rfl, rfl, trivial⟩, trivial⟩⟩
    · have hr : (rayP s k).bad = true := by
        show (!(rdF s (k + 1 + 4 + 1 + 4 + 4) || ((rdI s (k + 1 + 4 + 1 + 4 + 4 + 1) == 0 && rdF s (k + 1 + 4 + 1 + 4 + 4 + 1 + 8) == false && (rdI s (k + 1 + 4 + 1 + 4 + 4 + 1 + 8 + 1) == 0 && rdF s (k + 1 + 4 + 1 + 4 + 4 + 1 + 8 + 1 + 8) == false && (rdI s (k + 1 + 4 + 1 + 4 + 4 + 1 + 8 + 1 + 8 + 1) == 0 && rdF s (k + 1 + 4 + 1 + 4 + 4 + 1 + 8 + 1 + 8 + 1 + 8) == false))) && (rdT s (k + 1 + 4 + 1) 4 == 0 && rdT s (k + 1 + 4 + 1 + 4) 4 == 0)))) = true
        have ez : (rdF s (k + 1 + 4 + 1 + 4 + 4) == false && (rdI s (k + 1 + 4 + 1 + 4 + 4 + 1) == 0 && rdF s (k + 1 + 4 + 1 + 4 + 4 + 1 + 8) == false && (rdI s (k + 1 + 4 + 1 + 4 + 4 + 1 + 8 + 1) == 0 && rdF s (k + 1 + 4 + 1 + 4 + 4 + 1 + 8 + 1 + 8) == false && (rdI s (k + 1 + 4 + 1 + 4 + 4 + 1 + 8 + 1 + 8 + 1) == 0 && rdF s (k + 1 + 4 + 1 + 4 + 4 + 1 + 8 + 1 + 8 + 1 + 8) == false)))) = false := ez
        rw [show rdF s (k + 1 + 4 + 1 + 4 + 4) = false from eh] at ez ⊢
        have ez : (rdI s (k + 1 + 4 + 1 + 4 + 4 + 1) == 0 && rdF s (k + 1 + 4 + 1 + 4 + 4 + 1 + 8) == false && (rdI s (k + 1 + 4 + 1 + 4 + 4 + 1 + 8 + 1) == 0 && rdF s (k + 1 + 4 + 1 + 4 + 4 + 1 + 8 + 1 + 8) == false && (rdI s (k + 1 + 4 + 1 + 4 + 4 + 1 + 8 + 1 + 8 + 1) == 0 && rdF s (k + 1 + 4 + 1 + 4 + 4 + 1 + 8 + 1 + 8 + 1 + 8) == false))) = false := ez
        rw [ez]
        rfl
      exact pan (e := 4) (seq_no hr)
  · have hK : rdT s k 1 = 10 := by simpa using e10
    have qrpR : rpR s k = qP10 s k := by unfold rpR; rw [hE, hK]; rfl
    have qrpV : rpV s k = qV10 s k := by unfold rpV; rw [hE, hK]; rfl
    have qrpEnd : rpEnd s k = qE10 s k := by unfold rpEnd; rw [hE, hK]; rfl
    have qN : rpN s k = 0 := by unfold rpN; rw [hE, hK]; rfl
    have qM : rpM s k = 0 := by unfold rpM; rw [hE, hK]; rfl
    rw [qrpR, qrpV, qrpEnd, qN, qM]
    unfold qP10
    refine sel_of (fun h => ⟨⟨pA, trivial⟩, pan (seq_no h)⟩) fun g0 => ⟨⟨pA, trivial⟩, ?_⟩
    have g0 : (upP s (k + 1 + 4 + 1) 2147483647 4).bad = false := g0
    have pA_g0 : rdPre s (k + 1 + 4 + 1 + 4) := up_pre pA (by omega) g0
    rw [seq_ok g0]
    exact sel_of (fun h => ⟨⟨pA_g0, trivial⟩, pan ⟨h, rfl⟩⟩) fun h => ⟨⟨pA_g0, trivial⟩, ⟨h, ⟨0, 0⟩, by repeat (first | exact rfl | refine ⟨rfl, ?_⟩ | refine ⟨⟨rfl, rfl, rfl, rfl⟩, ?_⟩), ⟨rfl, Nat.le_refl _, fun _ _ => rfl⟩, ⟨rfl, rfl, trivial⟩, ⟨rfl, rfl, trivial⟩, trivial⟩⟩
  · exfalso
    have f1 : rdT s k 1 ≠ 1 := by simpa using e1
    have f3 : rdT s k 1 ≠ 3 := by simpa using e3
    have f2 : rdT s k 1 ≠ 2 := by simpa using e2
    have f4 : rdT s k 1 ≠ 4 := by simpa using e4
    have f5 : rdT s k 1 ≠ 5 := by simpa using e5
    have f6 : rdT s k 1 ≠ 6 := by simpa using e6
    have f7 : rdT s k 1 ≠ 7 := by simpa using e7
    have f8 : rdT s k 1 ≠ 8 := by simpa using e8
    have f9 : rdT s k 1 ≠ 9 := by simpa using e9
    have f10 : rdT s k 1 ≠ 10 := by simpa using e10
    omega
end Go.Proofs.Ytjdldadmaaeimaa
end
section
namespace Go.Proofs.Ytjdldadmaaeimaa
open Go.SE Go.RowKit
noncomputable def rqK (s : ByteArray) : Int := bif (rpP s 0).bad then 0 else rdT s 0 1
noncomputable def rqE (s : ByteArray) : Int := bif (rpP s 0).bad then 0 else rdT s (0 + 1 + 4) 1
noncomputable def rqV (s : ByteArray) : RV := bif (rpP s 0).bad then zRV else rpV s 0
noncomputable def rqN (s : ByteArray) : Nat := bif (rpP s 0).bad then 0 else rpN s 0
noncomputable def rqM (s : ByteArray) : Nat := bif (rpP s 0).bad then 0 else rpM s 0
noncomputable def rqEr (s : ByteArray) : Int := bif (rpP s 0).bad then (rpP s 0).er else 0
noncomputable def rrE (s : ByteArray) : Eff := .nd (s.size ≤ 1099511627776) RC ⟨0, 0⟩ (fun c => .tup [reS (rqK s) (rqE s) (rqV s) (.sl 1000 2 0 (rqN s) (rqN s + c.a)) (.sl 1001 2 0 (rqM s) (rqM s + c.b)), iV (rqEr s)]) fun c => [(1000, spW (rqN s) (rqN s + c.a) (rpSp s 0)), (1001, hdW (rqM s) (rqM s + c.b) (rpHd s 0))]
noncomputable def ΓTr : Ctrs := addCtr (addCtr noCtrs 91 (ctrTe rpE rpP)) 92 (ctrTe bdE bdP)
noncomputable def sReadRG (args : List SV) (bs : List Blk) : Option Eff := match args, bs with
  | [.v (.string s)], [] => some (rrE s)
  | _, _ => none
theorem vcReadRG (s : ByteArray) : (vcFnD Try.prog ΓTr noΛ Try.f54 Try.f84 (dA Try.f54) (dB Try.f54) (dC Try.f84) 3 5 [.v (.string s)] (heapOf []) 64 (fun y h' => FinE [] (rrE s) y h')) =
(sel (Pz.bad (rpP s 0)) ((rdPre s 0)∧(∃ c : RC,((((zI = (SV.v (.int .i64 (rqK s))))∧((zI = (SV.v (.int .i64 (RV.id (rqV s)))))∧((zI = (SV.v (.int .i64 (rqE s))))∧((zI = (SV.v (.int .i64 (RV.bs (rqV s)))))∧((zI = (SV.v (.int .i64 (RV.bg (rqV s)))))∧((zI = (SV.v (.int .i64 (RV.ver (rqV s)))))∧((zI = (SV.v (.int .i64 (RV.gr (rqV s)))))∧((zI = (SV.v (.int .i64 (BV.sk (RV.o (rqV s))))))∧((zI = (SV.v (.int .i64 (BV.sr (RV.o (rqV s))))))∧((zI = (SV.v (.int .i64 (BV.sw (RV.o (rqV s))))))∧((zI = (SV.v (.int .i64 (BV.sh (RV.o (rqV s))))))∧(((zS = zS)∧(((0 : Nat) = 0)∧((((rqN s) : Nat) = 0)∧(((rqN s + RC.a c) : Nat) = 0))))∧((zI = (SV.v (.int .i64 (BV.p0v (RV.o (rqV s))))))∧((zF = (SV.v (.bool (BV.p0f (RV.o (rqV s))))))∧((zI = (SV.v (.int .i64 (BV.p1v (RV.o (rqV s))))))∧((zF = (SV.v (.bool (BV.p1f (RV.o (rqV s))))))∧((zI = (SV.v (.int .i64 (BV.p2v (RV.o (rqV s))))))∧((zF = (SV.v (.bool (BV.p2f (RV.o (rqV s))))))∧((zI = (SV.v (.int .i64 (BV.p3v (RV.o (rqV s))))))∧((zF = (SV.v (.bool (BV.p3f (RV.o (rqV s))))))∧((zI = (SV.v (.int .i64 (BV.v0v (RV.o (rqV s))))))∧((zF = (SV.v (.bool (BV.v0f (RV.o (rqV s))))))∧((zI = (SV.v (.int .i64 (BV.v1v (RV.o (rqV s))))))∧((zF = (SV.v (.bool (BV.v1f (RV.o (rqV s))))))∧((zI = (SV.v (.int .i64 (BV.w0v (RV.o (rqV s))))))∧((zF = (SV.v (.bool (BV.w0f (RV.o (rqV s))))))∧((zI = (SV.v (.int .i64 (BV.m0v (RV.o (rqV s))))))∧((zF = (SV.v (.bool (BV.m0f (RV.o (rqV s))))))∧((zI = (SV.v (.int .i64 (BV.m1v (RV.o (rqV s))))))∧((zF = (SV.v (.bool (BV.m1f (RV.o (rqV s))))))∧((zI = (SV.v (.int .i64 (BV.st (RV.o (rqV s))))))∧((zF = (SV.v (.bool (BV.asl (RV.o (rqV s))))))∧((zF = (SV.v (.bool (BV.flt (RV.o (rqV s))))))∧((zI = (SV.v (.int .i64 (BV.bv (RV.o (rqV s))))))∧(((zS = zS)∧(((0 : Nat) = 0)∧((((rqM s) : Nat) = 0)∧(((rqM s + RC.b c) : Nat) = 0))))∧((zF = (SV.v (.bool (RV.hit (rqV s)))))∧((zI = (SV.v (.int .i64 (RV.htv (rqV s)))))∧((zF = (SV.v (.bool (RV.htf (rqV s)))))∧((zI = (SV.v (.int .i64 (RV.x0v (rqV s)))))∧((zF = (SV.v (.bool (RV.x0f (rqV s)))))∧((zI = (SV.v (.int .i64 (RV.x1v (rqV s)))))∧((zF = (SV.v (.bool (RV.x1f (rqV s)))))∧(zI = (SV.v (.int .i64 (RV.cnt (rqV s)))))))))))))))))))))))))))))))))))))))))))))))∧((SV.v (.int .i64 (Pz.er (rpP s 0)))) = (SV.v (.int .i64 (rqEr s)))))∧(((((rqN s) : Nat) = 0)∧((((rqN s + RC.a c) : Nat) = 0)∧True))∧(((((rqM s) : Nat) = 0)∧((((rqM s + RC.b c) : Nat) = 0)∧True))∧True))))) ((rdPre s 0)∧(∀ c : RC,(∃ c_1 : RC,(((((SV.v (.int .i64 (rdT s 0 1))) = (SV.v (.int .i64 (rqK s))))∧(((SV.v (.int .i64 (RV.id (rpV s 0)))) = (SV.v (.int .i64 (RV.id (rqV s)))))∧(((SV.v (.int .i64 (rdT s 5 1))) = (SV.v (.int .i64 (rqE s))))∧(((SV.v (.int .i64 (RV.bs (rpV s 0)))) = (SV.v (.int .i64 (RV.bs (rqV s)))))∧(((SV.v (.int .i64 (RV.bg (rpV s 0)))) = (SV.v (.int .i64 (RV.bg (rqV s)))))∧(((SV.v (.int .i64 (RV.ver (rpV s 0)))) = (SV.v (.int .i64 (RV.ver (rqV s)))))∧(((SV.v (.int .i64 (RV.gr (rpV s 0)))) = (SV.v (.int .i64 (RV.gr (rqV s)))))∧(((SV.v (.int .i64 (BV.sk (RV.o (rpV s 0))))) = (SV.v (.int .i64 (BV.sk (RV.o (rqV s))))))∧(((SV.v (.int .i64 (BV.sr (RV.o (rpV s 0))))) = (SV.v (.int .i64 (BV.sr (RV.o (rqV s))))))∧(((SV.v (.int .i64 (BV.sw (RV.o (rpV s 0))))) = (SV.v (.int .i64 (BV.sw (RV.o (rqV s))))))∧(((SV.v (.int .i64 (BV.sh (RV.o (rpV s 0))))) = (SV.v (.int .i64 (BV.sh (RV.o (rqV s))))))∧(((SV.sl 104 2 0 (rpN s 0) (rpN s 0 + RC.a c)) = (SV.sl 104 2 0 (rqN s) (rqN s + RC.a c_1)))∧(((SV.v (.int .i64 (BV.p0v (RV.o (rpV s 0))))) = (SV.v (.int .i64 (BV.p0v (RV.o (rqV s))))))∧(((SV.v (.bool (BV.p0f (RV.o (rpV s 0))))) = (SV.v (.bool (BV.p0f (RV.o (rqV s))))))∧(((SV.v (.int .i64 (BV.p1v (RV.o (rpV s 0))))) = (SV.v (.int .i64 (BV.p1v (RV.o (rqV s))))))∧(((SV.v (.bool (BV.p1f (RV.o (rpV s 0))))) = (SV.v (.bool (BV.p1f (RV.o (rqV s))))))∧(((SV.v (.int .i64 (BV.p2v (RV.o (rpV s 0))))) = (SV.v (.int .i64 (BV.p2v (RV.o (rqV s))))))∧(((SV.v (.bool (BV.p2f (RV.o (rpV s 0))))) = (SV.v (.bool (BV.p2f (RV.o (rqV s))))))∧(((SV.v (.int .i64 (BV.p3v (RV.o (rpV s 0))))) = (SV.v (.int .i64 (BV.p3v (RV.o (rqV s))))))∧(((SV.v (.bool (BV.p3f (RV.o (rpV s 0))))) = (SV.v (.bool (BV.p3f (RV.o (rqV s))))))∧(((SV.v (.int .i64 (BV.v0v (RV.o (rpV s 0))))) = (SV.v (.int .i64 (BV.v0v (RV.o (rqV s))))))∧(((SV.v (.bool (BV.v0f (RV.o (rpV s 0))))) = (SV.v (.bool (BV.v0f (RV.o (rqV s))))))∧(((SV.v (.int .i64 (BV.v1v (RV.o (rpV s 0))))) = (SV.v (.int .i64 (BV.v1v (RV.o (rqV s))))))∧(((SV.v (.bool (BV.v1f (RV.o (rpV s 0))))) = (SV.v (.bool (BV.v1f (RV.o (rqV s))))))∧(((SV.v (.int .i64 (BV.w0v (RV.o (rpV s 0))))) = (SV.v (.int .i64 (BV.w0v (RV.o (rqV s))))))∧(((SV.v (.bool (BV.w0f (RV.o (rpV s 0))))) = (SV.v (.bool (BV.w0f (RV.o (rqV s))))))∧(((SV.v (.int .i64 (BV.m0v (RV.o (rpV s 0))))) = (SV.v (.int .i64 (BV.m0v (RV.o (rqV s))))))∧(((SV.v (.bool (BV.m0f (RV.o (rpV s 0))))) = (SV.v (.bool (BV.m0f (RV.o (rqV s))))))∧(((SV.v (.int .i64 (BV.m1v (RV.o (rpV s 0))))) = (SV.v (.int .i64 (BV.m1v (RV.o (rqV s))))))∧(((SV.v (.bool (BV.m1f (RV.o (rpV s 0))))) = (SV.v (.bool (BV.m1f (RV.o (rqV s))))))∧(((SV.v (.int .i64 (BV.st (RV.o (rpV s 0))))) = (SV.v (.int .i64 (BV.st (RV.o (rqV s))))))∧(((SV.v (.bool (BV.asl (RV.o (rpV s 0))))) = (SV.v (.bool (BV.asl (RV.o (rqV s))))))∧(((SV.v (.bool (BV.flt (RV.o (rpV s 0))))) = (SV.v (.bool (BV.flt (RV.o (rqV s))))))∧(((SV.v (.int .i64 (BV.bv (RV.o (rpV s 0))))) = (SV.v (.int .i64 (BV.bv (RV.o (rqV s))))))∧(((SV.sl 105 2 0 (rpM s 0) (rpM s 0 + RC.b c)) = (SV.sl 105 2 0 (rqM s) (rqM s + RC.b c_1)))∧(((SV.v (.bool (RV.hit (rpV s 0)))) = (SV.v (.bool (RV.hit (rqV s)))))∧(((SV.v (.int .i64 (RV.htv (rpV s 0)))) = (SV.v (.int .i64 (RV.htv (rqV s)))))∧(((SV.v (.bool (RV.htf (rpV s 0)))) = (SV.v (.bool (RV.htf (rqV s)))))∧(((SV.v (.int .i64 (RV.x0v (rpV s 0)))) = (SV.v (.int .i64 (RV.x0v (rqV s)))))∧(((SV.v (.bool (RV.x0f (rpV s 0)))) = (SV.v (.bool (RV.x0f (rqV s)))))∧(((SV.v (.int .i64 (RV.x1v (rpV s 0)))) = (SV.v (.int .i64 (RV.x1v (rqV s)))))∧(((SV.v (.bool (RV.x1f (rpV s 0)))) = (SV.v (.bool (RV.x1f (rqV s)))))∧((SV.v (.int .i64 (RV.cnt (rpV s 0)))) = (SV.v (.int .i64 (RV.cnt (rqV s)))))))))))))))))))))))))))))))))))))))))))))))∧(zI = (SV.v (.int .i64 (rqEr s)))))∧(((((rpN s 0) : Nat) = (rqN s))∧((((rqN s + RC.a c_1) : Nat) ≤ (rpN s 0 + RC.a c))∧(∀ i : Nat,(((i : Nat) < (rqN s))→([(SV.v (.int .i64 (Prod.fst (rpSp s 0 i)))),(SV.v (.int .i64 (Prod.snd (rpSp s 0 i))))] = [(SV.v (.int .i64 (Prod.fst (rpSp s 0 i)))),(SV.v (.int .i64 (Prod.snd (rpSp s 0 i))))])))))∧((((rpM s 0) : Nat) = (rqM s))∧((((rqM s + RC.b c_1) : Nat) ≤ (rpM s 0 + RC.b c))∧(∀ i : Nat,(((i : Nat) < (rqM s))→([(SV.v (.int .i64 (Prod.fst (rpHd s 0 i)))),(SV.v (.int .i64 (Prod.snd (rpHd s 0 i))))] = [(SV.v (.int .i64 (Prod.fst (rpHd s 0 i)))),(SV.v (.int .i64 (Prod.snd (rpHd s 0 i))))]))))))))))) := by kernel_rfl
theorem ΓTr_ok : ∀ f g, ΓTr f = some g → g.ok Try.prog f := addCtr_ok (addCtr_ok noCtrs_ok (te_ok Try.func91 (by kernel_rfl) (by kernel_rfl) ReplyT_spec)) (te_ok Try.func92 (by kernel_rfl) (by kernel_rfl) BodyT_spec)
theorem deferRR : ∃ o rid, Try.f54.body = some (.seq (dA Try.f54) (.seq (.region rid #[o] false) (dB Try.f54))) ∧ o.guard = none ∧ o.dst = none ∧ ∀ (a : Act) (w : World), (execOp a.eval o).run Try.prog w = .ok (.defer { target := .fn (.func 84) #[], args := #[a.eval (.tmp 3)] }) w :=
  ⟨_, _, rfl, rfl, rfl, fun a w => by simp [execOp, resolve, Act.eval, Deferred.ofValue]⟩
theorem vcReadRG_holds (s : ByteArray) (hs : s.size ≤ 1099511627776) : vcFnD Try.prog ΓTr noΛ Try.f54 Try.f84 (dA Try.f54) (dB Try.f54) (dC Try.f84) 3 5 [.v (.string s)] (heapOf []) 64 (fun y h' => FinE [] (rrE s) y h') := by
  have p0 : rdPre s 0 := ⟨⟨Int.le_refl _, by omega⟩, hs⟩
  refine Eq.mpr (vcReadRG s) (sel_of (fun h => ⟨p0, ?_⟩) fun h => ⟨p0, fun c => ?_⟩)
  · have e0 : rqK s = 0 := by unfold rqK; rw [h]; rfl
    have e1 : rqE s = 0 := by unfold rqE; rw [h]; rfl
    have e2 : rqV s = zRV := by unfold rqV; rw [h]; rfl
    have e3 : rqN s = 0 := by unfold rqN; rw [h]; rfl
    have e4 : rqM s = 0 := by unfold rqM; rw [h]; rfl
    have e5 : rqEr s = (rpP s 0).er := by unfold rqEr; rw [h]; rfl
    rw [e0, e1, e2, e3, e4, e5]
    exact ⟨⟨0, 0⟩, ⟨by repeat (first | exact rfl | refine ⟨rfl, ?_⟩ | refine ⟨⟨rfl, rfl, rfl, rfl⟩, ?_⟩), rfl⟩, ⟨rfl, rfl, trivial⟩, ⟨rfl, rfl, trivial⟩, trivial⟩
  · have e0 : rqK s = rdT s 0 1 := by unfold rqK; rw [h]; rfl
    have e1 : rqE s = rdT s (0 + 1 + 4) 1 := by unfold rqE; rw [h]; rfl
    have e2 : rqV s = rpV s 0 := by unfold rqV; rw [h]; rfl
    have e3 : rqN s = rpN s 0 := by unfold rqN; rw [h]; rfl
    have e4 : rqM s = rpM s 0 := by unfold rqM; rw [h]; rfl
    have e5 : rqEr s = 0 := by unfold rqEr; rw [h]; rfl
    rw [e0, e1, e2, e3, e4, e5]
    exact ⟨c, ⟨by repeat (first | exact rfl | refine ⟨rfl, ?_⟩ | refine ⟨⟨rfl, rfl, rfl, rfl⟩, ?_⟩), rfl⟩, ⟨rfl, Nat.le_refl _, fun _ _ => rfl⟩, rfl, Nat.le_refl _, fun _ _ => rfl⟩
theorem ReadRG_spec : HpSpec Try.prog 54 sReadRG := hp_spec_of fun args bs e hs hp => by
  unfold sReadRG at hs
  split at hs
  · rename_i s
    have he := Option.some.inj hs
    subst he
    have hx : s.size ≤ 1099511627776 := hp
    obtain ⟨o, rid, b1, b2, b3, b4⟩ := deferRR
    obtain ⟨o2, rid2, d1, d2, d3, d4⟩ := caught84
    exact ⟨[], trivial, fun δ w vals ha hr ht => fn_callsD hm ΓTr_ok Try.func54 Try.func84 b1 b4 b2 b3 (by kernel_rfl) d1 d4 d2 d3 rfl (by kernel_rfl) (by kernel_rfl) ha hr ht (vcReadRG_holds s hx)⟩
  · cases hs
end Go.Proofs.Ytjdldadmaaeimaa
end
section
namespace Go.Proofs.Ytjdldadmaaeimaa
open Go.SE Go.RowKit
theorem vcEqualH (n n' c m m' d : Nat) (g h : Nat→Int × Int) (R : SV→Prop) : (vcFn Try.prog noCtrs (ΛEqual Try.f82 13 n g h) Try.f82 [.sl 0 2 0 n c,.sl 1 2 0 m d] (roHeap [⟨2,n',rowsP g⟩,⟨2,m',rowsP h⟩]) 64 (fun y _ => R y)) = (sel ((↑n : Int) != (↑m : Int)) (R zF) ((∃ x : Nat,((((x : Nat) ≤ n)∧(∀ j : Nat,(((j : Nat) < x)→(eqP (g j) (h j) = true))))∧((zI = (SV.v (.int .i64 ((↑x : Int)))))∧True)))∧(∀ x : Nat,((((x : Nat) ≤ n)∧(∀ j : Nat,(((j : Nat) < x)→(eqP (g j) (h j) = true))))→(sel (decide ((↑x : Int) < (↑n : Int))) ((((0 : Int) ≤ ((↑x : Int)))∧((((↑x : Int)) : Int) < ((↑n : Int))))∧((((0 : Int) ≤ ((↑x : Int)))∧((((↑x : Int)) : Int) < ((↑m : Int))))∧(sel (!(Prod.fst (g (0 + Int.toNat (↑x : Int))) == Prod.fst (h (0 + Int.toNat (↑x : Int)))&&Prod.snd (g (0 + Int.toNat (↑x : Int))) == Prod.snd (h (0 + Int.toNat (↑x : Int))))) (R zF) (∃ x' : Nat,(((((x' : Nat) ≤ n)∧(∀ j : Nat,(((j : Nat) < x')→(eqP (g j) (h j) = true))))∧(((SV.v (.int .i64 (IntKind.wrap IntKind.i64 ((↑x : Int) + 1)))) = (SV.v (.int .i64 ((↑x' : Int)))))∧True))∧(((n - x') : Nat) < (n - x))))))) (R (SV.v (.bool true)))))))):=by kernel_rfl
theorem vcEqualNH (m m' d : Nat) (g : Nat→Int × Int) (R : SV→Prop) : (vcFn Try.prog noCtrs (ΛZ Try.f82 13) Try.f82 [nilS,.sl 0 2 0 m d] (roHeap [⟨2,m',rowsP g⟩]) 64 (fun y _ => R y)) = (sel (0 != (↑m : Int)) (R zF) ((∃ x : Nat,(((x : Nat) = 0)∧((zI = (SV.v (.int .i64 ((↑x : Int)))))∧True)))∧(∀ x : Nat,(((x : Nat) = 0)→(R (SV.v (.bool true))))))):=by kernel_rfl
def ΓV0 : Ctrs := addCtr noCtrs 72 (roCtr (orRo sSameS sSameN))
def sbOf (b : BV) : ShB := ⟨b.sk, b.sr, b.sw, b.sh⟩
def bodB (a b : BV) : Bool := (a.p0v == b.p0v && a.p0f == b.p0f && (a.p1v == b.p1v && a.p1f == b.p1f) && (a.p2v == b.p2v && a.p2f == b.p2f && (a.p3v == b.p3v && a.p3f == b.p3f))) && ((a.v0v == b.v0v && a.v0f == b.v0f && (a.v1v == b.v1v && a.v1f == b.v1f)) && ((a.w0v == b.w0v && a.w0f == b.w0f) && ((a.m0v == b.m0v && a.m0f == b.m0f && (a.m1v == b.m1v && a.m1f == b.m1f)) && ((a.st == b.st) && ((a.asl == b.asl) && ((a.flt == b.flt) && ((a.bv == b.bv))))))))
def sameBB (a b : BV) (s : Bool) : Bool := bodB a b && s
theorem vcSameB (a b : BV) (n nc n' m mc m' : Nat) (g h : Nat→Int × Int) (R : SV→Prop) : (vcFn Try.prog ΓV0 noΛ Try.f81 [boS a (.sl 0 2 0 n nc),boS b (.sl 1 2 0 m mc)] (roHeap [⟨2,n',rowsP g⟩,⟨2,m',rowsP h⟩]) 64 (fun y _ => R y)) = (sel (BV.p0v a == BV.p0v b&&BV.p0f a == BV.p0f b&&(BV.p1v a == BV.p1v b&&BV.p1f a == BV.p1f b)&&(BV.p2v a == BV.p2v b&&BV.p2f a == BV.p2f b&&(BV.p3v a == BV.p3v b&&BV.p3f a == BV.p3f b))&&(BV.v0v a == BV.v0v b&&BV.v0f a == BV.v0f b&&(BV.v1v a == BV.v1v b&&BV.v1f a == BV.v1f b)&&(BV.w0v a == BV.w0v b&&BV.w0f a == BV.w0f b&&(BV.m0v a == BV.m0v b&&BV.m0f a == BV.m0f b&&(BV.m1v a == BV.m1v b&&BV.m1f a == BV.m1f b)&&(BV.st a == BV.st b&&(BV.asl a == BV.asl b&&(BV.flt a == BV.flt b&&BV.bv a == BV.bv b))))))) (((rowsPre n n fun y => [SV.v (.int .i64 (Prod.fst (g (0 + y)))),SV.v (.int .i64 (Prod.snd (g (0 + y))))])∧(rowsPre m m fun y => [SV.v (.int .i64 (Prod.fst (h (0 + y)))),SV.v (.int .i64 (Prod.snd (h (0 + y))))]))∧(R (SV.v (.bool (sameS {k:=BV.sk a,r:=BV.sr a,w:=BV.sw a,h:=BV.sh a} n (fun i => gi [SV.v (.int .i64 (Prod.fst (g (0 + i)))),SV.v (.int .i64 (Prod.snd (g (0 + i))))]) {k:=BV.sk b,r:=BV.sr b,w:=BV.sw b,h:=BV.sh b} m fun i => gi [SV.v (.int .i64 (Prod.fst (h (0 + i)))),SV.v (.int .i64 (Prod.snd (h (0 + i))))]))))) (R zF)):=by kernel_rfl
theorem vcSameBN (a b : BV) (m mc m' : Nat) (h : Nat→Int × Int) (R : SV→Prop) : (vcFn Try.prog ΓV0 noΛ Try.f81 [boS a nilS,boS b (.sl 0 2 0 m mc)] (roHeap [⟨2,m',rowsP h⟩]) 64 (fun y _ => R y)) = (sel (BV.p0v a == BV.p0v b&&BV.p0f a == BV.p0f b&&(BV.p1v a == BV.p1v b&&BV.p1f a == BV.p1f b)&&(BV.p2v a == BV.p2v b&&BV.p2f a == BV.p2f b&&(BV.p3v a == BV.p3v b&&BV.p3f a == BV.p3f b))&&(BV.v0v a == BV.v0v b&&BV.v0f a == BV.v0f b&&(BV.v1v a == BV.v1v b&&BV.v1f a == BV.v1f b)&&(BV.w0v a == BV.w0v b&&BV.w0f a == BV.w0f b&&(BV.m0v a == BV.m0v b&&BV.m0f a == BV.m0f b&&(BV.m1v a == BV.m1v b&&BV.m1f a == BV.m1f b)&&(BV.st a == BV.st b&&(BV.asl a == BV.asl b&&(BV.flt a == BV.flt b&&BV.bv a == BV.bv b))))))) ((rowsPre m m fun y => [SV.v (.int .i64 (Prod.fst (h (0 + y)))),SV.v (.int .i64 (Prod.snd (h (0 + y))))])∧(R (SV.v (.bool (eqSh {k:=BV.sk a,r:=BV.sr a,w:=BV.sw a,h:=BV.sh a} {k:=BV.sk b,r:=BV.sr b,w:=BV.sw b,h:=BV.sh b}&&Nat.beq m 0))))) (R zF)):=by kernel_rfl
def sSameB : List SV → List Ro → Option (Option Prop × SV)
  | [.agg x, .agg y], rs => match cellsOfB x, cellsOfB y, rs with
    | some (a, .sl 0 2 0 n _), some (b, .sl 1 2 0 m _), [⟨2, n', row⟩, ⟨2, m', row'⟩] => some (some (rowsPre n n' row ∧ rowsPre m m' row'), bV (sameBB a b (sameS (sbOf a) n (fun i => gi (row i)) (sbOf b) m fun i => gi (row' i))))
    | some (a, .v (.slice none 0 0)), some (b, .sl 0 2 0 m _), [⟨2, m', row⟩] => some (some (rowsPre m m' row), bV (sameBB a b (eqSh (sbOf a) (sbOf b) && Nat.beq m 0)))
    | _, _, _ => none
  | _, _ => none
def sameRB (k1 k2 e1 e2 : Int) (a b : RV) (s t : Bool) : Bool := (k1 == k2) && ((a.id == b.id) && ((e1 == e2) && ((a.bs == b.bs && a.bg == b.bg) && ((a.ver == b.ver) && ((a.gr == b.gr) && ((s) && ((t) && ((a.hit == b.hit && ((a.htv == b.htv && a.htf == b.htf) && ((a.x0v == b.x0v && a.x0f == b.x0f) && (a.x1v == b.x1v && a.x1f == b.x1f)))) && ((a.cnt == b.cnt))))))))))
def ΓSr0 : Ctrs := addCtr (addCtr noCtrs 81 (roCtr sSameB)) 82 (roCtr (orRo sEqual sEqualN))
theorem vcSame_ww (k1 k2 e1 e2 : Int) (a b : RV) (n nc n' m mc m' p pc p' q qc q' : Nat) (g h u v : Nat→Int × Int) (R : SV→Prop) : (vcFn Try.prog ΓSr0 noΛ Try.f36 [reS k1 e1 a (.sl 0 2 0 n nc) (.sl 1 2 0 m mc),reS k2 e2 b (.sl 2 2 0 p pc) (.sl 3 2 0 q qc)] (roHeap [⟨2,n',rowsP g⟩,⟨2,m',rowsP h⟩,⟨2,p',rowsP u⟩,⟨2,q',rowsP v⟩]) 64 (fun y _ => R y)) =
(sel (k1 == k2) (sel (RV.id a == RV.id b) (sel (e1 == e2) (sel (RV.bs a == RV.bs b&&RV.bg a == RV.bg b) (sel (RV.ver a == RV.ver b) (sel (RV.gr a == RV.gr b) (((rowsPre n n fun y => [SV.v (.int .i64 (Prod.fst (g (0 + y)))),SV.v (.int .i64 (Prod.snd (g (0 + y))))])∧(rowsPre p p fun y => [SV.v (.int .i64 (Prod.fst (u (0 + y)))),SV.v (.int .i64 (Prod.snd (u (0 + y))))]))∧(sel (sameBB (RV.o a) (RV.o b) (sameS (sbOf (RV.o a)) n (fun i => gi [SV.v (.int .i64 (Prod.fst (g (0 + i)))),SV.v (.int .i64 (Prod.snd (g (0 + i))))]) (sbOf (RV.o b)) p fun i => gi [SV.v (.int .i64 (Prod.fst (u (0 + i)))),SV.v (.int .i64 (Prod.snd (u (0 + i))))])) (((rowsPre m m fun y => [SV.v (.int .i64 (Prod.fst (h (0 + y)))),SV.v (.int .i64 (Prod.snd (h (0 + y))))])∧(rowsPre q q fun y => [SV.v (.int .i64 (Prod.fst (v (0 + y)))),SV.v (.int .i64 (Prod.snd (v (0 + y))))]))∧(sel (sameP m (fun i => gi [SV.v (.int .i64 (Prod.fst (h (0 + i)))),SV.v (.int .i64 (Prod.snd (h (0 + i))))]) q fun i => gi [SV.v (.int .i64 (Prod.fst (v (0 + i)))),SV.v (.int .i64 (Prod.snd (v (0 + i))))]) (sel (RV.hit a == RV.hit b&&(RV.htv a == RV.htv b&&RV.htf a == RV.htf b&&(RV.x0v a == RV.x0v b&&RV.x0f a == RV.x0f b&&(RV.x1v a == RV.x1v b&&RV.x1f a == RV.x1f b)))) (R (SV.v (.bool (RV.cnt a == RV.cnt b)))) (R zF)) (R zF))) (R zF))) (R zF)) (R zF)) (R zF)) (R zF)) (R zF)) (R zF)) := by kernel_rfl
theorem vcSame_nn (k1 k2 e1 e2 : Int) (a b : RV) (p pc p' q qc q' : Nat) (u v : Nat→Int × Int) (R : SV→Prop) : (vcFn Try.prog ΓSr0 noΛ Try.f36 [reS k1 e1 a (nilS) (nilS),reS k2 e2 b (.sl 0 2 0 p pc) (.sl 1 2 0 q qc)] (roHeap [⟨2,p',rowsP u⟩,⟨2,q',rowsP v⟩]) 64 (fun y _ => R y)) = (sel (k1 == k2) (sel (RV.id a == RV.id b) (sel (e1 == e2) (sel (RV.bs a == RV.bs b&&RV.bg a == RV.bg b) (sel (RV.ver a == RV.ver b) (sel (RV.gr a == RV.gr b) ((rowsPre p p fun y => [SV.v (.int .i64 (Prod.fst (u (0 + y)))),SV.v (.int .i64 (Prod.snd (u (0 + y))))])∧(sel (sameBB (RV.o a) (RV.o b) (eqSh (sbOf (RV.o a)) (sbOf (RV.o b))&&Nat.beq p 0)) ((rowsPre q q fun y => [SV.v (.int .i64 (Prod.fst (v (0 + y)))),SV.v (.int .i64 (Prod.snd (v (0 + y))))])∧(sel (Nat.beq q 0) (sel (RV.hit a == RV.hit b&&(RV.htv a == RV.htv b&&RV.htf a == RV.htf b&&(RV.x0v a == RV.x0v b&&RV.x0f a == RV.x0f b&&(RV.x1v a == RV.x1v b&&RV.x1f a == RV.x1f b)))) (R (SV.v (.bool (RV.cnt a == RV.cnt b)))) (R zF)) (R zF))) (R zF))) (R zF)) (R zF)) (R zF)) (R zF)) (R zF)) (R zF)):=by kernel_rfl
theorem vcSame_wn (k1 k2 e1 e2 : Int) (a b : RV) (n nc n' p pc p' q qc q' : Nat) (g u v : Nat→Int × Int) (R : SV→Prop) : (vcFn Try.prog ΓSr0 noΛ Try.f36 [reS k1 e1 a (.sl 0 2 0 n nc) (nilS),reS k2 e2 b (.sl 1 2 0 p pc) (.sl 2 2 0 q qc)] (roHeap [⟨2,n',rowsP g⟩,⟨2,p',rowsP u⟩,⟨2,q',rowsP v⟩]) 64 (fun y _ => R y)) =
(sel (k1 == k2) (sel (RV.id a == RV.id b) (sel (e1 == e2) (sel (RV.bs a == RV.bs b&&RV.bg a == RV.bg b) (sel (RV.ver a == RV.ver b) (sel (RV.gr a == RV.gr b) (((rowsPre n n fun y => [SV.v (.int .i64 (Prod.fst (g (0 + y)))),SV.v (.int .i64 (Prod.snd (g (0 + y))))])∧(rowsPre p p fun y => [SV.v (.int .i64 (Prod.fst (u (0 + y)))),SV.v (.int .i64 (Prod.snd (u (0 + y))))]))∧(sel (sameBB (RV.o a) (RV.o b) (sameS (sbOf (RV.o a)) n (fun i => gi [SV.v (.int .i64 (Prod.fst (g (0 + i)))),SV.v (.int .i64 (Prod.snd (g (0 + i))))]) (sbOf (RV.o b)) p fun i => gi [SV.v (.int .i64 (Prod.fst (u (0 + i)))),SV.v (.int .i64 (Prod.snd (u (0 + i))))])) ((rowsPre q q fun y => [SV.v (.int .i64 (Prod.fst (v (0 + y)))),SV.v (.int .i64 (Prod.snd (v (0 + y))))])∧(sel (Nat.beq q 0) (sel (RV.hit a == RV.hit b&&(RV.htv a == RV.htv b&&RV.htf a == RV.htf b&&(RV.x0v a == RV.x0v b&&RV.x0f a == RV.x0f b&&(RV.x1v a == RV.x1v b&&RV.x1f a == RV.x1f b)))) (R (SV.v (.bool (RV.cnt a == RV.cnt b)))) (R zF)) (R zF))) (R zF))) (R zF)) (R zF)) (R zF)) (R zF)) (R zF)) (R zF)) := by kernel_rfl
theorem vcSame_nw (k1 k2 e1 e2 : Int) (a b : RV) (m mc m' p pc p' q qc q' : Nat) (h u v : Nat→Int × Int) (R : SV→Prop) : (vcFn Try.prog ΓSr0 noΛ Try.f36 [reS k1 e1 a (nilS) (.sl 0 2 0 m mc),reS k2 e2 b (.sl 1 2 0 p pc) (.sl 2 2 0 q qc)] (roHeap [⟨2,m',rowsP h⟩,⟨2,p',rowsP u⟩,⟨2,q',rowsP v⟩]) 64 (fun y _ => R y)) =
(sel (k1 == k2) (sel (RV.id a == RV.id b) (sel (e1 == e2) (sel (RV.bs a == RV.bs b&&RV.bg a == RV.bg b) (sel (RV.ver a == RV.ver b) (sel (RV.gr a == RV.gr b) ((rowsPre p p fun y => [SV.v (.int .i64 (Prod.fst (u (0 + y)))),SV.v (.int .i64 (Prod.snd (u (0 + y))))])∧(sel (sameBB (RV.o a) (RV.o b) (eqSh (sbOf (RV.o a)) (sbOf (RV.o b))&&Nat.beq p 0)) (((rowsPre m m fun y => [SV.v (.int .i64 (Prod.fst (h (0 + y)))),SV.v (.int .i64 (Prod.snd (h (0 + y))))])∧(rowsPre q q fun y => [SV.v (.int .i64 (Prod.fst (v (0 + y)))),SV.v (.int .i64 (Prod.snd (v (0 + y))))]))∧(sel (sameP m (fun i => gi [SV.v (.int .i64 (Prod.fst (h (0 + i)))),SV.v (.int .i64 (Prod.snd (h (0 + i))))]) q fun i => gi [SV.v (.int .i64 (Prod.fst (v (0 + i)))),SV.v (.int .i64 (Prod.snd (v (0 + i))))]) (sel (RV.hit a == RV.hit b&&(RV.htv a == RV.htv b&&RV.htf a == RV.htf b&&(RV.x0v a == RV.x0v b&&RV.x0f a == RV.x0f b&&(RV.x1v a == RV.x1v b&&RV.x1f a == RV.x1f b)))) (R (SV.v (.bool (RV.cnt a == RV.cnt b)))) (R zF)) (R zF))) (R zF))) (R zF)) (R zF)) (R zF)) (R zF)) (R zF)) (R zF)) := by kernel_rfl
end Go.Proofs.Ytjdldadmaaeimaa
end
section
namespace Go.Proofs.Ytjdldadmaaeimaa
open Go.SE Go.RowKit
theorem EqualH_spec : RoSpec Try.prog 82 sEqual := ro_spec hm noCtrs_ok Try.func82 (Λ := fun args bs => match args, bs with | [.sl 0 2 0 n _, .sl 1 2 0 m _], [⟨2, _, row⟩, ⟨2, _, row'⟩] => ΛEqual Try.f82 13 n (fun i => gi (row i)) (fun i => gi (row' i)) | _, _ => noΛ) fun args bs p x h hp => by
  unfold sEqual at h
  split at h <;> try (cases h; done)
  rename_i n c m d n' row m' row'
  cases h
  obtain ⟨⟨h0, rfl, hn⟩, k0, rfl, hm'⟩ := hp _ rfl
  have h0 := okAll_rows.1 h0
  have k0 := okAll_rows.1 k0
  refine ⟨rfl, [⟨2, n', rowsP fun i => gi (row i)⟩, ⟨2, m', rowsP fun i => gi (row' i)⟩], ⟨⟨rfl, rfl, fun i hi => (isPI_row (h0 i hi)).1⟩, ⟨rfl, rfl, fun i hi => (isPI_row (k0 i hi)).1⟩, trivial⟩, ?_⟩
  refine Eq.mpr (vcEqualH n' n' c m' m' d (fun i => gi (row i)) (fun i => gi (row' i)) _) ?_
  exact equal_tail hn hm'
theorem EqualNH_spec : RoSpec Try.prog 82 sEqualN := ro_spec hm noCtrs_ok Try.func82 (Λ := fun _ _ => ΛZ Try.f82 13) fun args bs p x h hp => by
  unfold sEqualN at h
  split at h <;> try (cases h; done)
  rename_i m d m' row
  cases h
  obtain ⟨h0, rfl, hn⟩ := hp _ rfl
  have h0 := okAll_rows.1 h0
  refine ⟨rfl, [⟨2, m', rowsP fun i => gi (row i)⟩], ⟨⟨rfl, rfl, fun i hi => (isPI_row (h0 i hi)).1⟩, trivial⟩, ?_⟩
  refine Eq.mpr (vcEqualNH m' m' d (fun i => gi (row i)) _) (sel_of (fun e => bool_mk ?_) fun e => ⟨⟨0, rfl, rfl, trivial⟩, fun _ _ => bool_mk ?_⟩)
  · refine (Go.SE.beq_false fun e0 => ?_).symm
    rw [e0] at e; cases e
  · have : m' = 0 := by
      have : ((0 : Int) != (m' : Int)) = false := e
      simp at this; omega
    rw [this]; rfl
theorem ΓV0_ok : ∀ f g, ΓV0 f = some g → g.ok Try.prog f := addCtr_ok noCtrs_ok (ro_ok Try.func72 (by kernel_rfl) (by kernel_rfl) (ro_or SameS_spec SameN_spec))
theorem sameB_ww (a b : BV) (n c m d : Nat) (g h : Nat → Int × Int) (hn : n < 1099511627776) (hg : ∀ i, i < n → I64 (g i).1 ∧ I64 (g i).2) (hm : m < 1099511627776) (hh : ∀ i, i < m → I64 (h i).1 ∧ I64 (h i).2) : vcFn Try.prog ΓV0 noΛ Try.f81 [boS a (.sl 0 2 0 n c), boS b (.sl 1 2 0 m d)] (roHeap [⟨2, n, rowsP g⟩, ⟨2, m, rowsP h⟩]) 64 (fun y _ => y = bV (sameBB a b (sameS (sbOf a) n g (sbOf b) m h))) := by
  refine Eq.mpr (vcSameB a b n c n m d m g h _) ?_
  rw [gi_rows0 g, gi_rows0 h]
  unfold sameBB bodB
  refine sel_of (fun e => ⟨⟨pre_rows hn hg, pre_rows hm hh⟩, ?_⟩) fun e => by rw [e]; rfl
  rw [e, Bool.true_and]
  rfl
theorem sameB_nw (a b : BV) (m d : Nat) (h : Nat → Int × Int) (hm : m < 1099511627776) (hh : ∀ i, i < m → I64 (h i).1 ∧ I64 (h i).2) : vcFn Try.prog ΓV0 noΛ Try.f81 [boS a nilS, boS b (.sl 0 2 0 m d)] (roHeap [⟨2, m, rowsP h⟩]) 64 (fun y _ => y = bV (sameBB a b (eqSh (sbOf a) (sbOf b) && Nat.beq m 0))) := by
  refine Eq.mpr (vcSameBN a b m d m h _) ?_
  unfold sameBB bodB
  refine sel_of (fun e => ⟨pre_rows hm hh, ?_⟩) fun e => by rw [e]; rfl
  rw [e, Bool.true_and]
  rfl
theorem SameB_spec : RoSpec Try.prog 81 sSameB := ro_spec hm ΓV0_ok Try.func81 (Λ := fun _ _ => noΛ) fun args bs p x hs hp => by
  unfold sSameB at hs
  split at hs
  · rename_i x y rs
    split at hs
    · rename_i a n c b m d n' row m' row' hx hy
      cases hs
      obtain ⟨⟨h0, rfl, hn⟩, k0, rfl, hm'⟩ := hp _ rfl
      have h0 := okAll_rows.1 h0
      have k0 := okAll_rows.1 k0
      refine ⟨rfl, [⟨2, n', rowsP fun i => gi (row i)⟩, ⟨2, m', rowsP fun i => gi (row' i)⟩], ⟨⟨rfl, rfl, fun i hi => (isPI_row (h0 i hi)).1⟩, ⟨rfl, rfl, fun i hi => (isPI_row (k0 i hi)).1⟩, trivial⟩, ?_⟩
      rw [bods_eq hx, bods_eq hy]
      exact sameB_ww a b n' c m' d _ _ hn (fun i hi => (isPI_row (h0 i hi)).2) hm' fun i hi => (isPI_row (k0 i hi)).2
    · rename_i a b m d m' row hx hy
      cases hs
      obtain ⟨h0, rfl, hn⟩ := hp _ rfl
      have h0 := okAll_rows.1 h0
      refine ⟨rfl, [⟨2, m', rowsP fun i => gi (row i)⟩], ⟨⟨rfl, rfl, fun i hi => (isPI_row (h0 i hi)).1⟩, trivial⟩, ?_⟩
      rw [bods_eq hx, bods_eq hy]
      exact sameB_nw a b m' d _ hn fun i hi => (isPI_row (h0 i hi)).2
    · cases hs
  · cases hs
end Go.Proofs.Ytjdldadmaaeimaa
end
