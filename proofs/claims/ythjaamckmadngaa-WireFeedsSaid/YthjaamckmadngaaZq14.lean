/-
  What the proof uses, part 14.
-/
import Derived.HandedShaped
import Derived.Test.YthjaamckmadngaaZq13
set_option maxRecDepth 100000
set_option linter.unusedSimpArgs false
set_option linter.unusedVariables false

section
namespace Go.Proofs.Ythjaamckmadngaa
open Go.ChangeShapes Go.WideShapes Go.ChangeAt Go.RowKit Go.SE Go.Deep
theorem blt_iff (a b : Nat) : Nat.blt a b = true ↔ a < b := by rw [Nat.blt_eq]
section
variable {H : Type} {enc : TypeId × Value → H}
theorem live_rows {δ : Dict} {W : World} {l : SE.Loc} {n : Nat} {r r' : Nat → List SV} (h : Live δ (Ro.blk ⟨1, n, r⟩) W l) (e : ∀ i, i < n → r i = r' i) : Live δ (Ro.blk ⟨1, n, r'⟩) W l := by
  obtain ⟨h1, h2, h3, h4⟩ := h
  refine ⟨h1, h2, h3, fun hn => ?_⟩
  obtain ⟨c, e', fz, a1, a2, a3, a4, a5, a6, a7⟩ := h4 hn
  refine ⟨c, e', fz, a1, a2, fun hf i hi => ?_, a4, a5, a6, fun i hi => ?_⟩
  · have := a3 hf i hi
    show namelessL (r' i) = true
    rw [← e i hi]
    exact this
  · have := a7 i hi
    show rowRep δ c 1 l.o i (r' i)
    rw [← e i hi]
    exact this
theorem sl_len {δ : Dict} {k s i n c len cap : Nat} {a : Option Addr} (h : absV δ (.sl k s i n c) (.slice a len cap)) : n = len ∧ c = cap := by
  simp only [absV] at h
  obtain ⟨p, _, _, _, ⟨_, h⟩ | ⟨rfl, rfl, _, h⟩⟩ := h
  · cases h; exact ⟨rfl, rfl⟩
  · cases h; exact ⟨rfl, rfl⟩
theorem piece_open {W : World} {fuel : Nat} {cs : List Value} {y : DataW H × List MemPlace} (h : DataW.trod enc Try.prog W 0 (fun _ => true) true fuel 23 cs = some y) (hw : ∀ w ∈ y.1.weights Try.prog 23, w ≤ reachBytes) :
    ∃ (n c : Nat) (g : Nat → Int) (l : SE.Loc) (v : Value), cs = [v] ∧ (∀ δ kk, δ kk = some l → absV δ (.sl kk 1 0 n c) v ∧ Live δ (Ro.blk ⟨1, n, fun i => [.v (.int .u8 (g i))]⟩) W l) ∧ n ≤ 140737488355328 ∧ bytesIn n g := by
  obtain ⟨n, c, row, l, v, h1, h2, hnc, h3⟩ := rows_open (k := 1) (Q := fun cs => ∃ a : Int, cs = [.int .u8 a] ∧ (0 ≤ a ∧ a < 256)) (by omega) Try.underlying23 (by kernel_rfl) (fun fuel cs y h => by
    obtain ⟨a, h2, _, wa⟩ := DataW.trod_int (k := .u8) (by kernel_rfl) h
    exact ⟨a, h2, wf_u8 wa⟩) h
  have hr : ∀ i, i < n → row i = [.v (.int .u8 (SE.byteOf (row i)))] ∧ 0 ≤ SE.byteOf (row i) ∧ SE.byteOf (row i) < 256 := fun i hi => by
    obtain ⟨xs, hr, a, rfl, w⟩ := h3 i hi
    rw [hr]
    exact ⟨rfl, w⟩
  refine ⟨n, c, fun i => SE.byteOf (row i), l, v, h1, fun δ kk hd => ⟨(h2 δ kk hd).1, live_rows (h2 δ kk hd).2 fun i hi => (hr i hi).1⟩, ?_, fun i hi => (hr i hi).2⟩
  have hs : absV (fun _ => some l) (.sl 0 1 0 n c) v := (h2 (fun _ => some l) 0 rfl).1
  rcases open_slice Try.underlying23 h with ⟨h0, _⟩ | ⟨a, len, cap, m, k, D, Pl, h0, _, hle, _, hm, hy, _⟩
  · rw [h1] at h0
    cases h0
    obtain ⟨rfl, rfl⟩ := sl_len hs
    omega
  · rw [h1] at h0
    cases h0
    obtain ⟨rfl, rfl⟩ := sl_len hs
    rw [if_pos rfl] at hm
    subst hm
    rw [hy] at hw
    have := hw ((n + (m - n)) * Try.prog.bytesOf 5) (by
      unfold DataW.weights
      rw [Try.underlying23]
      simp)
    have e1 : Try.prog.bytesOf 5 = 1 := by kernel_rfl
    rw [e1] at this
    have := reachBytes_lt
    omega
theorem pieces_open {W : World} {b0 : Nat} {r : Reach} {v : Value} {d : DataW H} {p : List MemPlace} (hv : Value.okWide Try.prog W r b0 22 v) (h : DataW.Trod enc Try.prog W 0 (fun _ => true) true 22 v d p) (hw : ∀ w ∈ d.weights Try.prog 22, w ≤ reachBytes) :
    ∃ (n c : Nat) (Ln Cn : Nat → Nat) (Gn : Nat → Nat → Int) (l : SE.Loc) (L : Nat → SE.Loc), n ≤ 9223372036854775807 ∧ (∀ j, Ln (j + 4096) ≤ 140737488355328 ∧ bytesIn (Ln (j + 4096)) (Gn (j + 4096))) ∧
      ∀ δ : Dict, δ 0 = some l → (∀ j, δ (j + 4096) = some (L j)) → absV δ (.sl 0 1 0 n c) v ∧ Live δ (nsB n Ln Cn) W l ∧ ∀ j, Live δ (pcB Ln Gn (j + 4096)) W (L j) := by
  obtain ⟨a0, len, cap, rfl⟩ := okWide_slice Try.underlying22 hv
  obtain ⟨fuel, hf⟩ := h
  have no : ∀ (Cn : Nat → Nat) (Gn : Nat → Nat → Int) (δ : Dict) (j : Nat), δ (j + 4096) = some (⟨0, 1, 0, 0, true⟩ : SE.Loc) → Live δ (pcB (fun _ => 0) Gn (j + 4096)) W ⟨0, 1, 0, 0, true⟩ := fun Cn Gn δ j hd => ⟨rfl, rfl, fun _ => ⟨rfl, rfl⟩, fun hh => by cases hh⟩
  have none0 : ∀ v, v = Value.slice none 0 0 → ∃ (n c : Nat) (Ln Cn : Nat → Nat) (Gn : Nat → Nat → Int) (l : SE.Loc) (L : Nat → SE.Loc), n ≤ 9223372036854775807 ∧ (∀ j, Ln (j + 4096) ≤ 140737488355328 ∧ bytesIn (Ln (j + 4096)) (Gn (j + 4096))) ∧
      ∀ δ : Dict, δ 0 = some l → (∀ j, δ (j + 4096) = some (L j)) → absV δ (.sl 0 1 0 n c) v ∧ Live δ (nsB n Ln Cn) W l ∧ ∀ j, Live δ (pcB Ln Gn (j + 4096)) W (L j) := by
    rintro v rfl
    refine ⟨0, 0, fun _ => 0, fun _ => 0, fun _ _ => 0, ⟨0, 1, 0, 0, true⟩, fun _ => ⟨0, 1, 0, 0, true⟩, by omega, fun j => ⟨Nat.zero_le _, fun y hy => absurd hy (Nat.not_lt_zero _)⟩, fun δ h0 hj => ⟨?_, ⟨rfl, rfl, fun _ => ⟨rfl, rfl⟩, fun hh => by cases hh⟩, fun j => no (fun _ => 0) _ δ j (hj j)⟩⟩
    simp only [absV]
    exact ⟨_, h0, rfl, Nat.le_refl _, .inr ⟨trivial, trivial, _, rfl⟩⟩
  rcases open_slice1 Try.underlying22 (by kernel_rfl) hf with ⟨h0, _⟩ | ⟨a, len', cap', m, fu, V, D, Pl, h0, _, hle, hcm, hm, hy, hi⟩
  · simp only [Value.cells, List.cons.injEq, and_true] at h0
    exact none0 _ h0
  · simp only [Value.cells, List.cons.injEq, and_true] at h0
    cases h0
    rw [if_pos rfl] at hm
    subst hm
    have hd : d = .slice ((List.range len).map D) ((List.range (m - len)).map fun j => D (len + j)) := congrArg Prod.fst hy
    have hin : ∀ i, i < len → ∀ w ∈ (D i).weights Try.prog 23, w ≤ reachBytes := fun i hi w hwi => hw w (by
      rw [hd]
      unfold DataW.weights
      rw [Try.underlying22]
      refine List.mem_cons_of_mem _ (List.mem_append_left _ ?_)
      have key : ∀ ds : List (DataW H), D i ∈ ds → w ∈ DataW.weightsAll Try.prog 23 ds := by
        intro ds
        induction ds with
        | nil => intro hh; cases hh
        | cons x xs ih =>
          intro hh
          unfold DataW.weightsAll
          rcases List.mem_cons.1 hh with rfl | hh
          · exact List.mem_append_left _ hwi
          · exact List.mem_append_right _ (ih hh)
      exact key _ (List.mem_map.2 ⟨i, List.mem_range.2 hi, rfl⟩))
    have hmax : maxLen = 9223372036854775807 := by kernel_rfl
    rw [hmax] at hcm
    have cells : ∀ i, i < len → ∃ (q : Nat × Nat × (Nat → Int) × SE.Loc), W.cell? (a.add i) = some (V i) ∧ (∀ δ kk, δ kk = some q.2.2.2 → absV δ (.sl kk 1 0 q.1 q.2.1) (V i) ∧ Live δ (Ro.blk ⟨1, q.1, fun i => [.v (.int .u8 (q.2.2.1 i))]⟩) W q.2.2.2) ∧ q.1 ≤ 140737488355328 ∧ bytesIn q.1 q.2.2.1 := fun i him => by
      obtain ⟨h1, h2⟩ := hi i (by omega)
      obtain ⟨n, c, g, l, v, hv, h3, h4, h5⟩ := piece_open h2 (hin i him)
      cases hv
      exact ⟨⟨n, c, g, l⟩, h1, h3, h4, h5⟩
    rcases Nat.eq_zero_or_pos m with hz | hz
    · subst hz
      obtain rfl : len = 0 := by omega
      refine ⟨0, 0, fun _ => 0, fun _ => 0, fun _ _ => 0, ⟨0, 1, 0, 0, true⟩, fun _ => ⟨0, 1, 0, 0, true⟩, by omega, fun j => ⟨Nat.zero_le _, fun y hy => absurd hy (Nat.not_lt_zero _)⟩, fun δ h0 hj => ⟨?_, ⟨rfl, rfl, fun _ => ⟨rfl, rfl⟩, fun hh => by cases hh⟩, fun j => no (fun _ => 0) _ δ j (hj j)⟩⟩
      simp only [absV]
      exact ⟨_, h0, rfl, Nat.le_refl _, .inr ⟨trivial, trivial, _, rfl⟩⟩
    · haveI : Inhabited (Nat × Nat × (Nat → Int) × SE.Loc) := ⟨⟨0, 0, fun _ => 0, ⟨0, 1, 0, 0, true⟩⟩⟩
      obtain ⟨q, hq⟩ := choose_lt (α := Nat × Nat × (Nat → Int) × SE.Loc) cells
      have k0 := (hi 0 hz).1
      obtain ⟨g, o, sp⟩ := a
      obtain ⟨hs, c, e, fz, hh, ho⟩ := cell_at k0
      obtain rfl : sp = none := by cases sp with | none => rfl | some q => simp [Addr.add] at hs
      rw [add_flat] at hh ho
      have hh : W.heap[g]? = some (.cells c e fz) := hh
      have ho : c[o + 0]? = some (V 0) := ho
      have at1 : ∀ i, i < m → c[o + i]? = some (V i) := fun i him => by
        have g0 := (hi i him).1
        rw [add_flat] at g0
        obtain ⟨_, c', e', fz', hh', ho'⟩ := cell_at g0
        have hh' : W.heap[g]? = some (.cells c' e' fz') := hh'
        rw [hh] at hh'
        cases hh'
        exact ho'
      have hsz : o ≤ c.size := by
        have := (Array.getElem?_eq_some_iff.1 ho).1
        omega
      refine ⟨len, m, fun k => bif Nat.blt (k - 4096) len then (q (k - 4096)).1 else 0, fun k => (q (k - 4096)).2.1, fun k => (q (k - 4096)).2.2.1, ⟨g, 1, o, len, false⟩, fun j => bif Nat.blt j len then (q j).2.2.2 else ⟨0, 1, 0, 0, true⟩, by omega, fun j => ?_, fun δ h0 hj => ⟨?_, ⟨rfl, rfl, (fun hh => by cases hh), fun _ => ⟨c, e, fz, hh, (fun hh => by cases hh), (fun hh => by cases hh), (fun hh => absurd rfl hh), by show o + 0 * 1 ≤ c.size; omega, (fun hh => by cases hh), fun i hil => ?_⟩⟩, fun j => ?_⟩⟩
      · simp only [Nat.add_sub_cancel]
        cases hb : Nat.blt j len with
        | false => exact ⟨by show 0 ≤ _; omega, fun y hy => absurd hy (Nat.not_lt_zero _)⟩
        | true => exact (hq j ((blt_iff _ _).1 hb)).2.2
      · simp only [absV]
        exact ⟨_, h0, rfl, by show 0 + len ≤ len; omega, .inl ⟨rfl, by simp⟩⟩
      · have hil : i < len := hil
        refine ⟨rfl, fun j x hx => ?_⟩
        have hb : Nat.blt i len = true := (blt_iff _ _).2 hil
        match j, hx with
        | 0, hx =>
          cases hx
          refine ⟨V i, ?_, ?_⟩
          · show c[o + i * 1 + 0]? = _
            rw [Nat.mul_one, Nat.add_zero]
            exact at1 i (by omega)
          · simp only [Nat.add_sub_cancel, hb, cond_true]
            exact ((hq i hil).2.1 δ (i + 4096) (by rw [hj i]; simp only [hb, cond_true])).1
        | _ + 1, hx => cases hx
      · show Live δ _ W (bif Nat.blt j len then (q j).2.2.2 else (⟨0, 1, 0, 0, true⟩ : SE.Loc))
        cases hb : Nat.blt j len with
        | true =>
          have := ((hq j ((blt_iff _ _).1 hb)).2.1 δ (j + 4096) (by rw [hj j]; simp only [hb, cond_true])).2
          rw [cond_true]
          unfold pcB
          simp only [Nat.add_sub_cancel, hb, cond_true]
          exact this
        | false =>
          rw [cond_false]
          unfold pcB
          simp only [Nat.add_sub_cancel, hb, cond_false]
          exact ⟨rfl, rfl, fun _ => ⟨rfl, rfl⟩, fun hh => by cases hh⟩
end
end Go.Proofs.Ythjaamckmadngaa
end
section
namespace Go.Proofs.Ythjaamckmadngaa
open Go.SE Go.RowKit
theorem ΓFd_ok : ∀ f g, ΓFd f = some g → g.ok Try.prog f := addCtr_ok (addCtr_ok (addCtr_ok (addCtr_ok (addCtr_ok (addCtr_ok (addCtr_ok (addCtr_ok (addCtr_ok (addCtr_ok (addCtr_ok (addCtr_ok noCtrs_ok (hp_ok Try.func5 (by kernel_rfl) (by kernel_rfl) NewFeed_spec)) (hp_ok Try.func6 (by kernel_rfl) (by kernel_rfl) RNew_spec)) (hp_ok Try.func8 (by kernel_rfl) (by kernel_rfl) CpyW_spec)) (hp_ok Try.func7 (by kernel_rfl) (by kernel_rfl) CpyR_spec)) (hp_ok Try.func9 (by kernel_rfl) (by kernel_rfl) sGiveWU_spec)) (hp_ok Try.func10 (by kernel_rfl) (by kernel_rfl) sGiveRU_spec)) (hp_ok Try.func11 (by kernel_rfl) (by kernel_rfl) Same2_spec)) (hp_ok Try.func12 (by kernel_rfl) (by kernel_rfl) Held_spec)) (hp_ok Try.func13 (by kernel_rfl) (by kernel_rfl) RHel_spec)) (hp_ok Try.func14 (by kernel_rfl) (by kernel_rfl) Broken_spec)) (hp_ok Try.func15 (by kernel_rfl) (by kernel_rfl) RBro_spec)) (pure_ok Try.func4 (by kernel_rfl) (by kernel_rfl) Awake0_spec)
end Go.Proofs.Ythjaamckmadngaa
end
section
namespace Go.Proofs.Ythjaamckmadngaa
open Go.SE Go.RowKit
theorem smF_in {Ln : Nat → Nat} (h : ∀ j, Ln (j + 4096) ≤ 140737488355328) : ∀ k, k ≤ 30 → smF Ln k ≤ (k : Int) * 140737488355328 ∧ 0 ≤ smF Ln k ∧ ∀ j, j < k → (Ln (j + 4096) : Int) ≤ smF Ln k
  | 0, _ => ⟨Int.le_of_eq (by rw [Int.natCast_zero, Int.zero_mul]; rfl), Int.le_refl 0, fun j hj => absurd hj (Nat.not_lt_zero _)⟩
  | k + 1, hk => by
    obtain ⟨h1, h2, h3⟩ := smF_in h k (by omega)
    have := h k
    have e : smF Ln (k + 1) = smF Ln k + (Ln (k + 4096) : Int) := by
      show IntKind.i64.wrap _ = _
      exact wrap_i64 ⟨by omega, by omega⟩
    rw [e]
    refine ⟨by omega, by omega, fun j hj => ?_⟩
    by_cases hjk : j = k
    · subst hjk; omega
    · have := h3 j (by omega); omega
theorem gv_of {np m : Nat} {x : FX} {h : Nat → Int} (hx : fxI np x) (hnp : np ≤ 30) (hm : m ≤ 4000) (hh : bytesIn m h) : gvP (jnG x.n x.o x.g h) (x.n + m) := by
  obtain ⟨h1, _, _, _, _, h6, h7, _⟩ := hx
  refine ⟨?_, by omega⟩
  rw [← jn_sh]
  exact jn_in h7 hh
theorem gr_of {np m : Nat} {x : FX} {h : Nat → Int} (hx : fxI np x) (hnp : np ≤ 30) (hm : m ≤ 4000) (hh : bytesIn m h) : gvP (jnG x.n 0 (shG x.o x.g) h) (x.n + m) := by
  rw [jn_sh]
  exact gv_of hx hnp hm hh
theorem at_of {np : Nat} {x : FX} {h : Nat → Int} (hx : fxI np x) : atK (jnG x.n 0 (shG x.o x.g) h) x.n 0 := jn_at hx.2.2.2.2.2.2.2
theorem kOf_le {G : Nat → Int} {T : Nat} : kOf G T ≤ T := Nat.le_trans (le_oAt G _) (oAt_le (kOf_spec G T).1)
theorem bs_refl (s : ByteArray) : (s == s) = true := by
  show (s.data == s.data) = true
  exact beq_self_eq_true _
theorem sameStr_self {n n' : Nat} {S S' : Nat → ByteArray} (e : n = n') (h : n = 0 ∨ S = S') : sameStr n n' S S' = true := by
  subst e
  refine sameStr_yes fun j hj => ?_
  rcases h with h | h
  · omega
  · rw [h]; exact bs_refl _
theorem at0_0 (g : Nat → Int) : atK g 0 0 := at0_iff.2 (Or.inl (by omega))
def nxX (k : Nat) (r q : GR) : FX := ⟨k + 1, r.br, r.o, r.n, r.c, r.N, r.e, r.g, q.c, q.e⟩
theorem both {np m : Nat} {x : FX} {h : Nat → Int} {r q : GR} (hx : fxI np x) (hnp : np ≤ 30) (hk : x.k < np) (hm : m ≤ 4000) (hh : bytesIn m h) (hr : gwRel x.br x.o x.n x.c x.N x.g x.ex (jnG x.n x.o x.g h) (x.n + m) r)
    (hq : grRel x.br 0 x.n x.cr x.n (shG x.o x.g) x.er (jnG x.n 0 (shG x.o x.g) h) (x.n + m) q) :
    (r.br = q.br ∧ r.err = q.err ∧ r.n = q.n ∧ q.N = q.n ∧ r.k = q.k ∧ r.k ≤ 200000) ∧ sameStr r.k q.k r.S q.S = true ∧ (∀ i, i < r.n → q.g i = shG r.o r.g i) ∧ fxI np (nxX x.k r q) := by
  rw [jn_sh] at hq
  have hgv := gv_of hx hnp hm hh
  obtain ⟨h1, h2, h3, h4, h5, h6, h7, h8⟩ := hx
  obtain ⟨r1, r2, r3⟩ := hr
  obtain ⟨q1, q2, q3⟩ := hq
  cases hb : x.br with
  | true =>
    obtain ⟨a1, a2, a3, a4, a5, a6, a7, a8, a9, a10⟩ := r1 hb
    obtain ⟨b1, b2, b3, b4, b5, b6, b7, b8, b9⟩ := q1 hb
    have hn := h2 hb
    refine ⟨⟨by rw [a1, b1], by rw [a2, b2], by rw [a5, b5], by rw [b7, b5], by rw [a3, b3], by omega⟩, sameStr_self (by rw [a3, b3]) (Or.inl a3), fun i hi => by omega, hk, fun _ => by show r.n = 0; omega, ?_, ⟨?_, ?_, ?_⟩, ⟨?_, ?_⟩, ?_, ?_, ?_⟩
    · show r.N < _; omega
    · show r.o + r.n ≤ r.N; omega
    · show r.n ≤ r.c; omega
    · show r.o + r.c ≤ r.e; omega
    · show r.n ≤ q.c; omega
    · show q.c ≤ q.e; omega
    · show r.n ≤ 4000 * (x.k + 1); omega
    · exact fun y hy => by have hy : y < r.n := hy; omega
    · show atK (shG r.o r.g) r.n 0
      rw [show r.n = 0 by omega]
      exact at0_0 _
  | false =>
    cases hbad : badF (jnG x.n x.o x.g h) (x.n + m) with
    | true =>
      obtain ⟨a1, a2, a3, a4, a5, a6, a7, a8, a9, a10⟩ := r2 hb hbad
      obtain ⟨b1, b2, b3, b4, b5, b6, b7, b8, b9⟩ := q2 hb hbad
      refine ⟨⟨by rw [a1, b1], by rw [a2, b2], by rw [a6, b6], by rw [b8, b6], by rw [a3, b3], by have := kOf_le (G := jnG x.n x.o x.g h) (T := x.n + m); omega⟩, sameStr_self (by rw [a3, b3]) (Or.inr (by rw [a5, b5])), fun i hi => by omega, hk, fun _ => by show r.n = 0; omega, ?_, ⟨?_, ?_, ?_⟩, ⟨?_, ?_⟩, ?_, ?_, ?_⟩
      · show r.N < _; omega
      · show r.o + r.n ≤ r.N; omega
      · show r.n ≤ r.c; omega
      · show r.o + r.c ≤ r.e; omega
      · show r.n ≤ q.c; omega
      · show q.c ≤ q.e; omega
      · show r.n ≤ 4000 * (x.k + 1); omega
      · exact fun y hy => by have hy : y < r.n := hy; omega
      · show atK (shG r.o r.g) r.n 0
        rw [show r.n = 0 by omega]
        exact at0_0 _
    | false =>
      obtain ⟨a1, a2, a3, a4, a5, a6, a7, a8, a9, a10, a11⟩ := r3 hb hbad
      obtain ⟨b1, b2, b3, b4, b5, b6, b7, b8, b9, b10⟩ := q3 hb hbad
      obtain ⟨c1, c2, c3⟩ := next_ok (n := x.n) (m := m) hgv.1 (badF_f hbad)
      refine ⟨⟨by rw [a1, b1], by rw [a2, b2], by rw [a6, b6], by rw [b9, b6], by rw [a3, b3], by have := kOf_le (G := jnG x.n x.o x.g h) (T := x.n + m); omega⟩, sameStr_self (by rw [a3, b3]) (Or.inr (by rw [a5, b5])), fun i hi => by rw [b10, a10, a11], hk, (fun hh => by have hh : r.br = true := hh; rw [a1] at hh; cases hh), ?_, ⟨?_, ?_, ?_⟩, ⟨?_, ?_⟩, ?_, ?_, ?_⟩
      · show r.N < _; omega
      · show r.o + r.n ≤ r.N; omega
      · show r.n ≤ r.c; omega
      · show r.o + r.c ≤ r.e; omega
      · show r.n ≤ q.c; omega
      · show q.c ≤ q.e; omega
      · show r.n ≤ 4000 * (x.k + 1); omega
      · show bytesIn r.n (shG r.o r.g)
        rw [a6, a10, a11]; exact c3
      · show atK (shG r.o r.g) r.n 0
        rw [a6, a10, a11]; exact c2
end Go.Proofs.Ythjaamckmadngaa
end
section
namespace Go.Proofs.Ythjaamckmadngaa
open Go.SE Go.RowKit
theorem vcFeeds (n c : Nat) (at' : Int) (Ln Cn : Nat→Nat) (Gn : Nat→Nat→Int) : (vcFn Try.prog ΓFd (ΛFd Ln n at') Try.f3 [.sl 0 1 0 n c,iV at'] (nsH n Ln Cn Gn) 64 (fun y _ => y = bV true)) = ((∃ x : Nat,((Nat.le x n)∧(((zI = (SV.v (.int .i64 ((↑x : Int)))))∧(zI = (SV.v (.int .i64 (smF Ln x)))))∧True)))∧(∀ x : Nat,((Nat.le x n)→(sel (decide ((↑x : Int) < (↑n : Int))) ((((0 : Int) ≤ ((↑x : Int)))∧((((↑x : Int)) : Int) < ((↑n : Int))))∧(∃ x' : Nat,(((Nat.le x' n)∧((((SV.v (.int .i64 (IntKind.wrap IntKind.i64 ((↑x : Int) + 1)))) = (SV.v (.int .i64 ((↑x' : Int)))))∧((SV.v (.int .i64 (IntKind.wrap IntKind.i64 (smF Ln x + (↑(Ln (0 + Int.toNat (↑x : Int) + 4096)) : Int))))) = (SV.v (.int .i64 (smF Ln x')))))∧True))∧(((n - x') : Nat) < (n - x))))) (sel (decide ((↑n : Int) > 30)) ((SV.v (.bool true)) = (SV.v (.bool true))) (sel (decide (smF Ln x > 4000)) ((SV.v (.bool true)) = (SV.v (.bool true))) ((∃ x_1 : FX,(((((FX.k x_1) : Nat) ≤ n)∧(((FX.br x_1 = true)→(((FX.n x_1) : Nat) = 0))∧((((FX.N x_1) : Nat) < 70368744177664)∧(((((FX.o x_1 + FX.n x_1) : Nat) ≤ (FX.N x_1))∧((((FX.n x_1) : Nat) ≤ (FX.c x_1))∧(((FX.o x_1 + FX.c x_1) : Nat) ≤ (FX.ex x_1))))∧(((((FX.n x_1) : Nat) ≤ (FX.cr x_1))∧(((FX.cr x_1) : Nat) ≤ (FX.er x_1)))∧((((FX.n x_1) : Nat) ≤ (4000 * FX.k x_1))∧((bytesIn (FX.n x_1) (shG (FX.o x_1) (FX.g x_1)))∧(atK (shG (FX.o x_1) (FX.g x_1)) (FX.n x_1) 0))))))))∧((((SV.vp 280 0) = (SV.vp 280 0))∧(((SV.vp 288 0) = (SV.vp 288 0))∧(((SV.v (Value.pointer none)) = (SV.v (Value.pointer none)))∧(((SV.v (Value.pointer none)) = (SV.v (Value.pointer none)))∧(zI = (SV.v (.int .i64 ((↑(FX.k x_1) : Int)))))))))∧((((1 : Nat) = 1)∧(((1 : Nat) ≤ 1)∧(((SV.v (.bool true)) = (SV.v (.bool true)))∧((zF = (SV.v (.bool (FX.br x_1))))∧((zS = zS)∧((((FX.o x_1) : Nat) = 0)∧((((FX.n x_1) : Nat) = 0)∧(((FX.c x_1) : Nat) = 0))))))))∧((((1 : Nat) = 1)∧(((1 : Nat) ≤ 1)∧(((SV.v (.bool true)) = (SV.v (.bool true)))∧((zF = (SV.v (.bool (FX.br x_1))))∧((zS = zS)∧(((0 : Nat) = 0)∧((((FX.n x_1) : Nat) = 0)∧(((FX.cr x_1) : Nat) = 0))))))))∧(((((FX.N x_1) : Nat) = 0)∧((((FX.ex x_1) : Nat) = 0)∧True))∧(((((FX.n x_1) : Nat) = 0)∧((((FX.er x_1) : Nat) = 0)∧True))∧True)))))))∧((∀ x_1 : FX,(((((FX.k x_1) : Nat) ≤ n)∧(((FX.br x_1 = true)→(((FX.n x_1) : Nat) = 0))∧((((FX.N x_1) : Nat) < 70368744177664)∧(((((FX.o x_1 + FX.n x_1) : Nat) ≤ (FX.N x_1))∧((((FX.n x_1) : Nat) ≤ (FX.c x_1))∧(((FX.o x_1 + FX.c x_1) : Nat) ≤ (FX.ex x_1))))∧(((((FX.n x_1) : Nat) ≤ (FX.cr x_1))∧(((FX.cr x_1) : Nat) ≤ (FX.er x_1)))∧((((FX.n x_1) : Nat) ≤ (4000 * FX.k x_1))∧((bytesIn (FX.n x_1) (shG (FX.o x_1) (FX.g x_1)))∧(atK (shG (FX.o x_1) (FX.g x_1)) (FX.n x_1) 0))))))))→(sel (decide ((↑(FX.k x_1) : Int) < (↑n : Int))) (sel ((↑(FX.k x_1) : Int) == at') (((bytesOk (FX.n x_1) (FX.er x_1) {elem:=5,size:=1,rw:=true,lock:=false,lit:=false,flat:=true,n:=FX.n x_1,row:=fun i => [SV.v (.int .u8 (shG (FX.o x_1) (FX.g x_1) i))],ext:=FX.er x_1})∧((((0 + FX.n x_1) : Nat) ≤ (FX.n x_1))∧(((FX.n x_1) : Nat) ≤ 1099511627776)))∧(∀ c_1 : Nat,(((bytesOk (FX.N x_1) (FX.ex x_1) {elem:=5,size:=1,rw:=true,lock:=false,lit:=false,flat:=true,n:=FX.N x_1,row:=fun i => [SV.v (.int .u8 (FX.g x_1 i))],ext:=FX.ex x_1})∧((((FX.o x_1 + FX.n x_1) : Nat) ≤ (FX.N x_1))∧(((FX.n x_1) : Nat) ≤ 1099511627776)))∧(∀ c_2 : Nat,((((0 : Int) ≤ ((↑(FX.k x_1) : Int)))∧((((↑(FX.k x_1) : Int)) : Int) < ((↑n : Int))))∧((((((0 + Ln (0 + Int.toNat (↑(FX.k x_1) : Int) + 4096)) * 1) : Nat) ≤ 140737488355328)∧(((0 : Nat) ≤ 0)∧(∀ y : Nat,(((y : Nat) < (Ln (0 + Int.toNat (↑(FX.k x_1) : Int) + 4096)))→True))))∧(∀ c_3 : Nat,(((((((0 + Ln (0 + Int.toNat (↑(FX.k x_1) : Int) + 4096)) : Nat) = (0 + Ln (0 + Int.toNat (↑(FX.k x_1) : Int) + 4096)))∧(∀ i : Nat,(((i : Nat) < (0 + Ln (0 + Int.toNat (↑(FX.k x_1) : Int) + 4096)))→True)))∧((bytesOk (FX.n x_1) (FX.n x_1 + c_2) {elem:=5,size:=1,rw:=true,lock:=false,lit:=false,flat:=true,n:=FX.n x_1,row:=fun i => [SV.v (.int .u8 (shG (FX.o x_1) (fun i => SE.byteOf [SV.v (.int .u8 (FX.g x_1 i))]) i))],ext:=FX.n x_1 + c_2})∧(((0 + (FX.n x_1 + c_2)) : Nat) ≤ (FX.n x_1 + c_2))))∧(gvP (jnG (FX.n x_1) 0 (fun i => SE.byteOf [SV.v (.int .u8 (shG (FX.o x_1) (fun i => SE.byteOf [SV.v (.int .u8 (FX.g x_1 i))]) i))]) fun i => SE.byteOf [SV.v (.int .u8 (Gn (0 + Int.toNat (↑(FX.k x_1) : Int) + 4096) (0 + (0 + i - 0))))]) (FX.n x_1 + (0 + Ln (0 + Int.toNat (↑(FX.k x_1) : Int) + 4096)))))∧(∀ c_4 : (GW (gwRel (FX.br x_1) 0 (FX.n x_1) (FX.n x_1 + c_2) (FX.n x_1) (fun i => SE.byteOf [SV.v (.int .u8 (shG (FX.o x_1) (fun i => SE.byteOf [SV.v (.int .u8 (FX.g x_1 i))]) i))]) (FX.n x_1 + c_2) (jnG (FX.n x_1) 0 (fun i => SE.byteOf [SV.v (.int .u8 (shG (FX.o x_1) (fun i => SE.byteOf [SV.v (.int .u8 (FX.g x_1 i))]) i))]) fun i => SE.byteOf [SV.v (.int .u8 (Gn (0 + Int.toNat (↑(FX.k x_1) : Int) + 4096) (0 + (0 + i - 0))))]) (FX.n x_1 + (0 + Ln (0 + Int.toNat (↑(FX.k x_1) : Int) + 4096))))),((((0 : Int) ≤ ((↑(FX.k x_1) : Int)))∧((((↑(FX.k x_1) : Int)) : Int) < ((↑n : Int))))∧(((((((Ln (0 + Int.toNat (↑(FX.k x_1) : Int) + 4096)) : Nat) = (Ln (0 + Int.toNat (↑(FX.k x_1) : Int) + 4096)))∧(∀ i : Nat,(((i : Nat) < (Ln (0 + Int.toNat (↑(FX.k x_1) : Int) + 4096)))→True)))∧((bytesOk (FX.n x_1) (FX.er x_1) {elem:=5,size:=1,rw:=true,lock:=false,lit:=false,flat:=true,n:=FX.n x_1,row:=fun i => [SV.v (.int .u8 ((fun i => SE.byteOf [SV.v (.int .u8 (shG (FX.o x_1) (FX.g x_1) i))]) i))],ext:=FX.er x_1})∧((((0 : Nat) = 0)∧(((FX.n x_1) : Nat) = (FX.n x_1)))∧((((FX.n x_1) : Nat) ≤ (FX.cr x_1))∧(((FX.cr x_1) : Nat) ≤ (FX.er x_1))))))∧((gvP (jnG (FX.n x_1) 0 (fun i => SE.byteOf [SV.v (.int .u8 ((fun i => SE.byteOf [SV.v (.int .u8 (shG (FX.o x_1) (FX.g x_1) i))]) i))]) fun i => SE.byteOf [SV.v (.int .u8 (Gn (0 + Int.toNat (↑(FX.k x_1) : Int) + 4096) (0 + i)))]) (FX.n x_1 + Ln (0 + Int.toNat (↑(FX.k x_1) : Int) + 4096)))∧(atK (jnG (FX.n x_1) 0 (fun i => SE.byteOf [SV.v (.int .u8 ((fun i => SE.byteOf [SV.v (.int .u8 (shG (FX.o x_1) (FX.g x_1) i))]) i))]) fun i => SE.byteOf [SV.v (.int .u8 (Gn (0 + Int.toNat (↑(FX.k x_1) : Int) + 4096) (0 + i)))]) (FX.n x_1) 0)))∧(∀ c_5 : (GW (grRel (FX.br x_1) 0 (FX.n x_1) (FX.cr x_1) (FX.n x_1) (fun i => SE.byteOf [SV.v (.int .u8 ((fun i => SE.byteOf [SV.v (.int .u8 (shG (FX.o x_1) (FX.g x_1) i))]) i))]) (FX.er x_1) (jnG (FX.n x_1) 0 (fun i => SE.byteOf [SV.v (.int .u8 ((fun i => SE.byteOf [SV.v (.int .u8 (shG (FX.o x_1) (FX.g x_1) i))]) i))]) fun i => SE.byteOf [SV.v (.int .u8 (Gn (0 + Int.toNat (↑(FX.k x_1) : Int) + 4096) (0 + i)))]) (FX.n x_1 + Ln (0 + Int.toNat (↑(FX.k x_1) : Int) + 4096)))),((((((GR.k (GW.r c_4)) : Nat) = (GR.k (GW.r c_4)))∧((((GR.k (GW.r c_5)) : Nat) = (GR.k (GW.r c_5)))∧(((GR.k (GW.r c_4)) : Nat) < 4611686018427387904)))∧((∀ i : Nat,(((i : Nat) < (GR.k (GW.r c_4)))→(isStrR [SV.v (.string (GR.S (GW.r c_4) (0 + i)))])))∧(∀ i : Nat,(((i : Nat) < (GR.k (GW.r c_5)))→(isStrR [SV.v (.string (GR.S (GW.r c_5) (0 + i)))])))))∧(sel (!sameStr (GR.k (GW.r c_4)) (GR.k (GW.r c_5)) (fun i => strRow [SV.v (.string (GR.S (GW.r c_4) (0 + i)))]) fun i => strRow [SV.v (.string (GR.S (GW.r c_5) (0 + i)))]) (zF = (SV.v (.bool true))) (sel (GR.err (GW.r c_4) != GR.err (GW.r c_5)) (zF = (SV.v (.bool true))) ((bytesOk (GR.N (GW.r c_4)) (GR.e (GW.r c_4)) {elem:=5,size:=1,rw:=true,lock:=false,lit:=false,flat:=true,n:=GR.N (GW.r c_4),row:=fun i => [SV.v (.int .u8 (GR.g (GW.r c_4) i))],ext:=GR.e (GW.r c_4)})∧((bytesOk (GR.N (GW.r c_5)) (GR.e (GW.r c_5)) {elem:=5,size:=1,rw:=true,lock:=false,lit:=false,flat:=true,n:=GR.N (GW.r c_5),row:=fun i => [SV.v (.int .u8 (GR.g (GW.r c_5) i))],ext:=GR.e (GW.r c_5)})∧(sel ((↑(GR.n (GW.r c_4)) : Int) != (↑(GR.n (GW.r c_5)) : Int)) (zF = (SV.v (.bool true))) ((bytesOk (GR.N (GW.r c_4)) (GR.e (GW.r c_4)) {elem:=5,size:=1,rw:=true,lock:=false,lit:=false,flat:=true,n:=GR.N (GW.r c_4),row:=fun i => [SV.v (.int .u8 ((fun i => SE.byteOf [SV.v (.int .u8 (GR.g (GW.r c_4) i))]) i))],ext:=GR.e (GW.r c_4)})∧((bytesOk (GR.N (GW.r c_5)) (GR.e (GW.r c_5)) {elem:=5,size:=1,rw:=true,lock:=false,lit:=false,flat:=true,n:=GR.N (GW.r c_5),row:=fun i => [SV.v (.int .u8 ((fun i => SE.byteOf [SV.v (.int .u8 (GR.g (GW.r c_5) i))]) i))],ext:=GR.e (GW.r c_5)})∧(sel (!(true&&GR.br (GW.r c_4)) == (true&&GR.br (GW.r c_5))) (zF = (SV.v (.bool true))) ((∀ y : Nat,(((y : Nat) < (0 + Ln (0 + Int.toNat (↑(FX.k x_1) : Int) + 4096)))→True))∧((((0 : Int) ≤ ((↑(FX.k x_1) : Int)))∧((((↑(FX.k x_1) : Int)) : Int) < ((↑n : Int))))∧((∀ y : Nat,(((y : Nat) < (Ln (0 + Int.toNat (↑(FX.k x_1) : Int) + 4096)))→True))∧(sel (!(strOf (0 + Ln (0 + Int.toNat (↑(FX.k x_1) : Int) + 4096)) fun y => [SV.v (.int .u8 (Gn (0 + Int.toNat (↑(FX.k x_1) : Int) + 4096) (0 + (0 + y - 0))))]) == strOf (Ln (0 + Int.toNat (↑(FX.k x_1) : Int) + 4096)) fun y => [SV.v (.int .u8 (Gn (0 + Int.toNat (↑(FX.k x_1) : Int) + 4096) (0 + y)))]) (zF = (SV.v (.bool true))) ((∃ x_2 : IX,(((Nat.le (IX.j x_2) (IX.n x_2))∧((((0 + Ln (0 + Int.toNat (↑(FX.k x_1) : Int) + 4096)) : Nat) = (IX.n x_2))∧(((0 + Ln (0 + Int.toNat (↑(FX.k x_1) : Int) + 4096) + c_3) : Nat) = (IX.e x_2))))∧((zI = (SV.v (.int .i64 ((↑(IX.j x_2) : Int)))))∧((((0 + Ln (0 + Int.toNat (↑(FX.k x_1) : Int) + 4096)) : Nat) = (IX.n x_2))∧((((IX.e x_2) : Nat) ≤ (0 + Ln (0 + Int.toNat (↑(FX.k x_1) : Int) + 4096) + c_3))∧(∀ i : Nat,(((i : Nat) < (IX.n x_2))→([(SV.v (.int .u8 (Gn (0 + Int.toNat (↑(FX.k x_1) : Int) + 4096) (0 + (i - 0)))))] = [(SV.v (.int .u8 (IX.f x_2 i)))]))))))))∧(∀ x_2 : IX,(((Nat.le (IX.j x_2) (IX.n x_2))∧((((0 + Ln (0 + Int.toNat (↑(FX.k x_1) : Int) + 4096)) : Nat) = (IX.n x_2))∧(((0 + Ln (0 + Int.toNat (↑(FX.k x_1) : Int) + 4096) + c_3) : Nat) = (IX.e x_2))))→(sel (decide ((↑(IX.j x_2) : Int) < (↑(0 + Ln (0 + Int.toNat (↑(FX.k x_1) : Int) + 4096)) : Int))) ((((0 : Int) ≤ ((↑(IX.j x_2) : Int)))∧((((↑(IX.j x_2) : Int)) : Int) < ((↑(0 + Ln (0 + Int.toNat (↑(FX.k x_1) : Int) + 4096)) : Int))))∧(∃ x' : IX,((((Nat.le (IX.j x') (IX.n x'))∧((((0 + Ln (0 + Int.toNat (↑(FX.k x_1) : Int) + 4096)) : Nat) = (IX.n x'))∧(((0 + Ln (0 + Int.toNat (↑(FX.k x_1) : Int) + 4096) + c_3) : Nat) = (IX.e x'))))∧(((SV.v (.int .i64 (IntKind.wrap IntKind.i64 ((↑(IX.j x_2) : Int) + 1)))) = (SV.v (.int .i64 ((↑(IX.j x') : Int)))))∧((((IX.n x_2) : Nat) = (IX.n x'))∧((((IX.e x') : Nat) ≤ (IX.e x_2))∧(∀ i : Nat,(((i : Nat) < (IX.n x'))→([(SV.v (.int .u8 (bop (Nat.beq i (0 + Int.toNat (↑(IX.j x_2) : Int))) 7 (IX.f x_2 i))))] = [(SV.v (.int .u8 (IX.f x' i)))])))))))∧(((IX.n x' - IX.j x') : Nat) < (IX.n x_2 - IX.j x_2))))) ((∃ x' : FX,((((((FX.k x') : Nat) ≤ n)∧(((FX.br x' = true)→(((FX.n x') : Nat) = 0))∧((((FX.N x') : Nat) < 70368744177664)∧(((((FX.o x' + FX.n x') : Nat) ≤ (FX.N x'))∧((((FX.n x') : Nat) ≤ (FX.c x'))∧(((FX.o x' + FX.c x') : Nat) ≤ (FX.ex x'))))∧(((((FX.n x') : Nat) ≤ (FX.cr x'))∧(((FX.cr x') : Nat) ≤ (FX.er x')))∧((((FX.n x') : Nat) ≤ (4000 * FX.k x'))∧((bytesIn (FX.n x') (shG (FX.o x') (FX.g x')))∧(atK (shG (FX.o x') (FX.g x')) (FX.n x') 0))))))))∧((((SV.vp 464 0) = (SV.vp 280 0))∧(((SV.vp 288 0) = (SV.vp 288 0))∧(((SV.vp 280 0) = (SV.v (Value.pointer none)))∧(((SV.vp 432 0) = (SV.v (Value.pointer none)))∧((SV.v (.int .i64 (IntKind.wrap IntKind.i64 ((↑(FX.k x_1) : Int) + 1)))) = (SV.v (.int .i64 ((↑(FX.k x') : Int)))))))))∧((((1 : Nat) = 1)∧(((1 : Nat) ≤ 1)∧(((SV.v (.bool true)) = (SV.v (.bool true)))∧(((SV.v (.bool (FX.br x_1))) = (SV.v (.bool (FX.br x'))))∧((SV.sl 41 1 (FX.o x_1) (FX.n x_1) (FX.c x_1)) = (SV.sl 41 1 (FX.o x') (FX.n x') (FX.c x')))))))∧((((1 : Nat) = 1)∧(((1 : Nat) ≤ 1)∧(((SV.v (.bool true)) = (SV.v (.bool true)))∧(((SV.v (.bool (GR.br (GW.r c_5)))) = (SV.v (.bool (FX.br x'))))∧((SV.sl 704 1 0 (GR.n (GW.r c_5)) (GR.c (GW.r c_5))) = (SV.sl 704 1 0 (FX.n x') (FX.cr x')))))))∧(((((FX.N x_1) : Nat) = (FX.N x'))∧((((FX.ex x') : Nat) ≤ (FX.ex x_1))∧(∀ i : Nat,(((i : Nat) < (FX.N x'))→([(SV.v (.int .u8 (SE.byteOf [SV.v (.int .u8 (FX.g x_1 i))])))] = [(SV.v (.int .u8 (FX.g x' i)))])))))∧((((GR.N (GW.r c_5)) : Nat) = (FX.n x'))∧((((FX.er x') : Nat) ≤ (GR.e (GW.r c_5)))∧(∀ i : Nat,(((i : Nat) < (FX.n x'))→([(SV.v (.int .u8 (SE.byteOf [SV.v (.int .u8 ((fun i => SE.byteOf [SV.v (.int .u8 (GR.g (GW.r c_5) i))]) i))])))] = [(SV.v (.int .u8 (shG (FX.o x') (FX.g x') i)))]))))))))))∧(((n - FX.k x') : Nat) < (n - FX.k x_1)))) ∨ (∃ x' : LX,((((fxI n (LX.x x'))∧(((at' : Int) < ((↑(FX.k (LX.x x')) : Int)))∧((((LX.Nl x') : Nat) < 70368744177664)∧(((LX.nl x') : Nat) < 70368744177664))))∧((((SV.vp 464 0) = (SV.vp 464 0))∧(((SV.vp 288 0) = (SV.vp 288 0))∧(((SV.vp 280 0) = (SV.vp 280 0))∧(((SV.vp 432 0) = (SV.vp 432 0))∧((SV.v (.int .i64 (IntKind.wrap IntKind.i64 ((↑(FX.k x_1) : Int) + 1)))) = (SV.v (.int .i64 ((↑(FX.k (LX.x x')) : Int)))))))))∧((((1 : Nat) = 1)∧(((1 : Nat) ≤ 1)∧(((SV.v (.bool true)) = (SV.v (.bool true)))∧(((SV.v (.bool (FX.br x_1))) = (SV.v (.bool (LX.bl x'))))∧((SV.sl 41 1 (FX.o x_1) (FX.n x_1) (FX.c x_1)) = (SV.sl 41 1 (LX.ol x') (LX.nl x') (LX.cl x')))))))∧((((1 : Nat) = 1)∧(((1 : Nat) ≤ 1)∧(((SV.v (.bool true)) = (SV.v (.bool true)))∧(((SV.v (.bool (GR.br (GW.r c_5)))) = (SV.v (.bool (FX.br (LX.x x')))))∧((SV.sl 704 1 0 (GR.n (GW.r c_5)) (GR.c (GW.r c_5))) = (SV.sl 704 1 0 (FX.n (LX.x x')) (FX.cr (LX.x x'))))))))∧((((1 : Nat) = 1)∧(((1 : Nat) ≤ 1)∧(((SV.v (.bool true)) = (SV.v (.bool true)))∧(((SV.v (.bool (GR.br (GW.r c_4)))) = (SV.v (.bool (FX.br (LX.x x')))))∧((SV.sl 616 1 (GR.o (GW.r c_4)) (GR.n (GW.r c_4)) (GR.c (GW.r c_4))) = (SV.sl 616 1 (FX.o (LX.x x')) (FX.n (LX.x x')) (FX.c (LX.x x'))))))))∧(((((GR.N (GW.r c_4)) : Nat) = (FX.N (LX.x x')))∧((((FX.ex (LX.x x')) : Nat) ≤ (GR.e (GW.r c_4)))∧(∀ i : Nat,(((i : Nat) < (FX.N (LX.x x')))→([(SV.v (.int .u8 (SE.byteOf [SV.v (.int .u8 ((fun i => SE.byteOf [SV.v (.int .u8 (GR.g (GW.r c_4) i))]) i))])))] = [(SV.v (.int .u8 (FX.g (LX.x x') i)))])))))∧(((((GR.N (GW.r c_5)) : Nat) = (FX.n (LX.x x')))∧((((FX.er (LX.x x')) : Nat) ≤ (GR.e (GW.r c_5)))∧(∀ i : Nat,(((i : Nat) < (FX.n (LX.x x')))→([(SV.v (.int .u8 (SE.byteOf [SV.v (.int .u8 ((fun i => SE.byteOf [SV.v (.int .u8 (GR.g (GW.r c_5) i))]) i))])))] = [(SV.v (.int .u8 (shG (FX.o (LX.x x')) (FX.g (LX.x x')) i)))])))))∧((((1 : Nat) = 1)∧(((1 : Nat) ≤ 1)∧(((SV.v (.bool true)) = (SV.v (.bool true)))∧(((SV.v (.bool (FX.br x_1))) = (SV.v (.bool (LX.bl x'))))∧((SV.sl 433 1 0 (FX.n x_1) (FX.n x_1 + c_1)) = (SV.sl 433 1 0 (LX.nl x') (LX.cw x')))))))∧(((((FX.N x_1) : Nat) = (LX.Nl x'))∧((((LX.el x') : Nat) ≤ (FX.ex x_1))∧(∀ i : Nat,(((i : Nat) < (LX.Nl x'))→([(SV.v (.int .u8 (SE.byteOf [SV.v (.int .u8 (FX.g x_1 i))])))] = [(SV.v (.int .u8 (LX.gl x' i)))])))))∧((((FX.n x_1) : Nat) = (LX.nl x'))∧((((LX.ew x') : Nat) ≤ (FX.n x_1 + c_1))∧(∀ i : Nat,(((i : Nat) < (LX.nl x'))→([(SV.v (.int .u8 (shG 0 (fun i => SE.byteOf [SV.v (.int .u8 (shG (FX.o x_1) (FX.g x_1) i))]) i)))] = [(SV.v (.int .u8 (LX.gw x' i)))]))))))))))))))∧(((n - FX.k (LX.x x')) : Nat) < (n - FX.k x_1)))))))))))))))))))))))))))))))))) ((((0 : Int) ≤ ((↑(FX.k x_1) : Int)))∧((((↑(FX.k x_1) : Int)) : Int) < ((↑n : Int))))∧((((((0 + Ln (0 + Int.toNat (↑(FX.k x_1) : Int) + 4096)) * 1) : Nat) ≤ 140737488355328)∧(((0 : Nat) ≤ 0)∧(∀ y : Nat,(((y : Nat) < (Ln (0 + Int.toNat (↑(FX.k x_1) : Int) + 4096)))→True))))∧(∀ c_1 : Nat,(((((((0 + Ln (0 + Int.toNat (↑(FX.k x_1) : Int) + 4096)) : Nat) = (0 + Ln (0 + Int.toNat (↑(FX.k x_1) : Int) + 4096)))∧(∀ i : Nat,(((i : Nat) < (0 + Ln (0 + Int.toNat (↑(FX.k x_1) : Int) + 4096)))→True)))∧((bytesOk (FX.N x_1) (FX.ex x_1) {elem:=5,size:=1,rw:=true,lock:=false,lit:=false,flat:=true,n:=FX.N x_1,row:=fun i => [SV.v (.int .u8 (FX.g x_1 i))],ext:=FX.ex x_1})∧(((FX.o x_1 + FX.c x_1) : Nat) ≤ (FX.ex x_1))))∧(gvP (jnG (FX.n x_1) (FX.o x_1) (fun i => SE.byteOf [SV.v (.int .u8 (FX.g x_1 i))]) fun i => SE.byteOf [SV.v (.int .u8 (Gn (0 + Int.toNat (↑(FX.k x_1) : Int) + 4096) (0 + (0 + i - 0))))]) (FX.n x_1 + (0 + Ln (0 + Int.toNat (↑(FX.k x_1) : Int) + 4096)))))∧(∀ c_2 : (GW (gwRel (FX.br x_1) (FX.o x_1) (FX.n x_1) (FX.c x_1) (FX.N x_1) (fun i => SE.byteOf [SV.v (.int .u8 (FX.g x_1 i))]) (FX.ex x_1) (jnG (FX.n x_1) (FX.o x_1) (fun i => SE.byteOf [SV.v (.int .u8 (FX.g x_1 i))]) fun i => SE.byteOf [SV.v (.int .u8 (Gn (0 + Int.toNat (↑(FX.k x_1) : Int) + 4096) (0 + (0 + i - 0))))]) (FX.n x_1 + (0 + Ln (0 + Int.toNat (↑(FX.k x_1) : Int) + 4096))))),((((0 : Int) ≤ ((↑(FX.k x_1) : Int)))∧((((↑(FX.k x_1) : Int)) : Int) < ((↑n : Int))))∧(((((((Ln (0 + Int.toNat (↑(FX.k x_1) : Int) + 4096)) : Nat) = (Ln (0 + Int.toNat (↑(FX.k x_1) : Int) + 4096)))∧(∀ i : Nat,(((i : Nat) < (Ln (0 + Int.toNat (↑(FX.k x_1) : Int) + 4096)))→True)))∧((bytesOk (FX.n x_1) (FX.er x_1) {elem:=5,size:=1,rw:=true,lock:=false,lit:=false,flat:=true,n:=FX.n x_1,row:=fun i => [SV.v (.int .u8 (shG (FX.o x_1) (FX.g x_1) i))],ext:=FX.er x_1})∧((((0 : Nat) = 0)∧(((FX.n x_1) : Nat) = (FX.n x_1)))∧((((FX.n x_1) : Nat) ≤ (FX.cr x_1))∧(((FX.cr x_1) : Nat) ≤ (FX.er x_1))))))∧((gvP (jnG (FX.n x_1) 0 (fun i => SE.byteOf [SV.v (.int .u8 (shG (FX.o x_1) (FX.g x_1) i))]) fun i => SE.byteOf [SV.v (.int .u8 (Gn (0 + Int.toNat (↑(FX.k x_1) : Int) + 4096) (0 + i)))]) (FX.n x_1 + Ln (0 + Int.toNat (↑(FX.k x_1) : Int) + 4096)))∧(atK (jnG (FX.n x_1) 0 (fun i => SE.byteOf [SV.v (.int .u8 (shG (FX.o x_1) (FX.g x_1) i))]) fun i => SE.byteOf [SV.v (.int .u8 (Gn (0 + Int.toNat (↑(FX.k x_1) : Int) + 4096) (0 + i)))]) (FX.n x_1) 0)))∧(∀ c_3 : (GW (grRel (FX.br x_1) 0 (FX.n x_1) (FX.cr x_1) (FX.n x_1) (fun i => SE.byteOf [SV.v (.int .u8 (shG (FX.o x_1) (FX.g x_1) i))]) (FX.er x_1) (jnG (FX.n x_1) 0 (fun i => SE.byteOf [SV.v (.int .u8 (shG (FX.o x_1) (FX.g x_1) i))]) fun i => SE.byteOf [SV.v (.int .u8 (Gn (0 + Int.toNat (↑(FX.k x_1) : Int) + 4096) (0 + i)))]) (FX.n x_1 + Ln (0 + Int.toNat (↑(FX.k x_1) : Int) + 4096)))),((((((GR.k (GW.r c_2)) : Nat) = (GR.k (GW.r c_2)))∧((((GR.k (GW.r c_3)) : Nat) = (GR.k (GW.r c_3)))∧(((GR.k (GW.r c_2)) : Nat) < 4611686018427387904)))∧((∀ i : Nat,(((i : Nat) < (GR.k (GW.r c_2)))→(isStrR [SV.v (.string (GR.S (GW.r c_2) (0 + i)))])))∧(∀ i : Nat,(((i : Nat) < (GR.k (GW.r c_3)))→(isStrR [SV.v (.string (GR.S (GW.r c_3) (0 + i)))])))))∧(sel (!sameStr (GR.k (GW.r c_2)) (GR.k (GW.r c_3)) (fun i => strRow [SV.v (.string (GR.S (GW.r c_2) (0 + i)))]) fun i => strRow [SV.v (.string (GR.S (GW.r c_3) (0 + i)))]) (zF = (SV.v (.bool true))) (sel (GR.err (GW.r c_2) != GR.err (GW.r c_3)) (zF = (SV.v (.bool true))) ((bytesOk (GR.N (GW.r c_2)) (GR.e (GW.r c_2)) {elem:=5,size:=1,rw:=true,lock:=false,lit:=false,flat:=true,n:=GR.N (GW.r c_2),row:=fun i => [SV.v (.int .u8 (GR.g (GW.r c_2) i))],ext:=GR.e (GW.r c_2)})∧((bytesOk (GR.N (GW.r c_3)) (GR.e (GW.r c_3)) {elem:=5,size:=1,rw:=true,lock:=false,lit:=false,flat:=true,n:=GR.N (GW.r c_3),row:=fun i => [SV.v (.int .u8 (GR.g (GW.r c_3) i))],ext:=GR.e (GW.r c_3)})∧(sel ((↑(GR.n (GW.r c_2)) : Int) != (↑(GR.n (GW.r c_3)) : Int)) (zF = (SV.v (.bool true))) ((bytesOk (GR.N (GW.r c_2)) (GR.e (GW.r c_2)) {elem:=5,size:=1,rw:=true,lock:=false,lit:=false,flat:=true,n:=GR.N (GW.r c_2),row:=fun i => [SV.v (.int .u8 ((fun i => SE.byteOf [SV.v (.int .u8 (GR.g (GW.r c_2) i))]) i))],ext:=GR.e (GW.r c_2)})∧((bytesOk (GR.N (GW.r c_3)) (GR.e (GW.r c_3)) {elem:=5,size:=1,rw:=true,lock:=false,lit:=false,flat:=true,n:=GR.N (GW.r c_3),row:=fun i => [SV.v (.int .u8 ((fun i => SE.byteOf [SV.v (.int .u8 (GR.g (GW.r c_3) i))]) i))],ext:=GR.e (GW.r c_3)})∧(sel (!(true&&GR.br (GW.r c_2)) == (true&&GR.br (GW.r c_3))) (zF = (SV.v (.bool true))) ((∀ y : Nat,(((y : Nat) < (0 + Ln (0 + Int.toNat (↑(FX.k x_1) : Int) + 4096)))→True))∧((((0 : Int) ≤ ((↑(FX.k x_1) : Int)))∧((((↑(FX.k x_1) : Int)) : Int) < ((↑n : Int))))∧((∀ y : Nat,(((y : Nat) < (Ln (0 + Int.toNat (↑(FX.k x_1) : Int) + 4096)))→True))∧(sel (!(strOf (0 + Ln (0 + Int.toNat (↑(FX.k x_1) : Int) + 4096)) fun y => [SV.v (.int .u8 (Gn (0 + Int.toNat (↑(FX.k x_1) : Int) + 4096) (0 + (0 + y - 0))))]) == strOf (Ln (0 + Int.toNat (↑(FX.k x_1) : Int) + 4096)) fun y => [SV.v (.int .u8 (Gn (0 + Int.toNat (↑(FX.k x_1) : Int) + 4096) (0 + y)))]) (zF = (SV.v (.bool true))) ((∃ x_2 : IX,(((Nat.le (IX.j x_2) (IX.n x_2))∧((((0 + Ln (0 + Int.toNat (↑(FX.k x_1) : Int) + 4096)) : Nat) = (IX.n x_2))∧(((0 + Ln (0 + Int.toNat (↑(FX.k x_1) : Int) + 4096) + c_1) : Nat) = (IX.e x_2))))∧((zI = (SV.v (.int .i64 ((↑(IX.j x_2) : Int)))))∧((((0 + Ln (0 + Int.toNat (↑(FX.k x_1) : Int) + 4096)) : Nat) = (IX.n x_2))∧((((IX.e x_2) : Nat) ≤ (0 + Ln (0 + Int.toNat (↑(FX.k x_1) : Int) + 4096) + c_1))∧(∀ i : Nat,(((i : Nat) < (IX.n x_2))→([(SV.v (.int .u8 (Gn (0 + Int.toNat (↑(FX.k x_1) : Int) + 4096) (0 + (i - 0)))))] = [(SV.v (.int .u8 (IX.f x_2 i)))]))))))))∧(∀ x_2 : IX,(((Nat.le (IX.j x_2) (IX.n x_2))∧((((0 + Ln (0 + Int.toNat (↑(FX.k x_1) : Int) + 4096)) : Nat) = (IX.n x_2))∧(((0 + Ln (0 + Int.toNat (↑(FX.k x_1) : Int) + 4096) + c_1) : Nat) = (IX.e x_2))))→(sel (decide ((↑(IX.j x_2) : Int) < (↑(0 + Ln (0 + Int.toNat (↑(FX.k x_1) : Int) + 4096)) : Int))) ((((0 : Int) ≤ ((↑(IX.j x_2) : Int)))∧((((↑(IX.j x_2) : Int)) : Int) < ((↑(0 + Ln (0 + Int.toNat (↑(FX.k x_1) : Int) + 4096)) : Int))))∧(∃ x' : IX,((((Nat.le (IX.j x') (IX.n x'))∧((((0 + Ln (0 + Int.toNat (↑(FX.k x_1) : Int) + 4096)) : Nat) = (IX.n x'))∧(((0 + Ln (0 + Int.toNat (↑(FX.k x_1) : Int) + 4096) + c_1) : Nat) = (IX.e x'))))∧(((SV.v (.int .i64 (IntKind.wrap IntKind.i64 ((↑(IX.j x_2) : Int) + 1)))) = (SV.v (.int .i64 ((↑(IX.j x') : Int)))))∧((((IX.n x_2) : Nat) = (IX.n x'))∧((((IX.e x') : Nat) ≤ (IX.e x_2))∧(∀ i : Nat,(((i : Nat) < (IX.n x'))→([(SV.v (.int .u8 (bop (Nat.beq i (0 + Int.toNat (↑(IX.j x_2) : Int))) 7 (IX.f x_2 i))))] = [(SV.v (.int .u8 (IX.f x' i)))])))))))∧(((IX.n x' - IX.j x') : Nat) < (IX.n x_2 - IX.j x_2))))) ((∃ x' : FX,((((((FX.k x') : Nat) ≤ n)∧(((FX.br x' = true)→(((FX.n x') : Nat) = 0))∧((((FX.N x') : Nat) < 70368744177664)∧(((((FX.o x' + FX.n x') : Nat) ≤ (FX.N x'))∧((((FX.n x') : Nat) ≤ (FX.c x'))∧(((FX.o x' + FX.c x') : Nat) ≤ (FX.ex x'))))∧(((((FX.n x') : Nat) ≤ (FX.cr x'))∧(((FX.cr x') : Nat) ≤ (FX.er x')))∧((((FX.n x') : Nat) ≤ (4000 * FX.k x'))∧((bytesIn (FX.n x') (shG (FX.o x') (FX.g x')))∧(atK (shG (FX.o x') (FX.g x')) (FX.n x') 0))))))))∧((((SV.vp 280 0) = (SV.vp 280 0))∧(((SV.vp 288 0) = (SV.vp 288 0))∧(((SV.v (Value.pointer none)) = (SV.v (Value.pointer none)))∧(((SV.v (Value.pointer none)) = (SV.v (Value.pointer none)))∧((SV.v (.int .i64 (IntKind.wrap IntKind.i64 ((↑(FX.k x_1) : Int) + 1)))) = (SV.v (.int .i64 ((↑(FX.k x') : Int)))))))))∧((((1 : Nat) = 1)∧(((1 : Nat) ≤ 1)∧(((SV.v (.bool true)) = (SV.v (.bool true)))∧(((SV.v (.bool (GR.br (GW.r c_2)))) = (SV.v (.bool (FX.br x'))))∧((SV.sl 616 1 (GR.o (GW.r c_2)) (GR.n (GW.r c_2)) (GR.c (GW.r c_2))) = (SV.sl 616 1 (FX.o x') (FX.n x') (FX.c x')))))))∧((((1 : Nat) = 1)∧(((1 : Nat) ≤ 1)∧(((SV.v (.bool true)) = (SV.v (.bool true)))∧(((SV.v (.bool (GR.br (GW.r c_3)))) = (SV.v (.bool (FX.br x'))))∧((SV.sl 704 1 0 (GR.n (GW.r c_3)) (GR.c (GW.r c_3))) = (SV.sl 704 1 0 (FX.n x') (FX.cr x')))))))∧(((((GR.N (GW.r c_2)) : Nat) = (FX.N x'))∧((((FX.ex x') : Nat) ≤ (GR.e (GW.r c_2)))∧(∀ i : Nat,(((i : Nat) < (FX.N x'))→([(SV.v (.int .u8 (SE.byteOf [SV.v (.int .u8 ((fun i => SE.byteOf [SV.v (.int .u8 (GR.g (GW.r c_2) i))]) i))])))] = [(SV.v (.int .u8 (FX.g x' i)))])))))∧((((GR.N (GW.r c_3)) : Nat) = (FX.n x'))∧((((FX.er x') : Nat) ≤ (GR.e (GW.r c_3)))∧(∀ i : Nat,(((i : Nat) < (FX.n x'))→([(SV.v (.int .u8 (SE.byteOf [SV.v (.int .u8 ((fun i => SE.byteOf [SV.v (.int .u8 (GR.g (GW.r c_3) i))]) i))])))] = [(SV.v (.int .u8 (shG (FX.o x') (FX.g x') i)))]))))))))))∧(((n - FX.k x') : Nat) < (n - FX.k x_1)))) ∨ (∃ x' : LX,(False∧(((n - FX.k (LX.x x')) : Nat) < (n - FX.k x_1))))))))))))))))))))))))))))))) ((SV.v (.bool true)) = (SV.v (.bool true))))))∧(∀ x_1 : LX,(((fxI n (LX.x x_1))∧(((at' : Int) < ((↑(FX.k (LX.x x_1)) : Int)))∧((((LX.Nl x_1) : Nat) < 70368744177664)∧(((LX.nl x_1) : Nat) < 70368744177664))))→(sel (decide ((↑(FX.k (LX.x x_1)) : Int) < (↑n : Int))) (sel ((↑(FX.k (LX.x x_1)) : Int) == at') (((bytesOk (FX.n (LX.x x_1)) (FX.er (LX.x x_1)) {elem:=5,size:=1,rw:=true,lock:=false,lit:=false,flat:=true,n:=FX.n (LX.x x_1),row:=fun i => [SV.v (.int .u8 (shG (FX.o (LX.x x_1)) (FX.g (LX.x x_1)) i))],ext:=FX.er (LX.x x_1)})∧((((0 + FX.n (LX.x x_1)) : Nat) ≤ (FX.n (LX.x x_1)))∧(((FX.n (LX.x x_1)) : Nat) ≤ 1099511627776)))∧(∀ c_1 : Nat,(((bytesOk (FX.N (LX.x x_1)) (FX.ex (LX.x x_1)) {elem:=5,size:=1,rw:=true,lock:=false,lit:=false,flat:=true,n:=FX.N (LX.x x_1),row:=fun i => [SV.v (.int .u8 (FX.g (LX.x x_1) i))],ext:=FX.ex (LX.x x_1)})∧((((FX.o (LX.x x_1) + FX.n (LX.x x_1)) : Nat) ≤ (FX.N (LX.x x_1)))∧(((FX.n (LX.x x_1)) : Nat) ≤ 1099511627776)))∧(∀ c_2 : Nat,((((0 : Int) ≤ ((↑(FX.k (LX.x x_1)) : Int)))∧((((↑(FX.k (LX.x x_1)) : Int)) : Int) < ((↑n : Int))))∧((((((0 + Ln (0 + Int.toNat (↑(FX.k (LX.x x_1)) : Int) + 4096)) * 1) : Nat) ≤ 140737488355328)∧(((0 : Nat) ≤ 0)∧(∀ y : Nat,(((y : Nat) < (Ln (0 + Int.toNat (↑(FX.k (LX.x x_1)) : Int) + 4096)))→True))))∧(∀ c_3 : Nat,(((((((0 + Ln (0 + Int.toNat (↑(FX.k (LX.x x_1)) : Int) + 4096)) : Nat) = (0 + Ln (0 + Int.toNat (↑(FX.k (LX.x x_1)) : Int) + 4096)))∧(∀ i : Nat,(((i : Nat) < (0 + Ln (0 + Int.toNat (↑(FX.k (LX.x x_1)) : Int) + 4096)))→True)))∧((bytesOk (FX.n (LX.x x_1)) (FX.n (LX.x x_1) + c_2) {elem:=5,size:=1,rw:=true,lock:=false,lit:=false,flat:=true,n:=FX.n (LX.x x_1),row:=fun i => [SV.v (.int .u8 (shG (FX.o (LX.x x_1)) (fun i => SE.byteOf [SV.v (.int .u8 (FX.g (LX.x x_1) i))]) i))],ext:=FX.n (LX.x x_1) + c_2})∧(((0 + (FX.n (LX.x x_1) + c_2)) : Nat) ≤ (FX.n (LX.x x_1) + c_2))))∧(gvP (jnG (FX.n (LX.x x_1)) 0 (fun i => SE.byteOf [SV.v (.int .u8 (shG (FX.o (LX.x x_1)) (fun i => SE.byteOf [SV.v (.int .u8 (FX.g (LX.x x_1) i))]) i))]) fun i => SE.byteOf [SV.v (.int .u8 (Gn (0 + Int.toNat (↑(FX.k (LX.x x_1)) : Int) + 4096) (0 + (0 + i - 0))))]) (FX.n (LX.x x_1) + (0 + Ln (0 + Int.toNat (↑(FX.k (LX.x x_1)) : Int) + 4096)))))∧(∀ c_4 : (GW (gwRel (FX.br (LX.x x_1)) 0 (FX.n (LX.x x_1)) (FX.n (LX.x x_1) + c_2) (FX.n (LX.x x_1)) (fun i => SE.byteOf [SV.v (.int .u8 (shG (FX.o (LX.x x_1)) (fun i => SE.byteOf [SV.v (.int .u8 (FX.g (LX.x x_1) i))]) i))]) (FX.n (LX.x x_1) + c_2) (jnG (FX.n (LX.x x_1)) 0 (fun i => SE.byteOf [SV.v (.int .u8 (shG (FX.o (LX.x x_1)) (fun i => SE.byteOf [SV.v (.int .u8 (FX.g (LX.x x_1) i))]) i))]) fun i => SE.byteOf [SV.v (.int .u8 (Gn (0 + Int.toNat (↑(FX.k (LX.x x_1)) : Int) + 4096) (0 + (0 + i - 0))))]) (FX.n (LX.x x_1) + (0 + Ln (0 + Int.toNat (↑(FX.k (LX.x x_1)) : Int) + 4096))))),((((0 : Int) ≤ ((↑(FX.k (LX.x x_1)) : Int)))∧((((↑(FX.k (LX.x x_1)) : Int)) : Int) < ((↑n : Int))))∧(((((((Ln (0 + Int.toNat (↑(FX.k (LX.x x_1)) : Int) + 4096)) : Nat) = (Ln (0 + Int.toNat (↑(FX.k (LX.x x_1)) : Int) + 4096)))∧(∀ i : Nat,(((i : Nat) < (Ln (0 + Int.toNat (↑(FX.k (LX.x x_1)) : Int) + 4096)))→True)))∧((bytesOk (FX.n (LX.x x_1)) (FX.er (LX.x x_1)) {elem:=5,size:=1,rw:=true,lock:=false,lit:=false,flat:=true,n:=FX.n (LX.x x_1),row:=fun i => [SV.v (.int .u8 ((fun i => SE.byteOf [SV.v (.int .u8 (shG (FX.o (LX.x x_1)) (FX.g (LX.x x_1)) i))]) i))],ext:=FX.er (LX.x x_1)})∧((((0 : Nat) = 0)∧(((FX.n (LX.x x_1)) : Nat) = (FX.n (LX.x x_1))))∧((((FX.n (LX.x x_1)) : Nat) ≤ (FX.cr (LX.x x_1)))∧(((FX.cr (LX.x x_1)) : Nat) ≤ (FX.er (LX.x x_1)))))))∧((gvP (jnG (FX.n (LX.x x_1)) 0 (fun i => SE.byteOf [SV.v (.int .u8 ((fun i => SE.byteOf [SV.v (.int .u8 (shG (FX.o (LX.x x_1)) (FX.g (LX.x x_1)) i))]) i))]) fun i => SE.byteOf [SV.v (.int .u8 (Gn (0 + Int.toNat (↑(FX.k (LX.x x_1)) : Int) + 4096) (0 + i)))]) (FX.n (LX.x x_1) + Ln (0 + Int.toNat (↑(FX.k (LX.x x_1)) : Int) + 4096)))∧(atK (jnG (FX.n (LX.x x_1)) 0 (fun i => SE.byteOf [SV.v (.int .u8 ((fun i => SE.byteOf [SV.v (.int .u8 (shG (FX.o (LX.x x_1)) (FX.g (LX.x x_1)) i))]) i))]) fun i => SE.byteOf [SV.v (.int .u8 (Gn (0 + Int.toNat (↑(FX.k (LX.x x_1)) : Int) + 4096) (0 + i)))]) (FX.n (LX.x x_1)) 0)))∧(∀ c_5 : (GW (grRel (FX.br (LX.x x_1)) 0 (FX.n (LX.x x_1)) (FX.cr (LX.x x_1)) (FX.n (LX.x x_1)) (fun i => SE.byteOf [SV.v (.int .u8 ((fun i => SE.byteOf [SV.v (.int .u8 (shG (FX.o (LX.x x_1)) (FX.g (LX.x x_1)) i))]) i))]) (FX.er (LX.x x_1)) (jnG (FX.n (LX.x x_1)) 0 (fun i => SE.byteOf [SV.v (.int .u8 ((fun i => SE.byteOf [SV.v (.int .u8 (shG (FX.o (LX.x x_1)) (FX.g (LX.x x_1)) i))]) i))]) fun i => SE.byteOf [SV.v (.int .u8 (Gn (0 + Int.toNat (↑(FX.k (LX.x x_1)) : Int) + 4096) (0 + i)))]) (FX.n (LX.x x_1) + Ln (0 + Int.toNat (↑(FX.k (LX.x x_1)) : Int) + 4096)))),((((((GR.k (GW.r c_4)) : Nat) = (GR.k (GW.r c_4)))∧((((GR.k (GW.r c_5)) : Nat) = (GR.k (GW.r c_5)))∧(((GR.k (GW.r c_4)) : Nat) < 4611686018427387904)))∧((∀ i : Nat,(((i : Nat) < (GR.k (GW.r c_4)))→(isStrR [SV.v (.string (GR.S (GW.r c_4) (0 + i)))])))∧(∀ i : Nat,(((i : Nat) < (GR.k (GW.r c_5)))→(isStrR [SV.v (.string (GR.S (GW.r c_5) (0 + i)))])))))∧(sel (!sameStr (GR.k (GW.r c_4)) (GR.k (GW.r c_5)) (fun i => strRow [SV.v (.string (GR.S (GW.r c_4) (0 + i)))]) fun i => strRow [SV.v (.string (GR.S (GW.r c_5) (0 + i)))]) (zF = (SV.v (.bool true))) (sel (GR.err (GW.r c_4) != GR.err (GW.r c_5)) (zF = (SV.v (.bool true))) ((bytesOk (GR.N (GW.r c_4)) (GR.e (GW.r c_4)) {elem:=5,size:=1,rw:=true,lock:=false,lit:=false,flat:=true,n:=GR.N (GW.r c_4),row:=fun i => [SV.v (.int .u8 (GR.g (GW.r c_4) i))],ext:=GR.e (GW.r c_4)})∧((bytesOk (GR.N (GW.r c_5)) (GR.e (GW.r c_5)) {elem:=5,size:=1,rw:=true,lock:=false,lit:=false,flat:=true,n:=GR.N (GW.r c_5),row:=fun i => [SV.v (.int .u8 (GR.g (GW.r c_5) i))],ext:=GR.e (GW.r c_5)})∧(sel ((↑(GR.n (GW.r c_4)) : Int) != (↑(GR.n (GW.r c_5)) : Int)) (zF = (SV.v (.bool true))) ((bytesOk (GR.N (GW.r c_4)) (GR.e (GW.r c_4)) {elem:=5,size:=1,rw:=true,lock:=false,lit:=false,flat:=true,n:=GR.N (GW.r c_4),row:=fun i => [SV.v (.int .u8 ((fun i => SE.byteOf [SV.v (.int .u8 (GR.g (GW.r c_4) i))]) i))],ext:=GR.e (GW.r c_4)})∧((bytesOk (GR.N (GW.r c_5)) (GR.e (GW.r c_5)) {elem:=5,size:=1,rw:=true,lock:=false,lit:=false,flat:=true,n:=GR.N (GW.r c_5),row:=fun i => [SV.v (.int .u8 ((fun i => SE.byteOf [SV.v (.int .u8 (GR.g (GW.r c_5) i))]) i))],ext:=GR.e (GW.r c_5)})∧(sel (!(true&&GR.br (GW.r c_4)) == (true&&GR.br (GW.r c_5))) (zF = (SV.v (.bool true))) ((∀ y : Nat,(((y : Nat) < (0 + Ln (0 + Int.toNat (↑(FX.k (LX.x x_1)) : Int) + 4096)))→True))∧((((0 : Int) ≤ ((↑(FX.k (LX.x x_1)) : Int)))∧((((↑(FX.k (LX.x x_1)) : Int)) : Int) < ((↑n : Int))))∧((∀ y : Nat,(((y : Nat) < (Ln (0 + Int.toNat (↑(FX.k (LX.x x_1)) : Int) + 4096)))→True))∧(sel (!(strOf (0 + Ln (0 + Int.toNat (↑(FX.k (LX.x x_1)) : Int) + 4096)) fun y => [SV.v (.int .u8 (Gn (0 + Int.toNat (↑(FX.k (LX.x x_1)) : Int) + 4096) (0 + (0 + y - 0))))]) == strOf (Ln (0 + Int.toNat (↑(FX.k (LX.x x_1)) : Int) + 4096)) fun y => [SV.v (.int .u8 (Gn (0 + Int.toNat (↑(FX.k (LX.x x_1)) : Int) + 4096) (0 + y)))]) (zF = (SV.v (.bool true))) ((∃ x_2 : IX,(((Nat.le (IX.j x_2) (IX.n x_2))∧((((0 + Ln (0 + Int.toNat (↑(FX.k (LX.x x_1)) : Int) + 4096)) : Nat) = (IX.n x_2))∧(((0 + Ln (0 + Int.toNat (↑(FX.k (LX.x x_1)) : Int) + 4096) + c_3) : Nat) = (IX.e x_2))))∧((zI = (SV.v (.int .i64 ((↑(IX.j x_2) : Int)))))∧((((0 + Ln (0 + Int.toNat (↑(FX.k (LX.x x_1)) : Int) + 4096)) : Nat) = (IX.n x_2))∧((((IX.e x_2) : Nat) ≤ (0 + Ln (0 + Int.toNat (↑(FX.k (LX.x x_1)) : Int) + 4096) + c_3))∧(∀ i : Nat,(((i : Nat) < (IX.n x_2))→([(SV.v (.int .u8 (Gn (0 + Int.toNat (↑(FX.k (LX.x x_1)) : Int) + 4096) (0 + (i - 0)))))] = [(SV.v (.int .u8 (IX.f x_2 i)))]))))))))∧(∀ x_2 : IX,(((Nat.le (IX.j x_2) (IX.n x_2))∧((((0 + Ln (0 + Int.toNat (↑(FX.k (LX.x x_1)) : Int) + 4096)) : Nat) = (IX.n x_2))∧(((0 + Ln (0 + Int.toNat (↑(FX.k (LX.x x_1)) : Int) + 4096) + c_3) : Nat) = (IX.e x_2))))→(sel (decide ((↑(IX.j x_2) : Int) < (↑(0 + Ln (0 + Int.toNat (↑(FX.k (LX.x x_1)) : Int) + 4096)) : Int))) ((((0 : Int) ≤ ((↑(IX.j x_2) : Int)))∧((((↑(IX.j x_2) : Int)) : Int) < ((↑(0 + Ln (0 + Int.toNat (↑(FX.k (LX.x x_1)) : Int) + 4096)) : Int))))∧(∃ x' : IX,((((Nat.le (IX.j x') (IX.n x'))∧((((0 + Ln (0 + Int.toNat (↑(FX.k (LX.x x_1)) : Int) + 4096)) : Nat) = (IX.n x'))∧(((0 + Ln (0 + Int.toNat (↑(FX.k (LX.x x_1)) : Int) + 4096) + c_3) : Nat) = (IX.e x'))))∧(((SV.v (.int .i64 (IntKind.wrap IntKind.i64 ((↑(IX.j x_2) : Int) + 1)))) = (SV.v (.int .i64 ((↑(IX.j x') : Int)))))∧((((IX.n x_2) : Nat) = (IX.n x'))∧((((IX.e x') : Nat) ≤ (IX.e x_2))∧(∀ i : Nat,(((i : Nat) < (IX.n x'))→([(SV.v (.int .u8 (bop (Nat.beq i (0 + Int.toNat (↑(IX.j x_2) : Int))) 7 (IX.f x_2 i))))] = [(SV.v (.int .u8 (IX.f x' i)))])))))))∧(((IX.n x' - IX.j x') : Nat) < (IX.n x_2 - IX.j x_2))))) (∃ x' : LX,((((fxI n (LX.x x'))∧(((at' : Int) < ((↑(FX.k (LX.x x')) : Int)))∧((((LX.Nl x') : Nat) < 70368744177664)∧(((LX.nl x') : Nat) < 70368744177664))))∧((((SV.vp 464 0) = (SV.vp 464 0))∧(((SV.vp 288 0) = (SV.vp 288 0))∧(((SV.vp 45 0) = (SV.vp 280 0))∧(((SV.vp 432 0) = (SV.vp 432 0))∧((SV.v (.int .i64 (IntKind.wrap IntKind.i64 ((↑(FX.k (LX.x x_1)) : Int) + 1)))) = (SV.v (.int .i64 ((↑(FX.k (LX.x x')) : Int)))))))))∧((((1 : Nat) = 1)∧(((1 : Nat) ≤ 1)∧(((SV.v (.bool true)) = (SV.v (.bool true)))∧(((SV.v (.bool (LX.bl x_1))) = (SV.v (.bool (LX.bl x'))))∧((SV.sl 47 1 (LX.ol x_1) (LX.nl x_1) (LX.cl x_1)) = (SV.sl 47 1 (LX.ol x') (LX.nl x') (LX.cl x')))))))∧((((1 : Nat) = 1)∧(((1 : Nat) ≤ 1)∧(((SV.v (.bool true)) = (SV.v (.bool true)))∧(((SV.v (.bool (GR.br (GW.r c_5)))) = (SV.v (.bool (FX.br (LX.x x')))))∧((SV.sl 704 1 0 (GR.n (GW.r c_5)) (GR.c (GW.r c_5))) = (SV.sl 704 1 0 (FX.n (LX.x x')) (FX.cr (LX.x x'))))))))∧((((1 : Nat) = 1)∧(((1 : Nat) ≤ 1)∧(((SV.v (.bool true)) = (SV.v (.bool true)))∧(((SV.v (.bool (GR.br (GW.r c_4)))) = (SV.v (.bool (FX.br (LX.x x')))))∧((SV.sl 616 1 (GR.o (GW.r c_4)) (GR.n (GW.r c_4)) (GR.c (GW.r c_4))) = (SV.sl 616 1 (FX.o (LX.x x')) (FX.n (LX.x x')) (FX.c (LX.x x'))))))))∧(((((GR.N (GW.r c_4)) : Nat) = (FX.N (LX.x x')))∧((((FX.ex (LX.x x')) : Nat) ≤ (GR.e (GW.r c_4)))∧(∀ i : Nat,(((i : Nat) < (FX.N (LX.x x')))→([(SV.v (.int .u8 (SE.byteOf [SV.v (.int .u8 ((fun i => SE.byteOf [SV.v (.int .u8 (GR.g (GW.r c_4) i))]) i))])))] = [(SV.v (.int .u8 (FX.g (LX.x x') i)))])))))∧(((((GR.N (GW.r c_5)) : Nat) = (FX.n (LX.x x')))∧((((FX.er (LX.x x')) : Nat) ≤ (GR.e (GW.r c_5)))∧(∀ i : Nat,(((i : Nat) < (FX.n (LX.x x')))→([(SV.v (.int .u8 (SE.byteOf [SV.v (.int .u8 ((fun i => SE.byteOf [SV.v (.int .u8 (GR.g (GW.r c_5) i))]) i))])))] = [(SV.v (.int .u8 (shG (FX.o (LX.x x')) (FX.g (LX.x x')) i)))])))))∧((((1 : Nat) = 1)∧(((1 : Nat) ≤ 1)∧(((SV.v (.bool true)) = (SV.v (.bool true)))∧(((SV.v (.bool (FX.br (LX.x x_1)))) = (SV.v (.bool (LX.bl x'))))∧((SV.sl 433 1 0 (FX.n (LX.x x_1)) (FX.n (LX.x x_1) + c_1)) = (SV.sl 433 1 0 (LX.nl x') (LX.cw x')))))))∧(((((LX.Nl x_1) : Nat) = (LX.Nl x'))∧((((LX.el x') : Nat) ≤ (LX.el x_1))∧(∀ i : Nat,(((i : Nat) < (LX.Nl x'))→([(SV.v (.int .u8 (LX.gl x_1 i)))] = [(SV.v (.int .u8 (LX.gl x' i)))])))))∧((((FX.n (LX.x x_1)) : Nat) = (LX.nl x'))∧((((LX.ew x') : Nat) ≤ (FX.n (LX.x x_1) + c_1))∧(∀ i : Nat,(((i : Nat) < (LX.nl x'))→([(SV.v (.int .u8 (shG 0 (fun i => SE.byteOf [SV.v (.int .u8 (shG (FX.o (LX.x x_1)) (FX.g (LX.x x_1)) i))]) i)))] = [(SV.v (.int .u8 (LX.gw x' i)))]))))))))))))))∧(((n - FX.k (LX.x x')) : Nat) < (n - FX.k (LX.x x_1)))))))))))))))))))))))))))))))))) ((((0 : Int) ≤ ((↑(FX.k (LX.x x_1)) : Int)))∧((((↑(FX.k (LX.x x_1)) : Int)) : Int) < ((↑n : Int))))∧((((((0 + Ln (0 + Int.toNat (↑(FX.k (LX.x x_1)) : Int) + 4096)) * 1) : Nat) ≤ 140737488355328)∧(((0 : Nat) ≤ 0)∧(∀ y : Nat,(((y : Nat) < (Ln (0 + Int.toNat (↑(FX.k (LX.x x_1)) : Int) + 4096)))→True))))∧(∀ c_1 : Nat,(((((((0 + Ln (0 + Int.toNat (↑(FX.k (LX.x x_1)) : Int) + 4096)) : Nat) = (0 + Ln (0 + Int.toNat (↑(FX.k (LX.x x_1)) : Int) + 4096)))∧(∀ i : Nat,(((i : Nat) < (0 + Ln (0 + Int.toNat (↑(FX.k (LX.x x_1)) : Int) + 4096)))→True)))∧((bytesOk (FX.N (LX.x x_1)) (FX.ex (LX.x x_1)) {elem:=5,size:=1,rw:=true,lock:=false,lit:=false,flat:=true,n:=FX.N (LX.x x_1),row:=fun i => [SV.v (.int .u8 (FX.g (LX.x x_1) i))],ext:=FX.ex (LX.x x_1)})∧(((FX.o (LX.x x_1) + FX.c (LX.x x_1)) : Nat) ≤ (FX.ex (LX.x x_1)))))∧(gvP (jnG (FX.n (LX.x x_1)) (FX.o (LX.x x_1)) (fun i => SE.byteOf [SV.v (.int .u8 (FX.g (LX.x x_1) i))]) fun i => SE.byteOf [SV.v (.int .u8 (Gn (0 + Int.toNat (↑(FX.k (LX.x x_1)) : Int) + 4096) (0 + (0 + i - 0))))]) (FX.n (LX.x x_1) + (0 + Ln (0 + Int.toNat (↑(FX.k (LX.x x_1)) : Int) + 4096)))))∧(∀ c_2 : (GW (gwRel (FX.br (LX.x x_1)) (FX.o (LX.x x_1)) (FX.n (LX.x x_1)) (FX.c (LX.x x_1)) (FX.N (LX.x x_1)) (fun i => SE.byteOf [SV.v (.int .u8 (FX.g (LX.x x_1) i))]) (FX.ex (LX.x x_1)) (jnG (FX.n (LX.x x_1)) (FX.o (LX.x x_1)) (fun i => SE.byteOf [SV.v (.int .u8 (FX.g (LX.x x_1) i))]) fun i => SE.byteOf [SV.v (.int .u8 (Gn (0 + Int.toNat (↑(FX.k (LX.x x_1)) : Int) + 4096) (0 + (0 + i - 0))))]) (FX.n (LX.x x_1) + (0 + Ln (0 + Int.toNat (↑(FX.k (LX.x x_1)) : Int) + 4096))))),((((0 : Int) ≤ ((↑(FX.k (LX.x x_1)) : Int)))∧((((↑(FX.k (LX.x x_1)) : Int)) : Int) < ((↑n : Int))))∧(((((((Ln (0 + Int.toNat (↑(FX.k (LX.x x_1)) : Int) + 4096)) : Nat) = (Ln (0 + Int.toNat (↑(FX.k (LX.x x_1)) : Int) + 4096)))∧(∀ i : Nat,(((i : Nat) < (Ln (0 + Int.toNat (↑(FX.k (LX.x x_1)) : Int) + 4096)))→True)))∧((bytesOk (FX.n (LX.x x_1)) (FX.er (LX.x x_1)) {elem:=5,size:=1,rw:=true,lock:=false,lit:=false,flat:=true,n:=FX.n (LX.x x_1),row:=fun i => [SV.v (.int .u8 (shG (FX.o (LX.x x_1)) (FX.g (LX.x x_1)) i))],ext:=FX.er (LX.x x_1)})∧((((0 : Nat) = 0)∧(((FX.n (LX.x x_1)) : Nat) = (FX.n (LX.x x_1))))∧((((FX.n (LX.x x_1)) : Nat) ≤ (FX.cr (LX.x x_1)))∧(((FX.cr (LX.x x_1)) : Nat) ≤ (FX.er (LX.x x_1)))))))∧((gvP (jnG (FX.n (LX.x x_1)) 0 (fun i => SE.byteOf [SV.v (.int .u8 (shG (FX.o (LX.x x_1)) (FX.g (LX.x x_1)) i))]) fun i => SE.byteOf [SV.v (.int .u8 (Gn (0 + Int.toNat (↑(FX.k (LX.x x_1)) : Int) + 4096) (0 + i)))]) (FX.n (LX.x x_1) + Ln (0 + Int.toNat (↑(FX.k (LX.x x_1)) : Int) + 4096)))∧(atK (jnG (FX.n (LX.x x_1)) 0 (fun i => SE.byteOf [SV.v (.int .u8 (shG (FX.o (LX.x x_1)) (FX.g (LX.x x_1)) i))]) fun i => SE.byteOf [SV.v (.int .u8 (Gn (0 + Int.toNat (↑(FX.k (LX.x x_1)) : Int) + 4096) (0 + i)))]) (FX.n (LX.x x_1)) 0)))∧(∀ c_3 : (GW (grRel (FX.br (LX.x x_1)) 0 (FX.n (LX.x x_1)) (FX.cr (LX.x x_1)) (FX.n (LX.x x_1)) (fun i => SE.byteOf [SV.v (.int .u8 (shG (FX.o (LX.x x_1)) (FX.g (LX.x x_1)) i))]) (FX.er (LX.x x_1)) (jnG (FX.n (LX.x x_1)) 0 (fun i => SE.byteOf [SV.v (.int .u8 (shG (FX.o (LX.x x_1)) (FX.g (LX.x x_1)) i))]) fun i => SE.byteOf [SV.v (.int .u8 (Gn (0 + Int.toNat (↑(FX.k (LX.x x_1)) : Int) + 4096) (0 + i)))]) (FX.n (LX.x x_1) + Ln (0 + Int.toNat (↑(FX.k (LX.x x_1)) : Int) + 4096)))),((((((GR.k (GW.r c_2)) : Nat) = (GR.k (GW.r c_2)))∧((((GR.k (GW.r c_3)) : Nat) = (GR.k (GW.r c_3)))∧(((GR.k (GW.r c_2)) : Nat) < 4611686018427387904)))∧((∀ i : Nat,(((i : Nat) < (GR.k (GW.r c_2)))→(isStrR [SV.v (.string (GR.S (GW.r c_2) (0 + i)))])))∧(∀ i : Nat,(((i : Nat) < (GR.k (GW.r c_3)))→(isStrR [SV.v (.string (GR.S (GW.r c_3) (0 + i)))])))))∧(sel (!sameStr (GR.k (GW.r c_2)) (GR.k (GW.r c_3)) (fun i => strRow [SV.v (.string (GR.S (GW.r c_2) (0 + i)))]) fun i => strRow [SV.v (.string (GR.S (GW.r c_3) (0 + i)))]) (zF = (SV.v (.bool true))) (sel (GR.err (GW.r c_2) != GR.err (GW.r c_3)) (zF = (SV.v (.bool true))) ((bytesOk (GR.N (GW.r c_2)) (GR.e (GW.r c_2)) {elem:=5,size:=1,rw:=true,lock:=false,lit:=false,flat:=true,n:=GR.N (GW.r c_2),row:=fun i => [SV.v (.int .u8 (GR.g (GW.r c_2) i))],ext:=GR.e (GW.r c_2)})∧((bytesOk (GR.N (GW.r c_3)) (GR.e (GW.r c_3)) {elem:=5,size:=1,rw:=true,lock:=false,lit:=false,flat:=true,n:=GR.N (GW.r c_3),row:=fun i => [SV.v (.int .u8 (GR.g (GW.r c_3) i))],ext:=GR.e (GW.r c_3)})∧(sel ((↑(GR.n (GW.r c_2)) : Int) != (↑(GR.n (GW.r c_3)) : Int)) (zF = (SV.v (.bool true))) ((bytesOk (GR.N (GW.r c_2)) (GR.e (GW.r c_2)) {elem:=5,size:=1,rw:=true,lock:=false,lit:=false,flat:=true,n:=GR.N (GW.r c_2),row:=fun i => [SV.v (.int .u8 ((fun i => SE.byteOf [SV.v (.int .u8 (GR.g (GW.r c_2) i))]) i))],ext:=GR.e (GW.r c_2)})∧((bytesOk (GR.N (GW.r c_3)) (GR.e (GW.r c_3)) {elem:=5,size:=1,rw:=true,lock:=false,lit:=false,flat:=true,n:=GR.N (GW.r c_3),row:=fun i => [SV.v (.int .u8 ((fun i => SE.byteOf [SV.v (.int .u8 (GR.g (GW.r c_3) i))]) i))],ext:=GR.e (GW.r c_3)})∧(sel (!(true&&GR.br (GW.r c_2)) == (true&&GR.br (GW.r c_3))) (zF = (SV.v (.bool true))) ((∀ y : Nat,(((y : Nat) < (0 + Ln (0 + Int.toNat (↑(FX.k (LX.x x_1)) : Int) + 4096)))→True))∧((((0 : Int) ≤ ((↑(FX.k (LX.x x_1)) : Int)))∧((((↑(FX.k (LX.x x_1)) : Int)) : Int) < ((↑n : Int))))∧((∀ y : Nat,(((y : Nat) < (Ln (0 + Int.toNat (↑(FX.k (LX.x x_1)) : Int) + 4096)))→True))∧(sel (!(strOf (0 + Ln (0 + Int.toNat (↑(FX.k (LX.x x_1)) : Int) + 4096)) fun y => [SV.v (.int .u8 (Gn (0 + Int.toNat (↑(FX.k (LX.x x_1)) : Int) + 4096) (0 + (0 + y - 0))))]) == strOf (Ln (0 + Int.toNat (↑(FX.k (LX.x x_1)) : Int) + 4096)) fun y => [SV.v (.int .u8 (Gn (0 + Int.toNat (↑(FX.k (LX.x x_1)) : Int) + 4096) (0 + y)))]) (zF = (SV.v (.bool true))) ((∃ x_2 : IX,(((Nat.le (IX.j x_2) (IX.n x_2))∧((((0 + Ln (0 + Int.toNat (↑(FX.k (LX.x x_1)) : Int) + 4096)) : Nat) = (IX.n x_2))∧(((0 + Ln (0 + Int.toNat (↑(FX.k (LX.x x_1)) : Int) + 4096) + c_1) : Nat) = (IX.e x_2))))∧((zI = (SV.v (.int .i64 ((↑(IX.j x_2) : Int)))))∧((((0 + Ln (0 + Int.toNat (↑(FX.k (LX.x x_1)) : Int) + 4096)) : Nat) = (IX.n x_2))∧((((IX.e x_2) : Nat) ≤ (0 + Ln (0 + Int.toNat (↑(FX.k (LX.x x_1)) : Int) + 4096) + c_1))∧(∀ i : Nat,(((i : Nat) < (IX.n x_2))→([(SV.v (.int .u8 (Gn (0 + Int.toNat (↑(FX.k (LX.x x_1)) : Int) + 4096) (0 + (i - 0)))))] = [(SV.v (.int .u8 (IX.f x_2 i)))]))))))))∧(∀ x_2 : IX,(((Nat.le (IX.j x_2) (IX.n x_2))∧((((0 + Ln (0 + Int.toNat (↑(FX.k (LX.x x_1)) : Int) + 4096)) : Nat) = (IX.n x_2))∧(((0 + Ln (0 + Int.toNat (↑(FX.k (LX.x x_1)) : Int) + 4096) + c_1) : Nat) = (IX.e x_2))))→(sel (decide ((↑(IX.j x_2) : Int) < (↑(0 + Ln (0 + Int.toNat (↑(FX.k (LX.x x_1)) : Int) + 4096)) : Int))) ((((0 : Int) ≤ ((↑(IX.j x_2) : Int)))∧((((↑(IX.j x_2) : Int)) : Int) < ((↑(0 + Ln (0 + Int.toNat (↑(FX.k (LX.x x_1)) : Int) + 4096)) : Int))))∧(∃ x' : IX,((((Nat.le (IX.j x') (IX.n x'))∧((((0 + Ln (0 + Int.toNat (↑(FX.k (LX.x x_1)) : Int) + 4096)) : Nat) = (IX.n x'))∧(((0 + Ln (0 + Int.toNat (↑(FX.k (LX.x x_1)) : Int) + 4096) + c_1) : Nat) = (IX.e x'))))∧(((SV.v (.int .i64 (IntKind.wrap IntKind.i64 ((↑(IX.j x_2) : Int) + 1)))) = (SV.v (.int .i64 ((↑(IX.j x') : Int)))))∧((((IX.n x_2) : Nat) = (IX.n x'))∧((((IX.e x') : Nat) ≤ (IX.e x_2))∧(∀ i : Nat,(((i : Nat) < (IX.n x'))→([(SV.v (.int .u8 (bop (Nat.beq i (0 + Int.toNat (↑(IX.j x_2) : Int))) 7 (IX.f x_2 i))))] = [(SV.v (.int .u8 (IX.f x' i)))])))))))∧(((IX.n x' - IX.j x') : Nat) < (IX.n x_2 - IX.j x_2))))) (∃ x' : LX,((((fxI n (LX.x x'))∧(((at' : Int) < ((↑(FX.k (LX.x x')) : Int)))∧((((LX.Nl x') : Nat) < 70368744177664)∧(((LX.nl x') : Nat) < 70368744177664))))∧((((SV.vp 45 0) = (SV.vp 45 0))∧(((SV.vp 288 0) = (SV.vp 288 0))∧(((SV.vp 280 0) = (SV.vp 280 0))∧(((SV.vp 46 0) = (SV.vp 46 0))∧((SV.v (.int .i64 (IntKind.wrap IntKind.i64 ((↑(FX.k (LX.x x_1)) : Int) + 1)))) = (SV.v (.int .i64 ((↑(FX.k (LX.x x')) : Int)))))))))∧((((1 : Nat) = 1)∧(((1 : Nat) ≤ 1)∧(((SV.v (.bool true)) = (SV.v (.bool true)))∧(((SV.v (.bool (LX.bl x_1))) = (SV.v (.bool (LX.bl x'))))∧((SV.sl 47 1 (LX.ol x_1) (LX.nl x_1) (LX.cl x_1)) = (SV.sl 47 1 (LX.ol x') (LX.nl x') (LX.cl x')))))))∧((((1 : Nat) = 1)∧(((1 : Nat) ≤ 1)∧(((SV.v (.bool true)) = (SV.v (.bool true)))∧(((SV.v (.bool (GR.br (GW.r c_3)))) = (SV.v (.bool (FX.br (LX.x x')))))∧((SV.sl 704 1 0 (GR.n (GW.r c_3)) (GR.c (GW.r c_3))) = (SV.sl 704 1 0 (FX.n (LX.x x')) (FX.cr (LX.x x'))))))))∧((((1 : Nat) = 1)∧(((1 : Nat) ≤ 1)∧(((SV.v (.bool true)) = (SV.v (.bool true)))∧(((SV.v (.bool (GR.br (GW.r c_2)))) = (SV.v (.bool (FX.br (LX.x x')))))∧((SV.sl 616 1 (GR.o (GW.r c_2)) (GR.n (GW.r c_2)) (GR.c (GW.r c_2))) = (SV.sl 616 1 (FX.o (LX.x x')) (FX.n (LX.x x')) (FX.c (LX.x x'))))))))∧(((((GR.N (GW.r c_2)) : Nat) = (FX.N (LX.x x')))∧((((FX.ex (LX.x x')) : Nat) ≤ (GR.e (GW.r c_2)))∧(∀ i : Nat,(((i : Nat) < (FX.N (LX.x x')))→([(SV.v (.int .u8 (SE.byteOf [SV.v (.int .u8 ((fun i => SE.byteOf [SV.v (.int .u8 (GR.g (GW.r c_2) i))]) i))])))] = [(SV.v (.int .u8 (FX.g (LX.x x') i)))])))))∧(((((GR.N (GW.r c_3)) : Nat) = (FX.n (LX.x x')))∧((((FX.er (LX.x x')) : Nat) ≤ (GR.e (GW.r c_3)))∧(∀ i : Nat,(((i : Nat) < (FX.n (LX.x x')))→([(SV.v (.int .u8 (SE.byteOf [SV.v (.int .u8 ((fun i => SE.byteOf [SV.v (.int .u8 (GR.g (GW.r c_3) i))]) i))])))] = [(SV.v (.int .u8 (shG (FX.o (LX.x x')) (FX.g (LX.x x')) i)))])))))∧((((1 : Nat) = 1)∧(((1 : Nat) ≤ 1)∧(((SV.v (.bool true)) = (SV.v (.bool true)))∧(((SV.v (.bool (LX.bl x_1))) = (SV.v (.bool (LX.bl x'))))∧((SV.sl 48 1 0 (LX.nl x_1) (LX.cw x_1)) = (SV.sl 48 1 0 (LX.nl x') (LX.cw x')))))))∧(((((LX.Nl x_1) : Nat) = (LX.Nl x'))∧((((LX.el x') : Nat) ≤ (LX.el x_1))∧(∀ i : Nat,(((i : Nat) < (LX.Nl x'))→([(SV.v (.int .u8 (LX.gl x_1 i)))] = [(SV.v (.int .u8 (LX.gl x' i)))])))))∧((((LX.nl x_1) : Nat) = (LX.nl x'))∧((((LX.ew x') : Nat) ≤ (LX.ew x_1))∧(∀ i : Nat,(((i : Nat) < (LX.nl x'))→([(SV.v (.int .u8 (LX.gw x_1 i)))] = [(SV.v (.int .u8 (LX.gw x' i)))]))))))))))))))∧(((n - FX.k (LX.x x')) : Nat) < (n - FX.k (LX.x x_1))))))))))))))))))))))))))))))) ((bytesOk (LX.Nl x_1) (LX.el x_1) {elem:=5,size:=1,rw:=true,lock:=false,lit:=false,flat:=true,n:=LX.Nl x_1,row:=fun i => [SV.v (.int .u8 (LX.gl x_1 i))],ext:=LX.el x_1})∧((bytesOk (LX.nl x_1) (LX.ew x_1) {elem:=5,size:=1,rw:=true,lock:=false,lit:=false,flat:=true,n:=LX.nl x_1,row:=fun i => [SV.v (.int .u8 (LX.gw x_1 i))],ext:=LX.ew x_1})∧(sel ((↑(LX.nl x_1) : Int) != (↑(LX.nl x_1) : Int)) (zF = (SV.v (.bool true))) ((bytesOk (LX.Nl x_1) (LX.el x_1) {elem:=5,size:=1,rw:=true,lock:=false,lit:=false,flat:=true,n:=LX.Nl x_1,row:=fun i => [SV.v (.int .u8 ((fun i => SE.byteOf [SV.v (.int .u8 (LX.gl x_1 i))]) i))],ext:=LX.el x_1})∧((bytesOk (LX.nl x_1) (LX.ew x_1) {elem:=5,size:=1,rw:=true,lock:=false,lit:=false,flat:=true,n:=LX.nl x_1,row:=fun i => [SV.v (.int .u8 ((fun i => SE.byteOf [SV.v (.int .u8 (LX.gw x_1 i))]) i))],ext:=LX.ew x_1})∧(sel (!(true&&LX.bl x_1) == (true&&LX.bl x_1)) (zF = (SV.v (.bool true))) ((SV.v (.bool true)) = (SV.v (.bool true)))))))))))))))))))):=by kernel_rfl
end Go.Proofs.Ythjaamckmadngaa
end
section
namespace Go.Proofs.Ythjaamckmadngaa
open Go.SE Go.RowKit
theorem i64_k {k : Nat} (h : k ≤ 9223372036854775806) : IntKind.i64.wrap ((k : Int) + 1) = ((k + 1 : Nat) : Int) := by
  rw [wrap_i64 ⟨by omega, by omega⟩]
  omega
theorem gw_cast {br : Bool} {o n c N : Nat} {g : Nat → Int} {e : Nat} {h h' : Nat → Int} {T T' : Nat} {r : GR} (e1 : ∀ i, h i = h' i) (e2 : T = T') (hr : gwRel br o n c N g e (jnG n o g h) T r) : gwRel br o n c N g e (jnG n o g h') T' r := by
  obtain rfl := funext e1
  subst e2
  exact hr
theorem gr_cast {br : Bool} {o n c N : Nat} {g : Nat → Int} {e : Nat} {h h' : Nat → Int} {T T' : Nat} {r : GR} (e1 : ∀ i, h i = h' i) (e2 : T = T') (hr : grRel br o n c N g e (jnG n 0 g h) T r) : grRel br o n c N g e (jnG n 0 g h') T' r := by
  obtain rfl := funext e1
  subst e2
  exact hr
theorem gv_cast {n o : Nat} {g h h' : Nat → Int} {T T' : Nat} (e1 : ∀ i, h i = h' i) (e2 : T = T') (hr : gvP (jnG n o g h) T) : gvP (jnG n o g h') T' := by
  obtain rfl := funext e1
  subst e2
  exact hr
theorem at_cast {n o m : Nat} {g h h' : Nat → Int} (e1 : ∀ i, h i = h' i) (hr : atK (jnG n o g h) m 0) : atK (jnG n o g h') m 0 := by
  obtain rfl := funext e1
  exact hr
theorem ss_no {k q : Nat} {S S' : Nat → ByteArray} (h : sameStr k q S S' = true) (hs : (!sameStr k q (fun i => strRow [.v (.string (S (0 + i)))]) (fun i => strRow [.v (.string (S' (0 + i)))])) = true) : False := by
  have e : ∀ S : Nat → ByteArray, (fun i => strRow [.v (.string (S (0 + i)))]) = S := fun S => funext fun i => by
    show S (0 + i) = S i
    rw [Nat.zero_add]
  rw [e, e, h] at hs
  cases hs
theorem ne_no {a b : Int} (h : a = b) (hs : (a != b) = true) : False := by
  rw [h, bne_self_eq_false] at hs
  cases hs
theorem br_no {a b : Bool} (h : a = b) (hs : (!((true && a) == (true && b))) = true) : False := by
  rw [h, beq_self_eq_true] at hs
  cases hs
theorem st_no {m : Nat} {f f' : Nat → List SV} (h : ∀ i, i < m → f i = f' i) (hs : (!(strOf (0 + m) f == strOf m f')) = true) : False := by
  rw [strOf_cg (Nat.zero_add m) h, bs_refl] at hs
  cases hs
theorem sh0 (g : Nat → Int) : shG 0 g = g := funext fun y => by unfold shG; rw [Nat.zero_add]
def cpX (x : FX) (c : Nat) : FX := ⟨x.k, x.br, 0, x.n, x.n + c, x.n, x.n + c, shG x.o x.g, x.cr, x.er⟩
theorem cp_in {np c : Nat} {x : FX} (hx : fxI np x) : fxI np (cpX x c) := by
  obtain ⟨h1, h2, h3, h4, h5, h6, h7, h8⟩ := hx
  refine ⟨h1, h2, ?_, ⟨?_, Nat.le_add_right _ _, ?_⟩, h5, h6, ?_, ?_⟩
  · show x.n < _; omega
  · show 0 + x.n ≤ x.n; omega
  · show 0 + (x.n + c) ≤ x.n + c; omega
  · show bytesIn x.n (shG 0 (shG x.o x.g)); rw [sh0]; exact h7
  · show atK (shG 0 (shG x.o x.g)) x.n 0; rw [sh0]; exact h8
theorem feeds_vc {n : Nat} (c : Nat) {at' : Int} {Ln Cn : Nat → Nat} {Gn : Nat → Nat → Int} (hn : n ≤ 9223372036854775807)
    (hL : ∀ j, Ln (j + 4096) ≤ 140737488355328 ∧ bytesIn (Ln (j + 4096)) (Gn (j + 4096))) :
    vcFn Try.prog ΓFd (ΛFd Ln n at') Try.f3 [.sl 0 1 0 n c, iV at'] (nsH n Ln Cn Gn) 64 (fun y _ => y = bV true) := by
  rw [vcFeeds]
  refine ⟨⟨0, Nat.zero_le _, ⟨rfl, rfl⟩, trivial⟩, fun x hx => sel_of (fun h => ?_) fun h => sel_of (fun _ => rfl) fun h30 => sel_of (fun _ => rfl) fun h4 => ?_⟩
  · have h := of_decide_eq_true h
    refine ⟨⟨by omega, h⟩, x + 1, ⟨by show x + 1 ≤ n; omega, ⟨by rw [i64_k (by omega)], ?_⟩, trivial⟩, by omega⟩
    show SV.v (.int .i64 (IntKind.i64.wrap (smF Ln x + (Ln (0 + x + 4096) : Int)))) = SV.v (.int .i64 (IntKind.i64.wrap (smF Ln x + (Ln (x + 4096) : Int))))
    rw [Nat.zero_add]
  · have h := of_decide_eq_false h
    have hx : x ≤ n := hx
    obtain rfl : x = n := by omega
    have h30 := of_decide_eq_false h30
    have h4 := of_decide_eq_false h4
    have hsm := (smF_in (fun j => (hL j).1) x (by omega)).2.2
    have hK : ∀ k : Nat, 0 + Int.toNat (k : Int) + 4096 = k + 4096 := fun k => by rw [Int.toNat_natCast, Nat.zero_add]
    have hm : ∀ k, k < x → Ln (0 + Int.toNat (k : Int) + 4096) ≤ 4000 := fun k hk => by rw [hK]; have := hsm k hk; omega
    have hh : ∀ k : Nat, bytesIn (Ln (0 + Int.toNat (k : Int) + 4096)) (Gn (0 + Int.toNat (k : Int) + 4096)) := fun k => by rw [hK]; exact (hL k).2
    have h30 : x ≤ 30 := by omega
    refine ⟨⟨⟨0, false, 0, 0, 0, 0, 0, fun _ => 0, 0, 0⟩, ?_⟩, fun y hy => ?_, fun y hy => ?_⟩
    · exact ⟨⟨Nat.zero_le _, fun _ => rfl, (by decide), ⟨Nat.le_refl _, Nat.le_refl _, Nat.le_refl _⟩, ⟨Nat.le_refl _, Nat.le_refl _⟩, Nat.zero_le _, fun y hy => absurd hy (Nat.not_lt_zero _), at0_0 _⟩, ⟨rfl, rfl, rfl, rfl, rfl⟩, ⟨rfl, Nat.le_refl _, rfl, rfl, rfl, rfl, rfl, rfl⟩, ⟨rfl, Nat.le_refl _, rfl, rfl, rfl, rfl, rfl, rfl⟩, ⟨rfl, rfl, trivial⟩, ⟨rfl, rfl, trivial⟩, trivial⟩
    · have hy : fxI x y := hy
      refine sel_of (fun hk => sel_of (fun ha => ?_) (fun ha => ?_)) (fun hk => ?_)
      · have hk := of_decide_eq_true hk
        have hk' : y.k < x := by omega
        have ha : (y.k : Int) = at' := eq_of_beq ha
        have hnN : y.n < 70368744177664 := by have := hy.2.2.1; have := hy.2.2.2.1.1; omega
        have hn4 : y.n ≤ 1099511627776 := by have := hy.2.2.2.2.2.1; omega
        have hz : fxI x (cpX y 0) := cp_in hy
        refine ⟨⟨⟨rfl, rfl, hnN, fun _ _ => trivial⟩, by omega, hn4⟩, fun c1 => ⟨⟨⟨rfl, rfl, hy.2.2.1, fun _ _ => trivial⟩, hy.2.2.2.1.1, hn4⟩, fun c2 => ⟨⟨by omega, hk⟩, ⟨?_, ⟨Nat.le_refl _, fun _ _ => trivial⟩⟩, fun c3 => ⟨⟨⟨⟨rfl, fun _ _ => trivial⟩, ⟨rfl, rfl, hnN, fun _ _ => trivial⟩, by omega⟩, ?_⟩, fun c4 => ⟨⟨by omega, hk⟩, ?_, fun c5 => ?_⟩⟩⟩⟩⟩
        · have := hm y.k hk'; omega
        · exact gv_cast (fun i => congrArg (Gn _) (by omega)) (by show y.n + _ = y.n + _; omega) (gv_of hz h30 (hm y.k hk') (hh y.k))
        · exact ⟨⟨⟨rfl, fun _ _ => trivial⟩, ⟨rfl, rfl, hnN, fun _ _ => trivial⟩, ⟨rfl, rfl⟩, hy.2.2.2.2.1⟩, gv_cast (fun i => congrArg (Gn _) (by omega)) rfl (gr_of hy h30 (hm y.k hk') (hh y.k)), at_cast (fun i => congrArg (Gn _) (by omega)) (at_of (h := Gn _) hy)⟩
        · have hb := both (x := cpX y c2) (cp_in hy) h30 hk' (hm y.k hk') (hh y.k) (r := c4.r) (q := c5.r) (gw_cast (fun i => show Gn _ (0 + (0 + i - 0)) = Gn _ i from congrArg (Gn _) (by omega)) (by show y.n + _ = y.n + _; omega) c4.h) (by
            show grRel y.br 0 y.n y.cr y.n (shG 0 (shG y.o y.g)) y.er (jnG y.n 0 (shG 0 (shG y.o y.g)) _) _ c5.r
            rw [sh0]
            exact gr_cast (fun i => show Gn _ (0 + i) = Gn _ i from congrArg (Gn _) (by omega)) rfl c5.h)
          have hN : c4.r.N < 70368744177664 := hb.2.2.2.2.2.1
          have hNn : c4.r.o + c4.r.n ≤ c4.r.N := hb.2.2.2.2.2.2.1.1
          have hN' : c5.r.N < 70368744177664 := by have := hb.1.2.2.1; have := hb.1.2.2.2.1; omega
          refine ⟨⟨⟨rfl, rfl, by have := hb.1.2.2.2.2.2; omega⟩, fun _ _ => trivial, fun _ _ => trivial⟩, sel_of (fun hs => (ss_no hb.2.1 hs).elim) fun _ => sel_of (fun hs => (ne_no hb.1.2.1 hs).elim) fun _ => ⟨⟨rfl, rfl, hN, fun _ _ => trivial⟩, ⟨rfl, rfl, hN', fun _ _ => trivial⟩, sel_of (fun hs => (ne_no (congrArg Int.ofNat hb.1.2.2.1) hs).elim) fun _ => ⟨⟨rfl, rfl, hN, fun _ _ => trivial⟩, ⟨rfl, rfl, hN', fun _ _ => trivial⟩, sel_of (fun hs => (br_no hb.1.1 hs).elim) fun _ => ⟨fun _ _ => trivial, ⟨by omega, hk⟩, fun _ _ => trivial, sel_of (fun hs => (st_no (fun i _ => by rw [show 0 + (0 + i - 0) = 0 + i by omega]) hs).elim) fun _ => ⟨⟨⟨0, _, _, _⟩, ⟨Nat.zero_le _, rfl, rfl⟩, rfl, rfl, Nat.le_refl _, fun _ _ => rfl⟩, fun ix hix => sel_of (fun hj => ?_) fun _ => Or.inr ⟨⟨nxX y.k c4.r c5.r, y.br, y.o, y.n, y.c, y.N, y.ex, y.g, y.n + c1, y.n + c1, shG 0 (shG y.o y.g)⟩, ?_, ?_⟩⟩⟩⟩⟩⟩
          · have hj := of_decide_eq_true hj
            obtain ⟨h1, h2, h3⟩ := hix
            have := hm y.k hk'
            exact ⟨⟨by omega, hj⟩, ⟨ix.j + 1, ix.n, ix.e, _⟩, ⟨⟨by show ix.j + 1 ≤ ix.n; omega, h2, h3⟩, by rw [i64_k (by omega)], rfl, Nat.le_refl _, fun _ _ => rfl⟩, by show ix.n - (ix.j + 1) < ix.n - ix.j; omega⟩
          · refine ⟨⟨hb.2.2.2, by show at' < ((y.k + 1 : Nat) : Int); omega, hy.2.2.1, hnN⟩, ⟨rfl, rfl, rfl, rfl, by rw [i64_k (by omega)]; rfl⟩, ⟨rfl, Nat.le_refl _, rfl, rfl, rfl⟩, ⟨rfl, Nat.le_refl _, rfl, by rw [← hb.1.1]; rfl, by rw [← hb.1.2.2.1]; rfl⟩, ⟨rfl, Nat.le_refl _, rfl, rfl, rfl⟩, ⟨rfl, Nat.le_refl _, fun _ _ => rfl⟩, ⟨by rw [hb.1.2.2.2.1, ← hb.1.2.2.1]; rfl, Nat.le_refl _, fun i hi => ?_⟩, ⟨rfl, Nat.le_refl _, rfl, rfl, rfl⟩, ⟨rfl, Nat.le_refl _, fun _ _ => rfl⟩, rfl, Nat.le_refl _, fun _ _ => rfl⟩
            have := hb.2.2.1 i hi
            show [SV.v (.int .u8 (c5.r.g i))] = [SV.v (.int .u8 (shG c4.r.o c4.r.g i))]
            rw [this]
          · show x - (y.k + 1) < x - y.k
            omega
      · have hk := of_decide_eq_true hk
        have hk' : y.k < x := by omega
        refine ⟨⟨by omega, hk⟩, ⟨?_, ⟨Nat.le_refl _, fun _ _ => trivial⟩⟩, fun c1 => ⟨⟨⟨⟨rfl, fun _ _ => trivial⟩, ⟨rfl, rfl, hy.2.2.1, fun _ _ => trivial⟩, hy.2.2.2.1.2.2⟩, ?_⟩, fun c2 => ⟨⟨by omega, hk⟩, ?_, fun c3 => ?_⟩⟩⟩
        · have := hm y.k hk'; omega
        · exact gv_cast (fun i => congrArg (Gn _) (by omega)) (by omega) (gv_of hy h30 (hm y.k hk') (hh y.k))
        · exact ⟨⟨⟨rfl, fun _ _ => trivial⟩, ⟨rfl, rfl, by have := hy.2.2.1; have := hy.2.2.2.1.1; omega, fun _ _ => trivial⟩, ⟨rfl, rfl⟩, hy.2.2.2.2.1⟩, gv_cast (fun i => congrArg (Gn _) (by omega)) rfl (gr_of hy h30 (hm y.k hk') (hh y.k)), at_cast (fun i => congrArg (Gn _) (by omega)) (at_of (h := Gn _) hy)⟩
        · have hb := both hy h30 hk' (hm y.k hk') (hh y.k) (r := c2.r) (q := c3.r) (gw_cast (fun i => show Gn _ (0 + (0 + i - 0)) = Gn _ i from congrArg (Gn _) (by omega)) (by omega) c2.h) (gr_cast (fun i => show Gn _ (0 + i) = Gn _ i from congrArg (Gn _) (by omega)) rfl c3.h)
          have hN : c2.r.N < 70368744177664 := hb.2.2.2.2.2.1
          have hNn : c2.r.o + c2.r.n ≤ c2.r.N := hb.2.2.2.2.2.2.1.1
          have hN' : c3.r.N < 70368744177664 := by have := hb.1.2.2.1; have := hb.1.2.2.2.1; omega
          refine ⟨⟨⟨rfl, rfl, by have := hb.1.2.2.2.2.2; omega⟩, fun _ _ => trivial, fun _ _ => trivial⟩, sel_of (fun hs => (ss_no hb.2.1 hs).elim) fun _ => sel_of (fun hs => (ne_no hb.1.2.1 hs).elim) fun _ => ⟨⟨rfl, rfl, hN, fun _ _ => trivial⟩, ⟨rfl, rfl, hN', fun _ _ => trivial⟩, sel_of (fun hs => (ne_no (congrArg Int.ofNat hb.1.2.2.1) hs).elim) fun _ => ⟨⟨rfl, rfl, hN, fun _ _ => trivial⟩, ⟨rfl, rfl, hN', fun _ _ => trivial⟩, sel_of (fun hs => (br_no hb.1.1 hs).elim) fun _ => ⟨fun _ _ => trivial, ⟨by omega, hk⟩, fun _ _ => trivial, sel_of (fun hs => (st_no (fun i _ => by rw [show 0 + (0 + i - 0) = 0 + i by omega]) hs).elim) fun _ => ⟨⟨⟨0, _, _, _⟩, ⟨Nat.zero_le _, rfl, rfl⟩, rfl, rfl, Nat.le_refl _, fun _ _ => rfl⟩, fun ix hix => sel_of (fun hj => ?_) fun _ => Or.inl ⟨nxX y.k c2.r c3.r, ?_, ?_⟩⟩⟩⟩⟩⟩
          · have hj := of_decide_eq_true hj
            obtain ⟨h1, h2, h3⟩ := hix
            have := hm y.k hk'
            exact ⟨⟨by omega, hj⟩, ⟨ix.j + 1, ix.n, ix.e, _⟩, ⟨⟨by show ix.j + 1 ≤ ix.n; omega, h2, h3⟩, by rw [i64_k (by omega)], rfl, Nat.le_refl _, fun _ _ => rfl⟩, by show ix.n - (ix.j + 1) < ix.n - ix.j; omega⟩
          · refine ⟨hb.2.2.2, ⟨rfl, rfl, rfl, rfl, by rw [i64_k (by omega)]; rfl⟩, ⟨rfl, Nat.le_refl _, rfl, rfl, rfl⟩, ⟨rfl, Nat.le_refl _, rfl, by rw [← hb.1.1]; rfl, by rw [← hb.1.2.2.1]; rfl⟩, ⟨rfl, Nat.le_refl _, fun _ _ => rfl⟩, by rw [hb.1.2.2.2.1, ← hb.1.2.2.1]; rfl, Nat.le_refl _, fun i hi => ?_⟩
            have := hb.2.2.1 i hi
            show [SV.v (.int .u8 (c3.r.g i))] = [SV.v (.int .u8 (shG c2.r.o c2.r.g i))]
            rw [this]
          · show x - (y.k + 1) < x - y.k
            omega
      · rfl
    · have hx1 : fxI x y.x := hy.1
      have hlt : at' < (y.x.k : Int) := hy.2.1
      refine sel_of (fun hk => sel_of (fun ha => absurd (eq_of_beq ha) (by omega)) (fun ha => ?_)) (fun hk => ?_)
      · have hk := of_decide_eq_true hk
        have hk' : y.x.k < x := by omega
        refine ⟨⟨by omega, hk⟩, ⟨?_, ⟨Nat.le_refl _, fun _ _ => trivial⟩⟩, fun c1 => ⟨⟨⟨⟨rfl, fun _ _ => trivial⟩, ⟨rfl, rfl, hx1.2.2.1, fun _ _ => trivial⟩, hx1.2.2.2.1.2.2⟩, ?_⟩, fun c2 => ⟨⟨by omega, hk⟩, ?_, fun c3 => ?_⟩⟩⟩
        · have := hm y.x.k hk'; omega
        · exact gv_cast (fun i => congrArg (Gn _) (by omega)) (by omega) (gv_of hx1 h30 (hm y.x.k hk') (hh y.x.k))
        · exact ⟨⟨⟨rfl, fun _ _ => trivial⟩, ⟨rfl, rfl, by have := hx1.2.2.1; have := hx1.2.2.2.1.1; omega, fun _ _ => trivial⟩, ⟨rfl, rfl⟩, hx1.2.2.2.2.1⟩, gv_cast (fun i => congrArg (Gn _) (by omega)) rfl (gr_of hx1 h30 (hm y.x.k hk') (hh y.x.k)), at_cast (fun i => congrArg (Gn _) (by omega)) (at_of (h := Gn _) hx1)⟩
        · have hb := both hx1 h30 hk' (hm y.x.k hk') (hh y.x.k) (r := c2.r) (q := c3.r) (gw_cast (fun i => show Gn _ (0 + (0 + i - 0)) = Gn _ i from congrArg (Gn _) (by omega)) (by omega) c2.h) (gr_cast (fun i => show Gn _ (0 + i) = Gn _ i from congrArg (Gn _) (by omega)) rfl c3.h)
          have hN : c2.r.N < 70368744177664 := hb.2.2.2.2.2.1
          have hNn : c2.r.o + c2.r.n ≤ c2.r.N := hb.2.2.2.2.2.2.1.1
          have hN' : c3.r.N < 70368744177664 := by have := hb.1.2.2.1; have := hb.1.2.2.2.1; omega
          refine ⟨⟨⟨rfl, rfl, by have := hb.1.2.2.2.2.2; omega⟩, fun _ _ => trivial, fun _ _ => trivial⟩, sel_of (fun hs => (ss_no hb.2.1 hs).elim) fun _ => sel_of (fun hs => (ne_no hb.1.2.1 hs).elim) fun _ => ⟨⟨rfl, rfl, hN, fun _ _ => trivial⟩, ⟨rfl, rfl, hN', fun _ _ => trivial⟩, sel_of (fun hs => (ne_no (congrArg Int.ofNat hb.1.2.2.1) hs).elim) fun _ => ⟨⟨rfl, rfl, hN, fun _ _ => trivial⟩, ⟨rfl, rfl, hN', fun _ _ => trivial⟩, sel_of (fun hs => (br_no hb.1.1 hs).elim) fun _ => ⟨fun _ _ => trivial, ⟨by omega, hk⟩, fun _ _ => trivial, sel_of (fun hs => (st_no (fun i _ => by rw [show 0 + (0 + i - 0) = 0 + i by omega]) hs).elim) fun _ => ⟨⟨⟨0, _, _, _⟩, ⟨Nat.zero_le _, rfl, rfl⟩, rfl, rfl, Nat.le_refl _, fun _ _ => rfl⟩, fun ix hix => sel_of (fun hj => ?_) fun _ => ⟨⟨nxX y.x.k c2.r c3.r, y.bl, y.ol, y.nl, y.cl, y.Nl, y.el, y.gl, y.cw, y.ew, y.gw⟩, ?_, ?_⟩⟩⟩⟩⟩⟩
          · have hj := of_decide_eq_true hj
            obtain ⟨h1, h2, h3⟩ := hix
            have := hm y.x.k hk'
            exact ⟨⟨by omega, hj⟩, ⟨ix.j + 1, ix.n, ix.e, _⟩, ⟨⟨by show ix.j + 1 ≤ ix.n; omega, h2, h3⟩, by rw [i64_k (by omega)], rfl, Nat.le_refl _, fun _ _ => rfl⟩, by show ix.n - (ix.j + 1) < ix.n - ix.j; omega⟩
          · refine ⟨⟨hb.2.2.2, by show at' < ((y.x.k + 1 : Nat) : Int); omega, hy.2.2⟩, ⟨rfl, rfl, rfl, rfl, by rw [i64_k (by omega)]; rfl⟩, ⟨rfl, Nat.le_refl _, rfl, rfl, rfl⟩, ⟨rfl, Nat.le_refl _, rfl, by rw [← hb.1.1]; rfl, by rw [← hb.1.2.2.1]; rfl⟩, ⟨rfl, Nat.le_refl _, rfl, rfl, rfl⟩, ⟨rfl, Nat.le_refl _, fun _ _ => rfl⟩, ⟨by rw [hb.1.2.2.2.1, ← hb.1.2.2.1]; rfl, Nat.le_refl _, fun i hi => ?_⟩, ⟨rfl, Nat.le_refl _, rfl, rfl, rfl⟩, ⟨rfl, Nat.le_refl _, fun _ _ => rfl⟩, rfl, Nat.le_refl _, fun _ _ => rfl⟩
            have := hb.2.2.1 i hi
            show [SV.v (.int .u8 (c3.r.g i))] = [SV.v (.int .u8 (shG c2.r.o c2.r.g i))]
            rw [this]
          · show x - (y.x.k + 1) < x - y.x.k
            omega
      · exact ⟨⟨rfl, rfl, hy.2.2.1, fun _ _ => trivial⟩, ⟨rfl, rfl, hy.2.2.2, fun _ _ => trivial⟩, sel_of (fun hs => (ne_no rfl hs).elim) fun _ => ⟨⟨rfl, rfl, hy.2.2.1, fun _ _ => trivial⟩, ⟨rfl, rfl, hy.2.2.2, fun _ _ => trivial⟩, sel_of (fun hs => (br_no rfl hs).elim) fun _ => rfl⟩⟩
end Go.Proofs.Ythjaamckmadngaa
end
