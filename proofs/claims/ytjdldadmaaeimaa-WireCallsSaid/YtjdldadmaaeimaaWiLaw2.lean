/-
  Laws whose arguments hold lists: what a contract that reads slices says of the call.
-/
import Derived.Test.YtjdldadmaaeimaaWiLaw
import Derived.Test.YtjdldadmaaeimaaSeRo
import Derived.Deep.Slices
import Derived.Deep.Fields
set_option maxRecDepth 100000
set_option linter.unusedVariables false
set_option linter.unusedSimpArgs false
namespace Go.Proofs.Ytjdldadmaaeimaa
open Go.ChangeShapes Go.WideShapes Go.ChangeAt Go.RowKit Go.SE Go.Deep

section
variable {H : Type} {enc : TypeId × Value → H}
def listD (ls : List SE.Loc) : Dict := fun k => ls[k]?
theorem list_rep {W : World} {ls : List SE.Loc} {bs : List Ro} (h : ∀ (k : Nat) (b : Ro), bs[k]? = some b → ∃ l, ls[k]? = some l ∧ Live (listD ls) b.blk W l) : HRep (listD ls) (heapOf (bs.map Ro.blk)) W := by
  refine ⟨fun k b' hk => ?_, fun k k' r b' h1 h2 hk hrw => ?_⟩
  · simp only [heapOf, List.getElem?_map] at hk
    cases hb : bs[k]? with
    | none => rw [hb] at hk; cases hk
    | some b =>
      rw [hb] at hk
      cases hk
      obtain ⟨l, h1, h2⟩ := h k b hb
      exact ⟨l, h1, fun _ => h2⟩
  · simp only [heapOf, List.getElem?_map] at hk
    cases hb : bs[k]? with
    | none => rw [hb] at hk; cases hk
    | some b => rw [hb] at hk; cases hk; cases hrw
theorem roOf_map : ∀ bs : List Ro, roOf (bs.map Ro.blk) = some bs
  | [] => rfl
  | b :: bs => by
    simp only [List.map_cons, roOf, roOf_map bs]
    rfl
theorem ro_calls {f : FuncId} {spec : List SV → List Ro → Option (Option Prop × SV)} (h : RoSpec Try.prog f spec) {args : List SV} {vs : List Value} {ls : List SE.Loc} {bs : List Ro} {W : World} (ha : absL (listD ls) args vs)
    (hl : ∀ (k : Nat) (b : Ro), bs[k]? = some b → ∃ l, ls[k]? = some l ∧ Live (listD ls) b.blk W l) (hn : ls.length = bs.length) (hb : bs.length ≤ 1000) {p : Prop} (hs : spec args bs = some (some p, .v (.bool true))) (hp : p) :
    Calls Try.prog f vs.toArray W fun e W' => e = .returned (.bool true) ∧ Below W.heap.size W W' := by
  have hs' : roSpec spec args (bs.map Ro.blk) = some (.det (some p) (.v (.bool true)) []) := by
    unfold roSpec
    rw [roOf_map]
    show (match spec args bs with | some (p, x) => some (Eff.det p x []) | none => none) = _
    rw [hs]
  refine (h _ _ _ hs' (fun q hq => by cases hq; exact hp) (listD ls) W vs ha (list_rep hl) (fun k hk => ?_) (by simpa using hb)).mono fun e W' ⟨r, x, u, δ', h1, h2, _, h4, h5⟩ => ?_
  · simp only [heapOf, List.getElem?_map, Option.map_eq_none_iff, List.getElem?_eq_none_iff] at hk
    simp only [listD, List.getElem?_eq_none_iff]
    omega
  · obtain ⟨rfl, rfl⟩ := h2
    simp only [absV] at h4
    subst h4
    refine ⟨h1, h5.wrel.os, h5.wrel.tape, h5.wrel.output, h5.wrel.size, fun k hk => h5.wrel.block k hk ?_⟩
    rintro ⟨k', b, hb, hrw, _⟩
    simp only [heapOf, List.getElem?_map] at hb
    cases hb' : bs[k']? with
    | none => rw [hb'] at hb; cases hb
    | some b => rw [hb'] at hb; cases hb; cases hrw
theorem cell_at {W : World} {a : Addr} {v : Value} (h : W.cell? a = some v) : a.spot = none ∧ ∃ c e fz, W.heap[a.block]? = some (.cells c e fz) ∧ c[a.off]? = some v := by
  unfold World.cell? at h
  split at h
  · rename_i c e fz hc
    split at h
    · cases h
    · rename_i hs
      exact ⟨by simpa using hs, c, e, fz, hc, h⟩
  · cases h
theorem add_flat (g o n : Nat) : (⟨g, o, none⟩ : Addr).add n = ⟨g, o + n, none⟩ := by
  unfold Addr.add
  split
  · rename_i h; subst h; rfl
  · rfl
theorem nameless_map : ∀ xs : List Value, namelessL (xs.map SV.v) = true
  | [] => rfl
  | x :: xs => by simp only [List.map_cons, namelessL, nameless, nameless_map xs, Bool.and_self]
/-- A list of things without pointers, opened. -/
theorem rows_open {W : World} {ts te : TypeId} {k fuel : Nat} {cs : List Value} {y : DataW H × List MemPlace} (hk : 0 < k) (hu : Try.prog.underlying ts = some (.slice te)) (hc : Try.prog.cellsOf te = k) {Q : List Value → Prop}
    (hQ : ∀ fuel cs y, DataW.trod enc Try.prog W 0 (fun _ => true) true fuel te cs = some y → Q cs) (h : DataW.trod enc Try.prog W 0 (fun _ => true) true fuel ts cs = some y) :
    ∃ (n c : Nat) (row : Nat → List SV) (l : SE.Loc) (v : Value), cs = [v] ∧ (∀ δ kk, δ kk = some l → absV δ (.sl kk k 0 n c) v ∧ Live δ (Ro.blk ⟨k, n, row⟩) W l) ∧ n ≤ c ∧ ∀ i, i < n → ∃ xs, row i = xs.map SV.v ∧ Q xs := by
  have nil : ∀ v, v = Value.slice none 0 0 → ∀ δ kk, δ kk = some (⟨0, k, 0, 0, true⟩ : SE.Loc) → absV δ (.sl kk k 0 0 0) v ∧ Live δ (Ro.blk ⟨k, 0, fun _ => []⟩) W ⟨0, k, 0, 0, true⟩ := by
    rintro v rfl δ kk hd
    simp only [absV]
    exact ⟨⟨_, hd, rfl, Nat.le_refl _, (.inr ⟨trivial, trivial, _, rfl⟩)⟩, ⟨rfl, rfl, fun _ => ⟨rfl, rfl⟩, fun hh => by cases hh⟩⟩
  rcases open_slice hu h with ⟨h1, _⟩ | ⟨a, len, cap, m, n, D, Pl, h1, _, hle, _, hm, _, hi⟩
  · exact ⟨0, 0, fun _ => [], ⟨0, k, 0, 0, true⟩, _, h1, nil _ rfl, Nat.le_refl _, fun i hi => absurd hi (Nat.not_lt_zero _)⟩
  · rw [if_pos rfl] at hm
    subst hm
    rw [hc] at hi
    rcases Nat.eq_zero_or_pos m with h0 | h0
    · subst h0
      obtain rfl : len = 0 := by omega
      refine ⟨0, 0, fun _ => [], ⟨0, k, 0, 0, true⟩, _, h1, ?_, Nat.le_refl _, fun i hi => absurd hi (Nat.not_lt_zero _)⟩
      intro δ kk hd
      simp only [absV]
      exact ⟨⟨_, hd, rfl, Nat.le_refl _, (.inr ⟨trivial, trivial, _, rfl⟩)⟩, ⟨rfl, rfl, fun _ => ⟨rfl, rfl⟩, fun hh => by cases hh⟩⟩
    · have cells : ∀ i, i < m → ∃ xs : List Value, xs.length = k ∧ Q xs ∧ ∀ j, j < k → W.cell? ((a.add (i * k)).add j) = xs[j]? := by
        intro i him
        obtain ⟨cs', h1, h2⟩ := hi i him
        obtain ⟨_, hlen, hc⟩ := World.cells?_some h1
        exact ⟨cs', hlen, hQ _ _ _ h2, hc⟩
      obtain ⟨xs0, hl0, _, k0⟩ := cells 0 h0
      have k0 := k0 0 hk
      rw [List.getElem?_eq_getElem (by omega)] at k0
      obtain ⟨g, o, sp⟩ := a
      obtain ⟨hs, c, e, fz, hh, ho⟩ := cell_at k0
      obtain rfl : sp = none := by cases sp with | none => rfl | some q => simp [Addr.add] at hs
      rw [add_flat, add_flat] at hh ho
      have hh : W.heap[g]? = some (.cells c e fz) := hh
      have ho : c[o + 0 * k + 0]? = some xs0[0] := ho
      have at1 : ∀ i, i < m → ∃ xs : List Value, xs.length = k ∧ Q xs ∧ ∀ j, j < k → c[o + i * k + j]? = xs[j]? := by
        intro i him
        obtain ⟨xs, hl, hq, g0⟩ := cells i him
        refine ⟨xs, hl, hq, fun j hj => ?_⟩
        have g0 := g0 j hj
        rw [List.getElem?_eq_getElem (by omega)] at g0 ⊢
        rw [add_flat, add_flat] at g0
        obtain ⟨_, c', e', fz', hh', ho'⟩ := cell_at g0
        have hh' : W.heap[g]? = some (.cells c' e' fz') := hh'
        rw [hh] at hh'
        cases hh'
        exact ho'
      have hsz : o ≤ c.size := by
        have := (Array.getElem?_eq_some_iff.1 ho).1
        omega
      let row : Nat → List SV := fun i => ((List.range k).map fun j => (c[o + i * k + j]?).getD undef).map SV.v
      have hrow : ∀ i, i < m → ∃ xs : List Value, xs.length = k ∧ Q xs ∧ row i = xs.map SV.v ∧ ∀ j, j < k → c[o + i * k + j]? = xs[j]? := by
        intro i him
        obtain ⟨xs, hl, hq, g0⟩ := at1 i him
        refine ⟨xs, hl, hq, ?_, g0⟩
        show ((List.range k).map fun j => (c[o + i * k + j]?).getD undef).map SV.v = _
        congr 1
        apply List.ext_getElem
        · simp [hl]
        · intro j h1 h2
          simp only [List.length_map, List.length_range] at h1
          simp only [List.getElem_map, List.getElem_range, g0 j h1]
          rw [List.getElem?_eq_getElem h2]; rfl
      refine ⟨len, m, row, ⟨g, k, o, len, false⟩, _, h1, fun δ kk hd => ⟨?_, ?_⟩, hle, fun i hi => ?_⟩
      · simp only [absV]
        exact ⟨_, hd, rfl, by show 0 + len ≤ len; omega, .inl ⟨rfl, by simp⟩⟩
      · refine ⟨rfl, rfl, (fun hh => by cases hh), fun _ => ⟨c, e, fz, hh, (fun hh => by cases hh), (fun _ i hi => ?_), (fun hh => absurd rfl hh), by show o + 0 * k ≤ c.size; omega, (fun hh => by cases hh), fun i hi => ?_⟩⟩
        · exact nameless_map _
        · obtain ⟨xs, hl, hq, hr, g0⟩ := hrow i (Nat.lt_of_lt_of_le hi hle)
          refine ⟨?_, fun j y hj => ?_⟩
          · show (row i).length = k
            rw [hr, List.length_map, hl]
          · have hj : (row i)[j]? = some y := hj
            rw [hr, List.getElem?_map] at hj
            cases hx : xs[j]? with
            | none => rw [hx] at hj; cases hj
            | some x =>
              rw [hx] at hj
              cases hj
              have hjk : j < k := by
                have := (List.getElem?_eq_some_iff.1 hx).1
                omega
              exact ⟨x, by show c[o + i * k + j]? = _; rw [g0 j hjk, hx], by simp only [absV]⟩
      · obtain ⟨xs, hl, hq, hr, g0⟩ := hrow i (Nat.lt_of_lt_of_le hi hle)
        exact ⟨xs, hr, hq⟩
theorem wf_u8 {n : Int} (hw : (Lit.int .u8 n).wf = true) : 0 ≤ n ∧ n < 256 := by
  simp only [Lit.wf, Bool.and_eq_true, decide_eq_true_eq] at hw
  have e1 : IntKind.u8.min = 0 := by kernel_rfl
  have e2 : IntKind.u8.max = 255 := by kernel_rfl
  rw [e1, e2] at hw
  exact ⟨by omega, by omega⟩
theorem ints_open {W : World} {b0 : Nat} {r : Reach} {v : Value} {d : DataW H} {p : List MemPlace} (hv : Value.okWide Try.prog W r b0 30 v) (h : DataW.Trod enc Try.prog W 0 (fun _ => true) true 30 v d p) :
    ∃ (n c : Nat) (row : Nat → List SV) (l : SE.Loc), (∀ δ kk, δ kk = some l → absV δ (.sl kk 1 0 n c) v ∧ Live δ (Ro.blk ⟨1, n, row⟩) W l) ∧ ∀ i, i < n → ∃ a : Int, row i = [.v (.int .i64 a)] ∧ I64 a := by
  obtain ⟨a0, len, cap, rfl⟩ := okWide_slice Try.underlying30 hv
  obtain ⟨fuel, hf⟩ := h
  obtain ⟨n, c, row, l, v, h1, h2, hnc, h3⟩ := rows_open (k := 1) (Q := fun cs => ∃ a : Int, cs = [.int .i64 a] ∧ I64 a) (by omega) Try.underlying30 (by kernel_rfl) (fun fuel cs y h => by
    obtain ⟨a, h2, _, wa⟩ := DataW.trod_int (k := .i64) (by kernel_rfl) h
    exact ⟨a, h2, wf_i64 wa⟩) hf
  simp only [Value.cells, List.cons.injEq, and_true] at h1
  subst h1
  refine ⟨n, c, row, l, h2, fun i hi => ?_⟩
  obtain ⟨xs, hr, a, rfl, w⟩ := h3 i hi
  exact ⟨a, hr, w⟩
theorem jnts_open {W : World} {b0 : Nat} {r : Reach} {v : Value} {d : DataW H} {p : List MemPlace} (hv : Value.okWide Try.prog W r b0 81 v) (h : DataW.Trod enc Try.prog W 0 (fun _ => true) true 81 v d p) :
    ∃ (n c : Nat) (row : Nat → List SV) (l : SE.Loc), (∀ δ kk, δ kk = some l → absV δ (.sl kk 1 0 n c) v ∧ Live δ (Ro.blk ⟨1, n, row⟩) W l) ∧ ∀ i, i < n → ∃ a : Int, row i = [.v (.int .i64 a)] ∧ I64 a := by
  obtain ⟨a0, len, cap, rfl⟩ := okWide_slice Try.underlying81 hv
  obtain ⟨fuel, hf⟩ := h
  obtain ⟨n, c, row, l, v, h1, h2, hnc, h3⟩ := rows_open (k := 1) (Q := fun cs => ∃ a : Int, cs = [.int .i64 a] ∧ I64 a) (by omega) Try.underlying81 (by kernel_rfl) (fun fuel cs y h => by
    obtain ⟨a, h2, _, wa⟩ := DataW.trod_int (k := .i64) (by kernel_rfl) h
    exact ⟨a, h2, wf_i64 wa⟩) hf
  simp only [Value.cells, List.cons.injEq, and_true] at h1
  subst h1
  refine ⟨n, c, row, l, h2, fun i hi => ?_⟩
  obtain ⟨xs, hr, a, rfl, w⟩ := h3 i hi
  exact ⟨a, hr, w⟩
theorem bytes_open {W : World} {b0 : Nat} {r : Reach} {v : Value} {d : DataW H} {p : List MemPlace} (hv : Value.okWide Try.prog W r b0 71 v) (h : DataW.Trod enc Try.prog W 0 (fun _ => true) true 71 v d p) :
    ∃ (n c : Nat) (row : Nat → List SV) (l : SE.Loc), (∀ δ kk, δ kk = some l → absV δ (.sl kk 1 0 n c) v ∧ Live δ (Ro.blk ⟨1, n, row⟩) W l) ∧ n ≤ c ∧ ∀ i, i < n → ∃ a : Int, row i = [.v (.int .u8 a)] ∧ (0 ≤ a ∧ a < 256) := by
  obtain ⟨a0, len, cap, rfl⟩ := okWide_slice Try.underlying71 hv
  obtain ⟨fuel, hf⟩ := h
  obtain ⟨n, c, row, l, v, h1, h2, hnc, h3⟩ := rows_open (k := 1) (Q := fun cs => ∃ a : Int, cs = [.int .u8 a] ∧ (0 ≤ a ∧ a < 256)) (by omega) Try.underlying71 (by kernel_rfl) (fun fuel cs y h => by
    obtain ⟨a, h2, _, wa⟩ := DataW.trod_int (k := .u8) (by kernel_rfl) h
    exact ⟨a, h2, wf_u8 wa⟩) hf
  simp only [Value.cells, List.cons.injEq, and_true] at h1
  subst h1
  refine ⟨n, c, row, l, h2, hnc, fun i hi => ?_⟩
  obtain ⟨xs, hr, a, rfl, w⟩ := h3 i hi
  exact ⟨a, hr, w⟩
theorem strs_open {W : World} {b0 : Nat} {r : Reach} {v : Value} {d : DataW H} {p : List MemPlace} (hv : Value.okWide Try.prog W r b0 76 v) (h : DataW.Trod enc Try.prog W 0 (fun _ => true) true 76 v d p) :
    ∃ (n c : Nat) (row : Nat → List SV) (l : SE.Loc), (∀ δ kk, δ kk = some l → absV δ (.sl kk 1 0 n c) v ∧ Live δ (Ro.blk ⟨1, n, row⟩) W l) ∧ ∀ i, i < n → ∃ a : ByteArray, row i = [.v (.string a)] := by
  obtain ⟨a0, len, cap, rfl⟩ := okWide_slice Try.underlying76 hv
  obtain ⟨fuel, hf⟩ := h
  obtain ⟨n, c, row, l, v, h1, h2, hnc, h3⟩ := rows_open (k := 1) (Q := fun cs => ∃ a : ByteArray, cs = [.string a]) (by omega) Try.underlying76 (by kernel_rfl) (fun fuel cs y h => by
    obtain ⟨a, h2, _⟩ := DataW.trod_string (by kernel_rfl) h
    exact ⟨a, h2⟩) hf
  simp only [Value.cells, List.cons.injEq, and_true] at h1
  subst h1
  refine ⟨n, c, row, l, h2, fun i hi => ?_⟩
  obtain ⟨xs, hr, a, rfl⟩ := h3 i hi
  exact ⟨a, hr⟩
end
end Go.Proofs.Ytjdldadmaaeimaa
