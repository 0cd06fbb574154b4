/-
  Laws whose arguments hold lists: what a contract that reads slices says of the call.
-/
import Derived.Test.YtheljpebapokjaaPmL
import Derived.Test.YtheljpebapokjaaPmN
import Derived.Deep.Slices
import Derived.Deep.Fields
set_option maxRecDepth 100000
set_option linter.unusedVariables false
set_option linter.unusedSimpArgs false
namespace Go.Proofs.Ytheljpebapokjaa
open Go.ChangeShapes Go.WideShapes Go.ChangeAt Go.RowKit Go.SE Go.Deep

section
variable {H : Type} {enc : TypeId × Value → H}
def listD (ls : List SE.Loc) : Dict := fun k => ls[k]?
theorem list_rep {W : World} {ls : List SE.Loc} {bs : List Ro} (h : ∀ (k : Nat) (b : Ro), bs[k]? = some b → ∃ l, ls[k]? = some l ∧ Live (listD ls) b.blk W l) : HRep (listD ls) (heapOf (bs.map Ro.blk)) W := by
  refine ⟨fun k b' hk => ?_, fun k k' r b' h1 h2 hk hrw => ?_⟩
  · simp only [heapOf, List.getElem?_map] at hk
    cases hb : bs[k]? with
    | none => rw [hb] at hk; cases hk
    | some b =>
      rw [hb] at hk
      cases hk
      obtain ⟨l, h1, h2⟩ := h k b hb
      exact ⟨l, h1, fun _ => h2⟩
  · simp only [heapOf, List.getElem?_map] at hk
    cases hb : bs[k]? with
    | none => rw [hb] at hk; cases hk
    | some b => rw [hb] at hk; cases hk; cases hrw
theorem roOf_map : ∀ bs : List Ro, roOf (bs.map Ro.blk) = some bs
  | [] => rfl
  | b :: bs => by
    simp only [List.map_cons, roOf, roOf_map bs]
    rfl
theorem ro_calls {f : FuncId} {spec : List SV → List Ro → Option (Option Prop × SV)} (h : RoSpec Try.prog f spec) {args : List SV} {vs : List Value} {ls : List SE.Loc} {bs : List Ro} {W : World} (ha : absL (listD ls) args vs)
    (hl : ∀ (k : Nat) (b : Ro), bs[k]? = some b → ∃ l, ls[k]? = some l ∧ Live (listD ls) b.blk W l) (hn : ls.length = bs.length) (hb : bs.length ≤ 1000) {p : Prop} (hs : spec args bs = some (some p, .v (.bool true))) (hp : p) :
    Calls Try.prog f vs.toArray W fun e W' => e = .returned (.bool true) ∧ Below W.heap.size W W' := by
  have hs' : roSpec spec args (bs.map Ro.blk) = some (.det (some p) (.v (.bool true)) []) := by
    unfold roSpec
    rw [roOf_map]
    show (match spec args bs with | some (p, x) => some (Eff.det p x []) | none => none) = _
    rw [hs]
  refine (h _ _ _ hs' (fun q hq => by cases hq; exact hp) (listD ls) W vs ha (list_rep hl) (fun k hk => ?_) (by simpa using hb)).mono fun e W' ⟨r, x, u, δ', h1, h2, _, h4, h5⟩ => ?_
  · simp only [heapOf, List.getElem?_map, Option.map_eq_none_iff, List.getElem?_eq_none_iff] at hk
    simp only [listD, List.getElem?_eq_none_iff]
    omega
  · obtain ⟨rfl, rfl⟩ := h2
    simp only [absV] at h4
    subst h4
    refine ⟨h1, h5.wrel.os, h5.wrel.tape, h5.wrel.output, h5.wrel.size, fun k hk => h5.wrel.block k hk ?_⟩
    rintro ⟨k', b, hb, hrw, _⟩
    simp only [heapOf, List.getElem?_map] at hb
    cases hb' : bs[k']? with
    | none => rw [hb'] at hb; cases hb
    | some b => rw [hb'] at hb; cases hb; cases hrw
theorem cell_at {W : World} {a : Addr} {v : Value} (h : W.cell? a = some v) : a.spot = none ∧ ∃ c e fz, W.heap[a.block]? = some (.cells c e fz) ∧ c[a.off]? = some v := by
  unfold World.cell? at h
  split at h
  · rename_i c e fz hc
    split at h
    · cases h
    · rename_i hs
      exact ⟨by simpa using hs, c, e, fz, hc, h⟩
  · cases h
theorem add_flat (g o n : Nat) : (⟨g, o, none⟩ : Addr).add n = ⟨g, o + n, none⟩ := by
  unfold Addr.add
  split
  · rename_i h; subst h; rfl
  · rfl
theorem nameless_map : ∀ xs : List Value, namelessL (xs.map SV.v) = true
  | [] => rfl
  | x :: xs => by simp only [List.map_cons, namelessL, nameless, nameless_map xs, Bool.and_self]
/-- A list of things without pointers, opened. -/
theorem rows_open {W : World} {ts te : TypeId} {k fuel : Nat} {cs : List Value} {y : DataW H × List MemPlace} (hk : 0 < k) (hu : Try.prog.underlying ts = some (.slice te)) (hc : Try.prog.cellsOf te = k) {Q : List Value → Prop}
    (hQ : ∀ fuel cs y, DataW.trod enc Try.prog W 0 (fun _ => true) true fuel te cs = some y → Q cs) (h : DataW.trod enc Try.prog W 0 (fun _ => true) true fuel ts cs = some y) :
    ∃ (n c : Nat) (row : Nat → List SV) (l : SE.Loc) (v : Value), cs = [v] ∧ (∀ δ kk, δ kk = some l → absV δ (.sl kk k 0 n c) v ∧ Live δ (Ro.blk ⟨k, n, row⟩) W l) ∧ ∀ i, i < n → ∃ xs, row i = xs.map SV.v ∧ Q xs := by
  have nil : ∀ v, v = Value.slice none 0 0 → ∀ δ kk, δ kk = some (⟨0, k, 0, 0, true⟩ : SE.Loc) → absV δ (.sl kk k 0 0 0) v ∧ Live δ (Ro.blk ⟨k, 0, fun _ => []⟩) W ⟨0, k, 0, 0, true⟩ := by
    rintro v rfl δ kk hd
    simp only [absV]
    exact ⟨⟨_, hd, rfl, Nat.le_refl _, (.inr ⟨trivial, trivial, _, rfl⟩)⟩, ⟨rfl, rfl, fun _ => ⟨rfl, rfl⟩, fun hh => by cases hh⟩⟩
  rcases open_slice hu h with ⟨h1, _⟩ | ⟨a, len, cap, m, n, D, Pl, h1, _, hle, _, hm, _, hi⟩
  · exact ⟨0, 0, fun _ => [], ⟨0, k, 0, 0, true⟩, _, h1, nil _ rfl, fun i hi => absurd hi (Nat.not_lt_zero _)⟩
  · rw [if_pos rfl] at hm
    subst hm
    rw [hc] at hi
    rcases Nat.eq_zero_or_pos m with h0 | h0
    · subst h0
      obtain rfl : len = 0 := by omega
      refine ⟨0, 0, fun _ => [], ⟨0, k, 0, 0, true⟩, _, h1, ?_, fun i hi => absurd hi (Nat.not_lt_zero _)⟩
      intro δ kk hd
      simp only [absV]
      exact ⟨⟨_, hd, rfl, Nat.le_refl _, (.inr ⟨trivial, trivial, _, rfl⟩)⟩, ⟨rfl, rfl, fun _ => ⟨rfl, rfl⟩, fun hh => by cases hh⟩⟩
    · have cells : ∀ i, i < m → ∃ xs : List Value, xs.length = k ∧ Q xs ∧ ∀ j, j < k → W.cell? ((a.add (i * k)).add j) = xs[j]? := by
        intro i him
        obtain ⟨cs', h1, h2⟩ := hi i him
        obtain ⟨_, hlen, hc⟩ := World.cells?_some h1
        exact ⟨cs', hlen, hQ _ _ _ h2, hc⟩
      obtain ⟨xs0, hl0, _, k0⟩ := cells 0 h0
      have k0 := k0 0 hk
      rw [List.getElem?_eq_getElem (by omega)] at k0
      obtain ⟨g, o, sp⟩ := a
      obtain ⟨hs, c, e, fz, hh, ho⟩ := cell_at k0
      obtain rfl : sp = none := by cases sp with | none => rfl | some q => simp [Addr.add] at hs
      rw [add_flat, add_flat] at hh ho
      have hh : W.heap[g]? = some (.cells c e fz) := hh
      have ho : c[o + 0 * k + 0]? = some xs0[0] := ho
      have at1 : ∀ i, i < m → ∃ xs : List Value, xs.length = k ∧ Q xs ∧ ∀ j, j < k → c[o + i * k + j]? = xs[j]? := by
        intro i him
        obtain ⟨xs, hl, hq, g0⟩ := cells i him
        refine ⟨xs, hl, hq, fun j hj => ?_⟩
        have g0 := g0 j hj
        rw [List.getElem?_eq_getElem (by omega)] at g0 ⊢
        rw [add_flat, add_flat] at g0
        obtain ⟨_, c', e', fz', hh', ho'⟩ := cell_at g0
        have hh' : W.heap[g]? = some (.cells c' e' fz') := hh'
        rw [hh] at hh'
        cases hh'
        exact ho'
      have hsz : o ≤ c.size := by
        have := (Array.getElem?_eq_some_iff.1 ho).1
        omega
      let row : Nat → List SV := fun i => ((List.range k).map fun j => (c[o + i * k + j]?).getD undef).map SV.v
      have hrow : ∀ i, i < m → ∃ xs : List Value, xs.length = k ∧ Q xs ∧ row i = xs.map SV.v ∧ ∀ j, j < k → c[o + i * k + j]? = xs[j]? := by
        intro i him
        obtain ⟨xs, hl, hq, g0⟩ := at1 i him
        refine ⟨xs, hl, hq, ?_, g0⟩
        show ((List.range k).map fun j => (c[o + i * k + j]?).getD undef).map SV.v = _
        congr 1
        apply List.ext_getElem
        · simp [hl]
        · intro j h1 h2
          simp only [List.length_map, List.length_range] at h1
          simp only [List.getElem_map, List.getElem_range, g0 j h1]
          rw [List.getElem?_eq_getElem h2]; rfl
      refine ⟨len, m, row, ⟨g, k, o, len, false⟩, _, h1, fun δ kk hd => ⟨?_, ?_⟩, fun i hi => ?_⟩
      · simp only [absV]
        exact ⟨_, hd, rfl, by show 0 + len ≤ len; omega, .inl ⟨rfl, by simp⟩⟩
      · refine ⟨rfl, rfl, (fun hh => by cases hh), fun _ => ⟨c, e, fz, hh, (fun hh => by cases hh), (fun _ i hi => ?_), (fun hh => absurd rfl hh), by show o + 0 * k ≤ c.size; omega, (fun hh => by cases hh), fun i hi => ?_⟩⟩
        · exact nameless_map _
        · obtain ⟨xs, hl, hq, hr, g0⟩ := hrow i (Nat.lt_of_lt_of_le hi hle)
          refine ⟨?_, fun j y hj => ?_⟩
          · show (row i).length = k
            rw [hr, List.length_map, hl]
          · have hj : (row i)[j]? = some y := hj
            rw [hr, List.getElem?_map] at hj
            cases hx : xs[j]? with
            | none => rw [hx] at hj; cases hj
            | some x =>
              rw [hx] at hj
              cases hj
              have hjk : j < k := by
                have := (List.getElem?_eq_some_iff.1 hx).1
                omega
              exact ⟨x, by show c[o + i * k + j]? = _; rw [g0 j hjk, hx], by simp only [absV]⟩
      · obtain ⟨xs, hl, hq, hr, g0⟩ := hrow i (Nat.lt_of_lt_of_le hi hle)
        exact ⟨xs, hr, hq⟩
theorem vecs_open {W : World} {b0 : Nat} {r : Reach} {v : Value} {d : DataW H} {p : List MemPlace} (hv : Value.okWide Try.prog W r b0 63 v) (h : DataW.Trod enc Try.prog W 0 (fun _ => true) true 63 v d p) :
    ∃ (n c : Nat) (row : Nat → List SV) (l : SE.Loc), (∀ δ kk, δ kk = some l → absV δ (.sl kk 4 0 n c) v ∧ Live δ (Ro.blk ⟨4, n, row⟩) W l) ∧ ∀ i, i < n → isVI (row i) := by
  obtain ⟨a0, len, cap, rfl⟩ := okWide_slice Try.underlying63 hv
  obtain ⟨fuel, hf⟩ := h
  obtain ⟨n, c, row, l, v, h1, h2, h3⟩ := rows_open (k := 4) (Q := fun cs => ∃ (a : Int) (f : Bool) (b : Int) (g : Bool), cs = [.int .i64 a, .bool f, .int .i64 b, .bool g] ∧ I64 a ∧ I64 b) (by omega) Try.underlying63 (by kernel_rfl) (fun fuel cs y h => vec_cells h) hf
  simp only [Value.cells, List.cons.injEq, and_true] at h1
  subst h1
  refine ⟨n, c, row, l, h2, fun i hi => ?_⟩
  obtain ⟨xs, hr, a, f, b, g, rfl, w1, w2⟩ := h3 i hi
  rw [hr]
  exact ⟨w1, w2⟩
theorem ints_open {W : World} {b0 : Nat} {r : Reach} {v : Value} {d : DataW H} {p : List MemPlace} (hv : Value.okWide Try.prog W r b0 62 v) (h : DataW.Trod enc Try.prog W 0 (fun _ => true) true 62 v d p) :
    ∃ (n c : Nat) (row : Nat → List SV) (l : SE.Loc), (∀ δ kk, δ kk = some l → absV δ (.sl kk 1 0 n c) v ∧ Live δ (Ro.blk ⟨1, n, row⟩) W l) ∧ ∀ i, i < n → isI (row i) := by
  obtain ⟨a0, len, cap, rfl⟩ := okWide_slice Try.underlying62 hv
  obtain ⟨fuel, hf⟩ := h
  obtain ⟨n, c, row, l, v, h1, h2, h3⟩ := rows_open (k := 1) (Q := fun cs => ∃ a : Int, cs = [.int .i64 a]) (by omega) Try.underlying62 (by kernel_rfl) (fun fuel cs y h => by
    obtain ⟨a, h2, _, wa⟩ := DataW.trod_int (k := .i64) (by kernel_rfl) h
    exact ⟨a, h2⟩) hf
  simp only [Value.cells, List.cons.injEq, and_true] at h1
  subst h1
  refine ⟨n, c, row, l, h2, fun i hi => ?_⟩
  obtain ⟨xs, hr, a, rfl⟩ := h3 i hi
  rw [hr]
  trivial
theorem spot_cells {W : World} {base : Nat} {sp : Nat → Bool} {hd : Bool} {fuel : Nat} {cs : List Value} {y : DataW H × List MemPlace} (h : DataW.trod enc Try.prog W base sp hd fuel 48 cs = some y) :
    ∃ (a b : Int), cs = [.int .i64 a, .int .i64 b] ∧ I64 a ∧ I64 b := by
  obtain ⟨y0, y1, n, hx, hl, h0, h1⟩ := trod_struct2 Try.underlying48 h
  obtain ⟨a, h2, _, wa⟩ := DataW.trod_int (k := .i64) (by kernel_rfl) h0
  obtain ⟨b, h3, _, wb⟩ := DataW.trod_int (k := .i64) (by kernel_rfl) h1
  have e0 : (Try.prog.cellsOf 2) = 1 := by kernel_rfl
  have e2 : (Try.prog.cellsOf 48) = 2 := by kernel_rfl
  rw [e2] at hl
  simp only [e0] at h2 h3
  match cs, hl, h2, h3 with
  | [x, y], _, h2, h3 =>
    simp at h2 h3
    subst h2 h3
    exact ⟨a, b, rfl, wf_i64 wa, wf_i64 wb⟩
theorem spots_cells {W : World} {fuel : Nat} {cs : List Value} {y : DataW H × List MemPlace} (hf : DataW.trod enc Try.prog W 0 (fun _ => true) true fuel 30 cs = some y) :
    ∃ (n c : Nat) (row : Nat → List SV) (l : SE.Loc) (v : Value), cs = [v] ∧ (∀ δ kk, δ kk = some l → absV δ (.sl kk 2 0 n c) v ∧ Live δ (Ro.blk ⟨2, n, row⟩) W l) ∧ ∀ i, i < n → isPI (row i) := by
  obtain ⟨n, c, row, l, v, h1, h2, h3⟩ := rows_open (k := 2) (Q := fun cs => ∃ (a b : Int), cs = [.int .i64 a, .int .i64 b] ∧ I64 a ∧ I64 b) (by omega) Try.underlying30 (by kernel_rfl) (fun fuel cs y h => spot_cells h) hf
  refine ⟨n, c, row, l, v, h1, h2, fun i hi => ?_⟩
  obtain ⟨xs, hr, a, b, rfl, w1, w2⟩ := h3 i hi
  rw [hr]
  exact ⟨w1, w2⟩
theorem spots_open {W : World} {b0 : Nat} {r : Reach} {v : Value} {d : DataW H} {p : List MemPlace} (hv : Value.okWide Try.prog W r b0 30 v) (h : DataW.Trod enc Try.prog W 0 (fun _ => true) true 30 v d p) :
    ∃ (n c : Nat) (row : Nat → List SV) (l : SE.Loc), (∀ δ kk, δ kk = some l → absV δ (.sl kk 2 0 n c) v ∧ Live δ (Ro.blk ⟨2, n, row⟩) W l) ∧ ∀ i, i < n → isPI (row i) := by
  obtain ⟨a0, len, cap, rfl⟩ := okWide_slice Try.underlying30 hv
  obtain ⟨fuel, hf⟩ := h
  obtain ⟨n, c, row, l, v, h1, h2, h3⟩ := spots_cells hf
  simp only [Value.cells, List.cons.injEq, and_true] at h1
  subst h1
  exact ⟨n, c, row, l, h2, h3⟩
theorem shape_open {W : World} {b0 : Nat} {r : Reach} {v : Value} {d : DataW H} {p : List MemPlace} (hv : Value.okWide Try.prog W r b0 32 v) (h : DataW.Trod enc Try.prog W 0 (fun _ => true) true 32 v d p) :
    ∃ (s : ShB) (n c : Nat) (row : Nat → List SV) (l : SE.Loc), shOk s ∧ (∀ δ kk, δ kk = some l → absV δ (shS s (.sl kk 2 0 n c)) v ∧ Live δ (Ro.blk ⟨2, n, row⟩) W l) ∧ ∀ i, i < n → isPI (row i) := by
  obtain ⟨cs, rfl, hsz⟩ := okWide_struct Try.underlying32 hv
  obtain ⟨fuel, hf⟩ := h
  obtain ⟨xs, m, _, _, hl, hlen, hf⟩ := DataW.trod_struct Try.underlying32 hf
  match xs, hlen with
  | [y0, y1, y2, y3, y4], _ =>
    have h0 := hf 0 _ rfl
    have h1 := hf 1 _ rfl
    have h2 := hf 2 _ rfl
    have h3 := hf 3 _ rfl
    have h4 := hf 4 _ rfl
    obtain ⟨a, g0, _, w0⟩ := DataW.trod_int (k := .i64) (by kernel_rfl) h0
    obtain ⟨b, g1, _, w1⟩ := DataW.trod_int (k := .i64) (by kernel_rfl) h1
    obtain ⟨c, g2, _, w2⟩ := DataW.trod_int (k := .i64) (by kernel_rfl) h2
    obtain ⟨e, g3, _, w3⟩ := DataW.trod_int (k := .i64) (by kernel_rfl) h3
    obtain ⟨n, cc, row, l, v, g4, hA, hR⟩ := spots_cells h4
    have e0 : (Try.prog.cellsOf 2) = 1 := by kernel_rfl
    have e1 : (Try.prog.cellsOf 30) = 1 := by kernel_rfl
    have e2 : (Try.prog.cellsOf 32) = 5 := by kernel_rfl
    have e3 : (Try.prog.cellsOf 3) = 1 := by kernel_rfl
    rw [e2] at hsz
    obtain ⟨cs⟩ := cs
    have g0 : (cs.drop 0).take (Try.prog.cellsOf 3) = [.int .i64 a] := g0
    have g1 : (cs.drop 1).take (Try.prog.cellsOf 2) = [.int .i64 b] := g1
    have g2 : (cs.drop 2).take (Try.prog.cellsOf 2) = [.int .i64 c] := g2
    have g3 : (cs.drop 3).take (Try.prog.cellsOf 2) = [.int .i64 e] := g3
    have g4 : (cs.drop 4).take (Try.prog.cellsOf 30) = [v] := g4
    rw [e0] at g1 g2 g3
    rw [e3] at g0
    rw [e1] at g4
    clear h0 h1 h2 h3 h4 hf
    match cs, hsz, g0, g1, g2, g3, g4 with
    | [x0, x1, x2, x3, x4], _, g0, g1, g2, g3, g4 =>
      simp at g0 g1 g2 g3 g4
      subst g0 g1 g2 g3 g4
      refine ⟨⟨a, b, c, e⟩, n, cc, row, l, ⟨⟨wf_i64 w0, wf_i64 w1⟩, wf_i64 w2, wf_i64 w3⟩, fun δ kk hd => ⟨?_, (hA δ kk hd).2⟩, hR⟩
      simp only [shS, absV, absL]
      exact ⟨_, rfl, rfl, rfl, rfl, rfl, by have := (hA δ kk hd).1; simpa only [absV] using this, trivial⟩
end
end Go.Proofs.Ytheljpebapokjaa
