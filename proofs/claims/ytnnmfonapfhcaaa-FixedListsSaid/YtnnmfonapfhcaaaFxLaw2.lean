/-
  A law whose first argument is a list of numbers: what a contract that reads slices says of the call.
-/
import Derived.Test.YtnnmfonapfhcaaaFxLaw
import Derived.Test.YtnnmfonapfhcaaaFxE
import Derived.Deep.Slices
import Derived.Deep.Fields
set_option maxRecDepth 100000
namespace Go.Proofs.Ytnnmfonapfhcaaa
open Go.ChangeShapes Go.WideShapes Go.ChangeAt Go.RowKit Go.SE Go.Deep

section
variable {H : Type} {enc : TypeId × Value → H}
def oneD (p : SE.Loc) : Dict := fun k => if k = 0 then some p else none
theorem one_rep {W : World} {p : SE.Loc} {b : Ro} (h : Live (oneD p) b.blk W p) : HRep (oneD p) (heapOf [b.blk]) W := by
  refine ⟨fun k b' hk => ?_, fun k k' r b' h1 h2 hk hrw => ?_⟩
  · cases k with
    | zero => simp [heapOf] at hk; subst hk; exact ⟨p, rfl, fun _ => h⟩
    | succ k => simp [heapOf] at hk
  · cases k with
    | zero => simp [heapOf] at hk; subst hk; cases hrw
    | succ k => simp [heapOf] at hk
theorem one_none {p : SE.Loc} {b : Ro} (k : Nat) (h : heapOf [b.blk] k = none) : oneD p k = none := by
  cases k with
  | zero => simp [heapOf] at h
  | succ k => rfl
theorem cell_at {W : World} {a : Addr} {v : Value} (h : W.cell? a = some v) : a.spot = none ∧ ∃ c e fz, W.heap[a.block]? = some (.cells c e fz) ∧ c[a.off]? = some v := by
  unfold World.cell? at h
  split at h
  · rename_i c e fz hc
    split at h
    · cases h
    · rename_i hs
      exact ⟨by simpa using hs, c, e, fz, hc, h⟩
  · cases h
theorem add_flat (g o n : Nat) : (⟨g, o, none⟩ : Addr).add n = ⟨g, o + n, none⟩ := by
  unfold Addr.add
  split
  · rename_i h; subst h; rfl
  · rfl
/-- A list of numbers, opened. -/
theorem nums_open {W : World} {b0 : Nat} {r : Reach} {v : Value} {d : DataW H} {p : List MemPlace} (hv : Value.okWide Try.prog W r b0 33 v) (h : DataW.Trod enc Try.prog W 0 (fun _ => true) true 33 v d p) :
    ∃ (n c : Nat) (row : Nat → List SV) (l : SE.Loc), absV (oneD l) (.sl 0 2 0 n c) v ∧ Live (oneD l) (Ro.blk ⟨2, n, row⟩) W l ∧ ∀ i, i < n → ∃ a f, row i = [.v (.int .i64 a), .v (.bool f)] ∧ I64 a := by
  obtain ⟨a0, len, cap, rfl⟩ := okWide_slice Try.underlying33 hv
  obtain ⟨fuel, hf⟩ := h
  rcases open_slice Try.underlying33 hf with ⟨h1, _⟩ | ⟨a, len', cap', m, n, D, Pl, h1, _, hle, _, hm, _, hi⟩
  · simp [Value.cells] at h1
    obtain ⟨rfl, rfl, rfl⟩ := h1
    exact ⟨0, 0, fun _ => [], ⟨0, 2, 0, 0, true⟩, ⟨_, rfl, rfl, Nat.le_refl _, .inr ⟨rfl, rfl, _, rfl⟩⟩, ⟨rfl, rfl, fun _ => ⟨rfl, rfl⟩, fun hh => by cases hh⟩, fun i hi => absurd hi (Nat.not_lt_zero _)⟩
  · simp [Value.cells] at h1
    obtain ⟨rfl, rfl, rfl⟩ := h1
    rw [if_pos rfl] at hm
    subst hm
    have e2 : Try.prog.cellsOf 23 = 2 := by kernel_rfl
    rw [e2] at hi
    rcases Nat.eq_zero_or_pos m with h0 | h0
    · subst h0
      obtain rfl : len = 0 := by omega
      exact ⟨0, 0, fun _ => [], ⟨0, 2, 0, 0, true⟩, ⟨_, rfl, rfl, Nat.le_refl _, .inr ⟨rfl, rfl, _, rfl⟩⟩, ⟨rfl, rfl, fun _ => ⟨rfl, rfl⟩, fun hh => by cases hh⟩, fun i hi => absurd hi (Nat.not_lt_zero _)⟩
    · have cells : ∀ i, i < m → ∃ (x : Int) (f : Bool), W.cell? (a.add (i * 2)) = some (.int .i64 x) ∧ W.cell? ((a.add (i * 2)).add 1) = some (.bool f) ∧ I64 x := by
        intro i him
        obtain ⟨cs', h1, h2⟩ := hi i him
        obtain ⟨_, hlen, hc⟩ := World.cells?_some h1
        match cs', hlen with
        | [x, y], _ =>
          obtain ⟨y0, y1, k, hx, hl, g0, g1⟩ := trod_struct2 Try.underlying23 h2
          obtain ⟨z, e0, _, wz⟩ := DataW.trod_int (k := .i64) (by kernel_rfl) g0
          obtain ⟨f, e1, _⟩ := DataW.trod_bool (by kernel_rfl) g1
          have c2 : Try.prog.cellsOf 2 = 1 := by kernel_rfl
          have c4 : Try.prog.cellsOf 4 = 1 := by kernel_rfl
          simp only [c2] at e0
          simp only [c4] at e1
          simp at e0 e1
          subst e0 e1
          have q0 := hc 0 (by omega)
          have q1 := hc 1 (by omega)
          exact ⟨z, f, q0, q1, wf_i64 wz⟩
      obtain ⟨x0, f0, k0, _⟩ := cells 0 h0
      obtain ⟨g, o, sp⟩ := a
      obtain ⟨hs, c, e, fz, hh, ho⟩ := cell_at k0
      obtain rfl : sp = none := by cases sp with | none => rfl | some q => simp [Addr.add] at hs
      have hh : W.heap[g]? = some (.cells c e fz) := hh
      have ho : c[o + 0 * 2]? = some (.int .i64 x0) := ho
      have at1 : ∀ i, i < m → ∃ (x : Int) (f : Bool), c[o + i * 2]? = some (.int .i64 x) ∧ c[o + i * 2 + 1]? = some (.bool f) ∧ I64 x := by
        intro i him
        obtain ⟨x, f, g0, g1, g2⟩ := cells i him
        rw [add_flat] at g0 g1
        rw [add_flat] at g1
        obtain ⟨_, c', e', fz', hh', ho'⟩ := cell_at g0
        obtain ⟨_, c'', e'', fz'', hh'', ho''⟩ := cell_at g1
        have hh' : W.heap[g]? = some (.cells c' e' fz') := hh'
        have hh'' : W.heap[g]? = some (.cells c'' e'' fz'') := hh''
        rw [hh] at hh' hh''
        cases hh'; cases hh''
        exact ⟨x, f, ho', ho'', g2⟩
      have hsz : o ≤ c.size := by
        have := (Array.getElem?_eq_some_iff.1 ho).1
        omega
      refine ⟨len, m, fun i => [.v ((c[o + i * 2]?).getD undef), .v ((c[o + i * 2 + 1]?).getD undef)], ⟨g, 2, o, len, false⟩, ⟨_, rfl, rfl, by show 0 + len ≤ len; omega, .inl ⟨rfl, ?_⟩⟩, ⟨rfl, rfl, (fun hh => by cases hh), fun _ => ⟨c, e, fz, hh, (fun hh => by cases hh), (fun _ i hi => ?_), (fun hh => absurd rfl hh), by show o + 0 * 2 ≤ c.size; omega, (fun hh => by cases hh), fun i hi => ?_⟩⟩, fun i hi => ?_⟩
      · rfl
      · obtain ⟨x, f, g0, g1, _⟩ := at1 i (Nat.lt_of_lt_of_le hi hle)
        simp [Ro.blk, g0, g1, namelessL, nameless]
      · obtain ⟨x, f, g0, g1, _⟩ := at1 i (Nat.lt_of_lt_of_le hi hle)
        refine ⟨rfl, fun j y hj => ?_⟩
        simp only [Ro.blk, g0, g1, Option.getD_some] at hj
        match j, hj with
        | 0, hj => cases hj; exact ⟨_, g0, rfl⟩
        | 1, hj => cases hj; exact ⟨_, g1, rfl⟩
      · obtain ⟨x, f, g0, g1, g2⟩ := at1 i (Nat.lt_of_lt_of_le hi hle)
        exact ⟨x, f, by show [SV.v (c[o + i * 2]?.getD undef), SV.v (c[o + i * 2 + 1]?.getD undef)] = _; rw [g0, g1]; rfl, g2⟩
theorem list_calls {f : FuncId} {spec : List SV → List Ro → Option (Option Prop × SV)} (h : RoSpec Try.prog f spec) {n c : Nat} {row : Nat → List SV} {l : SE.Loc} {W : World} {v : Value} {rest : List SV} (hrest : plainL rest = true)
    (ha : absV (oneD l) (.sl 0 2 0 n c) v) (hl : Live (oneD l) (Ro.blk ⟨2, n, row⟩) W l) {p : Prop} (hs : spec (.sl 0 2 0 n c :: rest) [⟨2, n, row⟩] = some (some p, .v (.bool true))) (hp : p) :
    Calls Try.prog f (v :: vsOfS rest).toArray W fun e W' => e = .returned (.bool true) ∧ Below W.heap.size W W' := by
  have hs' : roSpec spec (.sl 0 2 0 n c :: rest) [Ro.blk ⟨2, n, row⟩] = some (.det (some p) (.v (.bool true)) []) := by
    show (match spec (.sl 0 2 0 n c :: rest) [⟨2, n, row⟩] with | some (p, x) => some (Eff.det p x []) | none => none) = _
    rw [hs]
  refine (h _ _ _ hs' (fun q hq => by cases hq; exact hp) (oneD l) W (v :: vsOfS rest) ?_ (one_rep hl) (fun k hk => one_none k hk) (by simp)).mono fun e W' ⟨r, x, u, δ', h1, h2, _, h4, h5⟩ => ?_
  · simp only [absL]
    exact ⟨ha, (absL_plain _ _ hrest).2 rfl⟩
  · obtain ⟨rfl, rfl⟩ := h2
    simp only [absV] at h4
    subst h4
    refine ⟨h1, h5.wrel.os, h5.wrel.tape, h5.wrel.output, h5.wrel.size, fun k hk => h5.wrel.block k hk ?_⟩
    rintro ⟨k', b, hb, hrw, _⟩
    cases k' with
    | zero => simp [heapOf] at hb; subst hb; cases hrw
    | succ k' => simp [heapOf] at hb
end
end Go.Proofs.Ytnnmfonapfhcaaa
